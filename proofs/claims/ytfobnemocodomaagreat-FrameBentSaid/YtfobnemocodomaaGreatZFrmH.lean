/- hearsaylaw13.FrameOpens. -/
import Derived.Test.YtfobnemocodomaaGreatZFrmG
import Derived.Test.YtfobnemocodomaaGreatZFrmB
set_option linter.unusedVariables false
set_option linter.unusedSimpArgs false
set_option maxHeartbeats 4000000
namespace Go.Proofs.YtfobnemocodomaaGreat
open Go.RowKit Go.Shelf Go.Great

set_option maxRecDepth 100000 in
theorem FrameOpens_any (S : ByteArray) (w : World) (hS : S.size ≤ 9223372036854775807) (hP : Pt.Mx w) :
    Calls Tryz.prog 6 #[.string S] w fun r w' => r = .returned (.bool true) ∧ Gr w w' := by
  by_cases hbig : 140000 < S.size
  · have hbi : (140000 : Int) < S.size := by omega
    go_enter Tryz.func6, Tryz.ntmps6
    go_wp2_with fail
    refine (fAwake_any w).mono ?_
    rintro r w1 ⟨rfl, g1⟩
    go_wp2
    go_ret
    exact ⟨rfl, g1⟩
  · have hbi : ¬ (140000 : Int) < S.size := by omega
    have HP := Lib.hid hP
    have HR1 := Lib.hid (fOpen_any S w hS hP)
    have HR2 := Lib.hid (fun W => rfOpen_any S W hS)
    clear hP
    go_enter Tryz.func6, Tryz.ntmps6
    go_wp2_with fail
    refine (HR1.out).mono ?_
    rintro r w1 ⟨y1, e1, rfl, hm1, ho1, g1⟩
    have HM1 := Lib.hid hm1
    have HO1 := Lib.hid ho1
    have G1 := Lib.hid g1
    clear hm1 ho1 g1 HR1
    go_wp2_with (first
      | refine allocM rfl rfl ?_
      | (refine storeM y1 HO1.out.dig rfl (.tmp 3) _ rfl rfl rfl rfl ?_; intro w2 hx1 hg1; have HX1 := Lib.hid hx1; have HG1 := Lib.hid hg1; clear hx1 hg1))
    refine (HR2.out w2).mono ?_
    rintro r w3 ⟨y2, e2, rfl, hm2, ho2, g2⟩
    have HEQ : Hid (mst y1 = mst y2 ∧ e1 = e2) := Lib.hid (by
      have h := HM1.out.trans hm2.symm
      exact ⟨congrArg Prod.fst h, congrArg Prod.snd h⟩)
    have HO2 := Lib.hid ho2
    have HX13 := Lib.hid (mat_gr HX1.out g2)
    have HO13 := Lib.hid ((HO1.out.gr HG1.out).gr g2)
    have G3 := Lib.hid (G1.out.tr (HG1.out.tr g2))
    obtain ⟨b1, hb1⟩ : ∃ b1, w1.heap.size = b1 := ⟨_, rfl⟩
    rw [hb1] at HX13 ⊢
    clear hm2 ho2 g2 HR2 HM1 HX1 HG1 HO1 G1 hb1
    obtain rfl := HEQ.out.2
    go_wp2_with (first
      | refine allocM rfl rfl ?_
      | (refine storeM y2 HO2.out.dig rfl (.tmp 5) _ rfl rfl rfl rfl ?_; intro w4 hx1 hg1; obtain ⟨b2, hb2⟩ : ∃ b2, w3.heap.size = b2 := ⟨_, rfl⟩; rw [hb2] at hx1 ⊢; have HX2 := Lib.hid hx1; have HG2 := Lib.hid hg1; have HX14 := Lib.hid (mat_gr HX13.out hg1); clear hx1 hg1 hb2)
      | ((with_reducible refine at_ld 37 (.tmp 3) ?_); refine loadM y1 HO13.out.dig rfl (.tmp 3) rfl b1 rfl HX14.out ?_)
      | ((with_reducible refine at_ld 37 (.tmp 5) ?_); refine loadM y2 HO2.out.dig rfl (.tmp 5) rfl b2 rfl HX2.out ?_))
    have hsm := mSame2_any y1 y2 w4 (HO13.out.gr HG2.out) (HO2.out.gr HG2.out)
    rw [msame_mst HEQ.out.1] at hsm
    refine (hsm).mono ?_
    rintro r w5 ⟨rfl, g5⟩
    clear hsm
    go_wp2_with fail
    refine (fAwake_any w5).mono ?_
    rintro r w6 ⟨rfl, g6⟩
    go_wp2
    go_ret
    exact ⟨rfl, G3.out.tr (HG2.out.tr (g5.tr g6))⟩
end Go.Proofs.YtfobnemocodomaaGreat
