/- hearsaylaw12.MessageWrites. -/
import Derived.Test.YtfobnemocodomaaZMsgT
set_option linter.unusedVariables false
set_option linter.unusedSimpArgs false
set_option maxHeartbeats 4000000
namespace Go.Proofs.Ytfobnemocodomaa
open Go.RowKit Go.Shelf Go.Great

set_option maxRecDepth 100000 in
theorem MessageWrites_any (x : Mx) (w : World) (hx : MxOk w x) (hP : Pt.Mx w) :
    Calls Try.prog 15 #[.agg x.cells] w fun r w' => r = .returned (.bool true) ∧ Gr w w' := by
  have HG : Hid (Gr w (w.alloc (.cells x.cells 74))) := Lib.hid ((Gr.rfl' w).al _)
  have HX := Lib.hid (World.alloc_heap_new w (.cells x.cells 74))
  have HXO := Lib.hid (hx.gr HG.out)
  have HP := Lib.hid (hP.gr HG.out)
  clear hx hP
  generalize hW : w.alloc (.cells x.cells 74) = W at HG HX HXO HP
  go_enter Try.func15, Try.ntmps15
  go_wp2_with (first
    | refine loadM x HXO.out.dig rfl (.tmp 1) rfl w.heap.size rfl HX.out ?_)
  refine (mGreat_any x W HXO.out).mono ?_
  rintro e w1 ⟨⟨rfl, hrs, hcl, htx, hps, h70⟩ | rfl, g1⟩
  · have HS : Hid (MSmall x) := Lib.hid ⟨hrs, hcl, htx, hps, h70⟩
    have HX1 := Lib.hid (mat_gr HX.out g1)
    have HXO1 := Lib.hid (HXO.out.gr g1)
    have HP1 := Lib.hid (HP.out.gr g1)
    have HG1 := Lib.hid (HG.out.tr g1)
    clear hrs hcl htx hps h70 g1 HX HXO HP HG hW
    have HC1 := Lib.hid (fun W (k1 : MxOk W x) (k2 : Pt.Mx W) => mBytes_any x W k1 k2 HS.out)
    have HC2 := Lib.hid (fun W (k1 : MxOk W x) => refBytes_any x W k1 HS.out)
    obtain ⟨t, ht⟩ : ∃ t : ByteArray, (⟨(mBytes x).1.toArray⟩ : ByteArray) = t := ⟨_, rfl⟩
    obtain ⟨e, he⟩ : ∃ e, (mBytes x).2 = e := ⟨_, rfl⟩
    simp only [ht, he] at HC1 HC2
    clear ht he
    go_wp2_with (first
      | refine loadM x HXO1.out.dig rfl (.tmp 1) rfl w.heap.size rfl HX1.out ?_)
    refine (HC1.out w1 HXO1.out HP1.out).mono ?_
    rintro r w2 ⟨rfl, g2⟩
    have HX2 := Lib.hid (mat_gr HX1.out g2)
    have HXO2 := Lib.hid (HXO1.out.gr g2)
    have HG2 := Lib.hid (HG1.out.tr g2)
    clear g2 HX1 HXO1 HP1 HG1 HC1
    go_wp2_with (first
      | refine loadM x HXO2.out.dig rfl (.tmp 1) rfl w.heap.size rfl HX2.out ?_)
    refine (HC2.out w2 HXO2.out).mono ?_
    rintro r w3 ⟨rfl, g3⟩
    have HG3 := Lib.hid (HG2.out.tr g3)
    clear g3 HX2 HXO2 HG2 HC2
    go_wp2_with fail
    refine (mAwake_any w3).mono ?_
    rintro r w4 ⟨rfl, g4⟩
    go_wp2
    go_ret
    exact ⟨rfl, HG3.out.tr g4⟩
  · go_wp2_with fail
    refine (mAwake_any w1).mono ?_
    rintro r w4 ⟨rfl, g4⟩
    go_wp2
    go_ret
    exact ⟨rfl, HG.out.tr (g1.tr g4)⟩
end Go.Proofs.Ytfobnemocodomaa
