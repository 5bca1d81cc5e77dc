/- hearsaylaw13.FrameBack. -/
import Derived.Test.YtfobnemocodomaaGreatZFrmP
import Derived.Test.YtfobnemocodomaaGreatZFrmH
import Derived.Test.YtfobnemocodomaaGreatZMrS
set_option linter.unusedVariables false
set_option linter.unusedSimpArgs false
set_option maxHeartbeats 4000000
namespace Go.Proofs.YtfobnemocodomaaGreat
open Go.RowKit Go.Shelf Go.Great

set_option maxRecDepth 100000 in
theorem FrameBack_any (x : Mx) (S : ByteArray) (w : World) (hx : MxOk w x) (hS : S.size ≤ 9223372036854775807) (hP : Pt.Mx w) :
    Calls Tryz.prog 7 #[.agg x.cells, .string S] w fun r w' => r = .returned (.bool true) ∧ Gr w w' := by
  have HG : Hid (Gr w (w.alloc (.cells x.cells 37))) := Lib.hid ((Gr.rfl' w).al _)
  have HX := Lib.hid (World.alloc_heap_new w (.cells x.cells 37))
  have HXO := Lib.hid (hx.gr HG.out)
  have HP := Lib.hid (hP.gr HG.out)
  have HXD := Lib.hid hx.dig
  have HRS := Lib.hid (fun W (k : Pt.Mx W) => fOpen_any S W hS k)
  clear hx hP
  generalize hW : w.alloc (.cells x.cells 37) = W at HG HX HXO HP
  by_cases hbig : 140000 < S.size
  · have hbi : (140000 : Int) < S.size := by omega
    go_enter Tryz.func7, Tryz.ntmps7
    go_wp2_with (first
      | refine loadM x HXO.out.dig rfl (.tmp 2) rfl w.heap.size rfl HX.out ?_)
    refine (mGreat_any x W HXO.out).mono ?_
    rintro e w1 ⟨⟨rfl, _⟩ | rfl, g1⟩
    · go_wp2_with fail
      refine (fAwake_any _).mono ?_
      rintro r wd ⟨rfl, gd⟩
      go_wp2
      go_ret
      exact ⟨rfl, HG.out.tr (g1.tr gd)⟩
    · go_wp2_with fail
      refine (fAwake_any _).mono ?_
      rintro r wd ⟨rfl, gd⟩
      go_wp2
      go_ret
      exact ⟨rfl, HG.out.tr (g1.tr gd)⟩
  have hbi : ¬ (140000 : Int) < S.size := by omega
  go_enter Tryz.func7, Tryz.ntmps7
  go_wp2_with (first
    | refine loadM x HXO.out.dig rfl (.tmp 2) rfl w.heap.size rfl HX.out ?_)
  refine (mGreat_any x W HXO.out).mono ?_
  rintro e w1 ⟨⟨rfl, hrs, hcl, htx, hps, h70⟩ | rfl, g1⟩; rotate_left
  · go_wp2_with fail
    refine (fAwake_any _).mono ?_
    rintro r wd ⟨rfl, gd⟩
    go_wp2
    go_ret
    exact ⟨rfl, HG.out.tr (g1.tr gd)⟩
  have HS : Hid (MSmall x) := Lib.hid ⟨hrs, hcl, htx, hps, h70⟩
  have HX1 := Lib.hid (mat_gr HX.out g1)
  have HXO1 := Lib.hid (HXO.out.gr g1)
  have HP1 := Lib.hid (HP.out.gr g1)
  have HG1 := Lib.hid (HG.out.tr g1)
  clear hrs hcl htx hps h70 g1 HX HXO HP HG hW
  have HBY := Lib.hid (fSeal_any x w1 HXO1.out HP1.out HS.out)
  by_cases hc : mChk x = 0; rotate_left
  · have he : ¬ (mFrame x).2 = 0 := fun h => hc (mBytes_e.1 (by rw [← frame_e]; exact h))
    obtain ⟨t, ht⟩ : ∃ t : ByteArray, (mFrame x).1 = t := ⟨_, rfl⟩
    obtain ⟨e, hee⟩ : ∃ e, (mFrame x).2 = e := ⟨_, rfl⟩
    simp only [ht, hee] at HBY
    rw [hee] at he
    have heb : (e == 0) = false := by simpa using he
    clear ht hee he hc
    go_wp2_with (first
      | refine loadM x HXO1.out.dig rfl (.tmp 2) rfl w.heap.size rfl HX1.out ?_)
    refine (HBY.out).mono ?_
    rintro r w2 ⟨rfl, g2⟩
    have HPW := Lib.hid (HP1.out.gr g2)
    have HGW := Lib.hid (HG1.out.tr g2)
    clear g2 HX1 HXO1 HP1 HG1 HBY
    go_wp2_with fail
    refine (HRS.out _ HPW.out).mono ?_
    rintro r wa ⟨y2, e2, rfl, hm2, ho2, g2⟩
    have HM2 := Lib.hid hm2
    have HO2 := Lib.hid ho2
    have HGA := Lib.hid (HGW.out.tr g2)
    have HPA := Lib.hid (HPW.out.gr g2)
    clear hm2 ho2 g2 HPW HGW
    by_cases he2 : e2 = 0; rotate_left
    · have heb : (e2 == 0) = false := by simpa using he2
      clear he2
      go_wp2_with (first
        | refine allocM rfl rfl ?_
        | (refine storeM y2 HO2.out.dig rfl (.tmp 9) _ rfl rfl rfl rfl ?_; intro wb hx1 hg1; have HG1 := Lib.hid hg1; clear hx1 hg1))
      refine (fAwake_any _).mono ?_
      rintro r wc ⟨rfl, gc⟩
      go_wp2
      go_ret
      exact ⟨rfl, HGA.out.tr (HG1.out.tr gc)⟩
    subst he2
    obtain ⟨hc2, hb2⟩ := frame_can HM2.out
    have HB2 := Lib.hid hb2
    have HS2 := Lib.hid (small_of (mgood_of hc2))
    clear hb2 hc2
    have hne : (S.toList == S.toList) = true := by simp
    go_wp2_with (first
      | refine allocM rfl rfl ?_
      | (refine storeM y2 HO2.out.dig rfl (.tmp 9) _ rfl rfl rfl rfl ?_; intro wb hx1 hg1; have HX1 := Lib.hid hx1; have HG1 := Lib.hid hg1; clear hx1 hg1)
      | ((with_reducible refine at_ld 37 (.tmp 9) ?_); refine loadM y2 HO2.out.dig rfl (.tmp 9) rfl _ rfl HX1.out ?_))
    have HBY := Lib.hid (fSeal_any y2 wb (HO2.out.gr HG1.out) (HPA.out.gr HG1.out) HS2.out)
    rw [HB2.out] at HBY
    refine (HBY.out).mono ?_
    rintro r wc ⟨rfl, gc⟩
    clear HBY
    go_wp2_with fail
    refine (fAwake_any _).mono ?_
    rintro r wd ⟨rfl, gd⟩
    go_wp2
    go_ret
    exact ⟨rfl, HGA.out.tr (HG1.out.tr (gc.tr gd))⟩
  have HFO := Lib.hid (frame_ok hc)
  have hbk := frame_back hc HXD.out
  have hes : (mFrame x).2 = 0 := by rw [HFO.out]
  have htz : (mFrame x).1.size ≤ 9223372036854775807 := by
    rw [HFO.out]
    show (sealV (hsV ++ putS (bsq (encM x)).size ++ bsq (encM x))).size ≤ _
    rw [seal_size, ByteArray.size_append, ByteArray.size_append, bsq_size]
    have := encM_len hc HXD.out
    have := putS_sz ((encM x).length : Nat)
    show 3 + _ + _ + 4 ≤ _
    omega
  obtain ⟨t, ht⟩ : ∃ t : ByteArray, (mFrame x).1 = t := ⟨_, rfl⟩
  rw [ht] at hbk htz
  simp only [ht, hes] at HBY
  have HRT := Lib.hid hbk
  have HRD := Lib.hid (fun W (k : Pt.Mx W) => fOpen_any t W htz k)
  clear ht hbk htz hes HFO hc
  go_wp2_with (first
    | refine loadM x HXO1.out.dig rfl (.tmp 2) rfl w.heap.size rfl HX1.out ?_)
  refine (HBY.out).mono ?_
  rintro r w3 ⟨rfl, g3⟩
  have HP3 := Lib.hid (HP1.out.gr g3)
  have HG3 := Lib.hid (HG1.out.tr g3)
  have HX3 := Lib.hid (mat_gr HX1.out g3)
  have HXO3 := Lib.hid (HXO1.out.gr g3)
  clear g3 HX1 HXO1 HP1 HG1 HBY
  go_wp2_with fail
  refine (HRD.out _ HP3.out).mono ?_
  rintro r w4 ⟨y1, e1, rfl, hm1, ho1, g4⟩
  have hq := hm1.trans HRT.out
  have HEQ : Hid (mst y1 = mst x) := Lib.hid (congrArg Prod.fst hq)
  obtain rfl : e1 = 0 := congrArg Prod.snd hq
  have HO1 := Lib.hid ho1
  have HP4 := Lib.hid (HP3.out.gr g4)
  have HG4 := Lib.hid (HG3.out.tr g4)
  have HX4 := Lib.hid (mat_gr HX3.out g4)
  have HXO4 := Lib.hid (HXO3.out.gr g4)
  clear hq hm1 ho1 g4 HP3 HG3 HX3 HXO3 HRD HRT
  go_wp2_with (first
    | refine allocM rfl rfl ?_
    | (refine storeM y1 HO1.out.dig rfl (.tmp 7) _ rfl rfl rfl rfl ?_; intro w5 hx1 hg1; obtain ⟨b1, hb1⟩ : ∃ b1, w4.heap.size = b1 := ⟨_, rfl⟩; rw [hb1] at hx1 ⊢; have HX5 := Lib.hid hx1; have HG5 := Lib.hid hg1; have HX45 := Lib.hid (mat_gr HX4.out hg1); clear hx1 hg1 hb1)
    | ((with_reducible refine at_ld 37 (.tmp 7) ?_); refine loadMG y1 HO1.out.dig (by rfl) (.tmp 7) rfl b1 rfl HX5.out ?_)
    | ((with_reducible refine at_ld 37 (.tmp 2) ?_); refine loadMG x HXD.out (by rfl) (.tmp 2) rfl w.heap.size rfl HX45.out ?_))
  have hsm := mSame2_any y1 x w5 (HO1.out.gr HG5.out) (HXO4.out.gr HG5.out)
  rw [msame_mst HEQ.out] at hsm
  refine (hsm).mono ?_
  rintro r w6 ⟨rfl, g6⟩
  have HPW := Lib.hid ((HP4.out.gr HG5.out).gr g6)
  have HGW := Lib.hid (HG4.out.tr (HG5.out.tr g6))
  clear hsm g6 HX5 HG5 HX45 HO1 HXO4 HX4 HG4 HP4 HEQ
  go_wp2_with fail
  refine (HRS.out _ HPW.out).mono ?_
  rintro r wa ⟨y2, e2, rfl, hm2, ho2, g2⟩
  have HM2 := Lib.hid hm2
  have HO2 := Lib.hid ho2
  have HGA := Lib.hid (HGW.out.tr g2)
  have HPA := Lib.hid (HPW.out.gr g2)
  clear hm2 ho2 g2 HPW HGW
  by_cases he2 : e2 = 0; rotate_left
  · have heb : (e2 == 0) = false := by simpa using he2
    clear he2
    go_wp2_with (first
      | refine allocM rfl rfl ?_
      | (refine storeM y2 HO2.out.dig rfl (.tmp 9) _ rfl rfl rfl rfl ?_; intro wb hx1 hg1; have HG1 := Lib.hid hg1; clear hx1 hg1))
    refine (fAwake_any _).mono ?_
    rintro r wc ⟨rfl, gc⟩
    go_wp2
    go_ret
    exact ⟨rfl, HGA.out.tr (HG1.out.tr gc)⟩
  subst he2
  obtain ⟨hc2, hb2⟩ := frame_can HM2.out
  have HB2 := Lib.hid hb2
  have HS2 := Lib.hid (small_of (mgood_of hc2))
  clear hb2 hc2
  have hne : (S.toList == S.toList) = true := by simp
  go_wp2_with (first
    | refine allocM rfl rfl ?_
    | (refine storeM y2 HO2.out.dig rfl (.tmp 9) _ rfl rfl rfl rfl ?_; intro wb hx1 hg1; have HX1 := Lib.hid hx1; have HG1 := Lib.hid hg1; clear hx1 hg1)
    | ((with_reducible refine at_ld 37 (.tmp 9) ?_); refine loadM y2 HO2.out.dig rfl (.tmp 9) rfl _ rfl HX1.out ?_))
  have HBY := Lib.hid (fSeal_any y2 wb (HO2.out.gr HG1.out) (HPA.out.gr HG1.out) HS2.out)
  rw [HB2.out] at HBY
  refine (HBY.out).mono ?_
  rintro r wc ⟨rfl, gc⟩
  clear HBY
  go_wp2_with fail
  refine (fAwake_any _).mono ?_
  rintro r wd ⟨rfl, gd⟩
  go_wp2
  go_ret
  exact ⟨rfl, HGA.out.tr (HG1.out.tr (gc.tr gd))⟩
end Go.Proofs.YtfobnemocodomaaGreat
