/- VecLeast: the law's walk. -/
import Derived.Test.YtfhanmopoafdeaaVecAw
import Derived.Test.YtfhanmopoafdeaaVecH
set_option linter.unusedVariables false
set_option linter.unusedSimpArgs false
set_option maxHeartbeats 4000000
namespace Go.Proofs.Ytfhanmopoafdeaa
open Go.RowKit

theorem DRows.three {w : World} {A B C : Option Addr} {c d f : Nat} {l m n : List Dot} (h : Dots w A l) (k : Dots w B m) (j : Dots w C n) (t : TypeId) :
    DRows (w.alloc (.cells #[.slice A l.length c, .slice B m.length d, .slice C n.length f] t)) (some ⟨w.heap.size, 0, none⟩) [⟨A, c, l⟩, ⟨B, d, m⟩, ⟨C, f, n⟩] := by
  refine ⟨by simp, fun i hi => ?_⟩
  have : i = 0 ∨ i = 1 ∨ i = 2 := by simp at hi; omega
  rcases this with rfl | rfl | rfl
  · exact ⟨_, rfl, by simp [Addr.add], h.gr ((Gr.rfl' w).al _)⟩
  · exact ⟨_, rfl, by simp [Addr.add], k.gr ((Gr.rfl' w).al _)⟩
  · exact ⟨_, rfl, by simp [Addr.add], j.gr ((Gr.rfl' w).al _)⟩


set_option maxRecDepth 100000 in
theorem VecLeast_any (A1 A2 A9 : Option Addr) (c1 c2 c3 : Nat) (a b c : List Dot) (w : World) (h1 : Dots w A1 a) (h2 : Dots w A2 b) (h3 : Dots w A9 c) (hc1 : a.length ≤ c1) (hc2 : b.length ≤ c2) (hc3 : c.length ≤ c3) :
    Calls Try.prog 3 #[.slice A1 a.length c1, .slice A2 b.length c2, .slice A9 c.length c3] w fun e w' => e = .returned (.bool true) ∧ Gr w w' := by
  have H1 := Lib.hid h1; clear h1
  have H2 := Lib.hid h2; clear h2
  have H9 := Lib.hid h3; clear h3
  have H3 := Lib.hid (DRows.three (c := c1) (d := c2) (f := c3) H1.out H2.out H9.out 22)
  have hg : Gr w (w.alloc (.cells #[.slice A1 a.length c1, .slice A2 b.length c2, .slice A9 c.length c3] 22)) := (Gr.rfl' w).al _
  replace H1 := Lib.hid (H1.out.gr hg)
  replace H2 := Lib.hid (H2.out.gr hg)
  replace H9 := Lib.hid (H9.out.gr hg)
  rcases hm : manyB [⟨A1, c1, a⟩, ⟨A2, c2, b⟩, ⟨A9, c3, c⟩] with _ | _
  · by_cases ha : chk a = 0
    · have ha' : (chk a != 0) = false := by simp [ha]
      by_cases hb : chk b = 0
      · have hb' : (chk b != 0) = false := by simp [hb]
        by_cases hc : chk c = 0
        · have hc' : (chk c != 0) = false := by simp [hc]
          have VA := Lib.hid ((chk_ok a).1 ha)
          have VB := Lib.hid ((chk_ok b).1 hb)
          have VC := Lib.hid ((chk_ok c).1 hc)
          have WJ := Lib.hid (within_join VA.out VB.out)
          have WM := Lib.hid (meet_within VA.out VB.out)
          have HJO := Lib.hid (join_least VA.out VB.out VC.out)
          have HME := Lib.hid (meet_greatest VA.out VB.out VC.out)
          clear ha hb hc
          go_enter Try.func3, Try.ntmps3
          go_wp2_with fail
          refine (many_any _ _ [⟨A1, c1, a⟩, ⟨A2, c2, b⟩, ⟨A9, c3, c⟩] _ H3.out).mono ?_
          rintro e wc ⟨rfl, hgc⟩
          replace H1 := Lib.hid (H1.out.gr hgc)
          replace H2 := Lib.hid (H2.out.gr hgc)
          replace H9 := Lib.hid (H9.out.gr hgc)
          replace hg := hg.tr hgc
          clear hgc
          rw [hm]
          go_wp2_with fail
          refine (Check_any A1 c1 a _ H1.out).mono ?_
          rintro e wc ⟨rfl, hgc⟩
          replace H1 := Lib.hid (H1.out.gr hgc)
          replace H2 := Lib.hid (H2.out.gr hgc)
          replace H9 := Lib.hid (H9.out.gr hgc)
          replace hg := hg.tr hgc
          clear hgc
          go_wp2_with fail
          refine (Check_any A2 c2 b _ H2.out).mono ?_
          rintro e wc ⟨rfl, hgc⟩
          replace H1 := Lib.hid (H1.out.gr hgc)
          replace H2 := Lib.hid (H2.out.gr hgc)
          replace H9 := Lib.hid (H9.out.gr hgc)
          replace hg := hg.tr hgc
          clear hgc
          go_wp2_with fail
          refine (Check_any A9 c3 c _ H9.out).mono ?_
          rintro e wc ⟨rfl, hgc⟩
          replace H1 := Lib.hid (H1.out.gr hgc)
          replace H2 := Lib.hid (H2.out.gr hgc)
          replace H9 := Lib.hid (H9.out.gr hgc)
          replace hg := hg.tr hgc
          clear hgc
          go_wp2_with fail
          refine (Join_any A1 A2 c1 c2 a b _ H1.out H2.out hc1 hc2).mono ?_
          rintro e wc ⟨vJ, rfl, hoJ, hgc⟩
          replace H1 := Lib.hid (H1.out.gr hgc)
          replace H2 := Lib.hid (H2.out.gr hgc)
          replace H9 := Lib.hid (H9.out.gr hgc)
          replace hg := hg.tr hgc
          obtain ⟨AJ, cJ, rfl, hcJ, hDJ⟩ := hoJ.dots
          have HJ := Lib.hid hDJ
          clear hDJ hoJ
          clear hgc
          go_wp2_with fail
          refine (Meet_any A1 A2 c1 c2 a b _ H1.out H2.out hc1 hc2).mono ?_
          rintro e wc ⟨vM, rfl, hoM, hgc⟩
          replace H1 := Lib.hid (H1.out.gr hgc)
          replace H2 := Lib.hid (H2.out.gr hgc)
          replace H9 := Lib.hid (H9.out.gr hgc)
          replace HJ := Lib.hid (HJ.out.gr hgc)
          replace hg := hg.tr hgc
          obtain ⟨AM, cM, rfl, hcM, hDM⟩ := hoM.dots
          have HM := Lib.hid hDM
          clear hDM hoM
          clear hgc
          go_wp2_with fail
          refine (Within_any A1 AJ c1 cJ a (joinL a b) _ H1.out HJ.out hc1 hcJ).mono ?_
          rintro e wc ⟨rfl, hgc⟩
          replace H1 := Lib.hid (H1.out.gr hgc)
          replace H2 := Lib.hid (H2.out.gr hgc)
          replace H9 := Lib.hid (H9.out.gr hgc)
          replace HJ := Lib.hid (HJ.out.gr hgc)
          replace HM := Lib.hid (HM.out.gr hgc)
          replace hg := hg.tr hgc
          clear hgc
          rw [WJ.out.1]
          go_wp2_with fail
          refine (Within_any A2 AJ c2 cJ b (joinL a b) _ H2.out HJ.out hc2 hcJ).mono ?_
          rintro e wc ⟨rfl, hgc⟩
          replace H1 := Lib.hid (H1.out.gr hgc)
          replace H2 := Lib.hid (H2.out.gr hgc)
          replace H9 := Lib.hid (H9.out.gr hgc)
          replace HJ := Lib.hid (HJ.out.gr hgc)
          replace HM := Lib.hid (HM.out.gr hgc)
          replace hg := hg.tr hgc
          clear hgc
          rw [WJ.out.2]
          go_wp2_with fail
          refine (Within_any AM A1 cM c1 (meetL a b) a _ HM.out H1.out hcM hc1).mono ?_
          rintro e wc ⟨rfl, hgc⟩
          replace H1 := Lib.hid (H1.out.gr hgc)
          replace H2 := Lib.hid (H2.out.gr hgc)
          replace H9 := Lib.hid (H9.out.gr hgc)
          replace HJ := Lib.hid (HJ.out.gr hgc)
          replace HM := Lib.hid (HM.out.gr hgc)
          replace hg := hg.tr hgc
          clear hgc
          rw [WM.out.1]
          go_wp2_with fail
          refine (Within_any AM A2 cM c2 (meetL a b) b _ HM.out H2.out hcM hc2).mono ?_
          rintro e wc ⟨rfl, hgc⟩
          replace H1 := Lib.hid (H1.out.gr hgc)
          replace H2 := Lib.hid (H2.out.gr hgc)
          replace H9 := Lib.hid (H9.out.gr hgc)
          replace HJ := Lib.hid (HJ.out.gr hgc)
          replace HM := Lib.hid (HM.out.gr hgc)
          replace hg := hg.tr hgc
          clear hgc
          rw [WM.out.2]
          go_wp2_with fail
          refine (Within_any A1 A9 c1 c3 a c _ H1.out H9.out hc1 hc3).mono ?_
          rintro e wc ⟨rfl, hgc⟩
          replace H1 := Lib.hid (H1.out.gr hgc)
          replace H2 := Lib.hid (H2.out.gr hgc)
          replace H9 := Lib.hid (H9.out.gr hgc)
          replace HJ := Lib.hid (HJ.out.gr hgc)
          replace HM := Lib.hid (HM.out.gr hgc)
          replace hg := hg.tr hgc
          clear hgc
          rcases hac : withinB a c with _ | _
          · have HO : Hid (withinB (joinL a b) c = false) := by show _ = _; rw [HJO.out, hac]; rfl
            go_wp2_with fail
            refine (Within_any A9 A1 c3 c1 c a _ H9.out H1.out hc3 hc1).mono ?_
            rintro e wc ⟨rfl, hgc⟩
            replace H1 := Lib.hid (H1.out.gr hgc)
            replace H2 := Lib.hid (H2.out.gr hgc)
            replace H9 := Lib.hid (H9.out.gr hgc)
            replace HJ := Lib.hid (HJ.out.gr hgc)
            replace HM := Lib.hid (HM.out.gr hgc)
            replace hg := hg.tr hgc
            clear hgc
            rcases hca : withinB c a with _ | _
            · have HI : Hid (withinB c (meetL a b) = false) := by show _ = _; rw [HME.out, hca]; rfl
              go_wp2_with fail
              refine (Within_any AJ A9 cJ c3 (joinL a b) c _ HJ.out H9.out hcJ hc3).mono ?_
              rintro e wc ⟨rfl, hgc⟩
              replace H1 := Lib.hid (H1.out.gr hgc)
              replace H2 := Lib.hid (H2.out.gr hgc)
              replace H9 := Lib.hid (H9.out.gr hgc)
              replace HJ := Lib.hid (HJ.out.gr hgc)
              replace HM := Lib.hid (HM.out.gr hgc)
              replace hg := hg.tr hgc
              clear hgc
              rw [HO.out]
              go_wp2_with fail
              refine (Within_any A9 AM c3 cM c (meetL a b) _ H9.out HM.out hc3 hcM).mono ?_
              rintro e wc ⟨rfl, hgc⟩
              replace H1 := Lib.hid (H1.out.gr hgc)
              replace H2 := Lib.hid (H2.out.gr hgc)
              replace H9 := Lib.hid (H9.out.gr hgc)
              replace HJ := Lib.hid (HJ.out.gr hgc)
              replace HM := Lib.hid (HM.out.gr hgc)
              replace hg := hg.tr hgc
              clear hgc
              rw [HI.out]
              go_wp2_with fail
              refine (awake_any _).mono ?_
              rintro e wc ⟨rfl, hgc⟩
              replace hg := hg.tr hgc
              clear hgc
              go_wp2
              go_ret
              exact ⟨rfl, hg⟩
            · skip
              go_wp2_with fail
              refine (Within_any A9 A2 c3 c2 c b _ H9.out H2.out hc3 hc2).mono ?_
              rintro e wc ⟨rfl, hgc⟩
              replace H1 := Lib.hid (H1.out.gr hgc)
              replace H2 := Lib.hid (H2.out.gr hgc)
              replace H9 := Lib.hid (H9.out.gr hgc)
              replace HJ := Lib.hid (HJ.out.gr hgc)
              replace HM := Lib.hid (HM.out.gr hgc)
              replace hg := hg.tr hgc
              clear hgc
              rcases hcb : withinB c b with _ | _
              · have HI : Hid (withinB c (meetL a b) = false) := by show _ = _; rw [HME.out, hca, hcb]; rfl
                go_wp2_with fail
                refine (Within_any AJ A9 cJ c3 (joinL a b) c _ HJ.out H9.out hcJ hc3).mono ?_
                rintro e wc ⟨rfl, hgc⟩
                replace H1 := Lib.hid (H1.out.gr hgc)
                replace H2 := Lib.hid (H2.out.gr hgc)
                replace H9 := Lib.hid (H9.out.gr hgc)
                replace HJ := Lib.hid (HJ.out.gr hgc)
                replace HM := Lib.hid (HM.out.gr hgc)
                replace hg := hg.tr hgc
                clear hgc
                rw [HO.out]
                go_wp2_with fail
                refine (Within_any A9 AM c3 cM c (meetL a b) _ H9.out HM.out hc3 hcM).mono ?_
                rintro e wc ⟨rfl, hgc⟩
                replace H1 := Lib.hid (H1.out.gr hgc)
                replace H2 := Lib.hid (H2.out.gr hgc)
                replace H9 := Lib.hid (H9.out.gr hgc)
                replace HJ := Lib.hid (HJ.out.gr hgc)
                replace HM := Lib.hid (HM.out.gr hgc)
                replace hg := hg.tr hgc
                clear hgc
                rw [HI.out]
                go_wp2_with fail
                refine (awake_any _).mono ?_
                rintro e wc ⟨rfl, hgc⟩
                replace hg := hg.tr hgc
                clear hgc
                go_wp2
                go_ret
                exact ⟨rfl, hg⟩
              · have HI : Hid (withinB c (meetL a b) = true) := by show _ = _; rw [HME.out, hca, hcb]; rfl
                go_wp2_with fail
                refine (Within_any AJ A9 cJ c3 (joinL a b) c _ HJ.out H9.out hcJ hc3).mono ?_
                rintro e wc ⟨rfl, hgc⟩
                replace H1 := Lib.hid (H1.out.gr hgc)
                replace H2 := Lib.hid (H2.out.gr hgc)
                replace H9 := Lib.hid (H9.out.gr hgc)
                replace HJ := Lib.hid (HJ.out.gr hgc)
                replace HM := Lib.hid (HM.out.gr hgc)
                replace hg := hg.tr hgc
                clear hgc
                rw [HO.out]
                go_wp2_with fail
                refine (Within_any A9 AM c3 cM c (meetL a b) _ H9.out HM.out hc3 hcM).mono ?_
                rintro e wc ⟨rfl, hgc⟩
                replace H1 := Lib.hid (H1.out.gr hgc)
                replace H2 := Lib.hid (H2.out.gr hgc)
                replace H9 := Lib.hid (H9.out.gr hgc)
                replace HJ := Lib.hid (HJ.out.gr hgc)
                replace HM := Lib.hid (HM.out.gr hgc)
                replace hg := hg.tr hgc
                clear hgc
                rw [HI.out]
                go_wp2_with fail
                refine (awake_any _).mono ?_
                rintro e wc ⟨rfl, hgc⟩
                replace hg := hg.tr hgc
                clear hgc
                go_wp2
                go_ret
                exact ⟨rfl, hg⟩
          · skip
            go_wp2_with fail
            refine (Within_any A2 A9 c2 c3 b c _ H2.out H9.out hc2 hc3).mono ?_
            rintro e wc ⟨rfl, hgc⟩
            replace H1 := Lib.hid (H1.out.gr hgc)
            replace H2 := Lib.hid (H2.out.gr hgc)
            replace H9 := Lib.hid (H9.out.gr hgc)
            replace HJ := Lib.hid (HJ.out.gr hgc)
            replace HM := Lib.hid (HM.out.gr hgc)
            replace hg := hg.tr hgc
            clear hgc
            rcases hbc : withinB b c with _ | _
            · have HO : Hid (withinB (joinL a b) c = false) := by show _ = _; rw [HJO.out, hac, hbc]; rfl
              go_wp2_with fail
              refine (Within_any A9 A1 c3 c1 c a _ H9.out H1.out hc3 hc1).mono ?_
              rintro e wc ⟨rfl, hgc⟩
              replace H1 := Lib.hid (H1.out.gr hgc)
              replace H2 := Lib.hid (H2.out.gr hgc)
              replace H9 := Lib.hid (H9.out.gr hgc)
              replace HJ := Lib.hid (HJ.out.gr hgc)
              replace HM := Lib.hid (HM.out.gr hgc)
              replace hg := hg.tr hgc
              clear hgc
              rcases hca : withinB c a with _ | _
              · have HI : Hid (withinB c (meetL a b) = false) := by show _ = _; rw [HME.out, hca]; rfl
                go_wp2_with fail
                refine (Within_any AJ A9 cJ c3 (joinL a b) c _ HJ.out H9.out hcJ hc3).mono ?_
                rintro e wc ⟨rfl, hgc⟩
                replace H1 := Lib.hid (H1.out.gr hgc)
                replace H2 := Lib.hid (H2.out.gr hgc)
                replace H9 := Lib.hid (H9.out.gr hgc)
                replace HJ := Lib.hid (HJ.out.gr hgc)
                replace HM := Lib.hid (HM.out.gr hgc)
                replace hg := hg.tr hgc
                clear hgc
                rw [HO.out]
                go_wp2_with fail
                refine (Within_any A9 AM c3 cM c (meetL a b) _ H9.out HM.out hc3 hcM).mono ?_
                rintro e wc ⟨rfl, hgc⟩
                replace H1 := Lib.hid (H1.out.gr hgc)
                replace H2 := Lib.hid (H2.out.gr hgc)
                replace H9 := Lib.hid (H9.out.gr hgc)
                replace HJ := Lib.hid (HJ.out.gr hgc)
                replace HM := Lib.hid (HM.out.gr hgc)
                replace hg := hg.tr hgc
                clear hgc
                rw [HI.out]
                go_wp2_with fail
                refine (awake_any _).mono ?_
                rintro e wc ⟨rfl, hgc⟩
                replace hg := hg.tr hgc
                clear hgc
                go_wp2
                go_ret
                exact ⟨rfl, hg⟩
              · skip
                go_wp2_with fail
                refine (Within_any A9 A2 c3 c2 c b _ H9.out H2.out hc3 hc2).mono ?_
                rintro e wc ⟨rfl, hgc⟩
                replace H1 := Lib.hid (H1.out.gr hgc)
                replace H2 := Lib.hid (H2.out.gr hgc)
                replace H9 := Lib.hid (H9.out.gr hgc)
                replace HJ := Lib.hid (HJ.out.gr hgc)
                replace HM := Lib.hid (HM.out.gr hgc)
                replace hg := hg.tr hgc
                clear hgc
                rcases hcb : withinB c b with _ | _
                · have HI : Hid (withinB c (meetL a b) = false) := by show _ = _; rw [HME.out, hca, hcb]; rfl
                  go_wp2_with fail
                  refine (Within_any AJ A9 cJ c3 (joinL a b) c _ HJ.out H9.out hcJ hc3).mono ?_
                  rintro e wc ⟨rfl, hgc⟩
                  replace H1 := Lib.hid (H1.out.gr hgc)
                  replace H2 := Lib.hid (H2.out.gr hgc)
                  replace H9 := Lib.hid (H9.out.gr hgc)
                  replace HJ := Lib.hid (HJ.out.gr hgc)
                  replace HM := Lib.hid (HM.out.gr hgc)
                  replace hg := hg.tr hgc
                  clear hgc
                  rw [HO.out]
                  go_wp2_with fail
                  refine (Within_any A9 AM c3 cM c (meetL a b) _ H9.out HM.out hc3 hcM).mono ?_
                  rintro e wc ⟨rfl, hgc⟩
                  replace H1 := Lib.hid (H1.out.gr hgc)
                  replace H2 := Lib.hid (H2.out.gr hgc)
                  replace H9 := Lib.hid (H9.out.gr hgc)
                  replace HJ := Lib.hid (HJ.out.gr hgc)
                  replace HM := Lib.hid (HM.out.gr hgc)
                  replace hg := hg.tr hgc
                  clear hgc
                  rw [HI.out]
                  go_wp2_with fail
                  refine (awake_any _).mono ?_
                  rintro e wc ⟨rfl, hgc⟩
                  replace hg := hg.tr hgc
                  clear hgc
                  go_wp2
                  go_ret
                  exact ⟨rfl, hg⟩
                · have HI : Hid (withinB c (meetL a b) = true) := by show _ = _; rw [HME.out, hca, hcb]; rfl
                  go_wp2_with fail
                  refine (Within_any AJ A9 cJ c3 (joinL a b) c _ HJ.out H9.out hcJ hc3).mono ?_
                  rintro e wc ⟨rfl, hgc⟩
                  replace H1 := Lib.hid (H1.out.gr hgc)
                  replace H2 := Lib.hid (H2.out.gr hgc)
                  replace H9 := Lib.hid (H9.out.gr hgc)
                  replace HJ := Lib.hid (HJ.out.gr hgc)
                  replace HM := Lib.hid (HM.out.gr hgc)
                  replace hg := hg.tr hgc
                  clear hgc
                  rw [HO.out]
                  go_wp2_with fail
                  refine (Within_any A9 AM c3 cM c (meetL a b) _ H9.out HM.out hc3 hcM).mono ?_
                  rintro e wc ⟨rfl, hgc⟩
                  replace H1 := Lib.hid (H1.out.gr hgc)
                  replace H2 := Lib.hid (H2.out.gr hgc)
                  replace H9 := Lib.hid (H9.out.gr hgc)
                  replace HJ := Lib.hid (HJ.out.gr hgc)
                  replace HM := Lib.hid (HM.out.gr hgc)
                  replace hg := hg.tr hgc
                  clear hgc
                  rw [HI.out]
                  go_wp2_with fail
                  refine (awake_any _).mono ?_
                  rintro e wc ⟨rfl, hgc⟩
                  replace hg := hg.tr hgc
                  clear hgc
                  go_wp2
                  go_ret
                  exact ⟨rfl, hg⟩
            · have HO : Hid (withinB (joinL a b) c = true) := by show _ = _; rw [HJO.out, hac, hbc]; rfl
              go_wp2_with fail
              refine (Within_any A9 A1 c3 c1 c a _ H9.out H1.out hc3 hc1).mono ?_
              rintro e wc ⟨rfl, hgc⟩
              replace H1 := Lib.hid (H1.out.gr hgc)
              replace H2 := Lib.hid (H2.out.gr hgc)
              replace H9 := Lib.hid (H9.out.gr hgc)
              replace HJ := Lib.hid (HJ.out.gr hgc)
              replace HM := Lib.hid (HM.out.gr hgc)
              replace hg := hg.tr hgc
              clear hgc
              rcases hca : withinB c a with _ | _
              · have HI : Hid (withinB c (meetL a b) = false) := by show _ = _; rw [HME.out, hca]; rfl
                go_wp2_with fail
                refine (Within_any AJ A9 cJ c3 (joinL a b) c _ HJ.out H9.out hcJ hc3).mono ?_
                rintro e wc ⟨rfl, hgc⟩
                replace H1 := Lib.hid (H1.out.gr hgc)
                replace H2 := Lib.hid (H2.out.gr hgc)
                replace H9 := Lib.hid (H9.out.gr hgc)
                replace HJ := Lib.hid (HJ.out.gr hgc)
                replace HM := Lib.hid (HM.out.gr hgc)
                replace hg := hg.tr hgc
                clear hgc
                rw [HO.out]
                go_wp2_with fail
                refine (Within_any A9 AM c3 cM c (meetL a b) _ H9.out HM.out hc3 hcM).mono ?_
                rintro e wc ⟨rfl, hgc⟩
                replace H1 := Lib.hid (H1.out.gr hgc)
                replace H2 := Lib.hid (H2.out.gr hgc)
                replace H9 := Lib.hid (H9.out.gr hgc)
                replace HJ := Lib.hid (HJ.out.gr hgc)
                replace HM := Lib.hid (HM.out.gr hgc)
                replace hg := hg.tr hgc
                clear hgc
                rw [HI.out]
                go_wp2_with fail
                refine (awake_any _).mono ?_
                rintro e wc ⟨rfl, hgc⟩
                replace hg := hg.tr hgc
                clear hgc
                go_wp2
                go_ret
                exact ⟨rfl, hg⟩
              · skip
                go_wp2_with fail
                refine (Within_any A9 A2 c3 c2 c b _ H9.out H2.out hc3 hc2).mono ?_
                rintro e wc ⟨rfl, hgc⟩
                replace H1 := Lib.hid (H1.out.gr hgc)
                replace H2 := Lib.hid (H2.out.gr hgc)
                replace H9 := Lib.hid (H9.out.gr hgc)
                replace HJ := Lib.hid (HJ.out.gr hgc)
                replace HM := Lib.hid (HM.out.gr hgc)
                replace hg := hg.tr hgc
                clear hgc
                rcases hcb : withinB c b with _ | _
                · have HI : Hid (withinB c (meetL a b) = false) := by show _ = _; rw [HME.out, hca, hcb]; rfl
                  go_wp2_with fail
                  refine (Within_any AJ A9 cJ c3 (joinL a b) c _ HJ.out H9.out hcJ hc3).mono ?_
                  rintro e wc ⟨rfl, hgc⟩
                  replace H1 := Lib.hid (H1.out.gr hgc)
                  replace H2 := Lib.hid (H2.out.gr hgc)
                  replace H9 := Lib.hid (H9.out.gr hgc)
                  replace HJ := Lib.hid (HJ.out.gr hgc)
                  replace HM := Lib.hid (HM.out.gr hgc)
                  replace hg := hg.tr hgc
                  clear hgc
                  rw [HO.out]
                  go_wp2_with fail
                  refine (Within_any A9 AM c3 cM c (meetL a b) _ H9.out HM.out hc3 hcM).mono ?_
                  rintro e wc ⟨rfl, hgc⟩
                  replace H1 := Lib.hid (H1.out.gr hgc)
                  replace H2 := Lib.hid (H2.out.gr hgc)
                  replace H9 := Lib.hid (H9.out.gr hgc)
                  replace HJ := Lib.hid (HJ.out.gr hgc)
                  replace HM := Lib.hid (HM.out.gr hgc)
                  replace hg := hg.tr hgc
                  clear hgc
                  rw [HI.out]
                  go_wp2_with fail
                  refine (awake_any _).mono ?_
                  rintro e wc ⟨rfl, hgc⟩
                  replace hg := hg.tr hgc
                  clear hgc
                  go_wp2
                  go_ret
                  exact ⟨rfl, hg⟩
                · have HI : Hid (withinB c (meetL a b) = true) := by show _ = _; rw [HME.out, hca, hcb]; rfl
                  go_wp2_with fail
                  refine (Within_any AJ A9 cJ c3 (joinL a b) c _ HJ.out H9.out hcJ hc3).mono ?_
                  rintro e wc ⟨rfl, hgc⟩
                  replace H1 := Lib.hid (H1.out.gr hgc)
                  replace H2 := Lib.hid (H2.out.gr hgc)
                  replace H9 := Lib.hid (H9.out.gr hgc)
                  replace HJ := Lib.hid (HJ.out.gr hgc)
                  replace HM := Lib.hid (HM.out.gr hgc)
                  replace hg := hg.tr hgc
                  clear hgc
                  rw [HO.out]
                  go_wp2_with fail
                  refine (Within_any A9 AM c3 cM c (meetL a b) _ H9.out HM.out hc3 hcM).mono ?_
                  rintro e wc ⟨rfl, hgc⟩
                  replace H1 := Lib.hid (H1.out.gr hgc)
                  replace H2 := Lib.hid (H2.out.gr hgc)
                  replace H9 := Lib.hid (H9.out.gr hgc)
                  replace HJ := Lib.hid (HJ.out.gr hgc)
                  replace HM := Lib.hid (HM.out.gr hgc)
                  replace hg := hg.tr hgc
                  clear hgc
                  rw [HI.out]
                  go_wp2_with fail
                  refine (awake_any _).mono ?_
                  rintro e wc ⟨rfl, hgc⟩
                  replace hg := hg.tr hgc
                  clear hgc
                  go_wp2
                  go_ret
                  exact ⟨rfl, hg⟩
        · have hc' : (chk c != 0) = true := by simp [hc]
          clear ha hb hc
          go_enter Try.func3, Try.ntmps3
          go_wp2_with fail
          refine (many_any _ _ [⟨A1, c1, a⟩, ⟨A2, c2, b⟩, ⟨A9, c3, c⟩] _ H3.out).mono ?_
          rintro e wc ⟨rfl, hgc⟩
          replace H1 := Lib.hid (H1.out.gr hgc)
          replace H2 := Lib.hid (H2.out.gr hgc)
          replace H9 := Lib.hid (H9.out.gr hgc)
          replace hg := hg.tr hgc
          clear hgc
          rw [hm]
          go_wp2_with fail
          refine (Check_any A1 c1 a _ H1.out).mono ?_
          rintro e wc ⟨rfl, hgc⟩
          replace H1 := Lib.hid (H1.out.gr hgc)
          replace H2 := Lib.hid (H2.out.gr hgc)
          replace H9 := Lib.hid (H9.out.gr hgc)
          replace hg := hg.tr hgc
          clear hgc
          go_wp2_with fail
          refine (Check_any A2 c2 b _ H2.out).mono ?_
          rintro e wc ⟨rfl, hgc⟩
          replace H1 := Lib.hid (H1.out.gr hgc)
          replace H2 := Lib.hid (H2.out.gr hgc)
          replace H9 := Lib.hid (H9.out.gr hgc)
          replace hg := hg.tr hgc
          clear hgc
          go_wp2_with fail
          refine (Check_any A9 c3 c _ H9.out).mono ?_
          rintro e wc ⟨rfl, hgc⟩
          replace H1 := Lib.hid (H1.out.gr hgc)
          replace H2 := Lib.hid (H2.out.gr hgc)
          replace H9 := Lib.hid (H9.out.gr hgc)
          replace hg := hg.tr hgc
          clear hgc
          go_wp2_with fail
          refine (awake_any _).mono ?_
          rintro e wc ⟨rfl, hgc⟩
          replace hg := hg.tr hgc
          clear hgc
          go_wp2
          go_ret
          exact ⟨rfl, hg⟩
      · have hb' : (chk b != 0) = true := by simp [hb]
        clear ha hb
        go_enter Try.func3, Try.ntmps3
        go_wp2_with fail
        refine (many_any _ _ [⟨A1, c1, a⟩, ⟨A2, c2, b⟩, ⟨A9, c3, c⟩] _ H3.out).mono ?_
        rintro e wc ⟨rfl, hgc⟩
        replace H1 := Lib.hid (H1.out.gr hgc)
        replace H2 := Lib.hid (H2.out.gr hgc)
        replace H9 := Lib.hid (H9.out.gr hgc)
        replace hg := hg.tr hgc
        clear hgc
        rw [hm]
        go_wp2_with fail
        refine (Check_any A1 c1 a _ H1.out).mono ?_
        rintro e wc ⟨rfl, hgc⟩
        replace H1 := Lib.hid (H1.out.gr hgc)
        replace H2 := Lib.hid (H2.out.gr hgc)
        replace H9 := Lib.hid (H9.out.gr hgc)
        replace hg := hg.tr hgc
        clear hgc
        go_wp2_with fail
        refine (Check_any A2 c2 b _ H2.out).mono ?_
        rintro e wc ⟨rfl, hgc⟩
        replace H1 := Lib.hid (H1.out.gr hgc)
        replace H2 := Lib.hid (H2.out.gr hgc)
        replace H9 := Lib.hid (H9.out.gr hgc)
        replace hg := hg.tr hgc
        clear hgc
        go_wp2_with fail
        refine (awake_any _).mono ?_
        rintro e wc ⟨rfl, hgc⟩
        replace hg := hg.tr hgc
        clear hgc
        go_wp2
        go_ret
        exact ⟨rfl, hg⟩
    · have ha' : (chk a != 0) = true := by simp [ha]
      clear ha
      go_enter Try.func3, Try.ntmps3
      go_wp2_with fail
      refine (many_any _ _ [⟨A1, c1, a⟩, ⟨A2, c2, b⟩, ⟨A9, c3, c⟩] _ H3.out).mono ?_
      rintro e wc ⟨rfl, hgc⟩
      replace H1 := Lib.hid (H1.out.gr hgc)
      replace H2 := Lib.hid (H2.out.gr hgc)
      replace H9 := Lib.hid (H9.out.gr hgc)
      replace hg := hg.tr hgc
      clear hgc
      rw [hm]
      go_wp2_with fail
      refine (Check_any A1 c1 a _ H1.out).mono ?_
      rintro e wc ⟨rfl, hgc⟩
      replace H1 := Lib.hid (H1.out.gr hgc)
      replace H2 := Lib.hid (H2.out.gr hgc)
      replace H9 := Lib.hid (H9.out.gr hgc)
      replace hg := hg.tr hgc
      clear hgc
      go_wp2_with fail
      refine (awake_any _).mono ?_
      rintro e wc ⟨rfl, hgc⟩
      replace hg := hg.tr hgc
      clear hgc
      go_wp2
      go_ret
      exact ⟨rfl, hg⟩
  · go_enter Try.func3, Try.ntmps3
    go_wp2_with fail
    refine (many_any _ _ [⟨A1, c1, a⟩, ⟨A2, c2, b⟩, ⟨A9, c3, c⟩] _ H3.out).mono ?_
    rintro e wc ⟨rfl, hgc⟩
    replace hg := hg.tr hgc
    clear hgc
    rw [hm]
    go_wp2_with fail
    refine (awake_any _).mono ?_
    rintro e wc ⟨rfl, hgc⟩
    replace hg := hg.tr hgc
    clear hgc
    go_wp2
    go_ret
    exact ⟨rfl, hg⟩
end Go.Proofs.Ytfhanmopoafdeaa
