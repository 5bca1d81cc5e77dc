/- hearsaylaw08: awake, MatrixNil. -/
import Derived.Test.YtpaogcighlfelaaMatG
import Derived.Test.YtpaogcighlfelaaVecAw
set_option linter.unusedVariables false
set_option linter.unusedSimpArgs false
set_option maxHeartbeats 4000000
namespace Go.Proofs.Ytpaogcighlfelaa
open Go.RowKit

theorem may_nil (p : Int) (v : Value) (w : World) : Calls Try.prog 23 #[.pointer none, .int .i64 p, v] w fun e w' => e = .returned (.int .i64 13) ∧ w' = w := by
  go_enter Try.func23, Try.ntmps23
  go_wp2
  go_ret
  exact ⟨rfl, rfl⟩
theorem Learn_nil (p : Int) (v : Value) (w : World) : Calls Try.prog 9 #[.pointer none, .int .i64 p, v] w fun e w' => e = .returned (.int .i64 13) ∧ w' = w := by
  have HM := Lib.hid (may_nil p v w)
  go_enter Try.func9, Try.ntmps9
  go_wp2_with fail
  refine (HM.out).mono ?_
  rintro e w1 ⟨rfl, rfl⟩
  go_wp2
  go_ret
  exact ⟨rfl, rfl⟩
def exR1 : Rws := [[(0, 3)], []]
def exR2 : Rws := [[(0, 3)], [(0, 2), (1, 1)]]
theorem ex_m1 : mrg [] [(0, 3)] = [(0, 0, 3)] := by simp [mrg]
theorem ex_m2 : mrg [] [(0, 2), (1, 1)] = [(0, 0, 2), (1, 0, 1)] := by simp [mrg]
theorem ex_m3 : mrg [(0, 3)] [(0, 3)] = [(0, 3, 3)] := by simp [mrg]
theorem ex_m4 : mrg [(0, 3)] [(0, 2), (1, 1)] = [(0, 3, 2), (1, 0, 1)] := by simp [mrg]
theorem ex_l1 : learnR (List.replicate 2 []) 0 [(0, 3)] = exR1 := by
  have e : mayV (List.replicate 2 ([] : List Dot)).length 0 [(0, 3)] = 0 := by decide
  unfold learnR
  rw [if_pos e]
  show List.set [[], []] 0 (joinL [] [(0, 3)]) = _
  unfold joinL
  rw [if_pos (by decide), ex_m1]; decide
theorem ex_l2 : learnR exR1 1 [(0, 2), (1, 1)] = exR2 := by
  have e : mayV exR1.length 1 [(0, 2), (1, 1)] = 0 := by decide
  unfold learnR
  rw [if_pos e]
  show List.set [[(0, 3)], []] 1 (joinL [] [(0, 2), (1, 1)]) = _
  unfold joinL
  rw [if_pos (by decide), ex_m2]; decide
theorem ex_s : stableL exR2 = [(0, 2)] := by
  show meetL (meetL [(0, 3)] [(0, 3)]) [(0, 2), (1, 1)] = _
  have e1 : meetL [(0, 3)] [(0, 3)] = [(0, 3)] := by
    unfold meetL
    rw [if_pos (by decide), ex_m3]; decide
  rw [e1]
  unfold meetL
  rw [if_pos (by decide), ex_m4]; decide
theorem Gr.growB {w a b : World} {rb : Nat} (h : Gr w a) (k : Gm rb a b) (hr : w.heap.size ≤ rb) : Gr w b := h.grown k h.size (fun j e => by have := Option.some.inj e; omega)
theorem awake8_any (w : World) : Calls Try.prog 7 #[] w fun e w' => e = .returned (.bool true) ∧ Gr w w' := by
  have HN := Lib.hid (New_any 2 w (by decide) (by decide))
  have hu31 := Try.underlying41
  go_enter Try.func7, Try.ntmps7
  go_wp2_with fail
  refine (HN.out).mono ?_
  rintro e w1 ⟨mb, rb, rfl, hm, _, hrb, hg⟩
  have HG1 : Hid (Gr w (w1.alloc (.cells #[.int .i64 0, .int .i64 3] 41))) := Lib.hid (hg.al _)
  have HL1 := Lib.hid (Learn_any mb rb _ 0 (some ⟨w1.heap.size, 0, none⟩) 1 [(0, 3)] _ (hm.gr ((Gr.rfl' w1).al _)) (Dots.one 0 3 41) (by simp))
  rw [show ((2 : Int)).toNat = 2 by rfl, ex_l1, show mayV (List.replicate 2 ([] : List Dot)).length 0 [(0, 3)] = 0 by decide] at HL1
  clear hm hg HN
  go_wp2_with fail
  refine (HL1.out).mono ?_
  rintro e w2 ⟨rfl, hm, hg⟩
  have hg2 := HG1.out.growB hg hrb
  have HG2 : Hid (Gr w (w2.alloc (.cells #[.int .i64 0, .int .i64 2, .int .i64 1, .int .i64 1] 41))) := Lib.hid (hg2.al _)
  have HL2 := Lib.hid (Learn_any mb rb _ 1 (some ⟨w2.heap.size, 0, none⟩) 2 [(0, 2), (1, 1)] _ (hm.gr ((Gr.rfl' w2).al _)) (Dots.twoNew 0 2 1 1 41) (by simp))
  rw [ex_l2, show mayV exR1.length 1 [(0, 2), (1, 1)] = 0 by decide] at HL2
  clear hm hg HL1 hg2 HG1
  go_wp2_with fail
  refine (HL2.out).mono ?_
  rintro e w3 ⟨rfl, hm, hg⟩
  have HG3 := Lib.hid (HG2.out.growB hg hrb)
  have HM := Lib.hid hm
  have HS := Lib.hid (Stable_any mb rb exR2 w3 hm)
  rw [ex_s] at HS
  clear hm hg HL2 HG2
  go_wp2_with fail
  refine (HS.out).mono ?_
  rintro e w4 ⟨v, rfl, ho, hg⟩
  obtain ⟨g, _, hog⟩ := ownG_of _ ho (by simp)
  obtain ⟨c, rfl, _, _⟩ := hog.shape
  have c0 : w4.cell? ⟨g, 0, none⟩ = some (.int .i64 0) := (hog.cell 0 _ rfl).1
  have c1 : w4.cell? ⟨g, 1, none⟩ = some (.int .i64 2) := (hog.cell 1 _ rfl).1
  have HG4 := Lib.hid (HG3.out.tr hg)
  have HST := Lib.hid (Steady_any mb rb exR2 0 2 w4 (HM.out.gr hg))
  rw [ex_s, show hasV [(0, 2)] 0 2 = true by decide] at HST
  clear ho hg HS hog
  go_wp2_with fail
  refine (HST.out).mono ?_
  rintro e w5 ⟨rfl, hg⟩
  have HG5 := Lib.hid (HG4.out.tr hg)
  clear hg
  go_wp2
  go_ret
  exact ⟨rfl, HG5.out⟩
theorem matrixNil_walk (p : Int) (A : Option Addr) (c : Nat) (l : List Dot) (w : World) : Calls Try.prog 5 #[.int .i64 p, .slice A l.length c] w fun e w' => e = .returned (.bool true) ∧ Gr w w' := by
  have AW := Lib.hid awake8_any
  have HP := Lib.hid Peers_nil
  have HR := Lib.hid (Row_nil p)
  have HRS := Lib.hid Rows_nil
  have HL := Lib.hid (Learn_nil p (.slice A l.length c))
  have HMG := Lib.hid (fun A n c => Merge_nil A n c)
  have HS := Lib.hid Stable_nil
  have HST := Lib.hid (Steady_nil p 1)
  rw [show hasV [] p 1 = false by unfold hasV; rw [getV_eq]; rfl] at HST
  go_enter Try.func5, Try.ntmps5
  go_wp2_with fail
  refine (HP.out _).mono ?_
  rintro e w1 ⟨rfl, rfl⟩
  go_wp2_with fail
  refine (HR.out _).mono ?_
  rintro e w2 ⟨rfl, hg⟩
  have HG := Lib.hid hg
  clear hg
  go_wp2_with fail
  refine (HRS.out _).mono ?_
  rintro e w3 ⟨rfl, hg⟩
  replace HG := Lib.hid (HG.out.tr hg)
  clear hg
  go_wp2_with fail
  refine (HL.out _).mono ?_
  rintro e w4 ⟨rfl, rfl⟩
  have HG5 : Hid (Gr w1 (w4.alloc (.cells #[.slice A l.length c] 28))) := Lib.hid (HG.out.al _)
  clear HG
  go_wp2_with fail
  refine (HMG.out _ _ _ _).mono ?_
  rintro e w5 ⟨rfl, hg⟩
  have HG := Lib.hid (HG5.out.tr hg)
  clear hg HG5
  go_wp2_with fail
  refine (HS.out _).mono ?_
  rintro e w6 ⟨rfl, hg⟩
  replace HG := Lib.hid (HG.out.tr hg)
  clear hg
  go_wp2_with fail
  refine (HST.out _).mono ?_
  rintro e w7 ⟨rfl, hg⟩
  replace HG := Lib.hid (HG.out.tr hg)
  clear hg
  go_wp2_with fail
  refine (AW.out _).mono ?_
  rintro e wAW ⟨rfl, hg⟩
  replace HG := Lib.hid (HG.out.tr hg)
  clear hg
  go_wp2
  go_ret
  exact ⟨rfl, HG.out⟩
end Go.Proofs.Ytpaogcighlfelaa
