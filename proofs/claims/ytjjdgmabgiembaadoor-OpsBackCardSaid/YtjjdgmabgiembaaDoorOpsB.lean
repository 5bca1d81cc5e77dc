/- ops.Check. -/
import Derived.Test.YtjjdgmabgiembaaDoorOpsA
set_option linter.unusedVariables false
set_option linter.unusedSimpArgs false
set_option maxHeartbeats 400000
namespace Go.Proofs.YtjjdgmabgiembaaDoor
open Go.RowKit Go.Shelf

/-- why an operation may not be -/
def ochk (x : Opx) : Int :=
  if (decide (0 ≤ x.K ∧ x.K < 13)) = false then 15 else
  if (decide (0 ≤ x.P ∧ x.P < 64)) = false then 11 else
  if (decide (0 ≤ x.T ∧ x.T < 64)) = false then 11 else
  if (numOk x.N) = false then 12 else
  if (numOk x.A) = false then 12 else
  if (numOk x.M) = false then 12 else
  if (decide (x.Pa.size ≤ 255)) = false then 2 else
  if (decide (x.Da.size ≤ 255)) = false then 2 else
  if spareB x = true then 7 else 0

set_option maxRecDepth 100000 in
theorem Check_0 (x : Opx) (h0 : (decide (0 ≤ x.K ∧ x.K < 13)) = false) (w : World) : Calls Tryd.prog 7 #[.agg x.cells] w fun r w' => r = .returned (.int .i64 (ochk x)) ∧ Gr w w' := by
  have hX : Hid (ochk x = 15) := by show _ = _; unfold ochk; rw [if_pos h0]
  have hg := Lib.hid ((Gr.rfl' w).al (.cells x.cells 23))
  unfold Opx.cells at *
  go_enter Tryd.func7, Tryd.ntmps7
  go_wp2_with fail
  refine (kind_any x.K _).mono ?_
  rintro r w1 ⟨rfl, rfl⟩
  rw [h0]
  go_wp2
  go_ret
  exact ⟨ret_int hX.out.symm, hg.out⟩

set_option maxRecDepth 100000 in
theorem Check_1 (x : Opx) (h0 : (decide (0 ≤ x.K ∧ x.K < 13)) = true) (h1 : (decide (0 ≤ x.P ∧ x.P < 64)) = false) (w : World) : Calls Tryd.prog 7 #[.agg x.cells] w fun r w' => r = .returned (.int .i64 (ochk x)) ∧ Gr w w' := by
  have hX : Hid (ochk x = 11) := by show _ = _; unfold ochk; rw [if_neg (by rw [h0]; simp), if_pos h1]
  have hg := Lib.hid ((Gr.rfl' w).al (.cells x.cells 23))
  unfold Opx.cells at *
  go_enter Tryd.func7, Tryd.ntmps7
  go_wp2_with fail
  refine (kind_any x.K _).mono ?_
  rintro r w1 ⟨rfl, rfl⟩
  rw [h0]
  go_wp2_with fail
  refine (peer_any x.P _).mono ?_
  rintro r w1 ⟨rfl, rfl⟩
  rw [h1]
  go_wp2
  go_ret
  exact ⟨ret_int hX.out.symm, hg.out⟩

set_option maxRecDepth 100000 in
theorem Check_2 (x : Opx) (h0 : (decide (0 ≤ x.K ∧ x.K < 13)) = true) (h1 : (decide (0 ≤ x.P ∧ x.P < 64)) = true) (h2 : (decide (0 ≤ x.T ∧ x.T < 64)) = false) (w : World) : Calls Tryd.prog 7 #[.agg x.cells] w fun r w' => r = .returned (.int .i64 (ochk x)) ∧ Gr w w' := by
  have hX : Hid (ochk x = 11) := by show _ = _; unfold ochk; rw [if_neg (by rw [h0]; simp), if_neg (by rw [h1]; simp), if_pos h2]
  have hg := Lib.hid ((Gr.rfl' w).al (.cells x.cells 23))
  unfold Opx.cells at *
  go_enter Tryd.func7, Tryd.ntmps7
  go_wp2_with fail
  refine (kind_any x.K _).mono ?_
  rintro r w1 ⟨rfl, rfl⟩
  rw [h0]
  go_wp2_with fail
  refine (peer_any x.P _).mono ?_
  rintro r w1 ⟨rfl, rfl⟩
  rw [h1]
  go_wp2_with fail
  refine (peer_any x.T _).mono ?_
  rintro r w1 ⟨rfl, rfl⟩
  rw [h2]
  go_wp2
  go_ret
  exact ⟨ret_int hX.out.symm, hg.out⟩

set_option maxRecDepth 100000 in
theorem Check_3 (x : Opx) (h0 : (decide (0 ≤ x.K ∧ x.K < 13)) = true) (h1 : (decide (0 ≤ x.P ∧ x.P < 64)) = true) (h2 : (decide (0 ≤ x.T ∧ x.T < 64)) = true) (h3 : (numOk x.N) = false) (w : World) : Calls Tryd.prog 7 #[.agg x.cells] w fun r w' => r = .returned (.int .i64 (ochk x)) ∧ Gr w w' := by
  have hX : Hid (ochk x = 12) := by show _ = _; unfold ochk; rw [if_neg (by rw [h0]; simp), if_neg (by rw [h1]; simp), if_neg (by rw [h2]; simp), if_pos h3]
  have hg := Lib.hid ((Gr.rfl' w).al (.cells x.cells 23))
  unfold Opx.cells at *
  go_enter Tryd.func7, Tryd.ntmps7
  go_wp2_with fail
  refine (kind_any x.K _).mono ?_
  rintro r w1 ⟨rfl, rfl⟩
  rw [h0]
  go_wp2_with fail
  refine (peer_any x.P _).mono ?_
  rintro r w1 ⟨rfl, rfl⟩
  rw [h1]
  go_wp2_with fail
  refine (peer_any x.T _).mono ?_
  rintro r w1 ⟨rfl, rfl⟩
  rw [h2]
  go_wp2_with fail
  refine (onum_any x.N _).mono ?_
  rintro r w1 ⟨rfl, rfl⟩
  rw [h3]
  go_wp2
  go_ret
  exact ⟨ret_int hX.out.symm, hg.out⟩

set_option maxRecDepth 100000 in
theorem Check_4 (x : Opx) (h0 : (decide (0 ≤ x.K ∧ x.K < 13)) = true) (h1 : (decide (0 ≤ x.P ∧ x.P < 64)) = true) (h2 : (decide (0 ≤ x.T ∧ x.T < 64)) = true) (h3 : (numOk x.N) = true) (h4 : (numOk x.A) = false) (w : World) : Calls Tryd.prog 7 #[.agg x.cells] w fun r w' => r = .returned (.int .i64 (ochk x)) ∧ Gr w w' := by
  have hX : Hid (ochk x = 12) := by show _ = _; unfold ochk; rw [if_neg (by rw [h0]; simp), if_neg (by rw [h1]; simp), if_neg (by rw [h2]; simp), if_neg (by rw [h3]; simp), if_pos h4]
  have hg := Lib.hid ((Gr.rfl' w).al (.cells x.cells 23))
  unfold Opx.cells at *
  go_enter Tryd.func7, Tryd.ntmps7
  go_wp2_with fail
  refine (kind_any x.K _).mono ?_
  rintro r w1 ⟨rfl, rfl⟩
  rw [h0]
  go_wp2_with fail
  refine (peer_any x.P _).mono ?_
  rintro r w1 ⟨rfl, rfl⟩
  rw [h1]
  go_wp2_with fail
  refine (peer_any x.T _).mono ?_
  rintro r w1 ⟨rfl, rfl⟩
  rw [h2]
  go_wp2_with fail
  refine (onum_any x.N _).mono ?_
  rintro r w1 ⟨rfl, rfl⟩
  rw [h3]
  go_wp2_with fail
  refine (onum_any x.A _).mono ?_
  rintro r w1 ⟨rfl, rfl⟩
  rw [h4]
  go_wp2
  go_ret
  exact ⟨ret_int hX.out.symm, hg.out⟩

set_option maxRecDepth 100000 in
theorem Check_5 (x : Opx) (h0 : (decide (0 ≤ x.K ∧ x.K < 13)) = true) (h1 : (decide (0 ≤ x.P ∧ x.P < 64)) = true) (h2 : (decide (0 ≤ x.T ∧ x.T < 64)) = true) (h3 : (numOk x.N) = true) (h4 : (numOk x.A) = true) (h5 : (numOk x.M) = false) (w : World) : Calls Tryd.prog 7 #[.agg x.cells] w fun r w' => r = .returned (.int .i64 (ochk x)) ∧ Gr w w' := by
  have hX : Hid (ochk x = 12) := by show _ = _; unfold ochk; rw [if_neg (by rw [h0]; simp), if_neg (by rw [h1]; simp), if_neg (by rw [h2]; simp), if_neg (by rw [h3]; simp), if_neg (by rw [h4]; simp), if_pos h5]
  have hg := Lib.hid ((Gr.rfl' w).al (.cells x.cells 23))
  unfold Opx.cells at *
  go_enter Tryd.func7, Tryd.ntmps7
  go_wp2_with fail
  refine (kind_any x.K _).mono ?_
  rintro r w1 ⟨rfl, rfl⟩
  rw [h0]
  go_wp2_with fail
  refine (peer_any x.P _).mono ?_
  rintro r w1 ⟨rfl, rfl⟩
  rw [h1]
  go_wp2_with fail
  refine (peer_any x.T _).mono ?_
  rintro r w1 ⟨rfl, rfl⟩
  rw [h2]
  go_wp2_with fail
  refine (onum_any x.N _).mono ?_
  rintro r w1 ⟨rfl, rfl⟩
  rw [h3]
  go_wp2_with fail
  refine (onum_any x.A _).mono ?_
  rintro r w1 ⟨rfl, rfl⟩
  rw [h4]
  go_wp2_with fail
  refine (onum_any x.M _).mono ?_
  rintro r w1 ⟨rfl, rfl⟩
  rw [h5]
  go_wp2
  go_ret
  exact ⟨ret_int hX.out.symm, hg.out⟩

set_option maxRecDepth 100000 in
theorem Check_6 (x : Opx) (h0 : (decide (0 ≤ x.K ∧ x.K < 13)) = true) (h1 : (decide (0 ≤ x.P ∧ x.P < 64)) = true) (h2 : (decide (0 ≤ x.T ∧ x.T < 64)) = true) (h3 : (numOk x.N) = true) (h4 : (numOk x.A) = true) (h5 : (numOk x.M) = true) (h6 : (decide (x.Pa.size ≤ 255)) = false) (w : World) : Calls Tryd.prog 7 #[.agg x.cells] w fun r w' => r = .returned (.int .i64 (ochk x)) ∧ Gr w w' := by
  have hX : Hid (ochk x = 2) := by show _ = _; unfold ochk; rw [if_neg (by rw [h0]; simp), if_neg (by rw [h1]; simp), if_neg (by rw [h2]; simp), if_neg (by rw [h3]; simp), if_neg (by rw [h4]; simp), if_neg (by rw [h5]; simp), if_pos h6]
  have hg := Lib.hid ((Gr.rfl' w).al (.cells x.cells 23))
  unfold Opx.cells at *
  go_enter Tryd.func7, Tryd.ntmps7
  go_wp2_with fail
  refine (kind_any x.K _).mono ?_
  rintro r w1 ⟨rfl, rfl⟩
  rw [h0]
  go_wp2_with fail
  refine (peer_any x.P _).mono ?_
  rintro r w1 ⟨rfl, rfl⟩
  rw [h1]
  go_wp2_with fail
  refine (peer_any x.T _).mono ?_
  rintro r w1 ⟨rfl, rfl⟩
  rw [h2]
  go_wp2_with fail
  refine (onum_any x.N _).mono ?_
  rintro r w1 ⟨rfl, rfl⟩
  rw [h3]
  go_wp2_with fail
  refine (onum_any x.A _).mono ?_
  rintro r w1 ⟨rfl, rfl⟩
  rw [h4]
  go_wp2_with fail
  refine (onum_any x.M _).mono ?_
  rintro r w1 ⟨rfl, rfl⟩
  rw [h5]
  go_wp2_with fail
  refine (otext_any x.Pa _).mono ?_
  rintro r w1 ⟨rfl, rfl⟩
  rw [h6]
  go_wp2
  go_ret
  exact ⟨ret_int hX.out.symm, hg.out⟩

set_option maxRecDepth 100000 in
theorem Check_7 (x : Opx) (h0 : (decide (0 ≤ x.K ∧ x.K < 13)) = true) (h1 : (decide (0 ≤ x.P ∧ x.P < 64)) = true) (h2 : (decide (0 ≤ x.T ∧ x.T < 64)) = true) (h3 : (numOk x.N) = true) (h4 : (numOk x.A) = true) (h5 : (numOk x.M) = true) (h6 : (decide (x.Pa.size ≤ 255)) = true) (h7 : (decide (x.Da.size ≤ 255)) = false) (w : World) : Calls Tryd.prog 7 #[.agg x.cells] w fun r w' => r = .returned (.int .i64 (ochk x)) ∧ Gr w w' := by
  have hX : Hid (ochk x = 2) := by show _ = _; unfold ochk; rw [if_neg (by rw [h0]; simp), if_neg (by rw [h1]; simp), if_neg (by rw [h2]; simp), if_neg (by rw [h3]; simp), if_neg (by rw [h4]; simp), if_neg (by rw [h5]; simp), if_neg (by rw [h6]; simp), if_pos h7]
  have hg := Lib.hid ((Gr.rfl' w).al (.cells x.cells 23))
  unfold Opx.cells at *
  go_enter Tryd.func7, Tryd.ntmps7
  go_wp2_with fail
  refine (kind_any x.K _).mono ?_
  rintro r w1 ⟨rfl, rfl⟩
  rw [h0]
  go_wp2_with fail
  refine (peer_any x.P _).mono ?_
  rintro r w1 ⟨rfl, rfl⟩
  rw [h1]
  go_wp2_with fail
  refine (peer_any x.T _).mono ?_
  rintro r w1 ⟨rfl, rfl⟩
  rw [h2]
  go_wp2_with fail
  refine (onum_any x.N _).mono ?_
  rintro r w1 ⟨rfl, rfl⟩
  rw [h3]
  go_wp2_with fail
  refine (onum_any x.A _).mono ?_
  rintro r w1 ⟨rfl, rfl⟩
  rw [h4]
  go_wp2_with fail
  refine (onum_any x.M _).mono ?_
  rintro r w1 ⟨rfl, rfl⟩
  rw [h5]
  go_wp2_with fail
  refine (otext_any x.Pa _).mono ?_
  rintro r w1 ⟨rfl, rfl⟩
  rw [h6]
  go_wp2_with fail
  refine (otext_any x.Da _).mono ?_
  rintro r w1 ⟨rfl, rfl⟩
  rw [h7]
  go_wp2
  go_ret
  exact ⟨ret_int hX.out.symm, hg.out⟩

set_option maxRecDepth 100000 in
theorem Check_8 (x : Opx) (h0 : (decide (0 ≤ x.K ∧ x.K < 13)) = true) (h1 : (decide (0 ≤ x.P ∧ x.P < 64)) = true) (h2 : (decide (0 ≤ x.T ∧ x.T < 64)) = true) (h3 : (numOk x.N) = true) (h4 : (numOk x.A) = true) (h5 : (numOk x.M) = true) (h6 : (decide (x.Pa.size ≤ 255)) = true) (h7 : (decide (x.Da.size ≤ 255)) = true) (w : World) (hF : Fl w) : Calls Tryd.prog 7 #[.agg x.cells] w fun r w' => r = .returned (.int .i64 (ochk x)) ∧ Gr w w' := by
  have hX : Hid (ochk x = if spareB x = true then 7 else 0) := by show _ = _; unfold ochk; rw [if_neg (by rw [h0]; simp), if_neg (by rw [h1]; simp), if_neg (by rw [h2]; simp), if_neg (by rw [h3]; simp), if_neg (by rw [h4]; simp), if_neg (by rw [h5]; simp), if_neg (by rw [h6]; simp), if_neg (by rw [h7]; simp)]
  have hg := Lib.hid ((Gr.rfl' w).al (.cells x.cells 23))
  have hF1 := Lib.hid (hF.gr hg.out)
  have hk := of_decide_eq_true h0
  obtain ⟨k, hkk⟩ : ∃ k : Nat, x.K = k := ⟨x.K.toNat, by omega⟩
  have hSp := fun w => spare_any x k hkk (by omega) w
  clear hF hkk hk
  unfold Opx.cells at *
  go_enter Tryd.func7, Tryd.ntmps7
  go_wp2_with fail
  refine (kind_any x.K _).mono ?_
  rintro r w1 ⟨rfl, rfl⟩
  rw [h0]
  go_wp2_with fail
  refine (peer_any x.P _).mono ?_
  rintro r w1 ⟨rfl, rfl⟩
  rw [h1]
  go_wp2_with fail
  refine (peer_any x.T _).mono ?_
  rintro r w1 ⟨rfl, rfl⟩
  rw [h2]
  go_wp2_with fail
  refine (onum_any x.N _).mono ?_
  rintro r w1 ⟨rfl, rfl⟩
  rw [h3]
  go_wp2_with fail
  refine (onum_any x.A _).mono ?_
  rintro r w1 ⟨rfl, rfl⟩
  rw [h4]
  go_wp2_with fail
  refine (onum_any x.M _).mono ?_
  rintro r w1 ⟨rfl, rfl⟩
  rw [h5]
  go_wp2_with fail
  refine (otext_any x.Pa _).mono ?_
  rintro r w1 ⟨rfl, rfl⟩
  rw [h6]
  go_wp2_with fail
  refine (otext_any x.Da _).mono ?_
  rintro r w1 ⟨rfl, rfl⟩
  rw [h7]
  go_wp2_with fail
  refine (hSp _ hF1.out).mono ?_
  rintro r w2 ⟨rfl, hg2⟩
  cases hs : spareB x
  all_goals
    rw [hs] at hX
    go_wp2
    go_ret
    exact ⟨ret_int (by rw [hX.out]; rfl), hg.out.tr hg2⟩

theorem oCheck_any (x : Opx) (w : World) (hF : Fl w) : Calls Tryd.prog 7 #[.agg x.cells] w fun r w' => r = .returned (.int .i64 (ochk x)) ∧ Gr w w' := by
  cases h0 : decide (0 ≤ x.K ∧ x.K < 13)
  · exact Check_0 x h0 w
  cases h1 : decide (0 ≤ x.P ∧ x.P < 64)
  · exact Check_1 x h0 h1 w
  cases h2 : decide (0 ≤ x.T ∧ x.T < 64)
  · exact Check_2 x h0 h1 h2 w
  cases h3 : numOk x.N
  · exact Check_3 x h0 h1 h2 h3 w
  cases h4 : numOk x.A
  · exact Check_4 x h0 h1 h2 h3 h4 w
  cases h5 : numOk x.M
  · exact Check_5 x h0 h1 h2 h3 h4 h5 w
  cases h6 : decide (x.Pa.size ≤ 255)
  · exact Check_6 x h0 h1 h2 h3 h4 h5 h6 w
  cases h7 : decide (x.Da.size ≤ 255)
  · exact Check_7 x h0 h1 h2 h3 h4 h5 h6 h7 w
  exact Check_8 x h0 h1 h2 h3 h4 h5 h6 h7 w hF
end Go.Proofs.YtjjdgmabgiembaaDoor
