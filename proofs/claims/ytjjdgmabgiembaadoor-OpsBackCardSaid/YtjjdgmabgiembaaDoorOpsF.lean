/- The document's Check of an operation: the walk. -/
import Derived.Test.YtjjdgmabgiembaaDoorOpsE
set_option linter.unusedVariables false
set_option linter.unusedSimpArgs false
set_option maxHeartbeats 400000
namespace Go.Proofs.YtjjdgmabgiembaaDoor
open Go.RowKit Go.Shelf

set_option maxRecDepth 100000 in
theorem refCheck_0 (x : Opx) (h0 : (decide (x.K < 0)) = true) (w : World) : Calls Tryd.prog 8 #[.agg x.cells] w fun r w' => r = .returned (.int .i64 (ochk x)) ∧ Gr w w' := by
  have ob : (decide (0 ≤ x.K ∧ x.K < 13)) = false := by simp at h0 ⊢; omega
  have hX : Hid (ochk x = 15) := by show _ = _; unfold ochk; rw [if_pos ob]
  clear ob
  have hg := Lib.hid ((Gr.rfl' w).al (.cells x.cells 23))
  unfold Opx.cells at *
  go_enter Tryd.func8, Tryd.ntmps8
  go_wp2
  go_ret
  exact ⟨ret_int hX.out.symm, hg.out⟩

set_option maxRecDepth 100000 in
theorem refCheck_1 (x : Opx) (h0 : (decide (x.K < 0)) = false) (h1 : (decide (12 < x.K)) = true) (w : World) : Calls Tryd.prog 8 #[.agg x.cells] w fun r w' => r = .returned (.int .i64 (ochk x)) ∧ Gr w w' := by
  have ob : (decide (0 ≤ x.K ∧ x.K < 13)) = false := by simp at h1 ⊢; omega
  have hX : Hid (ochk x = 15) := by show _ = _; unfold ochk; rw [if_pos ob]
  clear ob
  have hg := Lib.hid ((Gr.rfl' w).al (.cells x.cells 23))
  unfold Opx.cells at *
  go_enter Tryd.func8, Tryd.ntmps8
  go_wp2
  go_ret
  exact ⟨ret_int hX.out.symm, hg.out⟩

set_option maxRecDepth 100000 in
theorem refCheck_2 (x : Opx) (h0 : (decide (x.K < 0)) = false) (h1 : (decide (12 < x.K)) = false) (h2 : (decide (x.P < 0)) = true) (w : World) : Calls Tryd.prog 8 #[.agg x.cells] w fun r w' => r = .returned (.int .i64 (ochk x)) ∧ Gr w w' := by
  have o0 : (decide (0 ≤ x.K ∧ x.K < 13)) = true := by simp at h0 h1 ⊢; omega
  have ob : (decide (0 ≤ x.P ∧ x.P < 64)) = false := by simp at h2 ⊢; omega
  have hX : Hid (ochk x = 11) := by show _ = _; unfold ochk; rw [if_neg (by rw [o0]; simp), if_pos ob]
  clear ob o0
  have hg := Lib.hid ((Gr.rfl' w).al (.cells x.cells 23))
  unfold Opx.cells at *
  go_enter Tryd.func8, Tryd.ntmps8
  go_wp2
  go_ret
  exact ⟨ret_int hX.out.symm, hg.out⟩

set_option maxRecDepth 100000 in
theorem refCheck_3 (x : Opx) (h0 : (decide (x.K < 0)) = false) (h1 : (decide (12 < x.K)) = false) (h2 : (decide (x.P < 0)) = false) (h3 : (decide (63 < x.P)) = true) (w : World) : Calls Tryd.prog 8 #[.agg x.cells] w fun r w' => r = .returned (.int .i64 (ochk x)) ∧ Gr w w' := by
  have o0 : (decide (0 ≤ x.K ∧ x.K < 13)) = true := by simp at h0 h1 ⊢; omega
  have ob : (decide (0 ≤ x.P ∧ x.P < 64)) = false := by simp at h3 ⊢; omega
  have hX : Hid (ochk x = 11) := by show _ = _; unfold ochk; rw [if_neg (by rw [o0]; simp), if_pos ob]
  clear ob o0
  have hg := Lib.hid ((Gr.rfl' w).al (.cells x.cells 23))
  unfold Opx.cells at *
  go_enter Tryd.func8, Tryd.ntmps8
  go_wp2
  go_ret
  exact ⟨ret_int hX.out.symm, hg.out⟩

set_option maxRecDepth 100000 in
theorem refCheck_4 (x : Opx) (h0 : (decide (x.K < 0)) = false) (h1 : (decide (12 < x.K)) = false) (h2 : (decide (x.P < 0)) = false) (h3 : (decide (63 < x.P)) = false) (h4 : (decide (x.T < 0)) = true) (w : World) : Calls Tryd.prog 8 #[.agg x.cells] w fun r w' => r = .returned (.int .i64 (ochk x)) ∧ Gr w w' := by
  have o0 : (decide (0 ≤ x.K ∧ x.K < 13)) = true := by simp at h0 h1 ⊢; omega
  have o1 : (decide (0 ≤ x.P ∧ x.P < 64)) = true := by simp at h2 h3 ⊢; omega
  have ob : (decide (0 ≤ x.T ∧ x.T < 64)) = false := by simp at h4 ⊢; omega
  have hX : Hid (ochk x = 11) := by show _ = _; unfold ochk; rw [if_neg (by rw [o0]; simp), if_neg (by rw [o1]; simp), if_pos ob]
  clear ob o0 o1
  have hg := Lib.hid ((Gr.rfl' w).al (.cells x.cells 23))
  unfold Opx.cells at *
  go_enter Tryd.func8, Tryd.ntmps8
  go_wp2
  go_ret
  exact ⟨ret_int hX.out.symm, hg.out⟩

set_option maxRecDepth 100000 in
theorem refCheck_5 (x : Opx) (h0 : (decide (x.K < 0)) = false) (h1 : (decide (12 < x.K)) = false) (h2 : (decide (x.P < 0)) = false) (h3 : (decide (63 < x.P)) = false) (h4 : (decide (x.T < 0)) = false) (h5 : (decide (63 < x.T)) = true) (w : World) : Calls Tryd.prog 8 #[.agg x.cells] w fun r w' => r = .returned (.int .i64 (ochk x)) ∧ Gr w w' := by
  have o0 : (decide (0 ≤ x.K ∧ x.K < 13)) = true := by simp at h0 h1 ⊢; omega
  have o1 : (decide (0 ≤ x.P ∧ x.P < 64)) = true := by simp at h2 h3 ⊢; omega
  have ob : (decide (0 ≤ x.T ∧ x.T < 64)) = false := by simp at h5 ⊢; omega
  have hX : Hid (ochk x = 11) := by show _ = _; unfold ochk; rw [if_neg (by rw [o0]; simp), if_neg (by rw [o1]; simp), if_pos ob]
  clear ob o0 o1
  have hg := Lib.hid ((Gr.rfl' w).al (.cells x.cells 23))
  unfold Opx.cells at *
  go_enter Tryd.func8, Tryd.ntmps8
  go_wp2
  go_ret
  exact ⟨ret_int hX.out.symm, hg.out⟩

set_option maxRecDepth 100000 in
theorem refCheck_6 (x : Opx) (h0 : (decide (x.K < 0)) = false) (h1 : (decide (12 < x.K)) = false) (h2 : (decide (x.P < 0)) = false) (h3 : (decide (63 < x.P)) = false) (h4 : (decide (x.T < 0)) = false) (h5 : (decide (63 < x.T)) = false) (h6 : (numOk x.N) = false) (w : World) : Calls Tryd.prog 8 #[.agg x.cells] w fun r w' => r = .returned (.int .i64 (ochk x)) ∧ Gr w w' := by
  have o0 : (decide (0 ≤ x.K ∧ x.K < 13)) = true := by simp at h0 h1 ⊢; omega
  have o1 : (decide (0 ≤ x.P ∧ x.P < 64)) = true := by simp at h2 h3 ⊢; omega
  have o2 : (decide (0 ≤ x.T ∧ x.T < 64)) = true := by simp at h4 h5 ⊢; omega
  have ob : (numOk x.N) = false := h6
  have hX : Hid (ochk x = 12) := by show _ = _; unfold ochk; rw [if_neg (by rw [o0]; simp), if_neg (by rw [o1]; simp), if_neg (by rw [o2]; simp), if_pos ob]
  clear ob o0 o1 o2
  have hg := Lib.hid ((Gr.rfl' w).al (.cells x.cells 23))
  unfold Opx.cells at *
  go_enter Tryd.func8, Tryd.ntmps8
  go_wp2_with fail
  refine (num_any x.N _).mono ?_
  rintro r w1 ⟨rfl, rfl⟩
  rw [h6]
  go_wp2
  go_ret
  exact ⟨ret_int hX.out.symm, hg.out⟩

set_option maxRecDepth 100000 in
theorem refCheck_7 (x : Opx) (h0 : (decide (x.K < 0)) = false) (h1 : (decide (12 < x.K)) = false) (h2 : (decide (x.P < 0)) = false) (h3 : (decide (63 < x.P)) = false) (h4 : (decide (x.T < 0)) = false) (h5 : (decide (63 < x.T)) = false) (h6 : (numOk x.N) = true) (h7 : (numOk x.A) = false) (w : World) : Calls Tryd.prog 8 #[.agg x.cells] w fun r w' => r = .returned (.int .i64 (ochk x)) ∧ Gr w w' := by
  have o0 : (decide (0 ≤ x.K ∧ x.K < 13)) = true := by simp at h0 h1 ⊢; omega
  have o1 : (decide (0 ≤ x.P ∧ x.P < 64)) = true := by simp at h2 h3 ⊢; omega
  have o2 : (decide (0 ≤ x.T ∧ x.T < 64)) = true := by simp at h4 h5 ⊢; omega
  have o3 : (numOk x.N) = true := h6
  have ob : (numOk x.A) = false := h7
  have hX : Hid (ochk x = 12) := by show _ = _; unfold ochk; rw [if_neg (by rw [o0]; simp), if_neg (by rw [o1]; simp), if_neg (by rw [o2]; simp), if_neg (by rw [o3]; simp), if_pos ob]
  clear ob o0 o1 o2 o3
  have hg := Lib.hid ((Gr.rfl' w).al (.cells x.cells 23))
  unfold Opx.cells at *
  go_enter Tryd.func8, Tryd.ntmps8
  go_wp2_with fail
  refine (num_any x.N _).mono ?_
  rintro r w1 ⟨rfl, rfl⟩
  rw [h6]
  go_wp2_with fail
  refine (num_any x.A _).mono ?_
  rintro r w1 ⟨rfl, rfl⟩
  rw [h7]
  go_wp2
  go_ret
  exact ⟨ret_int hX.out.symm, hg.out⟩

set_option maxRecDepth 100000 in
theorem refCheck_8 (x : Opx) (h0 : (decide (x.K < 0)) = false) (h1 : (decide (12 < x.K)) = false) (h2 : (decide (x.P < 0)) = false) (h3 : (decide (63 < x.P)) = false) (h4 : (decide (x.T < 0)) = false) (h5 : (decide (63 < x.T)) = false) (h6 : (numOk x.N) = true) (h7 : (numOk x.A) = true) (h8 : (numOk x.M) = false) (w : World) : Calls Tryd.prog 8 #[.agg x.cells] w fun r w' => r = .returned (.int .i64 (ochk x)) ∧ Gr w w' := by
  have o0 : (decide (0 ≤ x.K ∧ x.K < 13)) = true := by simp at h0 h1 ⊢; omega
  have o1 : (decide (0 ≤ x.P ∧ x.P < 64)) = true := by simp at h2 h3 ⊢; omega
  have o2 : (decide (0 ≤ x.T ∧ x.T < 64)) = true := by simp at h4 h5 ⊢; omega
  have o3 : (numOk x.N) = true := h6
  have o4 : (numOk x.A) = true := h7
  have ob : (numOk x.M) = false := h8
  have hX : Hid (ochk x = 12) := by show _ = _; unfold ochk; rw [if_neg (by rw [o0]; simp), if_neg (by rw [o1]; simp), if_neg (by rw [o2]; simp), if_neg (by rw [o3]; simp), if_neg (by rw [o4]; simp), if_pos ob]
  clear ob o0 o1 o2 o3 o4
  have hg := Lib.hid ((Gr.rfl' w).al (.cells x.cells 23))
  unfold Opx.cells at *
  go_enter Tryd.func8, Tryd.ntmps8
  go_wp2_with fail
  refine (num_any x.N _).mono ?_
  rintro r w1 ⟨rfl, rfl⟩
  rw [h6]
  go_wp2_with fail
  refine (num_any x.A _).mono ?_
  rintro r w1 ⟨rfl, rfl⟩
  rw [h7]
  go_wp2_with fail
  refine (num_any x.M _).mono ?_
  rintro r w1 ⟨rfl, rfl⟩
  rw [h8]
  go_wp2
  go_ret
  exact ⟨ret_int hX.out.symm, hg.out⟩

set_option maxRecDepth 100000 in
theorem refCheck_9 (x : Opx) (h0 : (decide (x.K < 0)) = false) (h1 : (decide (12 < x.K)) = false) (h2 : (decide (x.P < 0)) = false) (h3 : (decide (63 < x.P)) = false) (h4 : (decide (x.T < 0)) = false) (h5 : (decide (63 < x.T)) = false) (h6 : (numOk x.N) = true) (h7 : (numOk x.A) = true) (h8 : (numOk x.M) = true) (h9 : (decide ((255 : Int) < x.Pa.size)) = true) (w : World) : Calls Tryd.prog 8 #[.agg x.cells] w fun r w' => r = .returned (.int .i64 (ochk x)) ∧ Gr w w' := by
  have o0 : (decide (0 ≤ x.K ∧ x.K < 13)) = true := by simp at h0 h1 ⊢; omega
  have o1 : (decide (0 ≤ x.P ∧ x.P < 64)) = true := by simp at h2 h3 ⊢; omega
  have o2 : (decide (0 ≤ x.T ∧ x.T < 64)) = true := by simp at h4 h5 ⊢; omega
  have o3 : (numOk x.N) = true := h6
  have o4 : (numOk x.A) = true := h7
  have o5 : (numOk x.M) = true := h8
  have ob : (decide (x.Pa.size ≤ 255)) = false := by simp at h9 ⊢; omega
  have hX : Hid (ochk x = 2) := by show _ = _; unfold ochk; rw [if_neg (by rw [o0]; simp), if_neg (by rw [o1]; simp), if_neg (by rw [o2]; simp), if_neg (by rw [o3]; simp), if_neg (by rw [o4]; simp), if_neg (by rw [o5]; simp), if_pos ob]
  clear ob o0 o1 o2 o3 o4 o5
  have hg := Lib.hid ((Gr.rfl' w).al (.cells x.cells 23))
  unfold Opx.cells at *
  go_enter Tryd.func8, Tryd.ntmps8
  go_wp2_with fail
  refine (num_any x.N _).mono ?_
  rintro r w1 ⟨rfl, rfl⟩
  rw [h6]
  go_wp2_with fail
  refine (num_any x.A _).mono ?_
  rintro r w1 ⟨rfl, rfl⟩
  rw [h7]
  go_wp2_with fail
  refine (num_any x.M _).mono ?_
  rintro r w1 ⟨rfl, rfl⟩
  rw [h8]
  go_wp2
  go_ret
  exact ⟨ret_int hX.out.symm, hg.out⟩

set_option maxRecDepth 100000 in
theorem refCheck_10 (x : Opx) (h0 : (decide (x.K < 0)) = false) (h1 : (decide (12 < x.K)) = false) (h2 : (decide (x.P < 0)) = false) (h3 : (decide (63 < x.P)) = false) (h4 : (decide (x.T < 0)) = false) (h5 : (decide (63 < x.T)) = false) (h6 : (numOk x.N) = true) (h7 : (numOk x.A) = true) (h8 : (numOk x.M) = true) (h9 : (decide ((255 : Int) < x.Pa.size)) = false) (h10 : (decide ((255 : Int) < x.Da.size)) = true) (w : World) : Calls Tryd.prog 8 #[.agg x.cells] w fun r w' => r = .returned (.int .i64 (ochk x)) ∧ Gr w w' := by
  have o0 : (decide (0 ≤ x.K ∧ x.K < 13)) = true := by simp at h0 h1 ⊢; omega
  have o1 : (decide (0 ≤ x.P ∧ x.P < 64)) = true := by simp at h2 h3 ⊢; omega
  have o2 : (decide (0 ≤ x.T ∧ x.T < 64)) = true := by simp at h4 h5 ⊢; omega
  have o3 : (numOk x.N) = true := h6
  have o4 : (numOk x.A) = true := h7
  have o5 : (numOk x.M) = true := h8
  have o6 : (decide (x.Pa.size ≤ 255)) = true := by simp at h9 ⊢; omega
  have ob : (decide (x.Da.size ≤ 255)) = false := by simp at h10 ⊢; omega
  have hX : Hid (ochk x = 2) := by show _ = _; unfold ochk; rw [if_neg (by rw [o0]; simp), if_neg (by rw [o1]; simp), if_neg (by rw [o2]; simp), if_neg (by rw [o3]; simp), if_neg (by rw [o4]; simp), if_neg (by rw [o5]; simp), if_neg (by rw [o6]; simp), if_pos ob]
  clear ob o0 o1 o2 o3 o4 o5 o6
  have hg := Lib.hid ((Gr.rfl' w).al (.cells x.cells 23))
  unfold Opx.cells at *
  go_enter Tryd.func8, Tryd.ntmps8
  go_wp2_with fail
  refine (num_any x.N _).mono ?_
  rintro r w1 ⟨rfl, rfl⟩
  rw [h6]
  go_wp2_with fail
  refine (num_any x.A _).mono ?_
  rintro r w1 ⟨rfl, rfl⟩
  rw [h7]
  go_wp2_with fail
  refine (num_any x.M _).mono ?_
  rintro r w1 ⟨rfl, rfl⟩
  rw [h8]
  go_wp2
  go_ret
  exact ⟨ret_int hX.out.symm, hg.out⟩

set_option maxRecDepth 100000 in
set_option maxHeartbeats 1000000 in
theorem refCheck_ok (x : Opx) (h0 : (decide (x.K < 0)) = false) (h1 : (decide (12 < x.K)) = false) (h2 : (decide (x.P < 0)) = false) (h3 : (decide (63 < x.P)) = false) (h4 : (decide (x.T < 0)) = false) (h5 : (decide (63 < x.T)) = false) (h6 : (numOk x.N) = true) (h7 : (numOk x.A) = true) (h8 : (numOk x.M) = true) (h9 : (decide ((255 : Int) < x.Pa.size)) = false) (h10 : (decide ((255 : Int) < x.Da.size)) = false) (w : World) : Calls Tryd.prog 8 #[.agg x.cells] w fun r w' => r = .returned (.int .i64 (ochk x)) ∧ Gr w w' := by
  have o0 : (decide (0 ≤ x.K ∧ x.K < 13)) = true := by simp at h0 h1 ⊢; omega
  have o1 : (decide (0 ≤ x.P ∧ x.P < 64)) = true := by simp at h2 h3 ⊢; omega
  have o2 : (decide (0 ≤ x.T ∧ x.T < 64)) = true := by simp at h4 h5 ⊢; omega
  have o3 : (numOk x.N) = true := h6
  have o4 : (numOk x.A) = true := h7
  have o5 : (numOk x.M) = true := h8
  have o6 : (decide (x.Pa.size ≤ 255)) = true := by simp at h9 ⊢; omega
  have o7 : (decide (x.Da.size ≤ 255)) = true := by simp at h10 ⊢; omega
  have hX : Hid (ochk x = if spareB x = true then 7 else 0) := by show _ = _; unfold ochk; rw [if_neg (by rw [o0]; simp), if_neg (by rw [o1]; simp), if_neg (by rw [o2]; simp), if_neg (by rw [o3]; simp), if_neg (by rw [o4]; simp), if_neg (by rw [o5]; simp), if_neg (by rw [o6]; simp), if_neg (by rw [o7]; simp)]
  have hK : 0 ≤ x.K ∧ x.K ≤ 12 := by simp at h0 h1; omega
  clear o0 o1 o2 o3 o4 o5 o6 o7
  have hEq : ∀ w, (Op.equalIn 10000 23 (.agg (bareV x).cells) (.agg #[.int .i64 x.K, .int .i64 x.P, .int .i64 0, .int .i64 0, .int .i64 0, .int .i64 0, .string ⟨#[]⟩, .string ⟨#[]⟩])).run Tryd.prog w = .ok (!spareB x) w := fun w => by
    have h := eqOp (bareV x) ⟨x.K, x.P, 0, 0, 0, 0, ⟨#[]⟩, ⟨#[]⟩⟩ w
    rw [bare_eq x hK.1 hK.2] at h
    exact h
  have hBare := Lib.hid (bare_any x hK.1 hK.2)
  clear hK
  have hg := (Gr.rfl' w).al (.cells x.cells 23)
  have HB0 := Lib.hid (World.alloc_heap_new w (.cells x.cells 23))
  have hcells : x.cells = #[.int .i64 x.K, .int .i64 x.P, .int .i64 x.T, .int .i64 x.N, .int .i64 x.A, .int .i64 x.M, .string x.Pa, .string x.Da] := rfl
  rw [hcells] at hg HB0 ⊢
  clear hcells
  go_enter Tryd.func8, Tryd.ntmps8
  go_wp2_with fail
  refine (num_any x.N _).mono ?_
  rintro r w1 ⟨rfl, rfl⟩
  rw [h6]
  go_wp2_with fail
  refine (num_any x.A _).mono ?_
  rintro r w1 ⟨rfl, rfl⟩
  rw [h7]
  go_wp2_with fail
  refine (num_any x.M _).mono ?_
  rintro r w1 ⟨rfl, rfl⟩
  rw [h8]
  go_upto_region 9 with (fail)
  obtain ⟨W, hW⟩ : ∃ W, w.alloc (.cells #[.int .i64 x.K, .int .i64 x.P, .int .i64 x.T, .int .i64 x.N, .int .i64 x.A, .int .i64 x.M, .string x.Pa, .string x.Da] 23) = W := ⟨_, rfl⟩
  rw [hW] at hg HB0 ⊢
  clear hW
  have hcell : ∀ (W' : World), Gr W W' → ∀ (j : Nat) (v : Value), (#[.int .i64 x.K, .int .i64 x.P, .int .i64 x.T, .int .i64 x.N, .int .i64 x.A, .int .i64 x.M, .string x.Pa, .string x.Da] : Array Value)[j]? = some v → W'.cell? ⟨w.heap.size, j, none⟩ = some v := fun W' g' j v hv => by
    have hb := (g'.block _ (Array.getElem?_eq_some_iff.1 HB0.out).1).trans HB0.out
    simp only [World.cell?, hb]
    exact hv
  have HC := Lib.hid hcell
  clear hcell HB0
  have hgd : Gr W W.drew := (Gr.rfl' _).dr
  go_region_held3 (fun w' => w'.cell? ⟨w.heap.size, 0, none⟩ = some (.int .i64 x.K) ∧ w'.cell? ⟨w.heap.size, 1, none⟩ = some (.int .i64 x.P) ∧ w'.cell? ⟨w.heap.size, 2, none⟩ = some (.int .i64 x.T) ∧ w'.cell? ⟨w.heap.size, 3, none⟩ = some (.int .i64 x.N) ∧ w'.cell? ⟨w.heap.size, 4, none⟩ = some (.int .i64 x.A) ∧ w'.cell? ⟨w.heap.size, 5, none⟩ = some (.int .i64 x.M) ∧ w'.cell? ⟨w.heap.size, 6, none⟩ = some (.string x.Pa) ∧ w'.cell? ⟨w.heap.size, 7, none⟩ = some (.string x.Da)) (exact ⟨HC.out _ hgd 0 _ rfl, HC.out _ hgd 1 _ rfl, HC.out _ hgd 2 _ rfl, HC.out _ hgd 3 _ rfl, HC.out _ hgd 4 _ rfl, HC.out _ hgd 5 _ rfl, HC.out _ hgd 6 _ rfl, HC.out _ hgd 7 _ rfl⟩) (first
    | (go_at_call 24; refine (hBare.out _).mono ?_; rintro r wc ⟨rfl, hgc⟩; replace hgd := hgd.tr hgc; clear hgc))
  all_goals
    cases hs : spareB x
    all_goals
      rw [hs] at hX
      go_wp2
      go_ret
      exact ⟨ret_int (by rw [hX.out]; rfl), hg.tr hgd⟩

theorem refCheck_any (x : Opx) (w : World) : Calls Tryd.prog 8 #[.agg x.cells] w fun r w' => r = .returned (.int .i64 (ochk x)) ∧ Gr w w' := by
  cases h0 : decide (x.K < 0)
  rotate_left
  · exact refCheck_0 x h0 w
  cases h1 : decide (12 < x.K)
  rotate_left
  · exact refCheck_1 x h0 h1 w
  cases h2 : decide (x.P < 0)
  rotate_left
  · exact refCheck_2 x h0 h1 h2 w
  cases h3 : decide (63 < x.P)
  rotate_left
  · exact refCheck_3 x h0 h1 h2 h3 w
  cases h4 : decide (x.T < 0)
  rotate_left
  · exact refCheck_4 x h0 h1 h2 h3 h4 w
  cases h5 : decide (63 < x.T)
  rotate_left
  · exact refCheck_5 x h0 h1 h2 h3 h4 h5 w
  cases h6 : numOk x.N
  · exact refCheck_6 x h0 h1 h2 h3 h4 h5 h6 w
  cases h7 : numOk x.A
  · exact refCheck_7 x h0 h1 h2 h3 h4 h5 h6 h7 w
  cases h8 : numOk x.M
  · exact refCheck_8 x h0 h1 h2 h3 h4 h5 h6 h7 h8 w
  cases h9 : decide ((255 : Int) < x.Pa.size)
  rotate_left
  · exact refCheck_9 x h0 h1 h2 h3 h4 h5 h6 h7 h8 h9 w
  cases h10 : decide ((255 : Int) < x.Da.size)
  rotate_left
  · exact refCheck_10 x h0 h1 h2 h3 h4 h5 h6 h7 h8 h9 h10 w
  exact refCheck_ok x h0 h1 h2 h3 h4 h5 h6 h7 h8 h9 h10 w
end Go.Proofs.YtjjdgmabgiembaaDoor
