/- Which of two versions wins; what readers see. -/
import Derived.Test.YtfobnemocodomaaSynC
import Derived.Test.YtfobnemocodomaaSynB
set_option linter.unusedVariables false
set_option linter.unusedSimpArgs false
set_option maxHeartbeats 2000000
namespace Go.Proofs.Ytfobnemocodomaa
open Go.RowKit Go.Great

/-- a later dot -/
def later (x y : Vx) : Bool := decide (y.C < x.C ∨ (x.C = y.C ∧ y.P < x.P))
def winsV (x y : Vx) : Bool := if x.D ≠ y.D then y.D else later x y
theorem or_later (x y : Vx) : (0 < orC (cmpC x.C y.C) (cmpC x.P y.P)) ↔ later x y = true := by
  unfold orC cmpC later
  simp only [decide_eq_true_eq]
  by_cases h1 : x.C < y.C
  · rw [if_pos h1]; simp; omega
  · rw [if_neg h1]
    by_cases h2 : y.C < x.C
    · rw [if_pos h2]; simp; omega
    · rw [if_neg h2]
      by_cases h3 : x.P < y.P
      · rw [if_pos h3]; simp; omega
      · rw [if_neg h3]
        by_cases h4 : y.P < x.P
        · rw [if_pos h4]; simp; omega
        · rw [if_neg h4]; simp; omega
set_option maxRecDepth 100000 in
theorem wins1_any (x y : Vx) (w : World) : Calls Try.prog 49 #[.agg x.cells, .agg y.cells] w fun r w' => r = .returned (.bool (winsV x y)) ∧ Gr w w' := by
  have H2 := Lib.hid (Two.mk' w x y)
  by_cases hD : x.D = y.D
  · have hDb : (!x.D == y.D) = false := by rw [hD]; cases y.D <;> rfl
    have HW : Hid (winsV x y = later x y) := Lib.hid (by unfold winsV; rw [if_neg (by simp [hD])])
    have hor := or_later x y
    by_cases hl : later x y = true
    · have HL := Lib.hid hl
      rw [hl] at hor
      have hor := hor.2 rfl
      clear hl hD
      go_enter Try.func49, Try.ntmps49
      go_upto_region 1 with (fail)
      obtain ⟨W, hW⟩ : ∃ W, (w.alloc (.cells x.cells 49)).alloc (.cells y.cells 49) = W := ⟨_, rfl⟩
      rw [hW] at H2 ⊢
      clear hW
      obtain ⟨a0, a1, _, a3, _⟩ := bcells H2.out.a
      obtain ⟨b0, b1, _, b3, _⟩ := bcells H2.out.b
      go_upto_region 3 with (fail)
      have hSS : Gr W W.drew := (Gr.rfl' _).dr
      have A0 := Lib.hid a0
      have A1 := Lib.hid a1
      have B0 := Lib.hid b0
      have B1 := Lib.hid b1
      clear a0 a1 b0 b1 a3 b3
      refine region_T 17 (fun w' => Gr W w') (by kernel_rfl) ?_
      refine anyT_take (i := 0) (v := ?_) (some 12) rfl rfl (by kernel_rfl) (fun _ _ _ h => h) (Or.inl ⟨by rfl, ?_⟩) hSS ?_
      rotate_left
      · intro w' hSw; go_simp; (try with_reducible rfl)
      simp only [Act.put, List.setIfInBounds_toArray, List.set_cons_zero, List.set_cons_succ]
      refine anyT_take (i := 1) (v := ?_) (some 13) rfl rfl (by kernel_rfl) (fun _ _ _ h => h) (Or.inl ⟨by rfl, ?_⟩) hSS ?_
      rotate_left
      · intro w' hSw; go_simp; (try with_reducible rfl)
      simp only [Act.put, List.setIfInBounds_toArray, List.set_cons_zero, List.set_cons_succ]
      refine anyT_take (i := 2) (v := ?_) (some 14) rfl rfl (by kernel_rfl) (fun _ _ _ h => h) (Or.inl ⟨by rfl, ?_⟩) hSS ?_
      rotate_left
      · intro w' hSw; have q := hSw.cell A1.out; go_simp; (try with_reducible rfl)
      simp only [Act.put, List.setIfInBounds_toArray, List.set_cons_zero, List.set_cons_succ]
      refine anyT_take (i := 3) (v := ?_) (some 15) rfl rfl (by kernel_rfl) (fun _ _ _ h => h) (Or.inl ⟨by rfl, ?_⟩) hSS ?_
      rotate_left
      · intro w' hSw; go_simp; (try with_reducible rfl)
      simp only [Act.put, List.setIfInBounds_toArray, List.set_cons_zero, List.set_cons_succ]
      refine anyT_take (i := 4) (v := ?_) (some 16) rfl rfl (by kernel_rfl) (fun _ _ _ h => h) (Or.inl ⟨by rfl, ?_⟩) hSS ?_
      rotate_left
      · intro w' hSw; go_simp; (try with_reducible rfl)
      simp only [Act.put, List.setIfInBounds_toArray, List.set_cons_zero, List.set_cons_succ]
      refine anyT_take (i := 5) (v := ?_) (some 17) rfl rfl (by kernel_rfl) (fun _ _ _ h => h) (Or.inl ⟨by rfl, ?_⟩) hSS ?_
      rotate_left
      · intro w' hSw; have q := hSw.cell B1.out; go_simp; (try with_reducible rfl)
      simp only [Act.put, List.setIfInBounds_toArray, List.set_cons_zero, List.set_cons_succ]
      refine anyT_take (i := 7) (v := ?_) (some 19) rfl rfl (by kernel_rfl) (fun _ _ _ h => h) (Or.inl ⟨by rfl, ?_⟩) hSS ?_
      rotate_left
      · intro w' hSw; go_simp; (try with_reducible rfl)
      simp only [Act.put, List.setIfInBounds_toArray, List.set_cons_zero, List.set_cons_succ]
      refine anyT_take (i := 8) (v := ?_) (some 20) rfl rfl (by kernel_rfl) (fun _ _ _ h => h) (Or.inl ⟨by rfl, ?_⟩) hSS ?_
      rotate_left
      · intro w' hSw; go_simp; (try with_reducible rfl)
      simp only [Act.put, List.setIfInBounds_toArray, List.set_cons_zero, List.set_cons_succ]
      refine anyT_take (i := 9) (v := ?_) (some 21) rfl rfl (by kernel_rfl) (fun _ _ _ h => h) (Or.inl ⟨by rfl, ?_⟩) hSS ?_
      rotate_left
      · intro w' hSw; have q := hSw.cell A0.out; go_simp; (try with_reducible rfl)
      simp only [Act.put, List.setIfInBounds_toArray, List.set_cons_zero, List.set_cons_succ]
      refine anyT_take (i := 10) (v := ?_) (some 22) rfl rfl (by kernel_rfl) (fun _ _ _ h => h) (Or.inl ⟨by rfl, ?_⟩) hSS ?_
      rotate_left
      · intro w' hSw; go_simp; (try with_reducible rfl)
      simp only [Act.put, List.setIfInBounds_toArray, List.set_cons_zero, List.set_cons_succ]
      refine anyT_take (i := 11) (v := ?_) (some 23) rfl rfl (by kernel_rfl) (fun _ _ _ h => h) (Or.inl ⟨by rfl, ?_⟩) hSS ?_
      rotate_left
      · intro w' hSw; go_simp; (try with_reducible rfl)
      simp only [Act.put, List.setIfInBounds_toArray, List.set_cons_zero, List.set_cons_succ]
      refine anyT_take (i := 12) (v := ?_) (some 24) rfl rfl (by kernel_rfl) (fun _ _ _ h => h) (Or.inl ⟨by rfl, ?_⟩) hSS ?_
      rotate_left
      · intro w' hSw; have q := hSw.cell B0.out; go_simp; (try with_reducible rfl)
      simp only [Act.put, List.setIfInBounds_toArray, List.set_cons_zero, List.set_cons_succ]
      refine anyT_callG (i := 6) (some 18) 100 #[.int .i64 x.C, .int .i64 y.C] (by kernel_rfl) rfl (by kernel_rfl) rfl (by kernel_rfl) ?_
      refine (Compare_int_any x.C y.C _).mono ?_
      rintro e wd ⟨rfl, hgd⟩
      replace hSS := hSS.tr hgd
      refine ⟨_, rfl, fun _ => hSS, ?_⟩
      simp only [Act.put, List.setIfInBounds_toArray, List.set_cons_zero, List.set_cons_succ]
      clear hgd
      refine anyT_callG (i := 13) (some 25) 100 #[.int .i64 x.P, .int .i64 y.P] (by kernel_rfl) rfl (by kernel_rfl) rfl (by kernel_rfl) ?_
      refine (Compare_int_any x.P y.P _).mono ?_
      rintro e wd ⟨rfl, hgd⟩
      replace hSS := hSS.tr hgd
      refine ⟨_, rfl, fun _ => hSS, ?_⟩
      simp only [Act.put, List.setIfInBounds_toArray, List.set_cons_zero, List.set_cons_succ]
      clear hgd
      obtain ⟨p, hp⟩ : ∃ p, cmpC x.C y.C = p := ⟨_, rfl⟩
      obtain ⟨q, hq⟩ : ∃ p, cmpC x.P y.P = p := ⟨_, rfl⟩
      rw [hp, hq] at hor
      rw [hp, hq]
      clear hp hq
      obtain ⟨k0, k1⟩ := two_ints (W := wd) (.int .i64 p) (.int .i64 q) 3
      have hga : Gr wd (wd.alloc (.cells #[.int .i64 p, .int .i64 q] 3)) := (Gr.rfl' wd).al _
      refine anyT_its (i := 14) (by kernel_rfl) ?_
      refine wpOp_val (some 26) (.slice (some ⟨wd.heap.size, 0, none⟩) 2 2) rfl (by kernel_rfl) rfl (w' := wd.alloc (.cells #[.int .i64 p, .int .i64 q] 3)) (by kernel_rfl) ⟨fun _ => hSS.tr hga, ?_⟩
      simp only [Act.put, List.setIfInBounds_toArray, List.set_cons_zero, List.set_cons_succ]
      replace hSS := hSS.tr hga
      refine anyT_callG (i := 15) (some 27) 99 #[.slice (some ⟨wd.heap.size, 0, none⟩) 2 2] (by kernel_rfl) rfl (by kernel_rfl) rfl (by kernel_rfl) ?_
      refine (OrInt_any p q wd.heap.size _ k0 k1).mono ?_
      rintro e wd ⟨rfl, hgd⟩
      replace hSS := hSS.tr hgd
      refine ⟨_, rfl, fun _ => hSS, ?_⟩
      simp only [Act.put, List.setIfInBounds_toArray, List.set_cons_zero, List.set_cons_succ]
      clear hgd
      obtain ⟨o, ho⟩ : ∃ o, orC p q = o := ⟨_, rfl⟩
      rw [ho] at hor
      rw [ho]
      clear ho k0 k1 hga
      have hgt : o > 0 := hor
      refine anyT_take (i := 16) (v := ?_) (some 28) rfl rfl (by kernel_rfl) (fun _ _ _ h => h) (Or.inl ⟨by rfl, ?_⟩) hSS ?_
      rotate_left
      · intro w' hSw; go_simp; (try with_reducible rfl)
      simp only [Act.put, List.setIfInBounds_toArray, List.set_cons_zero, List.set_cons_succ]
      refine anyT_last (some 4) (.bool true) (by kernel_rfl) (by kernel_rfl) rfl (by kernel_rfl) rfl (by kernel_rfl) ?_
      simp only [Act.put, List.setIfInBounds_toArray, List.set_cons_zero, List.set_cons_succ]
      go_wp2
      go_ret
      rw [HW.out, HL.out]
      exact ⟨rfl, H2.out.gr.tr hSS⟩
    · have HL : Hid (later x y = false) := Lib.hid (by simpa using hl)
      have hor : ¬ 0 < orC (cmpC x.C y.C) (cmpC x.P y.P) := fun k => hl (hor.1 k)
      clear hl hD
      go_enter Try.func49, Try.ntmps49
      go_upto_region 1 with (fail)
      obtain ⟨W, hW⟩ : ∃ W, (w.alloc (.cells x.cells 49)).alloc (.cells y.cells 49) = W := ⟨_, rfl⟩
      rw [hW] at H2 ⊢
      clear hW
      obtain ⟨a0, a1, _, a3, _⟩ := bcells H2.out.a
      obtain ⟨b0, b1, _, b3, _⟩ := bcells H2.out.b
      go_upto_region 3 with (fail)
      have hSS : Gr W W.drew := (Gr.rfl' _).dr
      have A0 := Lib.hid a0
      have A1 := Lib.hid a1
      have B0 := Lib.hid b0
      have B1 := Lib.hid b1
      clear a0 a1 b0 b1 a3 b3
      refine region_T 17 (fun w' => Gr W w') (by kernel_rfl) ?_
      refine anyT_take (i := 0) (v := ?_) (some 12) rfl rfl (by kernel_rfl) (fun _ _ _ h => h) (Or.inl ⟨by rfl, ?_⟩) hSS ?_
      rotate_left
      · intro w' hSw; go_simp; (try with_reducible rfl)
      simp only [Act.put, List.setIfInBounds_toArray, List.set_cons_zero, List.set_cons_succ]
      refine anyT_take (i := 1) (v := ?_) (some 13) rfl rfl (by kernel_rfl) (fun _ _ _ h => h) (Or.inl ⟨by rfl, ?_⟩) hSS ?_
      rotate_left
      · intro w' hSw; go_simp; (try with_reducible rfl)
      simp only [Act.put, List.setIfInBounds_toArray, List.set_cons_zero, List.set_cons_succ]
      refine anyT_take (i := 2) (v := ?_) (some 14) rfl rfl (by kernel_rfl) (fun _ _ _ h => h) (Or.inl ⟨by rfl, ?_⟩) hSS ?_
      rotate_left
      · intro w' hSw; have q := hSw.cell A1.out; go_simp; (try with_reducible rfl)
      simp only [Act.put, List.setIfInBounds_toArray, List.set_cons_zero, List.set_cons_succ]
      refine anyT_take (i := 3) (v := ?_) (some 15) rfl rfl (by kernel_rfl) (fun _ _ _ h => h) (Or.inl ⟨by rfl, ?_⟩) hSS ?_
      rotate_left
      · intro w' hSw; go_simp; (try with_reducible rfl)
      simp only [Act.put, List.setIfInBounds_toArray, List.set_cons_zero, List.set_cons_succ]
      refine anyT_take (i := 4) (v := ?_) (some 16) rfl rfl (by kernel_rfl) (fun _ _ _ h => h) (Or.inl ⟨by rfl, ?_⟩) hSS ?_
      rotate_left
      · intro w' hSw; go_simp; (try with_reducible rfl)
      simp only [Act.put, List.setIfInBounds_toArray, List.set_cons_zero, List.set_cons_succ]
      refine anyT_take (i := 5) (v := ?_) (some 17) rfl rfl (by kernel_rfl) (fun _ _ _ h => h) (Or.inl ⟨by rfl, ?_⟩) hSS ?_
      rotate_left
      · intro w' hSw; have q := hSw.cell B1.out; go_simp; (try with_reducible rfl)
      simp only [Act.put, List.setIfInBounds_toArray, List.set_cons_zero, List.set_cons_succ]
      refine anyT_take (i := 7) (v := ?_) (some 19) rfl rfl (by kernel_rfl) (fun _ _ _ h => h) (Or.inl ⟨by rfl, ?_⟩) hSS ?_
      rotate_left
      · intro w' hSw; go_simp; (try with_reducible rfl)
      simp only [Act.put, List.setIfInBounds_toArray, List.set_cons_zero, List.set_cons_succ]
      refine anyT_take (i := 8) (v := ?_) (some 20) rfl rfl (by kernel_rfl) (fun _ _ _ h => h) (Or.inl ⟨by rfl, ?_⟩) hSS ?_
      rotate_left
      · intro w' hSw; go_simp; (try with_reducible rfl)
      simp only [Act.put, List.setIfInBounds_toArray, List.set_cons_zero, List.set_cons_succ]
      refine anyT_take (i := 9) (v := ?_) (some 21) rfl rfl (by kernel_rfl) (fun _ _ _ h => h) (Or.inl ⟨by rfl, ?_⟩) hSS ?_
      rotate_left
      · intro w' hSw; have q := hSw.cell A0.out; go_simp; (try with_reducible rfl)
      simp only [Act.put, List.setIfInBounds_toArray, List.set_cons_zero, List.set_cons_succ]
      refine anyT_take (i := 10) (v := ?_) (some 22) rfl rfl (by kernel_rfl) (fun _ _ _ h => h) (Or.inl ⟨by rfl, ?_⟩) hSS ?_
      rotate_left
      · intro w' hSw; go_simp; (try with_reducible rfl)
      simp only [Act.put, List.setIfInBounds_toArray, List.set_cons_zero, List.set_cons_succ]
      refine anyT_take (i := 11) (v := ?_) (some 23) rfl rfl (by kernel_rfl) (fun _ _ _ h => h) (Or.inl ⟨by rfl, ?_⟩) hSS ?_
      rotate_left
      · intro w' hSw; go_simp; (try with_reducible rfl)
      simp only [Act.put, List.setIfInBounds_toArray, List.set_cons_zero, List.set_cons_succ]
      refine anyT_take (i := 12) (v := ?_) (some 24) rfl rfl (by kernel_rfl) (fun _ _ _ h => h) (Or.inl ⟨by rfl, ?_⟩) hSS ?_
      rotate_left
      · intro w' hSw; have q := hSw.cell B0.out; go_simp; (try with_reducible rfl)
      simp only [Act.put, List.setIfInBounds_toArray, List.set_cons_zero, List.set_cons_succ]
      refine anyT_callG (i := 6) (some 18) 100 #[.int .i64 x.C, .int .i64 y.C] (by kernel_rfl) rfl (by kernel_rfl) rfl (by kernel_rfl) ?_
      refine (Compare_int_any x.C y.C _).mono ?_
      rintro e wd ⟨rfl, hgd⟩
      replace hSS := hSS.tr hgd
      refine ⟨_, rfl, fun _ => hSS, ?_⟩
      simp only [Act.put, List.setIfInBounds_toArray, List.set_cons_zero, List.set_cons_succ]
      clear hgd
      refine anyT_callG (i := 13) (some 25) 100 #[.int .i64 x.P, .int .i64 y.P] (by kernel_rfl) rfl (by kernel_rfl) rfl (by kernel_rfl) ?_
      refine (Compare_int_any x.P y.P _).mono ?_
      rintro e wd ⟨rfl, hgd⟩
      replace hSS := hSS.tr hgd
      refine ⟨_, rfl, fun _ => hSS, ?_⟩
      simp only [Act.put, List.setIfInBounds_toArray, List.set_cons_zero, List.set_cons_succ]
      clear hgd
      obtain ⟨p, hp⟩ : ∃ p, cmpC x.C y.C = p := ⟨_, rfl⟩
      obtain ⟨q, hq⟩ : ∃ p, cmpC x.P y.P = p := ⟨_, rfl⟩
      rw [hp, hq] at hor
      rw [hp, hq]
      clear hp hq
      obtain ⟨k0, k1⟩ := two_ints (W := wd) (.int .i64 p) (.int .i64 q) 3
      have hga : Gr wd (wd.alloc (.cells #[.int .i64 p, .int .i64 q] 3)) := (Gr.rfl' wd).al _
      refine anyT_its (i := 14) (by kernel_rfl) ?_
      refine wpOp_val (some 26) (.slice (some ⟨wd.heap.size, 0, none⟩) 2 2) rfl (by kernel_rfl) rfl (w' := wd.alloc (.cells #[.int .i64 p, .int .i64 q] 3)) (by kernel_rfl) ⟨fun _ => hSS.tr hga, ?_⟩
      simp only [Act.put, List.setIfInBounds_toArray, List.set_cons_zero, List.set_cons_succ]
      replace hSS := hSS.tr hga
      refine anyT_callG (i := 15) (some 27) 99 #[.slice (some ⟨wd.heap.size, 0, none⟩) 2 2] (by kernel_rfl) rfl (by kernel_rfl) rfl (by kernel_rfl) ?_
      refine (OrInt_any p q wd.heap.size _ k0 k1).mono ?_
      rintro e wd ⟨rfl, hgd⟩
      replace hSS := hSS.tr hgd
      refine ⟨_, rfl, fun _ => hSS, ?_⟩
      simp only [Act.put, List.setIfInBounds_toArray, List.set_cons_zero, List.set_cons_succ]
      clear hgd
      obtain ⟨o, ho⟩ : ∃ o, orC p q = o := ⟨_, rfl⟩
      rw [ho] at hor
      rw [ho]
      clear ho k0 k1 hga
      have hgt : ¬ o > 0 := hor
      refine anyT_take (i := 16) (v := ?_) (some 28) rfl rfl (by kernel_rfl) (fun _ _ _ h => h) (Or.inl ⟨by rfl, ?_⟩) hSS ?_
      rotate_left
      · intro w' hSw; go_simp; (try with_reducible rfl)
      simp only [Act.put, List.setIfInBounds_toArray, List.set_cons_zero, List.set_cons_succ]
      refine anyT_last (some 4) (.bool false) (by kernel_rfl) (by kernel_rfl) rfl (by kernel_rfl) rfl (by kernel_rfl) ?_
      simp only [Act.put, List.setIfInBounds_toArray, List.set_cons_zero, List.set_cons_succ]
      go_wp2
      go_ret
      rw [HW.out, HL.out]
      exact ⟨rfl, H2.out.gr.tr hSS⟩
  · have hDb : (!x.D == y.D) = true := by revert hD; cases x.D <;> cases y.D <;> simp
    have HW : Hid (winsV x y = y.D) := Lib.hid (by unfold winsV; rw [if_pos hD])
    clear hD
    go_enter Try.func49, Try.ntmps49
    go_upto_region 1 with (fail)
    obtain ⟨W, hW⟩ : ∃ W, (w.alloc (.cells x.cells 49)).alloc (.cells y.cells 49) = W := ⟨_, rfl⟩
    rw [hW] at H2 ⊢
    clear hW
    obtain ⟨a0, a1, _, a3, _⟩ := bcells H2.out.a
    obtain ⟨b0, b1, _, b3, _⟩ := bcells H2.out.b
    go_wp2
    go_ret
    rw [HW.out]
    exact ⟨rfl, H2.out.gr⟩
set_option maxRecDepth 100000 in
theorem wins2_any (x y : Vx) (w : World) : Calls Try.prog 50 #[.agg x.cells, .agg y.cells] w fun r w' => r = .returned (.bool (winsV x y)) ∧ Gr w w' := by
  have H2 := Lib.hid (Two.mk' w x y)
  by_cases hD : x.D = y.D
  · have hDb : (!x.D == y.D) = false := by rw [hD]; cases y.D <;> rfl
    by_cases hC : x.C = y.C
    · have hCb : (x.C != y.C) = false := by simp [hC]
      have HW : Hid (winsV x y = decide (x.P > y.P)) := Lib.hid (by unfold winsV later; rw [if_neg (by simp [hD])]; simp [hC])
      clear hC hD
      go_enter Try.func50, Try.ntmps50
      go_upto_region 1 with (fail)
      obtain ⟨W, hW⟩ : ∃ W, (w.alloc (.cells x.cells 49)).alloc (.cells y.cells 49) = W := ⟨_, rfl⟩
      rw [hW] at H2 ⊢
      clear hW
      obtain ⟨a0, a1, _, a3, _⟩ := bcells H2.out.a
      obtain ⟨b0, b1, _, b3, _⟩ := bcells H2.out.b
      go_wp2
      go_ret
      rw [HW.out]
      exact ⟨rfl, H2.out.gr⟩
    · have hCb : (x.C != y.C) = true := by simp [hC]
      have HW : Hid (winsV x y = decide (x.C > y.C)) := Lib.hid (by unfold winsV later; rw [if_neg (by simp [hD])]; simp [hC])
      clear hC hD
      go_enter Try.func50, Try.ntmps50
      go_upto_region 1 with (fail)
      obtain ⟨W, hW⟩ : ∃ W, (w.alloc (.cells x.cells 49)).alloc (.cells y.cells 49) = W := ⟨_, rfl⟩
      rw [hW] at H2 ⊢
      clear hW
      obtain ⟨a0, a1, _, a3, _⟩ := bcells H2.out.a
      obtain ⟨b0, b1, _, b3, _⟩ := bcells H2.out.b
      go_wp2
      go_ret
      rw [HW.out]
      exact ⟨rfl, H2.out.gr⟩
  · have hDb : (!x.D == y.D) = true := by revert hD; cases x.D <;> cases y.D <;> simp
    have HW : Hid (winsV x y = y.D) := Lib.hid (by unfold winsV; rw [if_pos hD])
    clear hD
    go_enter Try.func50, Try.ntmps50
    go_upto_region 1 with (fail)
    obtain ⟨W, hW⟩ : ∃ W, (w.alloc (.cells x.cells 49)).alloc (.cells y.cells 49) = W := ⟨_, rfl⟩
    rw [hW] at H2 ⊢
    clear hW
    obtain ⟨a0, a1, _, a3, _⟩ := bcells H2.out.a
    obtain ⟨b0, b1, _, b3, _⟩ := bcells H2.out.b
    go_wp2
    go_ret
    rw [HW.out]
    exact ⟨rfl, H2.out.gr⟩
end Go.Proofs.Ytfobnemocodomaa
