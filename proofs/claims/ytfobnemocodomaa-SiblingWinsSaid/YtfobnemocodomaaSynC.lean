/- cmp.Compare, cmp.Or; which of two versions wins; the order of syncing. -/
import Derived.Test.YtfobnemocodomaaRegU
import Derived.Test.YtfobnemocodomaaSibE
set_option linter.unusedVariables false
set_option linter.unusedSimpArgs false
set_option maxHeartbeats 1000000
namespace Go.Proofs.Ytfobnemocodomaa
open Go.RowKit Go.Great

def cmpC (x y : Int) : Int := if x < y then -1 else if y < x then 1 else 0
def orC (p q : Int) : Int := if p ≠ 0 then p else q
set_option maxRecDepth 100000 in
theorem isNaN_any (x : Int) (w : World) : Calls Try.prog 168 #[.int .i64 x] w fun r w' => r = .returned (.bool false) ∧ Gr w w' := by
  have hb : (x != x) = false := by simp
  go_enter Try.func168, Try.ntmps168
  go_wp2
  go_ret
  exact ⟨rfl, Gr.rfl' _⟩
set_option maxRecDepth 100000 in
theorem Compare_int_any (x y : Int) (w : World) : Calls Try.prog 100 #[.int .i64 x, .int .i64 y] w fun r w' => r = .returned (.int .i64 (cmpC x y)) ∧ Gr w w' := by
  by_cases h1 : x < y
  · have HN : Hid (cmpC x y = -1) := Lib.hid (by unfold cmpC; rw [if_pos h1])
    go_enter Try.func100, Try.ntmps100
    go_wp2_with fail
    refine (isNaN_any x _).mono ?_
    rintro r w1 ⟨rfl, g1⟩
    go_wp2_with fail
    refine (isNaN_any y _).mono ?_
    rintro r w2 ⟨rfl, g2⟩
    go_wp2
    go_ret
    rw [HN.out]
    exact ⟨rfl, g1.tr g2⟩
  · by_cases h2 : y < x
    · have HN : Hid (cmpC x y = 1) := Lib.hid (by unfold cmpC; rw [if_neg h1, if_pos h2])
      have h3 : x > y := h2
      go_enter Try.func100, Try.ntmps100
      go_wp2_with fail
      refine (isNaN_any x _).mono ?_
      rintro r w1 ⟨rfl, g1⟩
      go_wp2_with fail
      refine (isNaN_any y _).mono ?_
      rintro r w2 ⟨rfl, g2⟩
      go_wp2
      go_ret
      rw [HN.out]
      exact ⟨rfl, g1.tr g2⟩
    · have HN : Hid (cmpC x y = 0) := Lib.hid (by unfold cmpC; rw [if_neg h1, if_neg h2])
      have h3 : ¬ x > y := h2
      go_enter Try.func100, Try.ntmps100
      go_wp2_with fail
      refine (isNaN_any x _).mono ?_
      rintro r w1 ⟨rfl, g1⟩
      go_wp2_with fail
      refine (isNaN_any y _).mono ?_
      rintro r w2 ⟨rfl, g2⟩
      go_wp2
      go_ret
      rw [HN.out]
      exact ⟨rfl, g1.tr g2⟩
set_option maxRecDepth 100000 in
theorem OrInt_any (p q : Int) (g : Nat) (w : World) (h0 : w.cell? ⟨g, 0, none⟩ = some (.int .i64 p)) (h1 : w.cell? ⟨g, 1, none⟩ = some (.int .i64 q)) :
    Calls Try.prog 99 #[.slice (some ⟨g, 0, none⟩) 2 2] w fun r w' => r = .returned (.int .i64 (orC p q)) ∧ Gr w w' := by
  have g0 := Lib.hid (Gr.rfl' w)
  by_cases hp : p = 0
  · have hpb : (p != 0) = false := by simp [hp]
    have hp0 : ¬ (p ≠ 0) := by simp [hp]
    by_cases hq : q = 0
    · have hqb : (q != 0) = false := by simp [hq]
      have HN : Hid (orC p q = 0) := Lib.hid (by unfold orC; rw [if_neg hp0, hq])
      go_enter Try.func99, Try.ntmps99
      go_wp2
      go_loopw [8] (fun i wr => (i = .int .i64 0 ∨ i = .int .i64 1 ∨ i = .int .i64 2) ∧ Hid (Gr w wr)) (fun i _ => 2 - (intOf i).toNat)
      case atStart => exact ⟨.inl rfl, g0⟩
      case round =>
        clear g0
        obtain ⟨rfl | rfl | rfl, HG⟩ := hrel
        · have d0 := HG.out.cell h0
          go_wp2
          go_roundw
          case rel => exact ⟨.inr (.inl rfl), HG⟩
          case measure => simp [intOf]
        · have d1 := HG.out.cell h1
          go_wp2
          go_roundw
          case rel => exact ⟨.inr (.inr rfl), HG⟩
          case measure => simp [intOf]
        · go_wp2
          go_ret
          rw [HN.out]
          exact ⟨rfl, HG.out⟩
    · have hqb : (q != 0) = true := by simp [hq]
      have HN : Hid (orC p q = q) := Lib.hid (by unfold orC; rw [if_neg hp0])
      go_enter Try.func99, Try.ntmps99
      go_wp2
      go_loopw [8] (fun i wr => (i = .int .i64 0 ∨ i = .int .i64 1) ∧ Hid (Gr w wr)) (fun i _ => 2 - (intOf i).toNat)
      case atStart => exact ⟨.inl rfl, g0⟩
      case round =>
        clear g0
        obtain ⟨rfl | rfl, HG⟩ := hrel
        · have d0 := HG.out.cell h0
          go_wp2
          go_roundw
          case rel => exact ⟨.inr rfl, HG⟩
          case measure => simp [intOf]
        · have d1 := HG.out.cell h1
          go_wp2
          go_ret
          rw [HN.out]
          exact ⟨rfl, HG.out⟩
  · have hpb : (p != 0) = true := by simp [hp]
    have HN : Hid (orC p q = p) := Lib.hid (by unfold orC; rw [if_pos hp])
    go_enter Try.func99, Try.ntmps99
    go_wp2
    go_loopw [8] (fun i wr => i = .int .i64 0 ∧ Hid (Gr w wr)) (fun i _ => 2 - (intOf i).toNat)
    case atStart => exact ⟨rfl, g0⟩
    case round =>
      clear g0
      obtain ⟨rfl, HG⟩ := hrel
      have d0 := HG.out.cell h0
      go_wp2
      go_ret
      rw [HN.out]
      exact ⟨rfl, HG.out⟩
set_option maxRecDepth 100000 in
theorem OrErr_any (p q : Int) (g : Nat) (w : World) (h0 : w.cell? ⟨g, 0, none⟩ = some (.int .i64 p)) (h1 : w.cell? ⟨g, 1, none⟩ = some (.int .i64 q)) :
    Calls Try.prog 169 #[.slice (some ⟨g, 0, none⟩) 2 2] w fun r w' => r = .returned (.int .i64 (orC p q)) ∧ Gr w w' := by
  have g0 := Lib.hid (Gr.rfl' w)
  by_cases hp : p = 0
  · have hpb : (p != 0) = false := by simp [hp]
    have hp0 : ¬ (p ≠ 0) := by simp [hp]
    by_cases hq : q = 0
    · have hqb : (q != 0) = false := by simp [hq]
      have HN : Hid (orC p q = 0) := Lib.hid (by unfold orC; rw [if_neg hp0, hq])
      go_enter Try.func169, Try.ntmps169
      go_wp2
      go_loopw [8] (fun i wr => (i = .int .i64 0 ∨ i = .int .i64 1 ∨ i = .int .i64 2) ∧ Hid (Gr w wr)) (fun i _ => 2 - (intOf i).toNat)
      case atStart => exact ⟨.inl rfl, g0⟩
      case round =>
        clear g0
        obtain ⟨rfl | rfl | rfl, HG⟩ := hrel
        · have d0 := HG.out.cell h0
          go_wp2
          go_roundw
          case rel => exact ⟨.inr (.inl rfl), HG⟩
          case measure => simp [intOf]
        · have d1 := HG.out.cell h1
          go_wp2
          go_roundw
          case rel => exact ⟨.inr (.inr rfl), HG⟩
          case measure => simp [intOf]
        · go_wp2
          go_ret
          rw [HN.out]
          exact ⟨rfl, HG.out⟩
    · have hqb : (q != 0) = true := by simp [hq]
      have HN : Hid (orC p q = q) := Lib.hid (by unfold orC; rw [if_neg hp0])
      go_enter Try.func169, Try.ntmps169
      go_wp2
      go_loopw [8] (fun i wr => (i = .int .i64 0 ∨ i = .int .i64 1) ∧ Hid (Gr w wr)) (fun i _ => 2 - (intOf i).toNat)
      case atStart => exact ⟨.inl rfl, g0⟩
      case round =>
        clear g0
        obtain ⟨rfl | rfl, HG⟩ := hrel
        · have d0 := HG.out.cell h0
          go_wp2
          go_roundw
          case rel => exact ⟨.inr rfl, HG⟩
          case measure => simp [intOf]
        · have d1 := HG.out.cell h1
          go_wp2
          go_ret
          rw [HN.out]
          exact ⟨rfl, HG.out⟩
  · have hpb : (p != 0) = true := by simp [hp]
    have HN : Hid (orC p q = p) := Lib.hid (by unfold orC; rw [if_pos hp])
    go_enter Try.func169, Try.ntmps169
    go_wp2
    go_loopw [8] (fun i wr => i = .int .i64 0 ∧ Hid (Gr w wr)) (fun i _ => 2 - (intOf i).toNat)
    case atStart => exact ⟨rfl, g0⟩
    case round =>
      clear g0
      obtain ⟨rfl, HG⟩ := hrel
      have d0 := HG.out.cell h0
      go_wp2
      go_ret
      rw [HN.out]
      exact ⟨rfl, HG.out⟩
/-- two boxed versions -/
structure Two (w : World) (x y : Vx) (W : World) : Prop where
  gr : Gr w W
  a : W.heap[w.heap.size]? = some (.cells x.cells 49 (0, 0))
  b : W.heap[w.heap.size + 1]? = some (.cells y.cells 49 (0, 0))
theorem Two.mk' (w : World) (x y : Vx) : Two w x y ((w.alloc (.cells x.cells 49)).alloc (.cells y.cells 49)) := by
  have hn2 := World.alloc_heap_new (w.alloc (.cells x.cells 49)) (.cells y.cells 49)
  have hn1 := World.alloc_heap_new w (.cells x.cells 49)
  have hsz : (w.alloc (.cells x.cells 49)).heap.size = w.heap.size + 1 := by simp
  rw [hsz] at hn2
  exact ⟨((Gr.rfl' w).al _).al _, (((Gr.rfl' (w.alloc (.cells x.cells 49))).al (.cells y.cells 49)).block w.heap.size (by rw [hsz]; omega)).trans hn1, hn2⟩
theorem Two.step {w W W' : World} {x y : Vx} (h : Two w x y W) (g : Gr W W') : Two w x y W' :=
  ⟨h.gr.tr g, (g.block _ (Array.getElem?_eq_some_iff.1 h.a).1).trans h.a, (g.block _ (Array.getElem?_eq_some_iff.1 h.b).1).trans h.b⟩
set_option maxRecDepth 100000 in
theorem bcells {W : World} {g : Nat} {x : Vx} (h : W.heap[g]? = some (.cells x.cells 49 (0, 0))) :
    W.cell? ⟨g, 0, none⟩ = some (.int .i64 x.P) ∧ W.cell? ⟨g, 1, none⟩ = some (.int .i64 x.C) ∧ W.cell? ⟨g, 2, none⟩ = some (.slice x.A x.pl.length x.pc) ∧ W.cell? ⟨g, 3, none⟩ = some (.bool x.D) ∧ W.cell? ⟨g, 4, none⟩ = some (.string x.T) := by
  have k : ∀ (j : Nat) (v : Value), x.cells[j]? = some v → W.cell? ⟨g, j, none⟩ = some v := fun j v hj => by simp only [World.cell?, h]; exact hj
  exact ⟨k 0 _ rfl, k 1 _ rfl, k 2 _ rfl, k 3 _ rfl, k 4 _ rfl⟩
theorem two_ints {W : World} (a b : Value) (t : TypeId) : (W.alloc (.cells #[a, b] t)).cell? ⟨W.heap.size, 0, none⟩ = some a ∧ (W.alloc (.cells #[a, b] t)).cell? ⟨W.heap.size, 1, none⟩ = some b := by
  have hn := World.alloc_heap_new W (.cells #[a, b] t)
  simp only [World.cell?, hn]
  exact ⟨rfl, rfl⟩
/-- the order of syncing: peers upwards, counts downwards -/
def synC (x y : Vx) : Int := orC (cmpC x.P y.P) (cmpC y.C x.C)
set_option maxRecDepth 100000 in
theorem sync1_any (x y : Vx) (w : World) : Calls Try.prog 107 #[.agg x.cells, .agg y.cells] w fun r w' => r = .returned (.int .i64 (synC x y)) ∧ Gr w w' := by
  have H2 := Lib.hid (Two.mk' w x y)
  go_enter Try.func107, Try.ntmps107
  go_upto_region 1 with (fail)
  obtain ⟨W, hW⟩ : ∃ W, (w.alloc (.cells x.cells 49)).alloc (.cells y.cells 49) = W := ⟨_, rfl⟩
  rw [hW] at H2 ⊢
  clear hW
  have hSS : Gr W W.drew := (Gr.rfl' _).dr
  obtain ⟨a0, a1, _, _, _⟩ := bcells H2.out.a
  obtain ⟨b0, b1, _, _, _⟩ := bcells H2.out.b
  have A0 := Lib.hid a0
  have A1 := Lib.hid a1
  have B0 := Lib.hid b0
  have B1 := Lib.hid b1
  clear a0 a1 b0 b1
  refine region_T 16 (fun w' => Gr W w') (by kernel_rfl) ?_
  refine anyT_take (i := 0) (v := ?_) (some 5) rfl rfl (by kernel_rfl) (fun _ _ _ h => h) (Or.inl ⟨by rfl, ?_⟩) hSS ?_
  rotate_left
  · intro w' hSw; go_simp; (try with_reducible rfl)
  simp only [Act.put, List.setIfInBounds_toArray, List.set_cons_zero, List.set_cons_succ]
  refine anyT_take (i := 1) (v := ?_) (some 6) rfl rfl (by kernel_rfl) (fun _ _ _ h => h) (Or.inl ⟨by rfl, ?_⟩) hSS ?_
  rotate_left
  · intro w' hSw; go_simp; (try with_reducible rfl)
  simp only [Act.put, List.setIfInBounds_toArray, List.set_cons_zero, List.set_cons_succ]
  refine anyT_take (i := 2) (v := ?_) (some 7) rfl rfl (by kernel_rfl) (fun _ _ _ h => h) (Or.inl ⟨by rfl, ?_⟩) hSS ?_
  rotate_left
  · intro w' hSw; have q := hSw.cell A0.out; go_simp; (try with_reducible rfl)
  simp only [Act.put, List.setIfInBounds_toArray, List.set_cons_zero, List.set_cons_succ]
  refine anyT_take (i := 3) (v := ?_) (some 8) rfl rfl (by kernel_rfl) (fun _ _ _ h => h) (Or.inl ⟨by rfl, ?_⟩) hSS ?_
  rotate_left
  · intro w' hSw; go_simp; (try with_reducible rfl)
  simp only [Act.put, List.setIfInBounds_toArray, List.set_cons_zero, List.set_cons_succ]
  refine anyT_take (i := 4) (v := ?_) (some 9) rfl rfl (by kernel_rfl) (fun _ _ _ h => h) (Or.inl ⟨by rfl, ?_⟩) hSS ?_
  rotate_left
  · intro w' hSw; go_simp; (try with_reducible rfl)
  simp only [Act.put, List.setIfInBounds_toArray, List.set_cons_zero, List.set_cons_succ]
  refine anyT_take (i := 5) (v := ?_) (some 10) rfl rfl (by kernel_rfl) (fun _ _ _ h => h) (Or.inl ⟨by rfl, ?_⟩) hSS ?_
  rotate_left
  · intro w' hSw; have q := hSw.cell B0.out; go_simp; (try with_reducible rfl)
  simp only [Act.put, List.setIfInBounds_toArray, List.set_cons_zero, List.set_cons_succ]
  refine anyT_take (i := 7) (v := ?_) (some 12) rfl rfl (by kernel_rfl) (fun _ _ _ h => h) (Or.inl ⟨by rfl, ?_⟩) hSS ?_
  rotate_left
  · intro w' hSw; go_simp; (try with_reducible rfl)
  simp only [Act.put, List.setIfInBounds_toArray, List.set_cons_zero, List.set_cons_succ]
  refine anyT_take (i := 8) (v := ?_) (some 13) rfl rfl (by kernel_rfl) (fun _ _ _ h => h) (Or.inl ⟨by rfl, ?_⟩) hSS ?_
  rotate_left
  · intro w' hSw; go_simp; (try with_reducible rfl)
  simp only [Act.put, List.setIfInBounds_toArray, List.set_cons_zero, List.set_cons_succ]
  refine anyT_take (i := 9) (v := ?_) (some 14) rfl rfl (by kernel_rfl) (fun _ _ _ h => h) (Or.inl ⟨by rfl, ?_⟩) hSS ?_
  rotate_left
  · intro w' hSw; have q := hSw.cell B1.out; go_simp; (try with_reducible rfl)
  simp only [Act.put, List.setIfInBounds_toArray, List.set_cons_zero, List.set_cons_succ]
  refine anyT_take (i := 10) (v := ?_) (some 15) rfl rfl (by kernel_rfl) (fun _ _ _ h => h) (Or.inl ⟨by rfl, ?_⟩) hSS ?_
  rotate_left
  · intro w' hSw; go_simp; (try with_reducible rfl)
  simp only [Act.put, List.setIfInBounds_toArray, List.set_cons_zero, List.set_cons_succ]
  refine anyT_take (i := 11) (v := ?_) (some 16) rfl rfl (by kernel_rfl) (fun _ _ _ h => h) (Or.inl ⟨by rfl, ?_⟩) hSS ?_
  rotate_left
  · intro w' hSw; go_simp; (try with_reducible rfl)
  simp only [Act.put, List.setIfInBounds_toArray, List.set_cons_zero, List.set_cons_succ]
  refine anyT_take (i := 12) (v := ?_) (some 17) rfl rfl (by kernel_rfl) (fun _ _ _ h => h) (Or.inl ⟨by rfl, ?_⟩) hSS ?_
  rotate_left
  · intro w' hSw; have q := hSw.cell A1.out; go_simp; (try with_reducible rfl)
  simp only [Act.put, List.setIfInBounds_toArray, List.set_cons_zero, List.set_cons_succ]
  refine anyT_callG (i := 6) (some 11) 100 #[.int .i64 x.P, .int .i64 y.P] (by kernel_rfl) rfl (by kernel_rfl) rfl (by kernel_rfl) ?_
  refine (Compare_int_any x.P y.P _).mono ?_
  rintro e wd ⟨rfl, hgd⟩
  replace hSS := hSS.tr hgd
  refine ⟨_, rfl, fun _ => hSS, ?_⟩
  simp only [Act.put, List.setIfInBounds_toArray, List.set_cons_zero, List.set_cons_succ]
  clear hgd
  refine anyT_callG (i := 13) (some 18) 100 #[.int .i64 y.C, .int .i64 x.C] (by kernel_rfl) rfl (by kernel_rfl) rfl (by kernel_rfl) ?_
  refine (Compare_int_any y.C x.C _).mono ?_
  rintro e wd ⟨rfl, hgd⟩
  replace hSS := hSS.tr hgd
  refine ⟨_, rfl, fun _ => hSS, ?_⟩
  simp only [Act.put, List.setIfInBounds_toArray, List.set_cons_zero, List.set_cons_succ]
  clear hgd
  obtain ⟨p, hp⟩ : ∃ p, cmpC x.P y.P = p := ⟨_, rfl⟩
  obtain ⟨q, hq⟩ : ∃ p, cmpC y.C x.C = p := ⟨_, rfl⟩
  have HS : Hid (synC x y = orC p q) := Lib.hid (by unfold synC; rw [hp, hq])
  rw [hp, hq]
  clear hp hq
  obtain ⟨k0, k1⟩ := two_ints (W := wd) (.int .i64 p) (.int .i64 q) 3
  have hga : Gr wd (wd.alloc (.cells #[.int .i64 p, .int .i64 q] 3)) := (Gr.rfl' wd).al _
  refine anyT_its (i := 14) (by kernel_rfl) ?_
  refine wpOp_val (some 19) (.slice (some ⟨wd.heap.size, 0, none⟩) 2 2) rfl (by kernel_rfl) rfl (w' := wd.alloc (.cells #[.int .i64 p, .int .i64 q] 3)) (by kernel_rfl) ⟨fun _ => hSS.tr hga, ?_⟩
  simp only [Act.put, List.setIfInBounds_toArray, List.set_cons_zero, List.set_cons_succ]
  replace hSS := hSS.tr hga
  refine anyT_callG (i := 15) (some 20) 99 #[.slice (some ⟨wd.heap.size, 0, none⟩) 2 2] (by kernel_rfl) rfl (by kernel_rfl) rfl (by kernel_rfl) ?_
  refine (OrInt_any p q wd.heap.size _ k0 k1).mono ?_
  rintro e wd ⟨rfl, hgd⟩
  replace hSS := hSS.tr hgd
  refine ⟨_, rfl, fun _ => hSS, ?_⟩
  simp only [Act.put, List.setIfInBounds_toArray, List.set_cons_zero, List.set_cons_succ]
  clear hgd
  refine anyT_last (some 4) (.int .i64 (orC p q)) (by kernel_rfl) (by kernel_rfl) rfl (by kernel_rfl) rfl (by kernel_rfl) ?_
  simp only [Act.put, List.setIfInBounds_toArray, List.set_cons_zero, List.set_cons_succ]
  go_wp2
  go_ret
  rw [HS.out]
  exact ⟨rfl, H2.out.gr.tr hSS⟩
set_option maxRecDepth 100000 in
theorem sync2_any (x y : Vx) (w : World) : Calls Try.prog 109 #[.agg x.cells, .agg y.cells] w fun r w' => r = .returned (.bool (x.P == y.P)) ∧ Gr w w' := by
  have H2 := Lib.hid (Two.mk' w x y)
  go_enter Try.func109, Try.ntmps109
  go_upto_region 1 with (fail)
  obtain ⟨W, hW⟩ : ∃ W, (w.alloc (.cells x.cells 49)).alloc (.cells y.cells 49) = W := ⟨_, rfl⟩
  rw [hW] at H2 ⊢
  clear hW
  obtain ⟨a0, a1, _, _, _⟩ := bcells H2.out.a
  obtain ⟨b0, b1, _, _, _⟩ := bcells H2.out.b
  go_wp2
  go_ret
  exact ⟨rfl, H2.out.gr⟩
end Go.Proofs.Ytfobnemocodomaa
