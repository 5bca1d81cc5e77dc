/- A row of versions of one's own, turned in place: what lies, loads, stores, the exchange of two ranges. -/
import Derived.Test.YtfobnemocodomaaSynE
import Derived.Test.YtfobnemocodomaaSynP
import Derived.Test.YtfobnemocodomaaSynC
import Derived.Test.YtfobnemocodomaaSynF
import Derived.Test.YtfobnemocodomaaRegV
set_option linter.unusedVariables false
set_option linter.unusedSimpArgs false
set_option maxHeartbeats 2000000
namespace Go.Proofs.Ytfobnemocodomaa
open Go.RowKit Go.Great

/-- the block gl holds these versions, and nothing that was there before has turned -/
structure RS (w0 : World) (gl : Nat) (xs : List Vx) (W : World) : Prop where
  gr : Gr w0 W
  base : w0.heap.size ≤ gl
  row : ∃ cap, OwnG 49 5 W gl (.slice (some ⟨gl, 0, none⟩) xs.length cap) xs.length (vCells xs)
theorem RS.next {w0 W W' : World} {gl : Nat} {xs : List Vx} (h : RS w0 gl xs W) (g : Gr W W') : RS w0 gl xs W' := by
  obtain ⟨c, h1⟩ := h.row
  exact ⟨h.gr.tr g, h.base, c, h1.gr g⟩
theorem add_mid' (b o j : Nat) : (⟨b, o, none⟩ : Addr).add j = ⟨b, o + j, none⟩ := by unfold Addr.add; split <;> simp_all
theorem RS.ld {w0 W : World} {gl : Nat} {xs : List Vx} (h : RS w0 gl xs W) {ad : Addr} (had : ad = ⟨gl, 0, none⟩) {i : Nat} {x : Vx} (hx : xs[i]? = some x) : ∀ j v, x.cells.toList[j]? = some v → W.cell? ((ad.add (i * 5)).add j) = some v := by
  intro j v hj
  obtain ⟨c, h1⟩ := h.row
  obtain ⟨hi, rfl⟩ := List.getElem?_eq_some_iff.1 hx
  subst had
  rw [add_mid', add_mid', Nat.zero_add]
  exact (h1.cell _ v (vCells_at xs i j hi v (by simpa using hj))).1
theorem vCells_set : ∀ (xs : List Vx) (i : Nat) (x : Vx), i < xs.length → vCells (xs.set i x) = (vCells xs).take (i * 5) ++ x.cells.toList ++ (vCells xs).drop (i * 5 + 5)
  | [], i, x, h => by simp at h
  | y :: r, 0, x, _ => by
    have e : ∀ z : Vx, vCells (z :: r) = z.cells.toList ++ vCells r := fun z => by simp [vCells]
    have hl : y.cells.toList.length = 5 := rfl
    rw [List.set_cons_zero, e, e, Nat.zero_mul, List.take_zero, List.nil_append, Nat.zero_add, ← hl, List.drop_left]
  | y :: r, i + 1, x, h => by
    have e : ∀ (z : Vx) (s : List Vx), vCells (z :: s) = z.cells.toList ++ vCells s := fun z s => by simp [vCells]
    have hl : y.cells.toList.length = 5 := rfl
    have ih := vCells_set r i x (by simpa using h)
    rw [List.set_cons_succ, e, e, ih, List.append_assoc, List.append_assoc]
    have e1 : (i + 1) * 5 = y.cells.toList.length + i * 5 := by rw [hl]; omega
    have e2 : (i + 1) * 5 + 5 = y.cells.toList.length + (i * 5 + 5) := by rw [hl]; omega
    rw [e2, e1, List.take_length_add_append, List.drop_length_add_append]
    simp only [List.append_assoc]
theorem gr_kcells {a w : World} (h : Gr a w) {b : Nat} (hb : a.heap.size ≤ b) (o : Nat) (vs : List Value) : Gr a (w.setCells b o vs) :=
  ⟨(rg_os vs o w).1.trans h.os, (rg_os vs o w).2.1.trans h.tape, (rg_os vs o w).2.2.trans h.output, by rw [rg_size]; exact h.size, fun k hk => (rg_other (by omega) vs o w).trans (h.block k hk)⟩
theorem RS.put {w0 W : World} {gl : Nat} {xs : List Vx} (h : RS w0 gl xs W) {i : Nat} (x : Vx) (hi : i < xs.length) : RS w0 gl (xs.set i x) (W.setCells gl (i * 5) x.cells.toList) := by
  obtain ⟨c, h1⟩ := h.row
  have hp := h1.put (i * 5) x.cells.toList (by have e : x.cells.toList.length = 5 := rfl; rw [e]; omega)
  have e5 : x.cells.toList.length = 5 := rfl
  rw [e5, ← vCells_set xs i x hi] at hp
  refine ⟨gr_kcells h.gr h.base (i * 5) x.cells.toList, h.base, c, ?_⟩
  rw [List.length_set]
  exact hp
theorem setCells_sg (w : World) (g o : Nat) (vs : List Value) : Sg g w (w.setCells g o vs) :=
  ⟨(rg_os vs o w).1, (rg_os vs o w).2.1, (rg_os vs o w).2.2, rg_size _ _ _, fun k hk => rg_other hk _ _ _⟩
theorem storeR {w0 : World} {gl : Nat} {xs : List Vx} {ops : Array Oper} {rest : List Oper} {o : Oper} {a : Act} {w : World} {Q : Exit → Act → World → Prop} (x : Vx) (ad : Addr) (i : Nat) (had : ad = ⟨gl, 0, none⟩) (hg : o.guard = none) (xo yo : Operand) (ho : o.op = .store 49 xo yo) (hd : o.dst = none)
    (hx : a.eval xo = .pointer (some (ad.add (i * 5)))) (hy : a.eval yo = .agg x.cells) (hR : RS w0 gl xs w) (hi : i < xs.length)
    (h : ∀ wt : World, RS w0 gl (xs.set i x) wt → Sg gl w wt → wpList Try.prog ops Q rest a wt) : wpList Try.prog ops Q (o :: rest) a w := by
  subst had
  rw [add_mid', Nat.zero_add] at hx
  refine wpList_store_mid hg 49 xo yo ho gl (i * 5) x.cells hx hy (fun j hj => ?_) (by kernel_rfl) (vOne x) ?_
  · obtain ⟨c, h1⟩ := hR.row
    have hj5 : j < 5 := hj
    have hv := List.getElem?_eq_getElem (l := vCells xs) (i := i * 5 + j) (by rw [vCells_len]; omega)
    have := h1.cell (i * 5 + j) _ hv
    exact ⟨by rw [this.1]; rfl, this.2⟩
  · rw [hd]
    exact h _ (hR.put x hi) (setCells_sg _ _ _ _)
theorem wpOp_storeR {w0 : World} {gl : Nat} {xs : List Vx} {ops : Array Oper} {j : Nat} {o : Oper} {a : Act} {w : World} {K : Act → World → Prop} {Q : Exit → Act → World → Prop} (x : Vx) (ad : Addr) (i : Nat) (had : ad = ⟨gl, 0, none⟩) (hj : ops[j]? = some o) (hg : o.guard = none) (xo yo : Operand) (ho : o.op = .store 49 xo yo) (hd : o.dst = none)
    (hx : a.eval xo = .pointer (some (ad.add (i * 5)))) (hy : a.eval yo = .agg x.cells) (hR : RS w0 gl xs w) (hi : i < xs.length)
    (h : ∀ wt : World, RS w0 gl (xs.set i x) wt → Sg gl w wt → K a wt) : wpOp Try.prog ops Q j K a w := by
  subst had
  rw [add_mid', Nat.zero_add] at hx
  unfold wpOp
  have hw : Region.wanted o (yielded ops a.tmps) = true := by simp [Region.wanted, hg]
  simp only [hj, hw, if_true]
  left
  refine wp_store_mid 49 xo yo ho gl (i * 5) x.cells hx hy (fun j hj => ?_) (by kernel_rfl) (vOne x) ?_
  · obtain ⟨c, h1⟩ := hR.row
    have hj5 : j < 5 := hj
    have hv := List.getElem?_eq_getElem (l := vCells xs) (i := i * 5 + j) (by rw [vCells_len]; omega)
    have := h1.cell (i * 5 + j) _ hv
    exact ⟨by rw [this.1]; rfl, this.2⟩
  · rw [hd]
    exact h _ (hR.put x hi) (setCells_sg _ _ _ _)
theorem wrap_small (z : Int) (h0 : 0 ≤ z) (h1 : z ≤ 9000000000) : wrap64 z = z := by unfold wrap64; omega
theorem wrap_nat2 (a b : Nat) (h : a + b ≤ 1000000000) : wrap64 ((a : Int) + (b : Int)) = ((a + b : Nat) : Int) := by rw [wrap_small _ (by omega) (by omega)]; omega
theorem wrapk (z : Int) (m : Nat) (h : z = m) (hm : m ≤ 1000000000) : IntKind.i64.wrap z = m := by rw [IntKind.wrap_i64]; omega
theorem absurd' {b : Bool} {C : Prop} (h : b = false) (k : b = true) : C := by rw [h] at k; cases k
theorem sw_idx {p0 k na nm x y : Nat} (hlt : k < na) (l1 : x = p0 + k) (l2 : y = na - 1 + nm) : p0 + na + nm + k = x + 1 + y := by omega
/-- the exchange of two places -/
theorem set_swap (x y z : List Vx) (p q : Vx) : ((x ++ p :: (y ++ q :: z)).set x.length q).set (x.length + 1 + y.length) p = x ++ q :: (y ++ p :: z) := by
  rw [set_mid]
  have e : x ++ q :: (y ++ q :: z) = (x ++ q :: y) ++ q :: z := by simp
  have h : (x ++ q :: y).length = x.length + 1 + y.length := by simp; omega
  rw [e, ← h, set_mid]; simp
theorem get_mid (x z : List Vx) (p : Vx) : (x ++ p :: z)[x.length]? = some p := by simp
theorem get_mid2 (x y z : List Vx) (p q : Vx) : (x ++ p :: (y ++ q :: z))[x.length + 1 + y.length]? = some q := by
  have e : x ++ p :: (y ++ q :: z) = (x ++ p :: y) ++ q :: z := by simp
  have h : (x ++ p :: y).length = x.length + 1 + y.length := by simp; omega
  rw [e, ← h, get_mid]
/-- the comparison that sorts -/
abbrev synF : Value := .func (.func 107) #[] #[]
set_option maxRecDepth 100000 in
theorem swapR_any (gl n cap : Nat) (pre A mid B post : List Vx) (w0 w : World) (hR : RS w0 gl (pre ++ (A ++ (mid ++ (B ++ post)))) w) (hAB : A.length = B.length) (hn : n = (pre ++ (A ++ (mid ++ (B ++ post)))).length) (hlb : n ≤ 1000000) (fv : Value) :
    Calls Try.prog 220 #[.slice (some ⟨gl, 0, none⟩) n cap, .int .i64 pre.length, .int .i64 (pre.length + A.length + mid.length : Nat), .int .i64 A.length, fv] w fun r w' => r = .returned (.tuple #[]) ∧ RS w0 gl (pre ++ (B ++ (mid ++ (A ++ post)))) w' := by
  obtain ⟨ad, had⟩ : ∃ ad, (⟨gl, 0, none⟩ : Addr) = ad := ⟨_, rfl⟩
  have HAD : Hid (ad = ⟨gl, 0, none⟩) := Lib.hid had.symm
  rw [had]
  clear had
  have R0 := Lib.hid hR
  clear hR
  have hlen : (pre ++ (A ++ (mid ++ (B ++ post)))).length = pre.length + (A.length + (mid.length + (B.length + post.length))) := by simp
  rw [hlen] at hn
  obtain ⟨p0, hp0⟩ : ∃ k, pre.length = k := ⟨_, rfl⟩
  obtain ⟨na, hna⟩ : ∃ k, A.length = k := ⟨_, rfl⟩
  obtain ⟨nm, hnm⟩ : ∃ k, mid.length = k := ⟨_, rfl⟩
  rw [hp0, hna, hnm] at hn ⊢
  rw [hna] at hAB
  have HP := Lib.hid hp0
  have HA := Lib.hid hna
  have HM := Lib.hid hnm
  have HB := Lib.hid hAB.symm
  rw [← hAB] at hn
  have hna6 : na ≤ 1000000 := by omega
  have HNN := Lib.hid hn
  clear hp0 hna hnm hAB hlen hn
  go_enter Try.func220, Try.ntmps220
  go_wp2
  go_loopw [10] (fun i wr => ∃ k : Nat, k ≤ na ∧ i = .int .i64 k ∧ Hid (RS w0 gl (pre ++ (B.take k ++ (A.drop k ++ (mid ++ (A.take k ++ (B.drop k ++ post)))))) wr)) (fun i _ => na - (intOf i).toNat)
  case atStart => exact ⟨0, Nat.zero_le _, rfl, by simpa using R0⟩
  case round =>
    clear R0
    obtain ⟨k, hk, rfl, HR⟩ := hrel
    by_cases hlt : k < na
    · have hki : (k : Int) < na := by omega
      have hka : k < A.length := by rw [HA.out]; exact hlt
      have hkb : k < B.length := by rw [HB.out]; exact hlt
      obtain ⟨x, hx⟩ : ∃ x, A[k] = x := ⟨_, rfl⟩
      obtain ⟨y, hy⟩ : ∃ y, B[k] = y := ⟨_, rfl⟩
      have ea : A.drop k = x :: A.drop (k + 1) := by rw [List.drop_eq_getElem_cons hka, hx]
      have eb : B.drop k = y :: B.drop (k + 1) := by rw [List.drop_eq_getElem_cons hkb, hy]
      have ta : A.take (k + 1) = A.take k ++ [x] := by rw [List.take_succ_eq_append_getElem hka, hx]
      have tb : B.take (k + 1) = B.take k ++ [y] := by rw [List.take_succ_eq_append_getElem hkb, hy]
      have hform : pre ++ (B.take k ++ (A.drop k ++ (mid ++ (A.take k ++ (B.drop k ++ post))))) = (pre ++ B.take k) ++ x :: ((A.drop (k + 1) ++ (mid ++ A.take k)) ++ y :: (B.drop (k + 1) ++ post)) := by rw [ea, eb]; simp
      have hfin : pre ++ (B.take (k + 1) ++ (A.drop (k + 1) ++ (mid ++ (A.take (k + 1) ++ (B.drop (k + 1) ++ post))))) = (pre ++ B.take k) ++ y :: ((A.drop (k + 1) ++ (mid ++ A.take k)) ++ x :: (B.drop (k + 1) ++ post)) := by rw [ta, tb]; simp
      have hr := HR.out
      rw [hform] at hr
      have l1 : (pre ++ B.take k).length = p0 + k := by rw [List.length_append, HP.out, List.length_take, HB.out]; omega
      have l2 : (A.drop (k + 1) ++ (mid ++ A.take k)).length = na - 1 + nm := by simp only [List.length_append, List.length_drop, List.length_take, HA.out, HM.out]; omega
      obtain ⟨X, hX⟩ : ∃ X, pre ++ B.take k = X := ⟨_, rfl⟩
      obtain ⟨Y, hY⟩ : ∃ Y, A.drop (k + 1) ++ (mid ++ A.take k) = Y := ⟨_, rfl⟩
      rw [hX, hY] at hr hfin
      rw [hX] at l1
      rw [hY] at l2
      have hXl : (X ++ x :: (Y ++ y :: (B.drop (k + 1) ++ post))).length = n := by
        have h1 : (X ++ x :: (Y ++ y :: (B.drop (k + 1) ++ post))).length = X.length + (Y.length + (B.drop (k + 1) ++ post).length + 2) := by simp; omega
        have h2 : (B.drop (k + 1) ++ post).length = na - (k + 1) + post.length := by rw [List.length_append, List.length_drop, HB.out]
        have hn := HNN.out; rw [h1, l1, l2, h2, hn]; omega
      have i1 : p0 + k < n := by have := HNN.out; omega
      have i2 : p0 + na + nm + k < n := by have := HNN.out; omega
      obtain ⟨I, hI⟩ : ∃ I, p0 + k = I := ⟨_, rfl⟩
      obtain ⟨J, hJ⟩ : ∃ J, p0 + na + nm + k = J := ⟨_, rfl⟩
      have w1 : IntKind.i64.wrap ((p0 : Int) + (k : Int)) = (I : Int) := wrapk _ _ (by rw [← hI]; simp) (by rw [← hI]; exact Nat.le_trans (Nat.le_of_lt i1) (Nat.le_trans hlb (by decide)))
      have w2 : IntKind.i64.wrap ((p0 : Int) + (na : Int) + (nm : Int) + (k : Int)) = (J : Int) := wrapk _ _ (by rw [← hJ]; simp) (by rw [← hJ]; exact Nat.le_trans (Nat.le_of_lt i2) (Nat.le_trans hlb (by decide)))
      have hix := sw_idx hlt l1 l2
      rw [hI] at l1 i1
      rw [hJ] at i2 hix
      have z1 : (0 : Int) ≤ I := Int.natCast_nonneg _
      have z2 : (0 : Int) ≤ J := Int.natCast_nonneg _
      have z3 : (I : Int) < n := Int.ofNat_lt.2 i1
      have z4 : (J : Int) < n := Int.ofNat_lt.2 i2
      clear hI hJ
      have HIX := Lib.hid hix
      have HR1 := Lib.hid hr
      have HF := Lib.hid hfin
      have HXL := Lib.hid hXl
      have gx : (X ++ x :: (Y ++ y :: (B.drop (k + 1) ++ post)))[I]? = some x := by rw [← l1]; exact get_mid _ _ _
      have gy : (X ++ x :: (Y ++ y :: (B.drop (k + 1) ++ post)))[J]? = some y := by rw [hix]; exact get_mid2 _ _ _ _ _
      have HSW : Hid (((X ++ x :: (Y ++ y :: (B.drop (k + 1) ++ post))).set (I) y).set (J) x = X ++ y :: (Y ++ x :: (B.drop (k + 1) ++ post))) := Lib.hid (by rw [← l1, hix]; exact set_swap _ _ _ _ _)
      have LX : Hid (∀ j v, x.cells.toList[j]? = some v → wr.drew.cell? ((ad.add ((I) * 5)).add j) = some v) := Lib.hid (fun j v hj => hr.ld HAD.out gx j v hj)
      have LY : Hid (∀ j v, y.cells.toList[j]? = some v → wr.drew.cell? ((ad.add ((J) * 5)).add j) = some v) := Lib.hid (fun j v hj => hr.ld HAD.out gy j v hj)
      clear hix hform hfin hr gx gy hx hy ea eb ta tb hX hY l1 l2 hXl HR
      go_upto_region 3 with (fail)
      obtain ⟨wq, hwq⟩ : ∃ wq, wr.drew = wq := ⟨_, rfl⟩
      have HQ := Lib.hid (HR1.out.next (hwq ▸ (Gr.rfl' wr).dr))
      rw [hwq] at LX LY
      refine region_F [21, 23] (fun w' => w' = wq) (by kernel_rfl) ?_
      rw [hwq]
      clear hwq HR1
      have hSS : wq = wq := rfl
      refine anyF_take (i := 0) (v := ?_) (some 16) rfl rfl (by kernel_rfl) (fun _ _ _ h => h) (Or.inl ⟨by rfl, ?_⟩) (fun _ => hSS) ?_
      rotate_left
      · intro w' _; go_simp; (try with_reducible rfl)
      simp only [Act.put, List.setIfInBounds_toArray, List.set_cons_zero, List.set_cons_succ]
      refine anyF_take (i := 1) (v := ?_) (some 17) rfl rfl (by kernel_rfl) (fun _ _ _ h => h) (Or.inl ⟨by rfl, ?_⟩) (fun _ => hSS) ?_
      rotate_left
      · intro w' _; go_simp; (try with_reducible rfl)
      simp only [Act.put, List.setIfInBounds_toArray, List.set_cons_zero, List.set_cons_succ]
      refine anyF_take (i := 2) (v := ?_) (some 18) rfl rfl (by kernel_rfl) (fun _ _ _ h => h) (Or.inl ⟨by rfl, ?_⟩) (fun _ => hSS) ?_
      rotate_left
      · intro w' _; go_simp; (try with_reducible rfl)
      simp only [Act.put, List.setIfInBounds_toArray, List.set_cons_zero, List.set_cons_succ]
      refine anyF_take (i := 3) (v := ?_) (some 19) rfl rfl (by kernel_rfl) (fun _ _ _ h => h) (Or.inl ⟨by rfl, ?_⟩) (fun _ => hSS) ?_
      rotate_left
      · intro w' _; go_simp; (try with_reducible rfl)
      simp only [Act.put, List.setIfInBounds_toArray, List.set_cons_zero, List.set_cons_succ]
      refine anyF_take (i := 4) (v := ?_) (some 20) rfl rfl (by kernel_rfl) (fun _ _ _ h => h) (Or.inl ⟨by rfl, ?_⟩) (fun _ => hSS) ?_
      rotate_left
      · intro w' _; go_simp; (try with_reducible rfl)
      simp only [Act.put, List.setIfInBounds_toArray, List.set_cons_zero, List.set_cons_succ]
      refine anyF_take (i := 5) (v := ?_) (some 21) rfl rfl (by kernel_rfl) (fun _ _ _ h => h) (Or.inl ⟨by rfl, ?_⟩) (fun _ => hSS) ?_
      rotate_left
      · intro w' _; go_simp; (try with_reducible rfl)
      simp only [Act.put, List.setIfInBounds_toArray, List.set_cons_zero, List.set_cons_succ]
      refine anyF_take (i := 6) (v := ?_) (some 22) rfl rfl (by kernel_rfl) (fun _ _ _ h => h) (Or.inl ⟨by rfl, ?_⟩) (fun _ => hSS) ?_
      rotate_left
      · intro w' _; go_simp; (try with_reducible rfl)
      simp only [Act.put, List.setIfInBounds_toArray, List.set_cons_zero, List.set_cons_succ]
      refine anyF_take (i := 7) (v := ?_) (some 23) rfl rfl (by kernel_rfl) (fun _ _ _ h => h) (Or.inl ⟨by rfl, ?_⟩) (fun _ => hSS) ?_
      rotate_left
      · intro w' _; go_simp; (try with_reducible rfl)
      simp only [Act.put, List.setIfInBounds_toArray, List.set_cons_zero, List.set_cons_succ]
      refine anyF_take (i := 8) (v := ?_) (some 24) rfl rfl (by kernel_rfl) (fun _ _ _ h => h) (Or.inl ⟨by rfl, ?_⟩) (fun _ => hSS) ?_
      rotate_left
      · intro w' _; go_simp; (try with_reducible rfl)
      simp only [Act.put, List.setIfInBounds_toArray, List.set_cons_zero, List.set_cons_succ]
      refine anyF_take (i := 9) (v := ?_) (some 25) rfl rfl (by kernel_rfl) (fun _ _ _ h => h) (Or.inl ⟨by rfl, ?_⟩) (fun _ => hSS) ?_
      rotate_left
      · intro w' _; go_simp; (try with_reducible rfl)
      simp only [Act.put, List.setIfInBounds_toArray, List.set_cons_zero, List.set_cons_succ]
      refine anyF_take (i := 10) (v := ?_) (some 26) rfl rfl (by kernel_rfl) (fun _ _ _ h => h) (Or.inl ⟨by rfl, ?_⟩) (fun _ => hSS) ?_
      rotate_left
      · intro w' _; go_simp; (try with_reducible rfl)
      simp only [Act.put, List.setIfInBounds_toArray, List.set_cons_zero, List.set_cons_succ]
      refine anyF_take (i := 11) (v := ?_) (some 27) rfl rfl (by kernel_rfl) (fun _ _ _ h => h) (Or.inl ⟨by rfl, ?_⟩) (fun _ => hSS) ?_
      rotate_left
      · intro w' _; go_simp; (try with_reducible rfl)
      simp only [Act.put, List.setIfInBounds_toArray, List.set_cons_zero, List.set_cons_succ]
      refine anyF_take (i := 12) (v := ?_) (some 28) rfl rfl (by kernel_rfl) (fun _ _ _ h => h) (Or.inl ⟨by rfl, ?_⟩) (fun _ => hSS) ?_
      rotate_left
      · intro w' _; go_simp; (try with_reducible rfl)
      simp only [Act.put, List.setIfInBounds_toArray, List.set_cons_zero, List.set_cons_succ]
      refine anyF_read (i := 13) (some 29) rfl rfl (by kernel_rfl) (by kernel_rfl) (fun _ _ _ h => h) (yieldsIf_ld (by rfl) 49 (.tmp 28) rfl (ad.add ((J) * 5)) rfl y.cells.toList _ (fun w' hSw => by rw [hSw]; exact LY.out) Try.underlying49 rfl (by kernel_rfl)) hSS ?_
      simp only [Act.put, List.setIfInBounds_toArray, List.set_cons_zero, List.set_cons_succ]
      refine anyF_take (i := 14) (v := ?_) (some 30) rfl rfl (by kernel_rfl) (fun _ _ _ h => h) (Or.inl ⟨by rfl, ?_⟩) (fun _ => hSS) ?_
      rotate_left
      · intro w' _; go_simp; (try with_reducible rfl)
      simp only [Act.put, List.setIfInBounds_toArray, List.set_cons_zero, List.set_cons_succ]
      refine anyF_take (i := 15) (v := ?_) (some 31) rfl rfl (by kernel_rfl) (fun _ _ _ h => h) (Or.inl ⟨by rfl, ?_⟩) (fun _ => hSS) ?_
      rotate_left
      · intro w' _; go_simp; (try with_reducible rfl)
      simp only [Act.put, List.setIfInBounds_toArray, List.set_cons_zero, List.set_cons_succ]
      refine anyF_take (i := 16) (v := ?_) (some 32) rfl rfl (by kernel_rfl) (fun _ _ _ h => h) (Or.inl ⟨by rfl, ?_⟩) (fun _ => hSS) ?_
      rotate_left
      · intro w' _; go_simp; (try with_reducible rfl)
      simp only [Act.put, List.setIfInBounds_toArray, List.set_cons_zero, List.set_cons_succ]
      refine anyF_take (i := 17) (v := ?_) (some 33) rfl rfl (by kernel_rfl) (fun _ _ _ h => h) (Or.inl ⟨by rfl, ?_⟩) (fun _ => hSS) ?_
      rotate_left
      · intro w' _; go_simp; (try with_reducible rfl)
      simp only [Act.put, List.setIfInBounds_toArray, List.set_cons_zero, List.set_cons_succ]
      refine anyF_take (i := 18) (v := ?_) (some 34) rfl rfl (by kernel_rfl) (fun _ _ _ h => h) (Or.inl ⟨by rfl, ?_⟩) (fun _ => hSS) ?_
      rotate_left
      · intro w' _; go_simp; (try with_reducible rfl)
      simp only [Act.put, List.setIfInBounds_toArray, List.set_cons_zero, List.set_cons_succ]
      refine anyF_read (i := 19) (some 35) rfl rfl (by kernel_rfl) (by kernel_rfl) (fun _ _ _ h => h) (yieldsIf_ld (by rfl) 49 (.tmp 34) rfl (ad.add ((I) * 5)) rfl x.cells.toList _ (fun w' hSw => by rw [hSw]; exact LX.out) Try.underlying49 rfl (by kernel_rfl)) hSS ?_
      simp only [Act.put, List.setIfInBounds_toArray, List.set_cons_zero, List.set_cons_succ]
      refine anyF_take (i := 20) (v := ?_) (some 36) rfl rfl (by kernel_rfl) (fun _ _ _ h => h) (Or.inl ⟨by rfl, ?_⟩) (fun _ => hSS) ?_
      rotate_left
      · intro w' _; go_simp; (try with_reducible rfl)
      simp only [Act.put, List.setIfInBounds_toArray, List.set_cons_zero, List.set_cons_succ]
      refine anyF_its (i := 21) (by kernel_rfl) ?_
      refine wpOp_storeR y ad (I) HAD.out rfl rfl (.tmp 36) (.tmp 29) rfl rfl rfl rfl HQ.out (by rw [HXL.out]; exact i1) ?_
      intro w2 hR2 _
      refine ⟨fun hn => absurd' (by kernel_rfl) hn, ?_⟩
      have HR2 := Lib.hid hR2
      clear hR2 hSS HQ LX LY
      refine anyF_take (i := 22) (v := ?_) (some 37) rfl rfl (by kernel_rfl) (fun _ _ _ h => h) (Or.inl ⟨by rfl, ?_⟩) (fun hn => absurd' (by kernel_rfl) hn) ?_
      rotate_left
      · intro w' _; go_simp; (try with_reducible rfl)
      simp only [Act.put, List.setIfInBounds_toArray, List.set_cons_zero, List.set_cons_succ]
      refine anyF_its (i := 23) (by kernel_rfl) ?_
      refine wpOp_storeR x ad J HAD.out rfl rfl (.tmp 37) (.tmp 35) rfl rfl rfl rfl HR2.out (by rw [List.length_set, HXL.out]; exact i2) ?_
      intro w3 hR3 _
      refine ⟨fun hn => absurd' (by kernel_rfl) hn, ?_⟩
      rw [HSW.out, ← HF.out] at hR3
      have HR3 := Lib.hid hR3
      clear hR3 HR2 HSW HF HXL z1 z2 z3 z4 i1 i2 HIX
      refine anyF_done (by kernel_rfl) ?_ _
      go_wp2
      go_roundw
      case rel => exact ⟨k + 1, by omega, by go_num, HR3⟩
      case measure => simp [intOf]; omega
    · have hki : ¬ (k : Int) < na := by omega
      have hkk : k = na := by omega
      have hr := HR.out
      rw [hkk, List.take_of_length_le (by rw [HB.out]; exact Nat.le_refl _), List.drop_of_length_le (by rw [HA.out]; exact Nat.le_refl _), List.take_of_length_le (by rw [HA.out]; exact Nat.le_refl _), List.drop_of_length_le (by rw [HB.out]; exact Nat.le_refl _), List.nil_append, List.nil_append] at hr
      have HE := Lib.hid hr
      clear hr HR hkk
      go_wp2
      go_end0
      exact ⟨rfl, HE.out⟩
end Go.Proofs.Ytfobnemocodomaa
