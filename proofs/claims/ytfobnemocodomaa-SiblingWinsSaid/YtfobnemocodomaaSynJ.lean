/- A row of versions of one's own: slices.DeleteFunc of those that some leaves cover. -/
import Derived.Test.YtfobnemocodomaaSrtA
import Derived.Test.YtfobnemocodomaaSynB
set_option linter.unusedVariables false
set_option linter.unusedSimpArgs false
set_option maxHeartbeats 2000000
namespace Go.Proofs.Ytfobnemocodomaa
open Go.RowKit Go.Great

theorem RS.vers {w0 W : World} {gl : Nat} {xs : List Vx} (h : RS w0 gl xs W) (ho : vsOk W xs) (hl : xs.length ≤ 9223372036854775807) : Vers W (some ⟨gl, 0, none⟩) xs := by
  refine ⟨hl, fun i hi => ⟨_, rfl, ho _ (List.getElem_mem hi), fun j v hj => ?_⟩⟩
  exact h.ld rfl (List.getElem?_eq_getElem hi) j v (by simpa using hj)
theorem vCells_take : ∀ (xs : List Vx) (i : Nat), vCells (xs.take i) = (vCells xs).take (i * 5)
  | [], i => by simp [vCells]
  | x :: r, 0 => by simp [vCells]
  | x :: r, i + 1 => by
    have e : ∀ (z : Vx) (s : List Vx), vCells (z :: s) = z.cells.toList ++ vCells s := fun z s => by simp [vCells]
    have hl : x.cells.toList.length = 5 := rfl
    rw [List.take_succ_cons, e, e, vCells_take r i, show (i + 1) * 5 = x.cells.toList.length + i * 5 by rw [hl]; omega, List.take_length_add_append]
theorem RS.cut {w0 W : World} {gl : Nat} {xs : List Vx} (h : RS w0 gl xs W) {i : Nat} (hi : i ≤ xs.length) : RS w0 gl (xs.take i) W := by
  obtain ⟨c, cap, cur, hv, h1, h2, h3, h4, h5, h6⟩ := h.row
  cases hv
  have hl : (xs.take i).length = i := by rw [List.length_take]; omega
  refine ⟨h.gr, h.base, c, c, cur, rfl, h1, by omega, h3, h4, by rw [hl, vCells_len, hl], ?_⟩
  rw [hl, vCells_take, ← h6, List.take_take]
  congr 1
  omega
theorem RS.fill {w0 W : World} {gl : Nat} {xs : List Vx} (h : RS w0 gl xs W) {i : Nat} (vs : List Value) (hi : i * 5 + vs.length = xs.length * 5) : RS w0 gl (xs.take i) (W.setCells gl (i * 5) vs) := by
  have hxi : i ≤ xs.length := by omega
  have hk := h.cut hxi
  obtain ⟨c, h1⟩ := h.row
  have hp := h1.put (i * 5) vs (by omega)
  obtain ⟨cap, cur, hv, k1, k2, k3, k4, k5, k6⟩ := hp
  cases hv
  have hl : (xs.take i).length = i := by rw [List.length_take]; omega
  refine ⟨gr_kcells h.gr h.base _ _, h.base, c, c, cur, rfl, k1, by omega, k3, k4, by rw [hl, vCells_len, hl], ?_⟩
  rw [hl, vCells_take]
  have e : cur.toList.take (i * 5) = (cur.toList.take (xs.length * 5)).take (i * 5) := by rw [List.take_take]; congr 1; omega
  rw [e, k6, List.append_assoc, List.take_append_of_le_length (by rw [List.length_take, vCells_len]; omega), List.take_take]
  congr 1
  omega
theorem zc_one (n : Nat) : ∀ v ∈ (Builtin.zeroCells (Value.agg Z5).cells n).toList, v.oneCell' = true := by
  intro v hv
  unfold Builtin.zeroCells at hv
  simp only [Array.toList_map, List.mem_map] at hv
  obtain ⟨k, _, rfl⟩ := hv
  have h5 : (Value.agg Z5).cells.size = 5 := rfl
  rw [h5]
  have : k % 5 < 5 := by omega
  rcases (by omega : k % 5 = 0 ∨ k % 5 = 1 ∨ k % 5 = 2 ∨ k % 5 = 3 ∨ k % 5 = 4) with h | h | h | h | h <;> rw [h] <;> rfl
theorem run_clearV (w : World) (ty : TypeId) (gl i m c : Nat) (hm : 0 < m) (h1 : ∀ j, j < m * 5 → (w.cell? ⟨gl, i * 5 + j, none⟩).isSome = true ∧ w.frozen? ⟨gl, i * 5 + j, none⟩ = false) :
    (Builtin.clear_ #[22] ty #[.slice (some ⟨gl, i * 5, none⟩) m c]).run Try.prog w = .ok (.tuple #[]) (w.setCells gl (i * 5) (Builtin.zeroCells (Value.agg Z5).cells m).toList) := by
  obtain ⟨i0, hi, hz0, hzs, hz2⟩ := info_parts infoV
  have hlen : (Builtin.zeroCells (Value.agg Z5).cells m).toList.length = m * 5 := by rw [Array.length_toList, zero_size]; rfl
  have hs := run_storeCells_cells (P := Try.prog) gl (i * 5) (Builtin.zeroCells (Value.agg Z5).cells m).toList 0 w (fun j hj => (h1 j (by omega)).1) (fun j hj => (h1 j (by omega)).2) (zc_one m)
  rw [Nat.add_zero] at hs
  have hm0 : m ≠ 0 := by omega
  cases m with
  | zero => omega
  | succ m => simp [Builtin.clear_, run_underlying Try.underlying22, zeroValue, typeInfo, hi, hz0, hs]
theorem clearR {w0 : World} {gl : Nat} {xs : List Vx} {ops : Array Oper} {rest : List Oper} {o : Oper} {a : Act} {w : World} {Q : Exit → Act → World → Prop} (i m c : Nat) (hg : o.guard = none) (x : Operand) (ho : o.op = .call { callee := .builtin .clear, args := #[x], argTypes := #[22] }) (hd : o.dst = none)
    (hx : a.eval x = .slice (some ⟨gl, i * 5, none⟩) m c) (hR : RS w0 gl xs w) (hm : 0 < m) (hi : i + m = xs.length)
    (h : ∀ wt : World, RS w0 gl (xs.take i) wt → Sg gl w wt → wpList Try.prog ops Q rest a wt) : wpList Try.prog ops Q (o :: rest) a w := by
  have hlen : (Builtin.zeroCells (Value.agg Z5).cells m).toList.length = m * 5 := by rw [Array.length_toList, zero_size]; rfl
  have hrun := run_clearV w o.type gl i m c hm (fun j hj => by
    obtain ⟨cc, h1⟩ := hR.row
    have hv := List.getElem?_eq_getElem (l := vCells xs) (i := i * 5 + j) (by rw [vCells_len]; omega)
    have := h1.cell (i * 5 + j) _ hv
    exact ⟨by rw [this.1]; rfl, this.2⟩)
  refine wpList_plain hg fun K hK => ?_
  unfold Oper.wp execOp
  simp only [ho, resolve, invoke, builtin, Sem.run_bind, Sem.run_pure, Result.andThen_ok, List.map_toArray, List.map_cons, List.map_nil, hx, hrun]
  refine hK _ _ ?_
  rw [hd]
  exact h _ (hR.fill _ (by rw [hlen]; omega)) (setCells_sg _ _ _ _)
/-- what is left when those that m covers are deleted -/
def unc (m l : List Vx) : List Vx := l.filter fun x => !covB m x.P x.C
theorem cvIdx_cases (m : List Vx) : ∀ (l : List Vx) (b : Int), (cvIdx m b l = -1 ∧ unc m l = l ∧ (0 ≤ b ∨ True)) ∨ ∃ k : Nat, ∃ h : k < l.length, cvIdx m b l = b + k ∧ unc m (l.take k) = l.take k ∧ covB m l[k].P l[k].C = true
  | [], b => Or.inl ⟨rfl, rfl, Or.inr trivial⟩
  | x :: r, b => by
    unfold cvIdx
    by_cases hx : covB m x.P x.C = true
    · rw [if_pos hx]
      exact Or.inr ⟨0, by simp, by simp, rfl, hx⟩
    · rw [if_neg hx]
      have hxf : covB m x.P x.C = false := by simpa using hx
      rcases cvIdx_cases m r (b + 1) with ⟨h1, h2, _⟩ | ⟨k, hk, h1, h2, h3⟩
      · left
        refine ⟨h1, ?_, Or.inr trivial⟩
        unfold unc at *
        rw [List.filter_cons, hxf, h2]; rfl
      · right
        refine ⟨k + 1, by simpa using hk, by rw [h1]; simp; omega, ?_, by simpa using h3⟩
        unfold unc at *
        rw [List.take_succ_cons, List.filter_cons, hxf, h2]; rfl
theorem unc_take {m l : List Vx} {j : Nat} (h : j < l.length) : unc m (l.take (j + 1)) = unc m (l.take j) ++ (if covB m l[j].P l[j].C = true then [] else [l[j]]) := by
  unfold unc
  rw [List.take_succ_eq_append_getElem h, List.filter_append]
  congr 1
  cases hc : covB m l[j].P l[j].C <;> simp [hc]
end Go.Proofs.Ytfobnemocodomaa
