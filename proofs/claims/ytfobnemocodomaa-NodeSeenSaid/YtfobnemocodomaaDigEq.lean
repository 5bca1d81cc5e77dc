/- Digests: equality; the zero one. -/
import Derived.Test.YtfobnemocodomaaWrE
import Derived.ChangeKeysEq
import Derived.Deep.WholeRow
import Derived.Great.Walk
set_option linter.unusedVariables false
set_option linter.unusedSimpArgs false
set_option maxHeartbeats 400000
namespace Go.Proofs.Ytfobnemocodomaa
open Go.RowKit Go.Shelf Go.Great

theorem eqItems_dig (d : Nat) (D D' : List UInt8) (w : World) : ∀ is : List Nat, (∀ i ∈ is, i < D.length ∧ i < D'.length) →
    (Op.eqItems (d + 1) 5 1 (digC D) (digC D') is).run Try.prog w = .ok (is.all fun i => decide (D[i]? = D'[i]?)) w
  | [], _ => by simp [Op.eqItems]
  | i :: is, h => by
    obtain ⟨h1, h2⟩ := h i (by simp)
    have ih := eqItems_dig d D D' w is (fun j hj => h j (by simp [hj]))
    have p1 := run_part_plain (P := Try.prog) w (e := 5) (by kernel_rfl) (digC_at D i h1)
    have p2 := run_part_plain (P := Try.prog) w (e := 5) (by kernel_rfl) (digC_at D' i h2)
    have p3 := run_equalIn_int (P := Try.prog) w d 5 .u8 .u8 (D[i].toNat : Int) (D'[i].toNat : Int) Try.underlying5
    have e : ((D[i].toNat : Int) == (D'[i].toNat : Int)) = decide (D[i]? = D'[i]?) := by
      rw [List.getElem?_eq_getElem h1, List.getElem?_eq_getElem h2, Bool.eq_iff_iff]
      simp only [beq_iff_eq, decide_eq_true_eq, Option.some.injEq]
      constructor
      · intro h; exact UInt8.toNat_inj.1 (by omega)
      · intro h; rw [h]
    rw [e] at p3
    simp only [Op.eqItems, Sem.run_bind, Nat.mul_one, p1, p2, p3, Result.andThen_ok, List.all_cons]
    cases hd : decide (D[i]? = D'[i]?)
    · simp
    · simpa using ih
set_option maxRecDepth 100000 in
theorem eqDig (d : Nat) (D D' : List UInt8) (hD : D.length = 32) (hD' : D'.length = 32) (w : World) :
    (Op.equalIn (d + 2) 71 (.agg (digC D)) (.agg (digC D'))).run Try.prog w = .ok (decide (D = D')) w := by
  have hc : Try.prog.cellsOf 5 = 1 := by kernel_rfl
  obtain ⟨i0, hi, _, _, _⟩ := info_parts infoByte
  rw [run_equalIn_array w (d + 1) _ _ Try.underlying71 hi, hc, eqItems_dig d D D' w _ (fun i hi => by rw [hD, hD']; have := List.mem_range.1 hi; omega)]
  congr 1
  rw [Bool.eq_iff_iff]
  simp only [List.all_eq_true, List.mem_range, decide_eq_true_eq]
  constructor
  · intro h
    apply List.ext_getElem?
    intro i
    by_cases hi : i < 32
    · exact h i hi
    · rw [List.getElem?_eq_none (by omega), List.getElem?_eq_none (by omega)]
  · intro h i _; rw [h]
def Z32L : List UInt8 := List.replicate 32 0
theorem Z32L_len : Z32L.length = 32 := by simp [Z32L]
def Z32 : Array Value := digC Z32L
theorem Z32_info : (Try.prog.info? 71).map (fun i => (i.zero, i.size)) = some (some (.agg Z32), 32) := by kernel_rfl
theorem Z32_size : Z32.size = 32 := by kernel_rfl
theorem digC_size (D : List UInt8) : (digC D).size = D.length := by simp [digC]
theorem digC_one (D : List UInt8) : (digC D).all (·.oneCell') = true := by
  rw [Array.all_eq_true_iff_forall_mem]
  intro v hv
  simp [digC] at hv
  obtain ⟨a, _, rfl⟩ := hv
  rfl
theorem Z32_built : Try.prog.built 71 [] = some Z32 := by kernel_rfl
theorem build32 {ops : Array Oper} {rest : List Oper} {o : Oper} {a : Act} {w : World} {Q : Exit → Act → World → Prop} (hg : o.guard = none) (ho : o.op = .build 71 #[])
    (h : wpList Try.prog ops Q rest (a.put o.dst (.agg Z32)) w) : wpList Try.prog ops Q (o :: rest) a w := by
  have e : ((#[] : Array (Nat × Operand)).map fun (i, x) => (i, a.eval x)).toList = [] := by simp
  refine wpList_build hg 71 #[] ho (by rw [e, Z32_built]; rfl) ?_
  rw [e, Z32_built]; exact h
theorem alloc32 {ops : Array Oper} {rest : List Oper} {o : Oper} {a : Act} {w : World} {Q : Exit → Act → World → Prop} (hg : o.guard = none) (ho : o.op = .alloc 71)
    (h : wpList Try.prog ops Q rest (a.put o.dst (.pointer (some ⟨w.heap.size, 0, none⟩))) (w.alloc (.cells Z32 71))) : wpList Try.prog ops Q (o :: rest) a w := by
  refine wpList_allocTo hg o.dst rfl _ (.cells Z32 71) ?_ h
  have hz := (zero_of_info Z32_info).1
  unfold execOp
  simp [ho, Instr.alloc, hz, Value.cells, go_sem]
end Go.Proofs.Ytfobnemocodomaa
