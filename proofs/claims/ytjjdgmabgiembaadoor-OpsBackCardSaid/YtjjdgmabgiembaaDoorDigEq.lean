/- Digests: equality; the zero one. -/
import Derived.Test.YtjjdgmabgiembaaDoorWrE
import Derived.ChangeKeysEq
import Derived.Deep.WholeRow
import Derived.Great.Walk
set_option linter.unusedVariables false
set_option linter.unusedSimpArgs false
set_option maxHeartbeats 400000
namespace Go.Proofs.YtjjdgmabgiembaaDoor
open Go.RowKit Go.Shelf Go.Great

theorem eqItems_dig (d : Nat) (D D' : List UInt8) (w : World) : ∀ is : List Nat, (∀ i ∈ is, i < D.length ∧ i < D'.length) →
    (Op.eqItems (d + 1) 5 1 (digC D) (digC D') is).run Tryd.prog w = .ok (is.all fun i => decide (D[i]? = D'[i]?)) w
  | [], _ => by simp [Op.eqItems]
  | i :: is, h => by
    obtain ⟨h1, h2⟩ := h i (by simp)
    have ih := eqItems_dig d D D' w is (fun j hj => h j (by simp [hj]))
    have p1 := run_part_plain (P := Tryd.prog) w (e := 5) (by kernel_rfl) (digC_at D i h1)
    have p2 := run_part_plain (P := Tryd.prog) w (e := 5) (by kernel_rfl) (digC_at D' i h2)
    have p3 := run_equalIn_int (P := Tryd.prog) w d 5 .u8 .u8 (D[i].toNat : Int) (D'[i].toNat : Int) Tryd.underlying5
    have e : ((D[i].toNat : Int) == (D'[i].toNat : Int)) = decide (D[i]? = D'[i]?) := by
      rw [List.getElem?_eq_getElem h1, List.getElem?_eq_getElem h2, Bool.eq_iff_iff]
      simp only [beq_iff_eq, decide_eq_true_eq, Option.some.injEq]
      constructor
      · intro h; exact UInt8.toNat_inj.1 (by omega)
      · intro h; rw [h]
    rw [e] at p3
    simp only [Op.eqItems, Sem.run_bind, Nat.mul_one, p1, p2, p3, Result.andThen_ok, List.all_cons]
    cases hd : decide (D[i]? = D'[i]?)
    · simp
    · simpa using ih
def Z32L : List UInt8 := List.replicate 32 0
theorem Z32L_len : Z32L.length = 32 := by simp [Z32L]
def Z32 : Array Value := digC Z32L
theorem Z32_size : Z32.size = 32 := by kernel_rfl
theorem digC_size (D : List UInt8) : (digC D).size = D.length := by simp [digC]
theorem digC_one (D : List UInt8) : (digC D).all (·.oneCell') = true := by
  rw [Array.all_eq_true_iff_forall_mem]
  intro v hv
  simp [digC] at hv
  obtain ⟨a, _, rfl⟩ := hv
  rfl
end Go.Proofs.YtjjdgmabgiembaaDoor
