/- hearsaylaw04: long, awake, PathsRow. -/
import Derived.Test.YtfobnemocodomaaGreatZQthD
set_option linter.unusedVariables false
set_option linter.unusedSimpArgs false
set_option maxHeartbeats 4000000
namespace Go.Proofs.YtfobnemocodomaaGreat.Pt
open Go.RowKit

def longV (xs : List (List UInt8)) : Bool := xs.any fun p => decide (400 < p.length)
theorem longV_yes (xs : List (List UInt8)) (k : Nat) (h : k < xs.length) (hk : 400 < xs[k].length) : longV xs = true := by
  unfold longV
  rw [List.any_eq_true]
  exact ⟨xs[k], List.getElem_mem h, by simpa using hk⟩
theorem longV_no (xs : List (List UInt8)) (h : ∀ j (hj : j < xs.length), ¬ 400 < xs[j].length) : longV xs = false := by
  unfold longV
  rw [List.any_eq_false]
  intro p hp
  obtain ⟨j, hj, rfl⟩ := List.mem_iff_getElem.1 hp
  simpa using h j hj
theorem longV_mem {xs : List (List UInt8)} (h : longV xs = false) : ∀ p ∈ xs, p.length ≤ 400 := by
  intro p hp
  unfold longV at h
  rw [List.any_eq_false] at h
  have := h p hp
  simp at this; omega
/-- texts in a row, wherever it lies -/
def Tx (w : World) (A : Option Addr) (xs : List (List UInt8)) : Prop := ∀ j (h : j < xs.length), ∃ ad, A = some ad ∧ w.cell? (ad.add j) = some (.string (bs xs[j]))
theorem Tx.gr {w w' : World} {A : Option Addr} {xs : List (List UInt8)} (h : Tx w A xs) (k : Gr w w') : Tx w' A xs := fun j hj => let ⟨ad, e, c⟩ := h j hj; ⟨ad, e, k.cell c⟩
end Go.Proofs.YtfobnemocodomaaGreat.Pt
