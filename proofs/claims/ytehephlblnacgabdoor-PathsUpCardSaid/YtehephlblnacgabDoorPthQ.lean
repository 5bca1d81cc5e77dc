/- hearsaylaw04: PathsCheck. -/
import Derived.Test.YtehephlblnacgabDoorPthN
set_option linter.unusedVariables false
set_option linter.unusedSimpArgs false
set_option maxHeartbeats 4000000
namespace Go.Proofs.YtehephlblnacgabDoor
open Go.RowKit

theorem add0 (g j : Nat) : (⟨g, 0, none⟩ : Addr).add j = ⟨g, j, none⟩ := by unfold Addr.add; split <;> simp_all
theorem Tb.tx {w : World} {g : Nat} {xs : List (List UInt8)} (h : Tb w g xs) : Tx w (some ⟨g, 0, none⟩) xs := fun j hj => ⟨_, rfl, by rw [add0]; exact h j hj⟩
theorem OwnT.tx {w : World} {B n c : Nat} {A : Option Addr} {xs : List (List UInt8)} (h : OwnT w B (.slice A n c) xs) : Tx w A xs := fun j hj => by
  obtain ⟨g, rfl, _, _, _, _, hc⟩ := h.cell
  exact ⟨_, rfl, by rw [add0]; exact hc j hj⟩
theorem Tx.nil (w : World) (A : Option Addr) : Tx w A [] := fun j h => absurd h (by simp)
theorem pieces_lt (a : List UInt8) (h : a.length ≤ 4096) : (pieces a).length ≤ 9223372036854775807 := by have := pieces_len_le a; omega
end Go.Proofs.YtehephlblnacgabDoor
