/- hearsaylaw04: PathsRow. -/
import Derived.Test.YtehephlblnacgabDoorPthE
set_option linter.unusedVariables false
set_option linter.unusedSimpArgs false
set_option maxHeartbeats 4000000
namespace Go.Proofs.YtehephlblnacgabDoor
open Go.RowKit

theorem Tx_new (w : World) (t : TypeId) (xs : List (List UInt8)) : Tx (w.alloc (.cells ((xs.map bs).map Value.string).toArray t)) (some ⟨w.heap.size, 0, none⟩) xs := by
  intro j hj
  refine ⟨_, rfl, ?_⟩
  have hn := World.alloc_heap_new w (.cells ((xs.map bs).map Value.string).toArray t)
  have e : (⟨w.heap.size, 0, none⟩ : Addr).add j = ⟨w.heap.size, j, none⟩ := by unfold Addr.add; split <;> simp_all
  rw [e]
  simp only [World.cell?, hn]
  simp [hj]
/-- long at texts in a new row -/
theorem long_new (w : World) (xs : List (List UInt8)) (hn : xs.length ≤ 9223372036854775807) :
    Calls Tryd.prog 4 #[.slice (some ⟨w.heap.size, 0, none⟩) xs.length xs.length] (w.alloc (.cells ((xs.map bs).map Value.string).toArray 9)) fun r w' => r = .returned (.bool (longV xs)) ∧ Gr w w' := by
  refine (long_any _ xs.length xs _ hn (Tx_new w 9 xs)).mono ?_
  rintro r w' ⟨h, rfl⟩
  exact ⟨h, (Gr.rfl' _).al _⟩
end Go.Proofs.YtehephlblnacgabDoor
