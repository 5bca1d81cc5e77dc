/- hearsaylaw04: PathsRow. -/
import Derived.Test.YtfobnemocodomaaGreatZQthE
set_option linter.unusedVariables false
set_option linter.unusedSimpArgs false
set_option maxHeartbeats 4000000
namespace Go.Proofs.YtfobnemocodomaaGreat.Pt
open Go.RowKit

theorem Tx_new (w : World) (t : TypeId) (xs : List (List UInt8)) : Tx (w.alloc (.cells ((xs.map bs).map Value.string).toArray t)) (some ⟨w.heap.size, 0, none⟩) xs := by
  intro j hj
  refine ⟨_, rfl, ?_⟩
  have hn := World.alloc_heap_new w (.cells ((xs.map bs).map Value.string).toArray t)
  have e : (⟨w.heap.size, 0, none⟩ : Addr).add j = ⟨w.heap.size, j, none⟩ := by unfold Addr.add; split <;> simp_all
  rw [e]
  simp only [World.cell?, hn]
  simp [hj]
end Go.Proofs.YtfobnemocodomaaGreat.Pt
