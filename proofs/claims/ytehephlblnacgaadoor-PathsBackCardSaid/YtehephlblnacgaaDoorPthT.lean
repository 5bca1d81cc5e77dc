/- hearsaylaw04: PathsJoin, as the row wants it. -/
import Derived.Test.YtehephlblnacgaaDoorPthS
import Derived.Test.YtehephlblnacgaaDoorOpenT
set_option linter.unusedVariables false
namespace Go.Proofs.YtehephlblnacgaaDoor
open Go.RowKit
theorem TxB.tx {w : World} {A : Option Addr} {l : List ByteArray} (h : TxB w A l) : Tx w A (l.map (fun s : ByteArray => s.data.toList)) := fun j hj => by
  obtain ⟨ad, e, hc⟩ := h j (by simpa using hj)
  refine ⟨ad, e, ?_⟩
  rw [hc, List.getElem_map, bs_of]
theorem pathsJoin_walk (A : Option Addr) (c : Nat) (l : List ByteArray) (w : World) (hm : Mx w) (hn : l.length ≤ 9223372036854775807 ∧ l.length ≤ c) (h : TxB w A l) :
    Calls Tryd.prog 7 #[.slice A l.length c] w fun r w' => r = .returned (.bool true) ∧ Gr w w' := by
  have := pathsJoin_tx A c (l.map (fun s : ByteArray => s.data.toList)) w hm (by simpa using hn.1) h.tx (by simpa using hn.2)
  rwa [List.length_map] at this
end Go.Proofs.YtehephlblnacgaaDoor
