/- The document's writer W: Digest. -/
import Derived.Test.YtjjdgmabgiembaaDoorRwA
import Derived.Test.YtjjdgmabgiembaaDoorFlagW
import Derived.Test.YtjjdgmabgiembaaDoorWrE
set_option linter.unusedVariables false
set_option linter.unusedSimpArgs false
set_option maxHeartbeats 400000
namespace Go.Proofs.YtjjdgmabgiembaaDoor
open Go.RowKit Go.Shelf

theorem conv1D (x : UInt8) (W : World) : (convert 43 9 (.slice (some ⟨W.heap.size, 0, none⟩) 1 1)).run Tryd.prog (W.alloc (.cells #[.int .u8 x.toNat] 5)) = .ok (.string ⟨#[x]⟩) (W.alloc (.cells #[.int .u8 x.toNat] 5)) := by
  have h := conv1_new x.toNat W
  have e : strOfNums [(x.toNat : Int)] = ⟨#[x]⟩ := by simp [strOfNums]
  rwa [e] at h

theorem take_push (D : List UInt8) (k : Nat) (hk : k < D.length) : ((⟨(D.take k).toArray⟩ : ByteArray) ++ (⟨#[D[k]]⟩ : ByteArray)) = ⟨(D.take (k + 1)).toArray⟩ := by
  rw [List.take_succ_eq_append_getElem hk]
  apply ByteArray.ext
  simp [ByteArray.data_append]

end Go.Proofs.YtjjdgmabgiembaaDoor
