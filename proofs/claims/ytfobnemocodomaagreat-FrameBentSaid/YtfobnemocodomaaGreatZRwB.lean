/- The document's writer W: Digest. -/
import Derived.Test.YtfobnemocodomaaGreatZBl
set_option linter.unusedVariables false
set_option linter.unusedSimpArgs false
set_option maxHeartbeats 400000
namespace Go.Proofs.YtfobnemocodomaaGreat
open Go.RowKit Go.Shelf

set_option maxRecDepth 100000 in
theorem conv1D (x : UInt8) (W : World) : (convert 47 9 (.slice (some ⟨W.heap.size, 0, none⟩) 1 1)).run Tryz.prog (W.alloc (.cells #[.int .u8 x.toNat] 5)) = .ok (.string ⟨#[x]⟩) (W.alloc (.cells #[.int .u8 x.toNat] 5)) := by
  have h := conv1_new x.toNat W
  have e : strOfNums [(x.toNat : Int)] = ⟨#[x]⟩ := by simp [strOfNums]
  rwa [e] at h

/-- the digest in its box -/
def DigAt (W : World) (g : Nat) (D : List UInt8) : Prop := W.heap[g]? = some (.cells (digC D) 33 (0, 0))
theorem DigAt.at {W : World} {g : Nat} {D : List UInt8} (h : DigAt W g D) (j : Nat) (hj : j < D.length) : W.cell? ⟨g, j, none⟩ = some (.int .u8 D[j].toNat) := by
  have h' : W.heap[g]? = _ := h
  simp only [World.cell?, h']
  exact digC_at D j hj
theorem take_push (D : List UInt8) (k : Nat) (hk : k < D.length) : ((⟨(D.take k).toArray⟩ : ByteArray) ++ (⟨#[D[k]]⟩ : ByteArray)) = ⟨(D.take (k + 1)).toArray⟩ := by
  rw [List.take_succ_eq_append_getElem hk]
  apply ByteArray.ext
  simp [ByteArray.data_append]

end Go.Proofs.YtfobnemocodomaaGreat
