/- A coder.Writer: Digest. -/
import Derived.Test.YtfobnemocodomaaWrD
import Derived.Laws.IdiomStrings
set_option linter.unusedVariables false
set_option linter.unusedSimpArgs false
set_option maxHeartbeats 400000
namespace Go.Proofs.Ytfobnemocodomaa
open Go.RowKit Go.Shelf

def digC (D : List UInt8) : Array Value := (D.map fun x => Value.int .u8 x.toNat).toArray

theorem digC_at (D : List UInt8) (j : Nat) (hj : j < D.length) : (digC D)[j]? = some (.int .u8 D[j].toNat) := by simp [digC, List.getElem?_eq_getElem hj]
theorem conv_dig (D : List UInt8) (hD : D.length = 32) (w : World) : (convert 129 9 (.slice (some ⟨w.heap.size, 0, none⟩) 32 32)).run Try.prog (w.alloc (.cells (digC D) 71)) = .ok (.string ⟨D.toArray⟩) (w.alloc (.cells (digC D) 71)) := by
  have := run_convert_bytes_back (P := Try.prog) (w.alloc (.cells (digC D) 71)) 129 9 5 ⟨w.heap.size, 0, none⟩ 32 D Try.underlying129 Try.underlying5 Try.underlying9 (fun j hj => by
    have e : ((⟨w.heap.size, 0, none⟩ : Addr).add j) = ⟨w.heap.size, j, none⟩ := by unfold Addr.add; split <;> simp_all
    rw [e]
    have hb := World.alloc_heap_new w (.cells (digC D) 71)
    simp only [World.cell?, hb]
    exact digC_at D j hj)
  rwa [hD] at this

set_option maxRecDepth 100000 in
theorem wDigest_any (B b : Nat) (l : List UInt8) (e : Int) (D : List UInt8) (hD : D.length = 32) (w : World) (h : Wr B b l e w) (hlen : l.length + 32 ≤ 140737488355328) :
    Calls Try.prog 115 #[.pointer (some ⟨b, 0, none⟩), .agg (digC D)] w fun r w' => r = .returned (.tuple #[]) ∧ Wr B b (wput true D (l, e)).1 (wput true D (l, e)).2 w' ∧ Wm B b w w' := by
  have HH := Lib.hid h; clear h
  have hcv := conv_dig D hD w
  have HF : Hid (flatB [⟨D.toArray⟩] = D) := by show _ = _; simp [flatB]
  have hlen2 : Hid (l.length + (flatB [⟨D.toArray⟩]).length ≤ 140737488355328) := by show _ ≤ _; rw [HF.out]; omega
  have HS := Lib.hid (strs_new (w.alloc (.cells (digC D) 71)) [⟨D.toArray⟩])
  rw [World.size_alloc] at HS
  have hg2 := Lib.hid (((Gr.rfl' w).al (.cells (digC D) 71)).al (.cells ([(⟨D.toArray⟩ : ByteArray)].map Value.string).toArray 9))
  have HH2 := Lib.hid (HH.out.gr hg2.out)
  have hb : w.heap.size + 1 ≠ b := by have := HH.out.lt; omega
  go_enter Try.func115, Try.ntmps115
  go_wp2_with fail
  refine (wPut_any B b l e true (w.heap.size + 1) 1 [⟨D.toArray⟩] _ HH2.out HS.out hb (by show 1 ≤ _; decide) (fun _ => hlen2.out)).mono ?_
  rintro r w2 ⟨rfl, h2, m2⟩
  rw [HF.out] at h2
  go_wp2
  go_end0
  exact ⟨rfl, h2, ((Wm.refl _ _ _).gr hg2.out).trans m2⟩
end Go.Proofs.Ytfobnemocodomaa
