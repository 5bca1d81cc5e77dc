/- The document's writer W: Digest. -/
import Derived.Test.YtfobnemocodomaaZBl
set_option linter.unusedVariables false
set_option linter.unusedSimpArgs false
set_option maxHeartbeats 400000
namespace Go.Proofs.Ytfobnemocodomaa
open Go.RowKit Go.Shelf

set_option maxRecDepth 100000 in
theorem conv1D (x : UInt8) (W : World) : (convert 129 9 (.slice (some ⟨W.heap.size, 0, none⟩) 1 1)).run Try.prog (W.alloc (.cells #[.int .u8 x.toNat] 5)) = .ok (.string ⟨#[x]⟩) (W.alloc (.cells #[.int .u8 x.toNat] 5)) := by
  have h := conv1_new x.toNat W
  have e : strOfNums [(x.toNat : Int)] = ⟨#[x]⟩ := by simp [strOfNums]
  rwa [e] at h

/-- the digest in its box -/
def DigAt (W : World) (g : Nat) (D : List UInt8) : Prop := W.heap[g]? = some (.cells (digC D) 71 (0, 0))
theorem DigAt.at {W : World} {g : Nat} {D : List UInt8} (h : DigAt W g D) (j : Nat) (hj : j < D.length) : W.cell? ⟨g, j, none⟩ = some (.int .u8 D[j].toNat) := by
  have h' : W.heap[g]? = _ := h
  simp only [World.cell?, h']
  exact digC_at D j hj
theorem take_push (D : List UInt8) (k : Nat) (hk : k < D.length) : ((⟨(D.take k).toArray⟩ : ByteArray) ++ (⟨#[D[k]]⟩ : ByteArray)) = ⟨(D.take (k + 1)).toArray⟩ := by
  rw [List.take_succ_eq_append_getElem hk]
  apply ByteArray.ext
  simp [ByteArray.data_append]

set_option maxRecDepth 100000 in
theorem rDigest_any (c : Nat) (S : ByteArray) (e : Int) (D : List UInt8) (hD : D.length = 32) (w : World) (h : Rw c S e w) (hlen : S.size + 32 ≤ 9223372036854775807) :
    Calls Try.prog 132 #[.pointer (some ⟨c, 0, none⟩), .agg (digC D)] w fun r w' => r = .returned (.tuple #[]) ∧ Rw c (rput true ⟨D.toArray⟩ (S, e)).1 (rput true ⟨D.toArray⟩ (S, e)).2 w' ∧ Rm c w w' := by
  have HH := Lib.hid h; clear h
  have HD0 : Hid (DigAt (w.alloc (.cells (digC D) 71)) w.heap.size D) := World.alloc_heap_new w _
  have hg0 := Lib.hid ((Gr.rfl' w).al (.cells (digC D) 71))
  have hl2 : Hid (S.size + (⟨D.toArray⟩ : ByteArray).size ≤ 9223372036854775807) := by
    show _ ≤ _
    have : (⟨D.toArray⟩ : ByteArray).size = 32 := by rw [← hD]; rfl
    rw [this]; exact hlen
  go_enter Try.func132, Try.ntmps132
  go_wp2
  go_loopw [4, 5] (fun s i wr => ∃ k : Nat, ∃ T : ByteArray, k ≤ 32 ∧ i = .int .i64 k ∧ s = .string T ∧ Hid (T = ⟨(D.take k).toArray⟩) ∧ T.size = k ∧ Hid (DigAt wr w.heap.size D) ∧ Hid (Gr w wr)) (fun _ i _ => 32 - (intOf i).toNat)
  case atStart => exact ⟨0, ⟨#[]⟩, by omega, rfl, rfl, rfl, rfl, HD0, hg0⟩
  case round =>
    obtain ⟨k, T, hk, rfl, rfl, hT, hTs, hDA, hG⟩ := hrel
    clear HD0 hg0
    by_cases hkl : k < 32
    · have hki : (k : Int) < 32 := by omega
      have hkD : k < D.length := by omega
      have hck := hDA.out.at k hkD
      have hcv := conv1D D[k] wr
      obtain ⟨u, hu⟩ : ∃ u : ByteArray, u = ⟨#[D[k]]⟩ := ⟨_, rfl⟩
      rw [← hu] at hcv
      have hus : u.size = 1 := by rw [hu]; rfl
      have hsz : T.size + u.size ≤ 9223372036854775807 := by omega
      have hT2 : Hid (T ++ u = ⟨(D.take (k + 1)).toArray⟩) := by show _ = _; rw [hT.out, hu]; exact take_push D k hkD
      have hT3 : (T ++ u).size = k + 1 := by rw [app_size]; omega
      clear hu hus
      go_wp2
      go_roundw
      case rel =>
        refine ⟨k + 1, T ++ u, by omega, by go_num, rfl, hT2, hT3, ?_, Lib.hid (hG.out.al _)⟩
        exact (Below.heap_alloc _ _ _ (Array.getElem?_eq_some_iff.1 hDA.out).1).trans hDA.out
      case measure => simp [intOf]; omega
    · have hk2 : k = 32 := by omega
      subst hk2
      have hTD : T = ⟨D.toArray⟩ := by rw [hT.out, ← hD, List.take_length]
      subst hTD
      go_wp2_with fail
      refine (rP_any c S e true _ _ (HH.out.gr hG.out) (fun _ => hl2.out)).mono ?_
      rintro r w2 ⟨rfl, h2, m2⟩
      go_wp2
      go_end0
      exact ⟨rfl, h2, (Rm.of hG.out).trans m2⟩
end Go.Proofs.Ytfobnemocodomaa
