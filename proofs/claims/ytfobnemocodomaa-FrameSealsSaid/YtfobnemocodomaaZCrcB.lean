/- A text sealed: the program's and the document's. -/
import Derived.Test.YtfobnemocodomaaZCrcA
import Derived.Test.YtfobnemocodomaaZBl
set_option linter.unusedVariables false
set_option linter.unusedSimpArgs false
set_option maxHeartbeats 1000000
namespace Go.Proofs.Ytfobnemocodomaa
open Go.RowKit Go.Shelf

/-- a number's four bytes, the low one first -/
def b4 (v : Nat) : List UInt8 := [UInt8.ofNat (v % 256), UInt8.ofNat (v / 256 % 256), UInt8.ofNat (v / 65536 % 256), UInt8.ofNat (v / 16777216 % 256)]
def sealV (s : ByteArray) : ByteArray := s ++ ⟨(b4 (crcV s)).toArray⟩
theorem crcV_lt (s : ByteArray) : crcV s < 4294967296 := by unfold crcV; omega
theorem b4_len (v : Nat) : (b4 v).length = 4 := rfl
theorem b4_cells (v : Nat) (hv : v < 4294967296) : (#[.int .u8 ((v : Int) % 256), .int .u8 ((v : Int) / 256 % 256), .int .u8 ((v : Int) / 65536 % 256), .int .u8 ((v : Int) / 16777216)] : Array Value) = digC (b4 v) := by
  have e : ∀ n : Nat, n < 256 → (((UInt8.ofNat n).toNat : Nat) : Int) = (n : Int) := fun n h => by rw [UInt8.toNat_ofNat_of_lt' (by exact h)]
  unfold digC b4
  simp only [List.map_cons, List.map_nil]
  rw [e _ (by omega), e _ (by omega), e _ (by omega), e _ (by omega)]
  congr 2
  have : (v : Int) / 16777216 = ((v / 16777216 % 256 : Nat) : Int) := by omega
  rw [this]
  rfl
theorem conv4 (v : Nat) (hv : v < 4294967296) (w : World) : (convert 129 9 (.slice (some ⟨w.heap.size, 0, none⟩) 4 4)).run Try.prog (w.alloc (.cells #[.int .u8 ((v : Int) % 256), .int .u8 ((v : Int) / 256 % 256), .int .u8 ((v : Int) / 65536 % 256), .int .u8 ((v : Int) / 16777216)] 5)) = .ok (.string ⟨(b4 v).toArray⟩) (w.alloc (.cells #[.int .u8 ((v : Int) % 256), .int .u8 ((v : Int) / 256 % 256), .int .u8 ((v : Int) / 65536 % 256), .int .u8 ((v : Int) / 16777216)] 5)) := by
  rw [b4_cells v hv]
  have := run_convert_bytes_back (P := Try.prog) (w.alloc (.cells (digC (b4 v)) 5)) 129 9 5 ⟨w.heap.size, 0, none⟩ 4 (b4 v) Try.underlying129 Try.underlying5 Try.underlying9 (fun j hj => by
    have e : ((⟨w.heap.size, 0, none⟩ : Addr).add j) = ⟨w.heap.size, j, none⟩ := by unfold Addr.add; split <;> simp_all
    rw [e]
    have hb := World.alloc_heap_new w (.cells (digC (b4 v)) 5)
    simp only [World.cell?, hb]
    exact digC_at (b4 v) j hj)
  rwa [b4_len] at this
set_option maxRecDepth 100000 in
theorem cSeal_any (s : ByteArray) (w : World) (hs : s.size + 4 ≤ 9223372036854775807) :
    Calls Try.prog 138 #[.string s] w fun r w' => r = .returned (.string (sealV s)) ∧ Gr w w' := by
  have hs1 : s.size ≤ 9223372036854775807 := by omega
  have HV : Hid (sealV s = s ++ ⟨(b4 (crcV s)).toArray⟩) := Lib.hid rfl
  have hv := crcV_lt s
  have HC := Lib.hid (cOf_any s w hs1)
  obtain ⟨v, hvv⟩ : ∃ v, crcV s = v := ⟨_, rfl⟩
  rw [hvv] at HV hv HC
  clear hvv
  have hvi : (v : Int) < 4294967296 := by omega
  have hcv := conv4 v hv
  have hsz : s.size + (⟨(b4 v).toArray⟩ : ByteArray).size ≤ 9223372036854775807 := hs
  go_enter Try.func138, Try.ntmps138
  go_wp2_with fail
  refine (HC.out).mono ?_
  rintro r w1 ⟨rfl, g1⟩
  clear HC
  go_wp2
  go_ret
  rw [HV.out]
  exact ⟨rfl, g1.al _⟩
set_option maxRecDepth 100000 in
theorem rSeal_any (s : ByteArray) (w : World) (hs : s.size + 4 ≤ 9223372036854775807) :
    Calls Try.prog 140 #[.string s] w fun r w' => r = .returned (.string (sealV s)) ∧ Gr w w' := by
  have hs1 : s.size ≤ 9223372036854775807 := by omega
  have HV : Hid (sealV s = s ++ ⟨(b4 (crcV s)).toArray⟩) := Lib.hid rfl
  have hv := crcV_lt s
  have HC := Lib.hid (rOf_any s w hs1)
  obtain ⟨v, hvv⟩ : ∃ v, crcV s = v := ⟨_, rfl⟩
  rw [hvv] at HV hv HC
  clear hvv
  have hvi : (v : Int) < 4294967296 := by omega
  have hcv := conv4 v hv
  have hsz : s.size + (⟨(b4 v).toArray⟩ : ByteArray).size ≤ 9223372036854775807 := hs
  go_enter Try.func140, Try.ntmps140
  go_wp2_with fail
  refine (HC.out).mono ?_
  rintro r w1 ⟨rfl, rfl⟩
  clear HC
  go_wp2
  go_ret
  rw [HV.out]
  exact ⟨rfl, (Gr.rfl' _).al _⟩
end Go.Proofs.Ytfobnemocodomaa
