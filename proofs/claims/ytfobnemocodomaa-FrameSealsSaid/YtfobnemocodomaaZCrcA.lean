/- The sum of thirty-two bits: the program's and the document's. -/
import Derived.Test.YtfobnemocodomaaZCrcP
import Derived.Test.YtfobnemocodomaaZBl
import Derived.Laws.Shifts
set_option linter.unusedVariables false
set_option linter.unusedSimpArgs false
set_option maxHeartbeats 1000000
namespace Go.Proofs.Ytfobnemocodomaa
open Go.RowKit Go.Shelf

theorem ofN32 {a : Nat} (h : a < 4294967296) : BitVec.ofInt 32 (a : Int) = BitVec.ofNat 32 a := BitVec.ofInt_natCast 32 a
theorem wrapN32 {a : Nat} (h : a < 4294967296) : IntKind.u32.wrap (a : Int) = (a : Int) := by rw [IntKind.wrap_u32]; omega
theorem n_xor {a b : Nat} (ha : a < 4294967296) (hb : b < 4294967296) : bits .xor .u32 (a : Int) (b : Int) = ((a ^^^ b : Nat) : Int) := by
  show IntKind.u32.wrap ((BitVec.ofInt 32 (a : Int) ^^^ BitVec.ofInt 32 (b : Int)).toNat : Int) = _
  rw [ofN32 ha, ofN32 hb, BitVec.toNat_xor, BitVec.toNat_ofNat, BitVec.toNat_ofNat, Nat.mod_eq_of_lt (by simpa using ha), Nat.mod_eq_of_lt (by simpa using hb)]
  exact wrapN32 (Nat.xor_lt_two_pow (n := 32) (by simpa using ha) (by simpa using hb))
theorem n_not {a : Nat} (ha : a < 4294967296) : bits .xor .u32 IntKind.u32.max (a : Int) = ((4294967295 - a : Nat) : Int) := by
  have h : BitVec.ofInt 32 IntKind.u32.max = BitVec.allOnes 32 := by decide
  show IntKind.u32.wrap ((BitVec.ofInt 32 IntKind.u32.max ^^^ BitVec.ofInt 32 (a : Int)).toNat : Int) = _
  rw [h, ofN32 ha, BitVec.allOnes_xor, BitVec.toNat_not, BitVec.toNat_ofNat, Nat.mod_eq_of_lt (by simpa using ha)]
  have e : 2 ^ 32 - 1 - a = 4294967295 - a := rfl
  rw [e]
  exact wrapN32 (by omega)
/-- the bytes of a text as numbers -/
def nts (s : ByteArray) : List Nat := s.data.toList.map UInt8.toNat
def crcV (s : ByteArray) : Nat := 4294967295 - cL 4294967295 (nts s)
def SumAt (w : World) (g : Nat) (c : Nat) : Prop := w.heap[g]? = some (.cells #[.int .u32 ((4294967295 - c : Nat) : Int)] 229 (0, 0))
theorem SumAt.cell {w : World} {g c : Nat} (h : SumAt w g c) : w.cell? ⟨g, 0, none⟩ = some (.int .u32 ((4294967295 - c : Nat) : Int)) ∧ w.frozen? ⟨g, 0, none⟩ = false := by
  have h' : w.heap[g]? = _ := h
  refine ⟨?_, by simp [World.frozen?, h']⟩
  simp only [World.cell?, h']; rfl
theorem cB_lt {v b : Nat} (hv : v < 4294967296) (hb : b < 256) : cB v b < 4294967296 := cTn_lt 8 (Nat.xor_lt_two_pow (n := 32) (by simpa using hv) (by omega))
theorem cL_lt : ∀ (l : List Nat) {v : Nat}, v < 4294967296 → (∀ b ∈ l, b < 256) → cL v l < 4294967296
  | [], _, h, _ => h
  | b :: r, v, h, hl => cL_lt r (cB_lt h (hl b (by simp))) (fun x hx => hl x (List.mem_cons_of_mem _ hx))
theorem nts_lt (s : ByteArray) : ∀ b ∈ nts s, b < 256 := by
  intro b hb
  obtain ⟨x, _, rfl⟩ := List.mem_map.1 hb
  exact x.toNat_lt
theorem cTn_succ (k v : Nat) : cTn (k + 1) v = cT (cTn k v) := by rw [cTn_add k 1]; rfl
set_option maxRecDepth 100000 in
theorem cStep_any (g c : Nat) (b : UInt8) (w : World) (h : SumAt w g c) (hc : c < 4294967296) :
    Calls Try.prog 218 #[.pointer (some ⟨g, 0, none⟩), .int .u8 (b.toNat : Int)] w fun r w' => r = .returned (.tuple #[]) ∧ SumAt w' g (cB c b.toNat) ∧ Rm g w w' := by
  obtain ⟨c0, f0⟩ := h.cell
  have HH := Lib.hid h
  clear h
  have hb := b.toNat_lt
  have hbi : ((b.toNat : Nat) : Int) < 256 := by omega
  have e1 : bits .xor .u32 IntKind.u32.max ((4294967295 - c : Nat) : Int) = (c : Int) := by rw [n_not (by omega)]; congr 1; omega
  have e2 := n_xor hc (show b.toNat < 4294967296 by omega)
  obtain ⟨v0, hv0⟩ : ∃ v0, c ^^^ b.toNat = v0 := ⟨_, rfl⟩
  have hl0 : v0 < 4294967296 := by rw [← hv0]; exact Nat.xor_lt_two_pow (n := 32) (by simpa using hc) (by omega)
  have HCB : Hid (cB c b.toNat = cTn 8 v0) := Lib.hid (by unfold cB; rw [hv0])
  rw [hv0] at e2
  have E1 := Lib.hid e1
  have E2 := Lib.hid e2
  clear e1 e2 hv0
  go_enter Try.func218, Try.ntmps218
  go_wp2
  rw [E1.out, E2.out]
  go_loop [14, 4] (fun i v => ∃ k : Nat, k ≤ 8 ∧ i = .int .i64 k ∧ v = .int .u32 (cTn k v0 : Nat)) (fun i _ => 8 - (intOf i).toNat)
  case atStart => exact ⟨0, Nat.zero_le _, rfl, rfl⟩
  case round =>
    obtain ⟨k, hk, rfl, rfl⟩ := hrel
    have hlt := cTn_lt k hl0
    have HT := Lib.hid (cTn_succ k v0)
    obtain ⟨v, hv⟩ : ∃ v, cTn k v0 = v := ⟨_, rfl⟩
    rw [hv] at hlt HT
    have HV := Lib.hid hv
    simp only [hv]
    clear hv
    by_cases h8 : k < 8
    · have hki : (k : Int) < 8 := by omega
      have ea : bits .and .u32 (v : Int) 1 = ((v % 2 : Nat) : Int) := by
        show IntKind.u32.wrap ((BitVec.ofInt 32 (v : Int) &&& BitVec.ofInt 32 1).toNat : Int) = _
        rw [ofN32 hlt, BitVec.toNat_and, BitVec.toNat_ofNat, Nat.mod_eq_of_lt (by simpa using hlt)]
        have : (BitVec.ofInt 32 1).toNat = 1 := by decide
        rw [this, Nat.and_one_is_mod]
        exact wrapN32 (by omega)
      by_cases ho : v % 2 = 1
      · have hob : (((v : Int) % 2) == 1) = true := by simp; omega
        have ex : bits .xor .u32 ((v : Int) / 2) 3988292384 = ((cT v : Nat) : Int) := by
          have := n_xor (a := v / 2) (b := 3988292384) (by omega) (by decide)
          unfold cT
          rw [if_pos ho]
          exact this
        have EX := Lib.hid ex
        clear ex ho
        go_wp2
        go_round
        case rel => exact ⟨k + 1, by omega, by go_num, by rw [EX.out, HT.out]⟩
        case measure => simp [intOf]; omega
      · have hob : (((v : Int) % 2) == 1) = false := by simp; omega
        have ex : ((v : Int) / 2) = ((cT v : Nat) : Int) := by
          unfold cT
          rw [if_neg ho]
          norm_cast
        have EX := Lib.hid ex
        clear ex ho
        go_wp2
        go_round
        case rel => exact ⟨k + 1, by omega, by go_num, by rw [EX.out, HT.out]⟩
        case measure => simp [intOf]; omega
    · have hk8 : k = 8 := by omega
      subst hk8
      have hki : ¬ ((8 : Nat) : Int) < 8 := by omega
      have e3 := n_not hlt
      go_wp2
      go_end0
      refine ⟨rfl, ?_, (Rm.refl g w).setCell 0 _⟩
      unfold SumAt
      rw [HCB.out, HV.out]
      have hb := HH.out
      unfold SumAt at hb
      have := heap_set_sameW (o := 0) hb (.int .u32 ((4294967295 - v : Nat) : Int))
      exact this
set_option maxRecDepth 100000 in
theorem cWrite_any (g c : Nat) (s : ByteArray) (w : World) (h : SumAt w g c) (hc : c < 4294967296) (hs : s.size ≤ 9223372036854775807) :
    Calls Try.prog 204 #[.pointer (some ⟨g, 0, none⟩), .string s] w fun r w' => r = .returned (.tuple #[]) ∧ SumAt w' g (cL c (nts s)) ∧ Rm g w w' := by
  have HH := Lib.hid h
  have HM := Lib.hid (Rm.refl g w)
  have hsz := Lib.size_eq s
  have HSZ := Lib.hid hsz
  clear h hsz
  go_enter Try.func204, Try.ntmps204
  go_wp2
  go_loopw [12] (fun i wr => ∃ k : Nat, k ≤ s.size ∧ i = .int .i64 k ∧ Hid (SumAt wr g (cL c ((nts s).take k))) ∧ Hid (Rm g w wr)) (fun i _ => s.size - (intOf i).toNat)
  case atStart => exact ⟨0, Nat.zero_le _, rfl, HH, HM⟩
  case round =>
    clear HH HM
    obtain ⟨k, hk, rfl, HS, HM⟩ := hrel
    by_cases hlt : k < s.size
    · have hki : (k : Int) < s.size := by omega
      have hl : (nts s).length = s.size := by unfold nts; rw [List.length_map, ← HSZ.out]
      have hst : cL c ((nts s).take (k + 1)) = cB (cL c ((nts s).take k)) s[k].toNat := by
        rw [List.take_succ_eq_append_getElem (by rw [hl]; exact hlt)]
        unfold cL
        rw [List.foldl_append]
        simp only [List.foldl_cons, List.foldl_nil]
        congr 1
        simp [nts, ByteArray.getElem_eq_getElem_data]
      have HST := Lib.hid hst
      have hlt2 := cL_lt ((nts s).take k) hc (fun b hb => nts_lt s b (List.mem_of_mem_take hb))
      have HC := Lib.hid (cStep_any g (cL c ((nts s).take k)) s[k] wr HS.out hlt2)
      clear hst hl hlt2
      go_wp2_with fail
      refine (HC.out).mono ?_
      rintro r w1 ⟨rfl, h1, m1⟩
      have H1 : Hid (SumAt w1 g (cL c ((nts s).take (k + 1)))) := Lib.hid (by rw [HST.out]; exact h1)
      have M1 := Lib.hid (HM.out.trans m1)
      clear h1 m1 HC
      go_wp2
      go_roundw
      case rel => exact ⟨k + 1, by omega, by go_num, H1, M1⟩
      case measure => simp [intOf]; omega
    · have hkk : k = s.size := by omega
      subst hkk
      have hki : ¬ (s.size : Int) < s.size := by omega
      have hl : (nts s).take s.size = nts s := List.take_of_length_le (by unfold nts; rw [List.length_map, ← HSZ.out]; exact Nat.le_refl _)
      rw [hl] at HS
      go_wp2
      go_end0
      exact ⟨rfl, HS.out, HM.out⟩
set_option maxRecDepth 100000 in
theorem cValue_any (g : Nat) (v : Nat) (w : World) (c0 : w.cell? ⟨g, 0, none⟩ = some (.int .u32 (v : Int))) :
    Calls Try.prog 205 #[.pointer (some ⟨g, 0, none⟩)] w fun r w' => r = .returned (.int .u32 (v : Int)) ∧ w' = w := by
  go_enter Try.func205, Try.ntmps205
  go_wp2
  go_ret
  exact ⟨rfl, rfl⟩
set_option maxRecDepth 100000 in
theorem cOf_any (s : ByteArray) (w : World) (hs : s.size ≤ 9223372036854775807) :
    Calls Try.prog 187 #[.string s] w fun r w' => r = .returned (.int .u32 (crcV s : Nat)) ∧ Gr w w' := by
  have HA : Hid (SumAt (w.alloc (.cells #[.int .u32 0] 229)) w.heap.size 4294967295) := Lib.hid (World.alloc_heap_new w _)
  have HG : Hid (Gr w (w.alloc (.cells #[.int .u32 0] 229))) := Lib.hid ((Gr.rfl' w).al _)
  go_enter Try.func187, Try.ntmps187
  go_wp2_with fail
  refine (cWrite_any w.heap.size 4294967295 s _ HA.out (by decide) hs).mono ?_
  rintro r w1 ⟨rfl, h1, m1⟩
  obtain ⟨c0, f0⟩ := h1.cell
  have G1 := Lib.hid (m1.below HG.out (Nat.le_refl _))
  clear m1 h1
  obtain ⟨g, hg⟩ : ∃ g, w.heap.size = g := ⟨_, rfl⟩
  rw [hg] at c0 f0 ⊢
  clear hg HA HG
  go_wp2_with fail
  refine (cValue_any g _ w1 c0).mono ?_
  rintro r w2 ⟨rfl, rfl⟩
  go_wp2
  go_ret
  exact ⟨rfl, G1.out⟩
set_option maxRecDepth 100000 in
theorem rOf_any (s : ByteArray) (w : World) (hs : s.size ≤ 9223372036854775807) :
    Calls Try.prog 190 #[.string s] w fun r w' => r = .returned (.int .u32 (crcV s : Nat)) ∧ w' = w := by
  have hsz := Lib.size_eq s
  have HSZ := Lib.hid hsz
  clear hsz
  go_enter Try.func190, Try.ntmps190
  go_wp2
  go_loop [4, 3] (fun i v => ∃ k : Nat, k ≤ s.size ∧ i = .int .i64 k ∧ v = .int .u32 (cL 4294967295 ((nts s).take k) : Nat)) (fun i _ => s.size - (intOf i).toNat)
  case atStart => exact ⟨0, Nat.zero_le _, rfl, rfl⟩
  case round =>
    obtain ⟨k, hk, rfl, rfl⟩ := hrel
    have hlt0 := cL_lt ((nts s).take k) (show 4294967295 < 4294967296 by decide) (fun b hb => nts_lt s b (List.mem_of_mem_take hb))
    by_cases hlt : k < s.size
    · have hki : (k : Int) < s.size := by omega
      have hl : (nts s).length = s.size := by unfold nts; rw [List.length_map, ← HSZ.out]
      have hst : cL 4294967295 ((nts s).take (k + 1)) = cB (cL 4294967295 ((nts s).take k)) s[k].toNat := by
        rw [List.take_succ_eq_append_getElem (by rw [hl]; exact hlt)]
        unfold cL
        rw [List.foldl_append]
        simp only [List.foldl_cons, List.foldl_nil]
        congr 1
        simp [nts, ByteArray.getElem_eq_getElem_data]
      obtain ⟨c, hc⟩ : ∃ c, cL 4294967295 ((nts s).take k) = c := ⟨_, rfl⟩
      rw [hc] at hst hlt0
      simp only [hc]
      clear hc
      have hb := s[k].toNat_lt
      have hbi : ((s[k].toNat : Nat) : Int) < 256 := by omega
      have e2 := n_xor hlt0 (show s[k].toNat < 4294967296 by omega)
      obtain ⟨v0, hv0⟩ : ∃ v0, c ^^^ s[k].toNat = v0 := ⟨_, rfl⟩
      have hl0 : v0 < 4294967296 := by rw [← hv0]; exact Nat.xor_lt_two_pow (n := 32) (by simpa using hlt0) (by omega)
      have HST : Hid (cL 4294967295 ((nts s).take (k + 1)) = cTn 8 v0) := Lib.hid (by rw [hst]; unfold cB; rw [hv0])
      rw [hv0] at e2
      have E2 := Lib.hid e2
      clear hst hl hv0 e2
      go_wp2
      rw [E2.out]
      go_loop [5, 3] (fun i v => ∃ j : Nat, j ≤ 8 ∧ i = .int .i64 j ∧ v = .int .u32 (cTn j v0 : Nat)) (fun i _ => 8 - (intOf i).toNat)
      case atStart => exact ⟨0, Nat.zero_le _, rfl, rfl⟩
      case round =>
        obtain ⟨j, hj, rfl, rfl⟩ := hrel
        have hlv := cTn_lt j hl0
        have HT := Lib.hid (cTn_succ j v0)
        obtain ⟨v, hv⟩ : ∃ v, cTn j v0 = v := ⟨_, rfl⟩
        rw [hv] at hlv HT
        have HV := Lib.hid hv
        simp only [hv]
        clear hv
        by_cases h8 : j < 8
        · have hji : (j : Int) < 8 := by omega
          by_cases ho : v % 2 = 1
          · have hob : (((v : Int) % 2) == 1) = true := by simp; omega
            have ex : bits .xor .u32 ((v : Int) / 2) 3988292384 = ((cT v : Nat) : Int) := by
              have := n_xor (a := v / 2) (b := 3988292384) (by omega) (by decide)
              unfold cT
              rw [if_pos ho]
              exact this
            have EX := Lib.hid ex
            clear ex ho
            go_wp2
            go_round
            case rel => exact ⟨j + 1, by omega, by go_num, by rw [EX.out, HT.out]⟩
            case measure => simp [intOf]; omega
          · have hob : (((v : Int) % 2) == 1) = false := by simp; omega
            have ex : ((v : Int) / 2) = ((cT v : Nat) : Int) := by
              unfold cT
              rw [if_neg ho]
              norm_cast
            have EX := Lib.hid ex
            clear ex ho
            go_wp2
            go_round
            case rel => exact ⟨j + 1, by omega, by go_num, by rw [EX.out, HT.out]⟩
            case measure => simp [intOf]; omega
        · have hk8 : j = 8 := by omega
          subst hk8
          have hji : ¬ ((8 : Nat) : Int) < 8 := by omega
          go_wp2
          go_round
          case rel => exact ⟨k + 1, by omega, by go_num, by rw [HST.out, HV.out]⟩
          case measure => simp [intOf]; omega
    · have hkk : k = s.size := by omega
      subst hkk
      have hki : ¬ (s.size : Int) < s.size := by omega
      have hl : (nts s).take s.size = nts s := List.take_of_length_le (by unfold nts; rw [List.length_map, ← HSZ.out]; exact Nat.le_refl _)
      rw [hl] at hlt0
      simp only [hl]
      have HV : Hid (crcV s = 4294967295 - cL 4294967295 (nts s)) := Lib.hid rfl
      obtain ⟨c, hc⟩ : ∃ c, cL 4294967295 (nts s) = c := ⟨_, rfl⟩
      rw [hc] at hlt0 HV
      simp only [hc]
      clear hc hl
      have hci : (c : Int) ≤ 4294967295 := by omega
      go_wp2
      go_ret
      rw [HV.out]
      exact ⟨ret_int (by omega), rfl⟩
end Go.Proofs.Ytfobnemocodomaa
