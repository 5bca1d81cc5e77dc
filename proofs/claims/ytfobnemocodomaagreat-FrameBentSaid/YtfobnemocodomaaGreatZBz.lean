/- Joined texts: CrcP CrcA CrcB FrmC. -/
import Derived.Test.YtfobnemocodomaaGreatZBl
import Derived.Laws.Shifts
set_option maxHeartbeats 200000
set_option linter.unusedVariables false
set_option linter.unusedSimpArgs false
namespace Go.Proofs.YtfobnemocodomaaGreat

abbrev cPoly : Nat := 3988292384
/-- one bit -/
def cT (v : Nat) : Nat := if v % 2 = 1 then (v / 2) ^^^ cPoly else v / 2
def cTn : Nat → Nat → Nat
  | 0, v => v
  | n + 1, v => cTn n (cT v)
def cB (v b : Nat) : Nat := cTn 8 (v ^^^ b)
def cL (v : Nat) (l : List Nat) : Nat := l.foldl cB v
theorem cTn_add : ∀ (m n v : Nat), cTn (m + n) v = cTn n (cTn m v)
  | 0, n, v => by rw [Nat.zero_add]; rfl
  | m + 1, n, v => by
    rw [show m + 1 + n = (m + n) + 1 by omega]
    show cTn (m + n) (cT v) = cTn n (cTn m (cT v))
    exact cTn_add m n (cT v)
theorem xor_mod2 (x y : Nat) : (x ^^^ y) % 2 = (x % 2 + y % 2) % 2 := by
  have := Nat.testBit_xor x y 0
  simp only [Nat.testBit_zero] at this
  rcases Nat.mod_two_eq_zero_or_one x with hx | hx <;> rcases Nat.mod_two_eq_zero_or_one y with hy | hy <;> rcases Nat.mod_two_eq_zero_or_one (x ^^^ y) with hz | hz <;> simp_all
theorem xor_div2 (x y : Nat) : (x ^^^ y) / 2 = (x / 2) ^^^ (y / 2) := by
  apply Nat.eq_of_testBit_eq
  intro i
  rw [Nat.testBit_xor, Nat.testBit_div_two, Nat.testBit_div_two, Nat.testBit_div_two, Nat.testBit_xor]
theorem cT_xor (x y : Nat) : cT (x ^^^ y) = cT x ^^^ cT y := by
  unfold cT
  rw [xor_mod2, xor_div2]
  rcases Nat.mod_two_eq_zero_or_one x with hx | hx <;> rcases Nat.mod_two_eq_zero_or_one y with hy | hy <;> rw [hx, hy]
  · simp
  · simp [Nat.xor_assoc]
  · simp only [Nat.zero_add, Nat.add_zero, Nat.one_mod, if_true, if_false, Nat.zero_ne_one]
    rw [Nat.xor_assoc, Nat.xor_assoc, Nat.xor_comm cPoly]
  · simp only [show (1 + 1) % 2 = 0 from rfl, Nat.zero_ne_one, if_true, if_false]
    rw [show (x / 2 ^^^ cPoly) ^^^ (y / 2 ^^^ cPoly) = (x / 2 ^^^ y / 2) ^^^ (cPoly ^^^ cPoly) by
      rw [Nat.xor_assoc, Nat.xor_assoc, ← Nat.xor_assoc cPoly, Nat.xor_comm cPoly (y / 2), Nat.xor_assoc (y / 2)], Nat.xor_self, Nat.xor_zero]
theorem cTn_xor : ∀ (n x y : Nat), cTn n (x ^^^ y) = cTn n x ^^^ cTn n y
  | 0, _, _ => rfl
  | n + 1, x, y => by
    show cTn n (cT (x ^^^ y)) = _
    rw [cT_xor]; exact cTn_xor n _ _
theorem xor4 (a b c d : Nat) : (a ^^^ b) ^^^ (c ^^^ d) = (a ^^^ c) ^^^ (b ^^^ d) := by
  rw [Nat.xor_assoc, Nat.xor_assoc, ← Nat.xor_assoc b, Nat.xor_comm b c, Nat.xor_assoc c]
theorem cB_xor (v w a b : Nat) : cB (v ^^^ w) (a ^^^ b) = cB v a ^^^ cB w b := by
  unfold cB; rw [xor4, cTn_xor]
/-- two rows put together bit by bit -/
def zipX : List Nat → List Nat → List Nat
  | a :: l, b :: m => (a ^^^ b) :: zipX l m
  | l, [] => l
  | [], m => m
theorem cL_xor : ∀ (l m : List Nat) (v w : Nat), l.length = m.length → cL (v ^^^ w) (zipX l m) = cL v l ^^^ cL w m
  | [], [], v, w, _ => rfl
  | [], b :: m, v, w, h => by simp at h
  | a :: l, [], v, w, h => by simp at h
  | a :: l, b :: m, v, w, h => by
    show cL (cB (v ^^^ w) (a ^^^ b)) (zipX l m) = cL (cB v a) l ^^^ cL (cB w b) m
    rw [cB_xor]; exact cL_xor l m _ _ (by simpa using h)
theorem cT_lt {x : Nat} (h : x < 4294967296) : cT x < 4294967296 := by
  unfold cT
  split
  · exact Nat.xor_lt_two_pow (n := 32) (by omega) (by decide)
  · omega
theorem cT_zero {x : Nat} (h : x < 4294967296) (k : cT x = 0) : x = 0 := by
  unfold cT at k
  split at k
  · have e : x / 2 = cPoly := by
      have : (x / 2 ^^^ cPoly) ^^^ cPoly = 0 ^^^ cPoly := by rw [k]
      rwa [Nat.xor_assoc, Nat.xor_self, Nat.xor_zero, Nat.zero_xor] at this
    have : x / 2 < 2147483648 := by omega
    rw [e] at this
    exact absurd this (by decide)
  · omega
theorem cTn_lt : ∀ (n : Nat) {x : Nat}, x < 4294967296 → cTn n x < 4294967296
  | 0, _, h => h
  | n + 1, _, h => cTn_lt n (cT_lt h)
theorem cTn_zero : ∀ (n : Nat) {x : Nat}, x < 4294967296 → cTn n x = 0 → x = 0
  | 0, _, _, k => k
  | n + 1, _, h, k => cT_zero h (cTn_zero n (cT_lt h) k)
theorem cTn_z : ∀ n, cTn n 0 = 0
  | 0 => rfl
  | n + 1 => cTn_z n
theorem cL_zeros : ∀ (n v : Nat), cL v (List.replicate n 0) = cTn (8 * n) v
  | 0, v => rfl
  | n + 1, v => by
    rw [List.replicate_succ]
    show cL (cB v 0) _ = _
    rw [cL_zeros n, show 8 * (n + 1) = 8 + 8 * n by omega, cTn_add]
    unfold cB; rw [Nat.xor_zero]
theorem cT_dbl (u : Nat) : cT (2 * u) = u := by
  unfold cT; rw [if_neg (by omega)]; omega
theorem cTn_dbl : ∀ (n u : Nat), cTn n (2 ^ n * u) = u
  | 0, u => by simp [cTn]
  | n + 1, u => by
    show cTn n (cT (2 ^ (n + 1) * u)) = u
    rw [show 2 ^ (n + 1) * u = 2 * (2 ^ n * u) by rw [Nat.pow_succ]; simp only [Nat.mul_assoc, Nat.mul_comm, Nat.mul_left_comm], cT_dbl]
    exact cTn_dbl n u
/-- the four bytes of a word, the low one first -/
def wrd : List Nat → Nat
  | [] => 0
  | b :: r => b ^^^ (256 * wrd r)
theorem cL_wrd : ∀ (l : List Nat) (v : Nat), cL v l = cTn (8 * l.length) (v ^^^ wrd l)
  | [], v => by simp [cL, wrd, cTn]
  | b :: r, v => by
    show cL (cB v b) r = _
    rw [cL_wrd r, List.length_cons, show 8 * (r.length + 1) = 8 + 8 * r.length by omega, cTn_add]
    congr 1
    unfold cB
    rw [show wrd (b :: r) = b ^^^ (2 ^ 8 * wrd r) from rfl, ← Nat.xor_assoc, cTn_xor 8 (v ^^^ b), cTn_dbl]
theorem wrd_lt (l : List Nat) (h : ∀ b ∈ l, b < 256) : ∀ n, l.length ≤ n → wrd l < 2 ^ (8 * n) := by
  induction l with
  | nil => intro n _; exact Nat.pow_pos (by decide)
  | cons b r ih =>
    intro n hn
    cases n with
    | zero => simp at hn
    | succ n =>
      have h1 := ih (fun x hx => h x (List.mem_cons_of_mem _ hx)) n (by simpa using hn)
      have h2 := h b (by simp)
      have e : 2 ^ (8 * (n + 1)) = 256 * 2 ^ (8 * n) := by rw [show 8 * (n + 1) = 8 * n + 8 by omega, Nat.pow_add, Nat.mul_comm]
      unfold wrd
      refine Nat.xor_lt_two_pow ?_ ?_
      · rw [e]; have : 0 < 2 ^ (8 * n) := Nat.pow_pos (by decide); omega
      · rw [e]; omega
theorem wrd_zero : ∀ (l : List Nat), (∀ b ∈ l, b < 256) → wrd l = 0 → ∀ b ∈ l, b = 0
  | [], _, _, b, hb => by simp at hb
  | a :: r, h, k, b, hb => by
    unfold wrd at k
    have e : a = 256 * wrd r := by
      have : (a ^^^ 256 * wrd r) ^^^ (256 * wrd r) = 0 ^^^ (256 * wrd r) := by rw [k]
      rwa [Nat.xor_assoc, Nat.xor_self, Nat.xor_zero, Nat.zero_xor] at this
    have ha := h a (by simp)
    have hr : wrd r = 0 := by omega
    have ha0 : a = 0 := by omega
    rcases List.mem_cons.1 hb with rfl | hb
    · exact ha0
    · exact wrd_zero r (fun x hx => h x (List.mem_cons_of_mem _ hx)) hr b hb
/-- four bytes within zeros never come to nothing -/
theorem cL_burst (k m : Nat) (d : List Nat) (h4 : d.length = 4) (hd : ∀ b ∈ d, b < 256) (h : cL 0 (List.replicate k 0 ++ d ++ List.replicate m 0) = 0) : ∀ b ∈ d, b = 0 := by
  have e : cL 0 (List.replicate k 0 ++ d ++ List.replicate m 0) = cL (cL (cL 0 (List.replicate k 0)) d) (List.replicate m 0) := by
    unfold cL; rw [List.foldl_append, List.foldl_append]
  rw [e, cL_zeros k, cTn_z, cL_zeros, cL_wrd, Nat.zero_xor, h4] at h
  have hw : wrd d < 4294967296 := wrd_lt d hd 4 (by omega)
  have h1 := cTn_zero _ (cTn_lt 32 hw) h
  exact wrd_zero d hd (cTn_zero 32 hw h1)
/-- a row and its own sum come to nothing, in plain words: if what was turned comes to the sum's turned bits, all that was turned comes to nothing -/
theorem cL_own (l s : List Nat) (h4 : s.length = 4) (h : cL 0 l = wrd s) : cL 0 (l ++ s) = 0 := by
  have e : cL 0 (l ++ s) = cL (cL 0 l) s := by unfold cL; rw [List.foldl_append]
  rw [e, cL_wrd, h, Nat.xor_self, cTn_z]
end Go.Proofs.YtfobnemocodomaaGreat
set_option linter.unusedVariables false
set_option linter.unusedSimpArgs false
set_option maxHeartbeats 1000000
namespace Go.Proofs.YtfobnemocodomaaGreat
open Go.RowKit Go.Shelf

theorem ofN32 {a : Nat} (h : a < 4294967296) : BitVec.ofInt 32 (a : Int) = BitVec.ofNat 32 a := BitVec.ofInt_natCast 32 a
theorem wrapN32 {a : Nat} (h : a < 4294967296) : IntKind.u32.wrap (a : Int) = (a : Int) := by rw [IntKind.wrap_u32]; omega
theorem n_xor {a b : Nat} (ha : a < 4294967296) (hb : b < 4294967296) : bits .xor .u32 (a : Int) (b : Int) = ((a ^^^ b : Nat) : Int) := by
  show IntKind.u32.wrap ((BitVec.ofInt 32 (a : Int) ^^^ BitVec.ofInt 32 (b : Int)).toNat : Int) = _
  rw [ofN32 ha, ofN32 hb, BitVec.toNat_xor, BitVec.toNat_ofNat, BitVec.toNat_ofNat, Nat.mod_eq_of_lt (by simpa using ha), Nat.mod_eq_of_lt (by simpa using hb)]
  exact wrapN32 (Nat.xor_lt_two_pow (n := 32) (by simpa using ha) (by simpa using hb))
theorem n_not {a : Nat} (ha : a < 4294967296) : bits .xor .u32 IntKind.u32.max (a : Int) = ((4294967295 - a : Nat) : Int) := by
  have h : BitVec.ofInt 32 IntKind.u32.max = BitVec.allOnes 32 := by decide
  show IntKind.u32.wrap ((BitVec.ofInt 32 IntKind.u32.max ^^^ BitVec.ofInt 32 (a : Int)).toNat : Int) = _
  rw [h, ofN32 ha, BitVec.allOnes_xor, BitVec.toNat_not, BitVec.toNat_ofNat, Nat.mod_eq_of_lt (by simpa using ha)]
  have e : 2 ^ 32 - 1 - a = 4294967295 - a := rfl
  rw [e]
  exact wrapN32 (by omega)
/-- the bytes of a text as numbers -/
def nts (s : ByteArray) : List Nat := s.data.toList.map UInt8.toNat
def crcV (s : ByteArray) : Nat := 4294967295 - cL 4294967295 (nts s)
def SumAt (w : World) (g : Nat) (c : Nat) : Prop := w.heap[g]? = some (.cells #[.int .u32 ((4294967295 - c : Nat) : Int)] 169 (0, 0))
theorem SumAt.cell {w : World} {g c : Nat} (h : SumAt w g c) : w.cell? ⟨g, 0, none⟩ = some (.int .u32 ((4294967295 - c : Nat) : Int)) ∧ w.frozen? ⟨g, 0, none⟩ = false := by
  have h' : w.heap[g]? = _ := h
  refine ⟨?_, by simp [World.frozen?, h']⟩
  simp only [World.cell?, h']; rfl
theorem cB_lt {v b : Nat} (hv : v < 4294967296) (hb : b < 256) : cB v b < 4294967296 := cTn_lt 8 (Nat.xor_lt_two_pow (n := 32) (by simpa using hv) (by omega))
theorem cL_lt : ∀ (l : List Nat) {v : Nat}, v < 4294967296 → (∀ b ∈ l, b < 256) → cL v l < 4294967296
  | [], _, h, _ => h
  | b :: r, v, h, hl => cL_lt r (cB_lt h (hl b (by simp))) (fun x hx => hl x (List.mem_cons_of_mem _ hx))
theorem nts_lt (s : ByteArray) : ∀ b ∈ nts s, b < 256 := by
  intro b hb
  obtain ⟨x, _, rfl⟩ := List.mem_map.1 hb
  exact x.toNat_lt
theorem cTn_succ (k v : Nat) : cTn (k + 1) v = cT (cTn k v) := by rw [cTn_add k 1]; rfl
set_option maxRecDepth 100000 in
theorem cStep_any (g c : Nat) (b : UInt8) (w : World) (h : SumAt w g c) (hc : c < 4294967296) :
    Calls Tryz.prog 138 #[.pointer (some ⟨g, 0, none⟩), .int .u8 (b.toNat : Int)] w fun r w' => r = .returned (.tuple #[]) ∧ SumAt w' g (cB c b.toNat) ∧ Rm g w w' := by
  obtain ⟨c0, f0⟩ := h.cell
  have HH := Lib.hid h
  clear h
  have hb := b.toNat_lt
  have hbi : ((b.toNat : Nat) : Int) < 256 := by omega
  have e1 : bits .xor .u32 IntKind.u32.max ((4294967295 - c : Nat) : Int) = (c : Int) := by rw [n_not (by omega)]; congr 1; omega
  have e2 := n_xor hc (show b.toNat < 4294967296 by omega)
  obtain ⟨v0, hv0⟩ : ∃ v0, c ^^^ b.toNat = v0 := ⟨_, rfl⟩
  have hl0 : v0 < 4294967296 := by rw [← hv0]; exact Nat.xor_lt_two_pow (n := 32) (by simpa using hc) (by omega)
  have HCB : Hid (cB c b.toNat = cTn 8 v0) := Lib.hid (by unfold cB; rw [hv0])
  rw [hv0] at e2
  have E1 := Lib.hid e1
  have E2 := Lib.hid e2
  clear e1 e2 hv0
  go_enter Tryz.func138, Tryz.ntmps138
  go_wp2
  rw [E1.out, E2.out]
  go_loop [14, 4] (fun i v => ∃ k : Nat, k ≤ 8 ∧ i = .int .i64 k ∧ v = .int .u32 (cTn k v0 : Nat)) (fun i _ => 8 - (intOf i).toNat)
  case atStart => exact ⟨0, Nat.zero_le _, rfl, rfl⟩
  case round =>
    obtain ⟨k, hk, rfl, rfl⟩ := hrel
    have hlt := cTn_lt k hl0
    have HT := Lib.hid (cTn_succ k v0)
    obtain ⟨v, hv⟩ : ∃ v, cTn k v0 = v := ⟨_, rfl⟩
    rw [hv] at hlt HT
    have HV := Lib.hid hv
    simp only [hv]
    clear hv
    by_cases h8 : k < 8
    · have hki : (k : Int) < 8 := by omega
      have ea : bits .and .u32 (v : Int) 1 = ((v % 2 : Nat) : Int) := by
        show IntKind.u32.wrap ((BitVec.ofInt 32 (v : Int) &&& BitVec.ofInt 32 1).toNat : Int) = _
        rw [ofN32 hlt, BitVec.toNat_and, BitVec.toNat_ofNat, Nat.mod_eq_of_lt (by simpa using hlt)]
        have : (BitVec.ofInt 32 1).toNat = 1 := by decide
        rw [this, Nat.and_one_is_mod]
        exact wrapN32 (by omega)
      by_cases ho : v % 2 = 1
      · have hob : (((v : Int) % 2) == 1) = true := by simp; omega
        have ex : bits .xor .u32 ((v : Int) / 2) 3988292384 = ((cT v : Nat) : Int) := by
          have := n_xor (a := v / 2) (b := 3988292384) (by omega) (by decide)
          unfold cT
          rw [if_pos ho]
          exact this
        have EX := Lib.hid ex
        clear ex ho
        go_wp2
        go_round
        case rel => exact ⟨k + 1, by omega, by go_num, by rw [EX.out, HT.out]⟩
        case measure => simp [intOf]; omega
      · have hob : (((v : Int) % 2) == 1) = false := by simp; omega
        have ex : ((v : Int) / 2) = ((cT v : Nat) : Int) := by
          unfold cT
          rw [if_neg ho]
          norm_cast
        have EX := Lib.hid ex
        clear ex ho
        go_wp2
        go_round
        case rel => exact ⟨k + 1, by omega, by go_num, by rw [EX.out, HT.out]⟩
        case measure => simp [intOf]; omega
    · have hk8 : k = 8 := by omega
      subst hk8
      have hki : ¬ ((8 : Nat) : Int) < 8 := by omega
      have e3 := n_not hlt
      go_wp2
      go_end0
      refine ⟨rfl, ?_, (Rm.refl g w).setCell 0 _⟩
      unfold SumAt
      rw [HCB.out, HV.out]
      have hb := HH.out
      unfold SumAt at hb
      have := heap_set_sameW (o := 0) hb (.int .u32 ((4294967295 - v : Nat) : Int))
      exact this
set_option maxRecDepth 100000 in
theorem cWrite_any (g c : Nat) (s : ByteArray) (w : World) (h : SumAt w g c) (hc : c < 4294967296) (hs : s.size ≤ 9223372036854775807) :
    Calls Tryz.prog 116 #[.pointer (some ⟨g, 0, none⟩), .string s] w fun r w' => r = .returned (.tuple #[]) ∧ SumAt w' g (cL c (nts s)) ∧ Rm g w w' := by
  have HH := Lib.hid h
  have HM := Lib.hid (Rm.refl g w)
  have hsz := Lib.size_eq s
  have HSZ := Lib.hid hsz
  clear h hsz
  go_enter Tryz.func116, Tryz.ntmps116
  go_wp2
  go_loopw [12] (fun i wr => ∃ k : Nat, k ≤ s.size ∧ i = .int .i64 k ∧ Hid (SumAt wr g (cL c ((nts s).take k))) ∧ Hid (Rm g w wr)) (fun i _ => s.size - (intOf i).toNat)
  case atStart => exact ⟨0, Nat.zero_le _, rfl, HH, HM⟩
  case round =>
    clear HH HM
    obtain ⟨k, hk, rfl, HS, HM⟩ := hrel
    by_cases hlt : k < s.size
    · have hki : (k : Int) < s.size := by omega
      have hl : (nts s).length = s.size := by unfold nts; rw [List.length_map, ← HSZ.out]
      have hst : cL c ((nts s).take (k + 1)) = cB (cL c ((nts s).take k)) s[k].toNat := by
        rw [List.take_succ_eq_append_getElem (by rw [hl]; exact hlt)]
        unfold cL
        rw [List.foldl_append]
        simp only [List.foldl_cons, List.foldl_nil]
        congr 1
        simp [nts, ByteArray.getElem_eq_getElem_data]
      have HST := Lib.hid hst
      have hlt2 := cL_lt ((nts s).take k) hc (fun b hb => nts_lt s b (List.mem_of_mem_take hb))
      have HC := Lib.hid (cStep_any g (cL c ((nts s).take k)) s[k] wr HS.out hlt2)
      clear hst hl hlt2
      go_wp2_with fail
      refine (HC.out).mono ?_
      rintro r w1 ⟨rfl, h1, m1⟩
      have H1 : Hid (SumAt w1 g (cL c ((nts s).take (k + 1)))) := Lib.hid (by rw [HST.out]; exact h1)
      have M1 := Lib.hid (HM.out.trans m1)
      clear h1 m1 HC
      go_wp2
      go_roundw
      case rel => exact ⟨k + 1, by omega, by go_num, H1, M1⟩
      case measure => simp [intOf]; omega
    · have hkk : k = s.size := by omega
      subst hkk
      have hki : ¬ (s.size : Int) < s.size := by omega
      have hl : (nts s).take s.size = nts s := List.take_of_length_le (by unfold nts; rw [List.length_map, ← HSZ.out]; exact Nat.le_refl _)
      rw [hl] at HS
      go_wp2
      go_end0
      exact ⟨rfl, HS.out, HM.out⟩
set_option maxRecDepth 100000 in
theorem cValue_any (g : Nat) (v : Nat) (w : World) (c0 : w.cell? ⟨g, 0, none⟩ = some (.int .u32 (v : Int))) :
    Calls Tryz.prog 117 #[.pointer (some ⟨g, 0, none⟩)] w fun r w' => r = .returned (.int .u32 (v : Int)) ∧ w' = w := by
  go_enter Tryz.func117, Tryz.ntmps117
  go_wp2
  go_ret
  exact ⟨rfl, rfl⟩
set_option maxRecDepth 100000 in
theorem cOf_any (s : ByteArray) (w : World) (hs : s.size ≤ 9223372036854775807) :
    Calls Tryz.prog 93 #[.string s] w fun r w' => r = .returned (.int .u32 (crcV s : Nat)) ∧ Gr w w' := by
  have HA : Hid (SumAt (w.alloc (.cells #[.int .u32 0] 169)) w.heap.size 4294967295) := Lib.hid (World.alloc_heap_new w _)
  have HG : Hid (Gr w (w.alloc (.cells #[.int .u32 0] 169))) := Lib.hid ((Gr.rfl' w).al _)
  go_enter Tryz.func93, Tryz.ntmps93
  go_wp2_with fail
  refine (cWrite_any w.heap.size 4294967295 s _ HA.out (by decide) hs).mono ?_
  rintro r w1 ⟨rfl, h1, m1⟩
  obtain ⟨c0, f0⟩ := h1.cell
  have G1 := Lib.hid (m1.below HG.out (Nat.le_refl _))
  clear m1 h1
  obtain ⟨g, hg⟩ : ∃ g, w.heap.size = g := ⟨_, rfl⟩
  rw [hg] at c0 f0 ⊢
  clear hg HA HG
  go_wp2_with fail
  refine (cValue_any g _ w1 c0).mono ?_
  rintro r w2 ⟨rfl, rfl⟩
  go_wp2
  go_ret
  exact ⟨rfl, G1.out⟩
set_option maxRecDepth 100000 in
theorem rOf_any (s : ByteArray) (w : World) (hs : s.size ≤ 9223372036854775807) :
    Calls Tryz.prog 115 #[.string s] w fun r w' => r = .returned (.int .u32 (crcV s : Nat)) ∧ w' = w := by
  have hsz := Lib.size_eq s
  have HSZ := Lib.hid hsz
  clear hsz
  go_enter Tryz.func115, Tryz.ntmps115
  go_wp2
  go_loop [4, 3] (fun i v => ∃ k : Nat, k ≤ s.size ∧ i = .int .i64 k ∧ v = .int .u32 (cL 4294967295 ((nts s).take k) : Nat)) (fun i _ => s.size - (intOf i).toNat)
  case atStart => exact ⟨0, Nat.zero_le _, rfl, rfl⟩
  case round =>
    obtain ⟨k, hk, rfl, rfl⟩ := hrel
    have hlt0 := cL_lt ((nts s).take k) (show 4294967295 < 4294967296 by decide) (fun b hb => nts_lt s b (List.mem_of_mem_take hb))
    by_cases hlt : k < s.size
    · have hki : (k : Int) < s.size := by omega
      have hl : (nts s).length = s.size := by unfold nts; rw [List.length_map, ← HSZ.out]
      have hst : cL 4294967295 ((nts s).take (k + 1)) = cB (cL 4294967295 ((nts s).take k)) s[k].toNat := by
        rw [List.take_succ_eq_append_getElem (by rw [hl]; exact hlt)]
        unfold cL
        rw [List.foldl_append]
        simp only [List.foldl_cons, List.foldl_nil]
        congr 1
        simp [nts, ByteArray.getElem_eq_getElem_data]
      obtain ⟨c, hc⟩ : ∃ c, cL 4294967295 ((nts s).take k) = c := ⟨_, rfl⟩
      rw [hc] at hst hlt0
      simp only [hc]
      clear hc
      have hb := s[k].toNat_lt
      have hbi : ((s[k].toNat : Nat) : Int) < 256 := by omega
      have e2 := n_xor hlt0 (show s[k].toNat < 4294967296 by omega)
      obtain ⟨v0, hv0⟩ : ∃ v0, c ^^^ s[k].toNat = v0 := ⟨_, rfl⟩
      have hl0 : v0 < 4294967296 := by rw [← hv0]; exact Nat.xor_lt_two_pow (n := 32) (by simpa using hlt0) (by omega)
      have HST : Hid (cL 4294967295 ((nts s).take (k + 1)) = cTn 8 v0) := Lib.hid (by rw [hst]; unfold cB; rw [hv0])
      rw [hv0] at e2
      have E2 := Lib.hid e2
      clear hst hl hv0 e2
      go_wp2
      rw [E2.out]
      go_loop [5, 3] (fun i v => ∃ j : Nat, j ≤ 8 ∧ i = .int .i64 j ∧ v = .int .u32 (cTn j v0 : Nat)) (fun i _ => 8 - (intOf i).toNat)
      case atStart => exact ⟨0, Nat.zero_le _, rfl, rfl⟩
      case round =>
        obtain ⟨j, hj, rfl, rfl⟩ := hrel
        have hlv := cTn_lt j hl0
        have HT := Lib.hid (cTn_succ j v0)
        obtain ⟨v, hv⟩ : ∃ v, cTn j v0 = v := ⟨_, rfl⟩
        rw [hv] at hlv HT
        have HV := Lib.hid hv
        simp only [hv]
        clear hv
        by_cases h8 : j < 8
        · have hji : (j : Int) < 8 := by omega
          by_cases ho : v % 2 = 1
          · have hob : (((v : Int) % 2) == 1) = true := by simp; omega
            have ex : bits .xor .u32 ((v : Int) / 2) 3988292384 = ((cT v : Nat) : Int) := by
              have := n_xor (a := v / 2) (b := 3988292384) (by omega) (by decide)
              unfold cT
              rw [if_pos ho]
              exact this
            have EX := Lib.hid ex
            clear ex ho
            go_wp2
            go_round
            case rel => exact ⟨j + 1, by omega, by go_num, by rw [EX.out, HT.out]⟩
            case measure => simp [intOf]; omega
          · have hob : (((v : Int) % 2) == 1) = false := by simp; omega
            have ex : ((v : Int) / 2) = ((cT v : Nat) : Int) := by
              unfold cT
              rw [if_neg ho]
              norm_cast
            have EX := Lib.hid ex
            clear ex ho
            go_wp2
            go_round
            case rel => exact ⟨j + 1, by omega, by go_num, by rw [EX.out, HT.out]⟩
            case measure => simp [intOf]; omega
        · have hk8 : j = 8 := by omega
          subst hk8
          have hji : ¬ ((8 : Nat) : Int) < 8 := by omega
          go_wp2
          go_round
          case rel => exact ⟨k + 1, by omega, by go_num, by rw [HST.out, HV.out]⟩
          case measure => simp [intOf]; omega
    · have hkk : k = s.size := by omega
      subst hkk
      have hki : ¬ (s.size : Int) < s.size := by omega
      have hl : (nts s).take s.size = nts s := List.take_of_length_le (by unfold nts; rw [List.length_map, ← HSZ.out]; exact Nat.le_refl _)
      rw [hl] at hlt0
      simp only [hl]
      have HV : Hid (crcV s = 4294967295 - cL 4294967295 (nts s)) := Lib.hid rfl
      obtain ⟨c, hc⟩ : ∃ c, cL 4294967295 (nts s) = c := ⟨_, rfl⟩
      rw [hc] at hlt0 HV
      simp only [hc]
      clear hc hl
      have hci : (c : Int) ≤ 4294967295 := by omega
      go_wp2
      go_ret
      rw [HV.out]
      exact ⟨ret_int (by omega), rfl⟩
end Go.Proofs.YtfobnemocodomaaGreat
set_option linter.unusedVariables false
set_option linter.unusedSimpArgs false
set_option maxHeartbeats 1000000
namespace Go.Proofs.YtfobnemocodomaaGreat
open Go.RowKit Go.Shelf

/-- a number's four bytes, the low one first -/
def b4 (v : Nat) : List UInt8 := [UInt8.ofNat (v % 256), UInt8.ofNat (v / 256 % 256), UInt8.ofNat (v / 65536 % 256), UInt8.ofNat (v / 16777216 % 256)]
def sealV (s : ByteArray) : ByteArray := s ++ ⟨(b4 (crcV s)).toArray⟩
theorem crcV_lt (s : ByteArray) : crcV s < 4294967296 := by unfold crcV; omega
theorem b4_len (v : Nat) : (b4 v).length = 4 := rfl
theorem b4_cells (v : Nat) (hv : v < 4294967296) : (#[.int .u8 ((v : Int) % 256), .int .u8 ((v : Int) / 256 % 256), .int .u8 ((v : Int) / 65536 % 256), .int .u8 ((v : Int) / 16777216)] : Array Value) = digC (b4 v) := by
  have e : ∀ n : Nat, n < 256 → (((UInt8.ofNat n).toNat : Nat) : Int) = (n : Int) := fun n h => by rw [UInt8.toNat_ofNat_of_lt' (by exact h)]
  unfold digC b4
  simp only [List.map_cons, List.map_nil]
  rw [e _ (by omega), e _ (by omega), e _ (by omega), e _ (by omega)]
  congr 2
  have : (v : Int) / 16777216 = ((v / 16777216 % 256 : Nat) : Int) := by omega
  rw [this]
  rfl
theorem conv4 (v : Nat) (hv : v < 4294967296) (w : World) : (convert 47 9 (.slice (some ⟨w.heap.size, 0, none⟩) 4 4)).run Tryz.prog (w.alloc (.cells #[.int .u8 ((v : Int) % 256), .int .u8 ((v : Int) / 256 % 256), .int .u8 ((v : Int) / 65536 % 256), .int .u8 ((v : Int) / 16777216)] 5)) = .ok (.string ⟨(b4 v).toArray⟩) (w.alloc (.cells #[.int .u8 ((v : Int) % 256), .int .u8 ((v : Int) / 256 % 256), .int .u8 ((v : Int) / 65536 % 256), .int .u8 ((v : Int) / 16777216)] 5)) := by
  rw [b4_cells v hv]
  have := run_convert_bytes_back (P := Tryz.prog) (w.alloc (.cells (digC (b4 v)) 5)) 47 9 5 ⟨w.heap.size, 0, none⟩ 4 (b4 v) Tryz.underlying47 Tryz.underlying5 Tryz.underlying9 (fun j hj => by
    have e : ((⟨w.heap.size, 0, none⟩ : Addr).add j) = ⟨w.heap.size, j, none⟩ := by unfold Addr.add; split <;> simp_all
    rw [e]
    have hb := World.alloc_heap_new w (.cells (digC (b4 v)) 5)
    simp only [World.cell?, hb]
    exact digC_at (b4 v) j hj)
  rwa [b4_len] at this
set_option maxRecDepth 100000 in
theorem cSeal_any (s : ByteArray) (w : World) (hs : s.size + 4 ≤ 9223372036854775807) :
    Calls Tryz.prog 59 #[.string s] w fun r w' => r = .returned (.string (sealV s)) ∧ Gr w w' := by
  have hs1 : s.size ≤ 9223372036854775807 := by omega
  have HV : Hid (sealV s = s ++ ⟨(b4 (crcV s)).toArray⟩) := Lib.hid rfl
  have hv := crcV_lt s
  have HC := Lib.hid (cOf_any s w hs1)
  obtain ⟨v, hvv⟩ : ∃ v, crcV s = v := ⟨_, rfl⟩
  rw [hvv] at HV hv HC
  clear hvv
  have hvi : (v : Int) < 4294967296 := by omega
  have hcv := conv4 v hv
  have hsz : s.size + (⟨(b4 v).toArray⟩ : ByteArray).size ≤ 9223372036854775807 := hs
  go_enter Tryz.func59, Tryz.ntmps59
  go_wp2_with fail
  refine (HC.out).mono ?_
  rintro r w1 ⟨rfl, g1⟩
  clear HC
  go_wp2
  go_ret
  rw [HV.out]
  exact ⟨rfl, g1.al _⟩
set_option maxRecDepth 100000 in
theorem rSeal_any (s : ByteArray) (w : World) (hs : s.size + 4 ≤ 9223372036854775807) :
    Calls Tryz.prog 92 #[.string s] w fun r w' => r = .returned (.string (sealV s)) ∧ Gr w w' := by
  have hs1 : s.size ≤ 9223372036854775807 := by omega
  have HV : Hid (sealV s = s ++ ⟨(b4 (crcV s)).toArray⟩) := Lib.hid rfl
  have hv := crcV_lt s
  have HC := Lib.hid (rOf_any s w hs1)
  obtain ⟨v, hvv⟩ : ∃ v, crcV s = v := ⟨_, rfl⟩
  rw [hvv] at HV hv HC
  clear hvv
  have hvi : (v : Int) < 4294967296 := by omega
  have hcv := conv4 v hv
  have hsz : s.size + (⟨(b4 v).toArray⟩ : ByteArray).size ≤ 9223372036854775807 := hs
  go_enter Tryz.func92, Tryz.ntmps92
  go_wp2_with fail
  refine (HC.out).mono ?_
  rintro r w1 ⟨rfl, rfl⟩
  clear HC
  go_wp2
  go_ret
  rw [HV.out]
  exact ⟨rfl, (Gr.rfl' _).al _⟩
end Go.Proofs.YtfobnemocodomaaGreat
set_option linter.unusedVariables false
set_option linter.unusedSimpArgs false
set_option maxHeartbeats 1000000
namespace Go.Proofs.YtfobnemocodomaaGreat
open Go.RowKit Go.Shelf

/-- a sealed text without its sum -/
def unsV (S : ByteArray) : ByteArray × Bool := if S.size < 4 then (⟨#[]⟩, false) else if sealV (S.extract 0 (S.size - 4)) = S then (S.extract 0 (S.size - 4), true) else (⟨#[]⟩, false)
theorem toL_ne {T U : ByteArray} (h : T ≠ U) : (T.toList == U.toList) = false := by
  simp; intro k; exact h (by apply ByteArray.ext; rw [Lib.toList_data, Lib.toList_data] at k; exact Array.ext' k)
set_option maxRecDepth 100000 in
theorem cOpen_any (S : ByteArray) (w : World) (hS : S.size ≤ 9223372036854775807) :
    Calls Tryz.prog 114 #[.string S] w fun r w' => r = .returned (.tuple #[.string (unsV S).1, .bool (unsV S).2]) ∧ Gr w w' := by
  by_cases h4 : S.size < 4
  · have h4i : (S.size : Int) < 4 := by omega
    have HV : Hid (unsV S = (⟨#[]⟩, false)) := Lib.hid (if_pos h4)
    have hneg : ((S.size : Int) - 4 < 0) := by omega
    have hin := IntWalk.i64_in ((S.size : Int) - 4) (by omega)
    have HIN := Lib.hid hin
    clear hin
    go_enter Tryz.func114, Tryz.ntmps114
    go_wp2
    go_ret2
    rw [HV.out]
    exact ⟨rfl, Gr.rfl' _⟩
  have h4i : ¬ (S.size : Int) < 4 := by omega
  have hsub : (S.size : Int) - 4 = ((S.size - 4 : Nat) : Int) := by omega
  have h0 : (0 : Int) ≤ (S.size : Int) - 4 := by omega
  obtain ⟨T, hT⟩ : ∃ T, S.extract 0 (S.size - 4) = T := ⟨_, rfl⟩
  have hTs : T.size = S.size - 4 := by rw [← hT, ByteArray.size_extract]; omega
  have HC := Lib.hid (cSeal_any T w (by omega))
  have HSUB := Lib.hid hsub
  have HT := Lib.hid hT
  by_cases he : sealV T = S
  · have HV : Hid (unsV S = (T, true)) := Lib.hid (by unfold unsV; rw [if_neg h4, hT, if_pos he])
    rw [he] at HC
    clear he hsub hT hTs
    go_enter Tryz.func114, Tryz.ntmps114
    go_wp2_with fail
    rw [HT.out]
    refine (HC.out).mono ?_
    rintro r w1 ⟨rfl, g1⟩
    go_wp2
    go_ret2
    rw [HV.out, ← HT.out]
    exact ⟨rfl, g1⟩
  · have HV : Hid (unsV S = (⟨#[]⟩, false)) := Lib.hid (by unfold unsV; rw [if_neg h4, hT, if_neg he])
    have hne := toL_ne he
    obtain ⟨U, hU⟩ : ∃ U, sealV T = U := ⟨_, rfl⟩
    rw [hU] at HC hne
    clear he hsub hT hTs hU
    go_enter Tryz.func114, Tryz.ntmps114
    go_wp2_with fail
    rw [HT.out]
    refine (HC.out).mono ?_
    rintro r w1 ⟨rfl, g1⟩
    go_wp2
    go_ret2
    rw [HV.out]
    exact ⟨rfl, g1⟩
set_option maxRecDepth 100000 in
theorem rOpen_any (S : ByteArray) (w : World) (hS : S.size ≤ 9223372036854775807) :
    Calls Tryz.prog 58 #[.string S] w fun r w' => r = .returned (.tuple #[.string (unsV S).1, .bool (unsV S).2]) ∧ Gr w w' := by
  by_cases h4 : S.size < 4
  · have h4i : (S.size : Int) < 4 := by omega
    have HV : Hid (unsV S = (⟨#[]⟩, false)) := Lib.hid (if_pos h4)
    have hneg : ((S.size : Int) - 4 < 0) := by omega
    have hin := IntWalk.i64_in ((S.size : Int) - 4) (by omega)
    have HIN := Lib.hid hin
    clear hin
    go_enter Tryz.func58, Tryz.ntmps58
    go_wp2
    go_ret2
    rw [HV.out]
    exact ⟨rfl, Gr.rfl' _⟩
  have h4i : ¬ (S.size : Int) < 4 := by omega
  have hsub : (S.size : Int) - 4 = ((S.size - 4 : Nat) : Int) := by omega
  have h0 : (0 : Int) ≤ (S.size : Int) - 4 := by omega
  obtain ⟨T, hT⟩ : ∃ T, S.extract 0 (S.size - 4) = T := ⟨_, rfl⟩
  have hTs : T.size = S.size - 4 := by rw [← hT, ByteArray.size_extract]; omega
  have HC := Lib.hid (rSeal_any T w (by omega))
  have HSUB := Lib.hid hsub
  have HT := Lib.hid hT
  by_cases he : sealV T = S
  · have HV : Hid (unsV S = (T, true)) := Lib.hid (by unfold unsV; rw [if_neg h4, hT, if_pos he])
    rw [he] at HC
    clear he hsub hT hTs
    go_enter Tryz.func58, Tryz.ntmps58
    go_wp2_with fail
    rw [HT.out]
    refine (HC.out).mono ?_
    rintro r w1 ⟨rfl, g1⟩
    go_wp2
    go_ret2
    rw [HV.out, ← HT.out]
    exact ⟨rfl, g1⟩
  · have HV : Hid (unsV S = (⟨#[]⟩, false)) := Lib.hid (by unfold unsV; rw [if_neg h4, hT, if_neg he])
    have hne := toL_ne he
    obtain ⟨U, hU⟩ : ∃ U, sealV T = U := ⟨_, rfl⟩
    rw [hU] at HC hne
    clear he hsub hT hTs hU
    go_enter Tryz.func58, Tryz.ntmps58
    go_wp2_with fail
    rw [HT.out]
    refine (HC.out).mono ?_
    rintro r w1 ⟨rfl, g1⟩
    go_wp2
    go_ret2
    rw [HV.out]
    exact ⟨rfl, g1⟩
end Go.Proofs.YtfobnemocodomaaGreat
