/- What is turned within four bytes of a sealed text is seen: in plain words. -/
import Derived.Test.YtfobnemocodomaaGreatZFrmP
set_option linter.unusedVariables false
set_option linter.unusedSimpArgs false
set_option maxHeartbeats 1000000
namespace Go.Proofs.YtfobnemocodomaaGreat
open Go.RowKit Go.Shelf Go.Great

/-- bytes turned, bit by bit -/
def xorB (a b : UInt8) : UInt8 := a ^^^ b
/-- the four bytes of a word, the low one first -/
def mk4 (m : Nat) : List UInt8 := b4 m
/-- a row turned at i by four bytes -/
def bend (l : List UInt8) (i : Nat) (d : List UInt8) : List UInt8 := l.take i ++ (List.zipWith xorB ((l.drop i).take 4) d ++ l.drop (i + 4))
theorem bend_len {l d : List UInt8} {i : Nat} (h : i + 4 ≤ l.length) (hd : d.length = 4) : (bend l i d).length = l.length := by
  unfold bend
  simp only [List.length_append, List.length_take, List.length_zipWith, List.length_drop, hd]
  omega
theorem zipX_nil (l : List Nat) : zipX l [] = l := by cases l <;> rfl
theorem zipX_app : ∀ (a b c d : List Nat), a.length = c.length → zipX (a ++ b) (c ++ d) = zipX a c ++ zipX b d
  | [], b, [], d, _ => rfl
  | x :: a, b, y :: c, d, h => by
    show (x ^^^ y) :: zipX (a ++ b) (c ++ d) = _
    rw [zipX_app a b c d (by simpa using h)]
    rfl
  | [], b, y :: c, d, h => by simp at h
  | x :: a, b, [], d, h => by simp at h
theorem zipX_self : ∀ (a : List Nat), zipX a a = List.replicate a.length 0
  | [] => rfl
  | x :: a => by
    show (x ^^^ x) :: zipX a a = _
    rw [zipX_self a, Nat.xor_self]
    rfl
theorem zipX_with : ∀ (a d : List UInt8), a.length = d.length → zipX (a.map UInt8.toNat) ((List.zipWith xorB a d).map UInt8.toNat) = d.map UInt8.toNat
  | [], [], _ => rfl
  | x :: a, y :: d, h => by
    show (x.toNat ^^^ (xorB x y).toNat) :: zipX (a.map UInt8.toNat) ((List.zipWith xorB a d).map UInt8.toNat) = _
    rw [zipX_with a d (by simpa using h)]
    have e : x.toNat ^^^ (xorB x y).toNat = y.toNat := by
      unfold xorB
      rw [UInt8.toNat_xor, ← Nat.xor_assoc, Nat.xor_self, Nat.zero_xor]
    rw [e]; rfl
  | [], y :: d, h => by simp at h
  | x :: a, [], h => by simp at h
/-- the difference of a row and the bent one -/
theorem zipX_bend {l d : List UInt8} {i : Nat} (h : i + 4 ≤ l.length) (hd : d.length = 4) :
    zipX (l.map UInt8.toNat) ((bend l i d).map UInt8.toNat) = List.replicate i 0 ++ d.map UInt8.toNat ++ List.replicate (l.length - (i + 4)) 0 := by
  have e : l = l.take i ++ ((l.drop i).take 4 ++ l.drop (i + 4)) := by
    rw [← List.drop_drop, List.take_append_drop, List.take_append_drop]
  have k1 : (l.take i).length = i := by rw [List.length_take]; omega
  have k2 : ((l.drop i).take 4).length = 4 := by rw [List.length_take, List.length_drop]; omega
  have k3 : (l.drop (i + 4)).length = l.length - (i + 4) := List.length_drop ..
  have k4 : (List.zipWith xorB ((l.drop i).take 4) d).length = 4 := by rw [List.length_zipWith, k2, hd]; rfl
  conv => lhs; arg 1; rw [e]
  unfold bend
  simp only [List.map_append]
  rw [zipX_app _ _ _ _ (by simp), zipX_app _ _ _ _ (by simp only [List.length_map]; rw [k2, k4]), zipX_self, zipX_self, zipX_with _ _ (by rw [k2, hd])]
  simp only [List.length_map, k1, k3]
  rw [List.append_assoc]
theorem xor_compl {v : Nat} (h : v < 4294967296) : v ^^^ (4294967295 - v) = 4294967295 := by
  have hb : BitVec.ofNat 32 v ^^^ ~~~(BitVec.ofNat 32 v) = BitVec.allOnes 32 := by
    apply BitVec.eq_of_getLsbD_eq
    intro i hi
    rw [BitVec.getLsbD_xor, BitVec.getLsbD_not, BitVec.getLsbD_allOnes]
    cases (BitVec.ofNat 32 v).getLsbD i <;> simp [hi]
  have h1 := congrArg BitVec.toNat hb
  rw [BitVec.toNat_xor, BitVec.toNat_not, BitVec.toNat_ofNat, Nat.mod_eq_of_lt (by simpa using h)] at h1
  simpa using h1
theorem dis8 (a b : Nat) (ha : a < 256) : a ^^^ (256 * b) = a + 256 * b := by
  have h1 : a ^^^ (256 * b) = a ||| (256 * b) := by
    apply Nat.eq_of_testBit_eq
    intro i
    rw [Nat.testBit_xor, Nat.testBit_or]
    have e : (256 * b).testBit i = (decide (8 ≤ i) && b.testBit (i - 8)) := by
      rw [show 256 * b = 2 ^ 8 * b by rfl, Nat.testBit_two_pow_mul]
    rw [e]
    by_cases hi : 8 ≤ i
    · have h2 : a.testBit i = false := Nat.testBit_lt_two_pow (Nat.lt_of_lt_of_le ha (by
        show 2 ^ 8 ≤ 2 ^ i
        exact Nat.pow_le_pow_right (by decide) hi))
      rw [h2]; simp
    · simp [hi]
  rw [h1]
  have := Nat.two_pow_add_eq_or_of_lt (i := 8) (b := a) (by simpa using ha) b
  rw [Nat.or_comm]
  rw [show 256 * b = 2 ^ 8 * b from rfl, ← this]
  omega
theorem u8n {n : Nat} (h : n < 256) : (UInt8.ofNat n).toNat = n := UInt8.toNat_ofNat_of_lt' h
theorem wrd_b4 {v : Nat} (h : v < 4294967296) : wrd ((b4 v).map UInt8.toNat) = v := by
  unfold b4
  simp only [List.map_cons, List.map_nil]
  rw [u8n (by omega), u8n (by omega), u8n (by omega), u8n (by omega)]
  unfold wrd
  unfold wrd
  unfold wrd
  unfold wrd
  unfold wrd
  rw [Nat.mul_zero, Nat.xor_zero, dis8 _ _ (by omega), dis8 _ _ (by omega), dis8 _ _ (by omega)]
  omega
theorem nts_app (a b : ByteArray) : nts (a ++ b) = nts a ++ nts b := by unfold nts; rw [ByteArray.data_append, Array.toList_append, List.map_append]
/-- what every sealed text comes to -/
theorem seal_res (s : ByteArray) : cL 4294967295 (nts (sealV s)) = cTn 32 4294967295 := by
  have hv : cL 4294967295 (nts s) < 4294967296 := cL_lt (nts s) (by decide) (nts_lt s)
  have hc : crcV s = 4294967295 - cL 4294967295 (nts s) := rfl
  unfold sealV
  rw [nts_app]
  have e : nts ⟨(b4 (crcV s)).toArray⟩ = (b4 (crcV s)).map UInt8.toNat := rfl
  rw [e]
  unfold cL at hv hc ⊢
  rw [List.foldl_append]
  have h1 := cL_wrd ((b4 (crcV s)).map UInt8.toNat) ((nts s).foldl cB 4294967295)
  unfold cL at h1
  rw [h1, wrd_b4 (crcV_lt s), hc, xor_compl hv]
  rfl
/-- what is turned is seen -/
theorem bent_seen {S S2 : ByteArray} (s : ByteArray) (hS : S = sealV s) {i : Nat} {d : List UInt8} (hd : d.length = 4) (hn : ∃ b ∈ d, b ≠ 0) (hi : i + 4 ≤ S.size) (h2 : S2.data.toList = bend S.data.toList i d) : (unsV S2).2 = false := by
  cases hu : (unsV S2).2 with
  | false => rfl
  | true =>
    exfalso
    have h3 := unsV_can hu
    have r1 := seal_res s
    rw [← hS] at r1
    have r2 := seal_res (unsV S2).1
    rw [← h3] at r2
    have hl : S.data.toList.length = S.size := by rw [Lib.size_eq]
    have e1 : nts S = S.data.toList.map UInt8.toNat := rfl
    have e2 : nts S2 = (bend S.data.toList i d).map UInt8.toNat := by unfold nts; rw [h2]
    have hx := cL_xor (nts S) (nts S2) 4294967295 4294967295 (by rw [e1, e2, List.length_map, List.length_map, bend_len (by omega) hd])
    rw [r1, r2, Nat.xor_self, Nat.xor_self, e1, e2, zipX_bend (by omega) hd] at hx
    have hz := cL_burst i _ (d.map UInt8.toNat) (by rw [List.length_map, hd]) (fun b hb => by obtain ⟨x, _, rfl⟩ := List.mem_map.1 hb; exact x.toNat_lt) hx
    obtain ⟨b, hb, hb0⟩ := hn
    apply hb0
    have := hz b.toNat (List.mem_map_of_mem hb)
    exact UInt8.toNat_inj.1 (by simpa using this)
/-- a word that is not zero has a byte that is not -/
theorem b4_ne {m : Nat} (h : m < 4294967296) (h0 : m ≠ 0) : ∃ b ∈ b4 m, b ≠ 0 := by
  refine Classical.byContradiction fun hc => h0 ?_
  have hz : ∀ b ∈ b4 m, b = 0 := fun b hb => Classical.byContradiction fun k => hc ⟨b, hb, k⟩
  have e : (b4 m).map UInt8.toNat = [0, 0, 0, 0] := by
    unfold b4 at hz ⊢
    simp only [List.mem_cons, List.not_mem_nil, or_false, forall_eq_or_imp, forall_eq] at hz
    simp only [List.map_cons, List.map_nil, hz.1, hz.2.1, hz.2.2.1, hz.2.2.2]
    rfl
  have := wrd_b4 h
  rw [e] at this
  rw [← this]; rfl
end Go.Proofs.YtfobnemocodomaaGreat
