/- sha: the padding, the digest's bytes; plain. -/
import Derived.Test.YtkbomgjeoaophaaDoorShaG
set_option linter.unusedVariables false
set_option linter.unusedSimpArgs false
set_option maxHeartbeats 400000
namespace Go.Proofs.YtkbomgjeoaophaaDoor

def zer (n : Nat) : Nat := (119 - n % 64) % 64
/-- a byte of a length in bits -/
def lenB (m i : Nat) : UInt8 := UInt8.ofNat (m / 2 ^ (56 - 8 * i))
def tail8 (m k : Nat) : List UInt8 := (List.range k).map (lenB m)
def padZ (l : List UInt8) (k : Nat) : List UInt8 := l ++ [128] ++ List.replicate k 0
def pad8 (l : List UInt8) (N : Nat) : List UInt8 := padZ l (zer l.length) ++ tail8 (8 * N) 8
theorem padZ_len (l : List UInt8) (k : Nat) : (padZ l k).length = l.length + 1 + k := by simp [padZ]; omega
theorem padZ_succ (l : List UInt8) (k : Nat) : padZ l (k + 1) = padZ l k ++ [0] := by simp [padZ, List.replicate_succ']
theorem padZ_zero (l : List UInt8) : padZ l 0 = l ++ [128] := by simp [padZ]
theorem tail8_len (m k : Nat) : (tail8 m k).length = k := by simp [tail8]
theorem tail8_succ (m k : Nat) : tail8 m (k + 1) = tail8 m k ++ [lenB m k] := by simp [tail8, List.range_succ]
theorem zer_more (n k : Nat) (h : k < zer n) : (n + 1 + k) % 64 ≠ 56 := by unfold zer at h; omega
theorem zer_done (n : Nat) : (n + 1 + zer n) % 64 = 56 := by unfold zer; omega
theorem zer_lt (n : Nat) : zer n < 64 := by unfold zer; omega
theorem pad8_len (l : List UInt8) (N : Nat) : (pad8 l N).length = l.length + 1 + zer l.length + 8 := by simp [pad8, padZ_len, tail8_len]
theorem pad8_mod (l : List UInt8) (N : Nat) : (pad8 l N).length % 64 = 0 := by rw [pad8_len]; have := zer_done l.length; omega
theorem zer_add (n m : Nat) (h : m % 64 = 0) : zer (m + n) = zer n := by unfold zer; omega
theorem pad8_app (a b : List UInt8) (N : Nat) (h : a.length % 64 = 0) : pad8 (a ++ b) N = a ++ pad8 b N := by
  unfold pad8 padZ
  rw [List.length_append, zer_add _ _ h]
  simp
theorem blks_app (h : List W32) (a b : List UInt8) (q : Nat) (hq : a.length = 64 * q) : ∀ k, blks h (a ++ b) (q + k) = blks (blks h a q) b k
  | 0 => by
    show blks h (a ++ b) q = blks h a q
    have : ∀ j, j ≤ q → blks h (a ++ b) j = blks h a j := by
      intro j
      induction j with
      | zero => intro _; rfl
      | succ j ih =>
        intro hj
        show mixV (blks h (a ++ b) j) _ = mixV (blks h a j) _
        rw [ih (by omega), List.drop_append_of_le_length (by omega), List.take_append_of_le_length (by rw [List.length_drop]; omega)]
    exact this q (Nat.le_refl _)
  | k + 1 => by
    show mixV (blks h (a ++ b) (q + k)) (((a ++ b).drop (64 * (q + k))).take 64) = mixV (blks (blks h a q) b k) ((b.drop (64 * k)).take 64)
    rw [blks_app h a b q hq k]
    congr 2
    rw [List.drop_append, List.drop_of_length_le (by omega), List.nil_append]
    congr 1
    omega
/-- the digest's bytes of the first k words -/
def outs (h : List W32) : Nat → List UInt8
  | 0 => Zb
  | k + 1 => ((((outs h k).set (4 * k) (UInt8.ofNat ((gw h k) >>> 24).toNat)).set (4 * k + 1) (UInt8.ofNat ((gw h k) >>> 16).toNat)).set (4 * k + 2) (UInt8.ofNat ((gw h k) >>> 8).toNat)).set (4 * k + 3) (UInt8.ofNat (gw h k).toNat)
theorem outs_len (h : List W32) : ∀ k, (outs h k).length = 32
  | 0 => by simp [outs, Zb]
  | k + 1 => by simp [outs, outs_len h k]
def valV (h : List W32) (rest : List UInt8) (N : Nat) : List UInt8 := outs (blks h (pad8 rest N) ((pad8 rest N).length / 64)) 8
theorem valV_len (h : List W32) (rest : List UInt8) (N : Nat) : (valV h rest N).length = 32 := outs_len _ _
/-- the digest of a text -/
def shaV (l : List UInt8) : List UInt8 := valV startL l l.length
/-- what went in piece by piece -/
theorem valV_rest (l : List UInt8) (N : Nat) : valV (blks startL l (l.length / 64)) (l.drop (64 * (l.length / 64))) N = valV startL l N := by
  have e : l = l.take (64 * (l.length / 64)) ++ l.drop (64 * (l.length / 64)) := (List.take_append_drop _ _).symm
  have hq : (l.take (64 * (l.length / 64))).length = 64 * (l.length / 64) := by rw [List.length_take]; omega
  have hb : blks startL l (l.length / 64) = blks startL (l.take (64 * (l.length / 64))) (l.length / 64) := by
    have := blks_app startL (l.take (64 * (l.length / 64))) (l.drop (64 * (l.length / 64))) (l.length / 64) hq 0
    rw [← e] at this
    exact this
  have hp : pad8 l N = l.take (64 * (l.length / 64)) ++ pad8 (l.drop (64 * (l.length / 64))) N := by
    rw [← pad8_app _ _ _ (by omega), ← e]
  unfold valV
  rw [hp, hb, List.length_append, hq, show (64 * (l.length / 64) + (pad8 (l.drop (64 * (l.length / 64))) N).length) / 64 = l.length / 64 + (pad8 (l.drop (64 * (l.length / 64))) N).length / 64 by omega, blks_app _ _ _ _ hq]
end Go.Proofs.YtkbomgjeoaophaaDoor
