/- sha: words of 32 bits, turned. -/
import Derived.Test.YtkbomgjeoaophaaDoorBase
import Derived.Laws.Shifts
set_option linter.unusedVariables false
set_option linter.unusedSimpArgs false
set_option maxHeartbeats 400000
namespace Go.Proofs.YtkbomgjeoaophaaDoor
open Go.RowKit

abbrev W32 := BitVec 32
def wv (x : W32) : Value := .int .u32 (x.toNat : Int)
theorem ofI (x : W32) : BitVec.ofInt 32 (x.toNat : Int) = x := by
  rw [BitVec.ofInt_natCast, BitVec.ofNat_toNat, BitVec.setWidth_eq]
theorem wrapN (x : W32) : IntKind.u32.wrap (x.toNat : Int) = (x.toNat : Int) := by
  rw [IntKind.wrap_u32]; have := x.isLt; omega
theorem wrapM (n : Nat) : IntKind.u32.wrap (n : Int) = ((BitVec.ofNat 32 n).toNat : Int) := by
  rw [IntKind.wrap_u32, BitVec.toNat_ofNat]; omega
theorem u_add (x y : W32) : IntKind.u32.wrap ((x.toNat : Int) + (y.toNat : Int)) = ((x + y).toNat : Int) := by
  rw [IntKind.wrap_u32, BitVec.toNat_add]; omega
theorem u_xor (x y : W32) : bits .xor .u32 (x.toNat : Int) (y.toNat : Int) = ((x ^^^ y).toNat : Int) := by
  show IntKind.u32.wrap ((BitVec.ofInt 32 (x.toNat : Int) ^^^ BitVec.ofInt 32 (y.toNat : Int)).toNat : Int) = _
  rw [ofI, ofI, wrapN]
theorem u_and (x y : W32) : bits .and .u32 (x.toNat : Int) (y.toNat : Int) = ((x &&& y).toNat : Int) := by
  show IntKind.u32.wrap ((BitVec.ofInt 32 (x.toNat : Int) &&& BitVec.ofInt 32 (y.toNat : Int)).toNat : Int) = _
  rw [ofI, ofI, wrapN]
theorem u_or (x y : W32) : bits .or .u32 (x.toNat : Int) (y.toNat : Int) = ((x ||| y).toNat : Int) := by
  show IntKind.u32.wrap ((BitVec.ofInt 32 (x.toNat : Int) ||| BitVec.ofInt 32 (y.toNat : Int)).toNat : Int) = _
  rw [ofI, ofI, wrapN]
theorem u_shr (x : W32) (n : Nat) : (x.toNat : Int) / 2 ^ n = ((x >>> n).toNat : Int) := by
  rw [BitVec.toNat_ushiftRight, Nat.shiftRight_eq_div_pow]; norm_cast
theorem u_shl (x : W32) (n : Nat) : (x.toNat : Int) * 2 ^ n % 4294967296 = ((x <<< n).toNat : Int) := by
  rw [BitVec.toNat_shiftLeft, Nat.shiftLeft_eq]
  have e : (x.toNat : Int) * 2 ^ n = ((x.toNat * 2 ^ n : Nat) : Int) := by rw [Int.natCast_mul, Int.natCast_pow]; rfl
  rw [e]
  generalize x.toNat * 2 ^ n = m
  omega
theorem u_addm (x y : W32) : ((x.toNat : Int) + (y.toNat : Int)) % (4294967296 : Int) = ((x + y).toNat : Int) := by
  rw [BitVec.toNat_add]; omega

theorem u_shl24 (x : W32) : (x.toNat : Int) * (16777216 : Int) % (4294967296 : Int) = ((x <<< 24).toNat : Int) := u_shl x 24
theorem u_shl16 (x : W32) : (x.toNat : Int) * (65536 : Int) % (4294967296 : Int) = ((x <<< 16).toNat : Int) := u_shl x 16
theorem u_shl8 (x : W32) : (x.toNat : Int) * (256 : Int) % (4294967296 : Int) = ((x <<< 8).toNat : Int) := u_shl x 8
theorem u_shr3 (x : W32) : (x.toNat : Int) / (8 : Int) = ((x >>> 3).toNat : Int) := u_shr x 3
theorem u_shr10 (x : W32) : (x.toNat : Int) / (1024 : Int) = ((x >>> 10).toNat : Int) := u_shr x 10
theorem u_not (x : W32) : (4294967295 : Int) - (x.toNat : Int) = ((~~~x).toNat : Int) := by
  rw [BitVec.toNat_not]; have := x.isLt; omega

theorem u_nt (x : W32) : bits .xor .u32 IntKind.u32.max (x.toNat : Int) = ((~~~x).toNat : Int) := by
  have h : BitVec.ofInt 32 IntKind.u32.max = BitVec.allOnes 32 := by decide
  show IntKind.u32.wrap ((BitVec.ofInt 32 IntKind.u32.max ^^^ BitVec.ofInt 32 (x.toNat : Int)).toNat : Int) = _
  rw [h, ofI, BitVec.allOnes_xor, wrapN]

/-- a word turned right -/
def rotR (x : W32) (n : Nat) : W32 := x <<< (32 - n) ||| x >>> n

theorem neg31 : ∀ n : Fin 32, 0 < n.val → bits .and .u64 (IntKind.u64.wrap (-(n.val : Int))) 31 = ((32 - n.val : Nat) : Int) := by decide +kernel
theorem min_a {n : Nat} (h : n < 32) : min (((32 - n : Nat) : Int)).toNat 32 = 32 - n := by omega

theorem rot_any (x : W32) (n : Nat) (h0 : 0 < n) (h1 : n < 32) (w : World) : Calls Tryd.prog 26 #[.int .u32 x.toNat, .int .i64 (-(n : Int))] w fun r w' => r = .returned (.int .u32 ((rotR x n).toNat : Int)) ∧ w' = w := by
  have hb : bits .and .u64 (IntKind.u64.wrap (-(n : Int))) 31 = ((32 - n : Nat) : Int) := neg31 ⟨n, h1⟩ h0
  have h2 : (0 : Int) ≤ ((32 - n : Nat) : Int) := by omega
  have h3 : ((32 - n : Nat) : Int) ≤ 32 := by omega
  go_enter Tryd.func26, Tryd.ntmps26
  go_wp2
  go_ret
  refine ⟨ret_int ?_, rfl⟩
  rw [u_shl, u_shr, u_or]
  unfold rotR
  rw [show 32 - (32 - n) = n by omega]
theorem turn_any (x : W32) (n : Nat) (h0 : 0 < n) (h1 : n < 32) (w : World) : Calls Tryd.prog 19 #[.int .u32 x.toNat, .int .u64 n] w fun r w' => r = .returned (.int .u32 ((rotR x n).toNat : Int)) ∧ w' = w := by
  go_enter Tryd.func19, Tryd.ntmps19
  go_wp2
  go_ret
  refine ⟨ret_int ?_, rfl⟩
  rw [u_shl, u_shr, u_or]
  unfold rotR
  rw [BitVec.or_comm]
theorem turned_any (x : W32) (n : Nat) (h0 : 0 < n) (h1 : n < 32) (w : World) : Calls Tryd.prog 25 #[.int .u32 x.toNat, .int .i64 n] w fun r w' => r = .returned (.int .u32 ((rotR x n).toNat : Int)) ∧ w' = w := by
  go_enter Tryd.func25, Tryd.ntmps25
  go_wp2_with fail
  refine (rot_any x n h0 h1 _).mono ?_
  rintro r w1 ⟨rfl, rfl⟩
  go_wp2
  go_ret
  exact ⟨rfl, rfl⟩
end Go.Proofs.YtkbomgjeoaophaaDoor
