/- Joined texts: CntA CntB CntC CntD CntE CntF. -/
import Derived.Test.YtfobnemocodomaaGreatZBa
import Derived.Maps.AppendAt
import Derived.Laws.BytesArg
import Derived.Deep.RegionWith
set_option linter.unusedVariables false
set_option linter.unusedSimpArgs false
set_option maxHeartbeats 400000
namespace Go.Proofs.YtfobnemocodomaaGreat
open Go.RowKit

theorem right_num (n : Int) (w : World) : Calls Tryz.prog 94 #[.int .i64 n] w fun e w' => e = .returned (.bool (decide (0 ≤ n) && decide (n ≤ 1073741824))) ∧ w' = w := by
  by_cases h : 0 ≤ n
  · have hb : decide (0 ≤ n) = true := decide_eq_true h
    go_enter Tryz.func94, Tryz.ntmps94
    go_wp2
    go_ret
    exact ⟨ret_bool (by simp [h]), rfl⟩
  · have hb : decide (0 ≤ n) = false := decide_eq_false h
    go_enter Tryz.func94, Tryz.ntmps94
    go_wp2
    go_ret
    exact ⟨ret_bool (by simp), rfl⟩

def byt (s : ByteArray) (i : Nat) : Int := if h : i < s.size then ((s[i]'h).toNat : Int) else 0
theorem byt_at {s : ByteArray} {i : Nat} (h : i < s.size) : byt s i = ((s[i]'h).toNat : Int) := dif_pos h
theorem byt_bd (s : ByteArray) (i : Nat) : 0 ≤ byt s i ∧ byt s i ≤ 255 := by
  unfold byt; split
  · rename_i h; have := (s[i]'h).toNat_lt; omega
  · omega
def endGo (s : ByteArray) : Nat → Nat → Int
  | 0, _ => -1
  | f + 1, i => if byt s i < 128 then i else endGo s f (i + 1)
def endOf (s : ByteArray) : Int := endGo s (min s.size 5) 0

set_option maxRecDepth 100000 in
theorem end_any (s : ByteArray) (hs : s.size ≤ 9223372036854775807) (w : World) : Calls Tryz.prog 133 #[.string s] w fun e w' => e = .returned (.int .i64 (endOf s)) ∧ w' = w := by
  go_enter Tryz.func133, Tryz.ntmps133
  go_wp2
  · have h5 : 5 ≤ s.size := by omega
    have HM : Hid (endOf s = endGo s (5 - 0) 0) := by show endGo s (min s.size 5) 0 = _; rw [Nat.min_eq_right (by omega)]
    go_loopw [7] (fun i wr => ∃ k : Nat, k ≤ 5 ∧ i = .int .i64 k ∧ Hid (endOf s = endGo s (5 - k) k) ∧ wr = w) (fun i _ => 5 - (intOf i).toNat)
    case atStart => exact ⟨0, Nat.zero_le _, rfl, HM, rfl⟩
    case round =>
      obtain ⟨k, hk, rfl, hch, rfl⟩ := hrel
      by_cases hlt : k < 5
      · have hlt1 : (k : Int) < s.size := by omega
        have hlt2 : (k : Int) < 5 := by omega
        have hf : Hid (endGo s (5 - k) k = if byt s k < 128 then (k : Int) else endGo s (5 - (k + 1)) (k + 1)) := by
          show _ = _
          rw [show 5 - k = (5 - (k + 1)) + 1 by omega, endGo]
        go_wp2
        · go_ret
          exact ⟨ret_int (by rw [hch.out, hf.out, byt_at (by omega), if_pos (by assumption)]), rfl⟩
        · go_roundw
          case rel => exact ⟨k + 1, by omega, by go_num, Lib.hid (by rw [hch.out, hf.out, byt_at (by omega), if_neg (by omega)]), trivial⟩
          case measure => simp [intOf]; omega
      · have hkM : k = 5 := by omega
        subst hkM
        have hz := hch.out
        rw [Nat.sub_self] at hz
        have HZ := Lib.hid hz
        clear hz
        go_wp2
        go_ret
        exact ⟨ret_int (by rw [HZ.out]; rfl), rfl⟩
  · have h5 : s.size ≤ 5 := by omega
    have HM : Hid (endOf s = endGo s (s.size - 0) 0) := by show endGo s (min s.size 5) 0 = _; rw [Nat.min_eq_left (by omega)]; rfl
    go_loopw [7] (fun i wr => ∃ k : Nat, k ≤ s.size ∧ i = .int .i64 k ∧ Hid (endOf s = endGo s (s.size - k) k) ∧ wr = w) (fun i _ => s.size - (intOf i).toNat)
    case atStart => exact ⟨0, Nat.zero_le _, rfl, HM, rfl⟩
    case round =>
      obtain ⟨k, hk, rfl, hch, rfl⟩ := hrel
      by_cases hlt : k < s.size
      · have hlt1 : (k : Int) < s.size := by omega
        have hlt2 : (k : Int) < 5 := by omega
        have hf : Hid (endGo s (s.size - k) k = if byt s k < 128 then (k : Int) else endGo s (s.size - (k + 1)) (k + 1)) := by
          show _ = _
          rw [show s.size - k = (s.size - (k + 1)) + 1 by omega, endGo]
        go_wp2
        · go_ret
          exact ⟨ret_int (by rw [hch.out, hf.out, byt_at (by omega), if_pos (by assumption)]), rfl⟩
        · go_roundw
          case rel => exact ⟨k + 1, by omega, by go_num, Lib.hid (by rw [hch.out, hf.out, byt_at (by omega), if_neg (by omega)]), trivial⟩
          case measure => simp [intOf]; omega
      · have hkM : k = s.size := by omega
        subst hkM
        have hz := hch.out
        rw [Nat.sub_self] at hz
        have HZ := Lib.hid hz
        clear hz
        go_wp2
        go_ret
        exact ⟨ret_int (by rw [HZ.out]; rfl), rfl⟩
end Go.Proofs.YtfobnemocodomaaGreat
set_option linter.unusedVariables false
set_option linter.unusedSimpArgs false
set_option maxHeartbeats 400000
namespace Go.Proofs.YtfobnemocodomaaGreat
open Go.RowKit

/-- the number of the bytes i .. last, the lowest first -/
def numFrom (s : ByteArray) (i : Nat) : Nat → Int
  | 0 => 0
  | f + 1 => byt s i % 128 + 128 * numFrom s (i + 1) f

theorem bits_or_i64_nat (a b : Nat) (ha : a < 9223372036854775808) (hb : b < 9223372036854775808) : bits .or .i64 (a : Int) (b : Int) = ((a ||| b : Nat) : Int) := by
  have hx : a ||| b < 2 ^ 63 := Nat.or_lt_two_pow (by omega) (by omega)
  have h1 : (BitVec.ofInt 64 (a : Int)).toNat = a := by
    rw [BitVec.ofInt_natCast, BitVec.toNat_ofNat]; exact Nat.mod_eq_of_lt (by omega)
  have h2 : (BitVec.ofInt 64 (b : Int)).toNat = b := by
    rw [BitVec.ofInt_natCast, BitVec.toNat_ofNat]; exact Nat.mod_eq_of_lt (by omega)
  show IntKind.i64.wrap ((BitVec.ofInt 64 (a : Int) ||| BitVec.ofInt 64 (b : Int)).toNat : Int) = _
  rw [BitVec.toNat_or, h1, h2, IntKind.wrap_i64]
  omega
/-- seven low bits put behind a number -/
theorem or_low (m b : Int) (hm : 0 ≤ m) (hm2 : m < 36028797018963968) (hb : 0 ≤ b) (hb2 : b < 128) : bits .or .i64 (m * 128) b = m * 128 + b := by
  obtain ⟨x, rfl⟩ : ∃ x : Nat, m = x := ⟨m.toNat, by omega⟩
  obtain ⟨y, rfl⟩ : ∃ y : Nat, b = y := ⟨b.toNat, by omega⟩
  have := bits_or_i64_nat (x * 128) y (by omega) (by omega)
  have e : x * 128 ||| y = x * 128 + y := by
    have := Nat.two_pow_add_eq_or_of_lt (i := 7) (b := y) (by omega) x
    rw [show x * 128 = 2 ^ 7 * x by omega]
    exact this.symm
  rw [e] at this
  simpa using this

theorem numFrom_bd (s : ByteArray) : ∀ f i, 0 ≤ numFrom s i f ∧ numFrom s i f < 128 ^ f
  | 0, _ => by simp [numFrom]
  | f + 1, i => by
    have h1 := numFrom_bd s f (i + 1)
    have h2 := byt_bd s i
    have h3 : (128 : Int) ^ (f + 1) = 128 * 128 ^ f := by rw [Int.pow_succ]; omega
    simp only [numFrom]
    rw [h3]
    generalize (128 : Int) ^ f = P at *
    omega
theorem numFrom_bd4 (s : ByteArray) (f i : Nat) (hf : f ≤ 4) : 0 ≤ numFrom s i f ∧ numFrom s i f < 268435456 := by
  have h := numFrom_bd s f i
  have : f = 0 ∨ f = 1 ∨ f = 2 ∨ f = 3 ∨ f = 4 := by omega
  rcases this with rfl | rfl | rfl | rfl | rfl <;> (simp at h; omega)
theorem numFrom_bd5 (s : ByteArray) (f i : Nat) (hf : f ≤ 5) : 0 ≤ numFrom s i f ∧ numFrom s i f < 34359738368 := by
  have h := numFrom_bd s f i
  have : f = 0 ∨ f = 1 ∨ f = 2 ∨ f = 3 ∨ f = 4 ∨ f = 5 := by omega
  rcases this with rfl | rfl | rfl | rfl | rfl | rfl <;> (simp at h; omega)

/-- what count.Take answers: the number, its bytes, the error -/
def takeV (s : ByteArray) : Int × Int × Int :=
  if endOf s < 0 then (if s.size < 5 then (0, 0, 5) else (0, 0, 2))
  else if byt s (endOf s).toNat = 0 ∧ 0 < endOf s then (0, 0, 7)
  else if 1073741824 < numFrom s 0 ((endOf s).toNat + 1) then (0, 0, 2)
  else (numFrom s 0 ((endOf s).toNat + 1), endOf s + 1, 0)
def takeE (s : ByteArray) : Ending := .returned (.tuple #[.int .i64 (takeV s).1, .int .i64 (takeV s).2.1, .int .i64 (takeV s).2.2])
theorem takeE_of {s : ByteArray} {a b c : Int} (h : takeV s = (a, b, c)) : takeE s = .returned (.tuple #[.int .i64 a, .int .i64 b, .int .i64 c]) := by unfold takeE; rw [h]

set_option maxRecDepth 100000 in
theorem Take_loop (s : ByteArray) (hs : s.size ≤ 9223372036854775807) (e : Nat) (he : e < s.size) (he5 : e < 5) (hE : endOf s = e) (w : World) : Calls Tryz.prog 107 #[.string s] w fun r w' => r = takeE s ∧ w' = w := by
  have HV : Hid (takeV s = if byt s e = 0 ∧ 0 < e then (0, 0, 7) else if 1073741824 < numFrom s 0 (e + 1) then (0, 0, 2) else (numFrom s 0 (e + 1), (e : Int) + 1, 0)) := by
    show _ = _
    unfold takeV
    rw [hE, if_neg (by omega)]
    simp
  have HE := Lib.hid hE
  clear hE
  have hes : (e : Int) < s.size := by omega
  have hB := byt_at he
  by_cases hb0 : byt s e = 0 ∧ 0 < e
  · have HG : Hid (takeV s = (0, 0, 7)) := by show _ = _; rw [HV.out, if_pos hb0]
    have hx : ((s[e]'he).toNat : Int) = 0 := by rw [← hB]; exact hb0.1
    have hxb : (((s[e]'he).toNat : Int) == 0) = true := by rw [hx]; rfl
    have hp : 0 < e := hb0.2
    have hpi : (0 : Int) < e := by omega
    clear hb0 HV hB
    go_enter Tryz.func107, Tryz.ntmps107
    go_wp2_with fail
    refine (end_any s hs _).mono ?_
    rintro r w1 ⟨rfl, rfl⟩
    rw [HE.out]
    go_wp2
    refine bodyPost_ret (v := .tuple #[.int .i64 0, .int .i64 0, .int .i64 7]) (by simp [results, Tryz.results107, go_sem]) rfl ?_
    exact ⟨(takeE_of HG.out).symm, rfl⟩
  · have HV2 : Hid (takeV s = if 1073741824 < numFrom s 0 (e + 1) then (0, 0, 2) else (numFrom s 0 (e + 1), (e : Int) + 1, 0)) := by show _ = _; rw [HV.out, if_neg hb0]
    obtain ⟨hN1, hN2⟩ := numFrom_bd5 s (e + 1) 0 (by omega)
    have HN : Hid (∃ N, N = numFrom s 0 (e + 1)) := ⟨_, rfl⟩
    have hcase : (((s[e]'he).toNat : Int) == 0) = false ∨ e = 0 := by
      rw [← hB]
      by_cases h1 : byt s e = 0
      · right; rcases Nat.eq_zero_or_pos e with h | h; exact h; exact absurd ⟨h1, h⟩ hb0
      · left; simpa using h1
    clear hb0 HV hB
    rcases hcase with hc | rfl
    all_goals
      go_enter Tryz.func107, Tryz.ntmps107
      go_wp2_with fail
      refine (end_any s hs _).mono ?_
      rintro r w1 ⟨rfl, rfl⟩
      rw [HE.out]
      go_wp2
    · skip
      go_loopw [6,7] (fun n i wr => ∃ k : Nat, ∃ m : Int, k ≤ e + 1 ∧ i = .int .i64 ((k : Int) - 1) ∧ n = .int .i64 m ∧ Hid (m = numFrom s k (e + 1 - k)) ∧ wr = w1) (fun _ i _ => (intOf i + 1).toNat)
      case atStart => exact ⟨e + 1, 0, by omega, by simp, rfl, Lib.hid (by simp [numFrom]), rfl⟩
      case round =>
        obtain ⟨k, m, hk, rfl, rfl, hm, rfl⟩ := hrel
        by_cases h0 : 0 < k
        · obtain ⟨k, rfl⟩ : ∃ j, k = j + 1 := ⟨k - 1, by omega⟩
          have hi : (((k + 1 : Nat) : Int) - 1) = k := by omega
          have hks : k < s.size := by omega
          have hks' : (k : Int) < s.size := by omega
          obtain ⟨hm1, hm2⟩ := numFrom_bd4 s (e + 1 - (k + 1)) (k + 1) (by omega)
          rw [← hm.out] at hm1 hm2
          have hw : wrap64 (m * 128) = m * 128 := by unfold wrap64; omega
          have hob := or_low m (((s[k]'hks).toNat : Int) % 128) hm1 (by omega) (by omega) (by omega)
          have hst : Hid (m * 128 + ((s[k]'hks).toNat : Int) % 128 = numFrom s k (e + 1 - k)) := by
            show _ = _
            rw [show e + 1 - k = (e + 1 - (k + 1)) + 1 by omega, numFrom, ← hm.out, byt_at hks]; omega
          rw [hi]
          clear hi
          go_wp2
          go_roundw
          case rel => exact ⟨k, _, by omega, rfl, by simp only [hw, hob], hst, trivial⟩
          case measure => simp [intOf]
        · have hk0 : k = 0 := by omega
          subst hk0
          have HM : Hid (m = numFrom s 0 (e + 1)) := hm
          have hmb := hN1
          rw [← HM.out] at hN1 hN2
          by_cases hbig : 1073741824 < m
          · have hrb : (decide (0 ≤ m) && decide (m ≤ 1073741824)) = false := by simp; omega
            have HG : Hid (takeV s = (0, 0, 2)) := by show _ = _; rw [HV2.out, ← HM.out, if_pos hbig]
            go_wp2_with fail
            refine (right_num m _).mono ?_
            rintro r w2 ⟨rfl, rfl⟩
            rw [hrb]
            go_wp2
            refine bodyPost_ret (v := .tuple #[.int .i64 0, .int .i64 0, .int .i64 2]) (by simp [results, Tryz.results107, go_sem]) rfl ?_
            exact ⟨(takeE_of HG.out).symm, rfl⟩
          · have hrb : (decide (0 ≤ m) && decide (m ≤ 1073741824)) = true := by simp; omega
            have HG : Hid (takeV s = (m, ((e : Nat) : Int) + 1, 0)) := by show _ = _; rw [HV2.out, ← HM.out, if_neg hbig]
            go_wp2_with fail
            refine (right_num m _).mono ?_
            rintro r w2 ⟨rfl, rfl⟩
            rw [hrb]
            go_wp2
            refine bodyPost_ret (v := .tuple #[.int .i64 m, .int .i64 (((e : Nat) : Int) + 1), .int .i64 0]) (by simp [results, Tryz.results107, go_sem]) rfl ?_
            exact ⟨(takeE_of HG.out).symm, rfl⟩
    · skip
      go_loopw [6,7] (fun n i wr => ∃ k : Nat, ∃ m : Int, k ≤ 0 + 1 ∧ i = .int .i64 ((k : Int) - 1) ∧ n = .int .i64 m ∧ Hid (m = numFrom s k (0 + 1 - k)) ∧ wr = w1) (fun _ i _ => (intOf i + 1).toNat)
      case atStart => exact ⟨0 + 1, 0, by omega, by simp, rfl, Lib.hid (by simp [numFrom]), rfl⟩
      case round =>
        obtain ⟨k, m, hk, rfl, rfl, hm, rfl⟩ := hrel
        by_cases h0 : 0 < k
        · obtain ⟨k, rfl⟩ : ∃ j, k = j + 1 := ⟨k - 1, by omega⟩
          have hi : (((k + 1 : Nat) : Int) - 1) = k := by omega
          have hks : k < s.size := by omega
          have hks' : (k : Int) < s.size := by omega
          obtain ⟨hm1, hm2⟩ := numFrom_bd4 s (0 + 1 - (k + 1)) (k + 1) (by omega)
          rw [← hm.out] at hm1 hm2
          have hw : wrap64 (m * 128) = m * 128 := by unfold wrap64; omega
          have hob := or_low m (((s[k]'hks).toNat : Int) % 128) hm1 (by omega) (by omega) (by omega)
          have hst : Hid (m * 128 + ((s[k]'hks).toNat : Int) % 128 = numFrom s k (0 + 1 - k)) := by
            show _ = _
            rw [show 0 + 1 - k = (0 + 1 - (k + 1)) + 1 by omega, numFrom, ← hm.out, byt_at hks]; omega
          rw [hi]
          clear hi
          go_wp2
          go_roundw
          case rel => exact ⟨k, _, by omega, rfl, by simp only [hw, hob], hst, trivial⟩
          case measure => simp [intOf]
        · have hk0 : k = 0 := by omega
          subst hk0
          have HM : Hid (m = numFrom s 0 (0 + 1)) := hm
          have hmb := hN1
          rw [← HM.out] at hN1 hN2
          by_cases hbig : 1073741824 < m
          · have hrb : (decide (0 ≤ m) && decide (m ≤ 1073741824)) = false := by simp; omega
            have HG : Hid (takeV s = (0, 0, 2)) := by show _ = _; rw [HV2.out, ← HM.out, if_pos hbig]
            go_wp2_with fail
            refine (right_num m _).mono ?_
            rintro r w2 ⟨rfl, rfl⟩
            rw [hrb]
            go_wp2
            refine bodyPost_ret (v := .tuple #[.int .i64 0, .int .i64 0, .int .i64 2]) (by simp [results, Tryz.results107, go_sem]) rfl ?_
            exact ⟨(takeE_of HG.out).symm, rfl⟩
          · have hrb : (decide (0 ≤ m) && decide (m ≤ 1073741824)) = true := by simp; omega
            have HG : Hid (takeV s = (m, ((0 : Nat) : Int) + 1, 0)) := by show _ = _; rw [HV2.out, ← HM.out, if_neg hbig]
            go_wp2_with fail
            refine (right_num m _).mono ?_
            rintro r w2 ⟨rfl, rfl⟩
            rw [hrb]
            go_wp2
            refine bodyPost_ret (v := .tuple #[.int .i64 m, .int .i64 (((0 : Nat) : Int) + 1), .int .i64 0]) (by simp [results, Tryz.results107, go_sem]) rfl ?_
            exact ⟨(takeE_of HG.out).symm, rfl⟩
    · skip
      go_loopw [6,7] (fun n i wr => ∃ k : Nat, ∃ m : Int, k ≤ 0 + 1 ∧ i = .int .i64 ((k : Int) - 1) ∧ n = .int .i64 m ∧ Hid (m = numFrom s k (0 + 1 - k)) ∧ wr = w1) (fun _ i _ => (intOf i + 1).toNat)
      case atStart => exact ⟨0 + 1, 0, by omega, by simp, rfl, Lib.hid (by simp [numFrom]), rfl⟩
      case round =>
        obtain ⟨k, m, hk, rfl, rfl, hm, rfl⟩ := hrel
        by_cases h0 : 0 < k
        · obtain ⟨k, rfl⟩ : ∃ j, k = j + 1 := ⟨k - 1, by omega⟩
          have hi : (((k + 1 : Nat) : Int) - 1) = k := by omega
          have hks : k < s.size := by omega
          have hks' : (k : Int) < s.size := by omega
          obtain ⟨hm1, hm2⟩ := numFrom_bd4 s (0 + 1 - (k + 1)) (k + 1) (by omega)
          rw [← hm.out] at hm1 hm2
          have hw : wrap64 (m * 128) = m * 128 := by unfold wrap64; omega
          have hob := or_low m (((s[k]'hks).toNat : Int) % 128) hm1 (by omega) (by omega) (by omega)
          have hst : Hid (m * 128 + ((s[k]'hks).toNat : Int) % 128 = numFrom s k (0 + 1 - k)) := by
            show _ = _
            rw [show 0 + 1 - k = (0 + 1 - (k + 1)) + 1 by omega, numFrom, ← hm.out, byt_at hks]; omega
          rw [hi]
          clear hi
          go_wp2
          go_roundw
          case rel => exact ⟨k, _, by omega, rfl, by simp only [hw, hob], hst, trivial⟩
          case measure => simp [intOf]
        · have hk0 : k = 0 := by omega
          subst hk0
          have HM : Hid (m = numFrom s 0 (0 + 1)) := hm
          have hmb := hN1
          rw [← HM.out] at hN1 hN2
          by_cases hbig : 1073741824 < m
          · have hrb : (decide (0 ≤ m) && decide (m ≤ 1073741824)) = false := by simp; omega
            have HG : Hid (takeV s = (0, 0, 2)) := by show _ = _; rw [HV2.out, ← HM.out, if_pos hbig]
            go_wp2_with fail
            refine (right_num m _).mono ?_
            rintro r w2 ⟨rfl, rfl⟩
            rw [hrb]
            go_wp2
            refine bodyPost_ret (v := .tuple #[.int .i64 0, .int .i64 0, .int .i64 2]) (by simp [results, Tryz.results107, go_sem]) rfl ?_
            exact ⟨(takeE_of HG.out).symm, rfl⟩
          · have hrb : (decide (0 ≤ m) && decide (m ≤ 1073741824)) = true := by simp; omega
            have HG : Hid (takeV s = (m, ((0 : Nat) : Int) + 1, 0)) := by show _ = _; rw [HV2.out, ← HM.out, if_neg hbig]
            go_wp2_with fail
            refine (right_num m _).mono ?_
            rintro r w2 ⟨rfl, rfl⟩
            rw [hrb]
            go_wp2
            refine bodyPost_ret (v := .tuple #[.int .i64 m, .int .i64 (((0 : Nat) : Int) + 1), .int .i64 0]) (by simp [results, Tryz.results107, go_sem]) rfl ?_
            exact ⟨(takeE_of HG.out).symm, rfl⟩

theorem endGo_spec (s : ByteArray) : ∀ f i, (endGo s f i = -1 ∧ ∀ j, i ≤ j → j < i + f → 128 ≤ byt s j) ∨ (∃ e : Nat, endGo s f i = e ∧ i ≤ e ∧ e < i + f ∧ byt s e < 128 ∧ ∀ j, i ≤ j → j < e → 128 ≤ byt s j)
  | 0, i => .inl ⟨rfl, fun j h1 h2 => by omega⟩
  | f + 1, i => by
    rw [endGo]
    by_cases h : byt s i < 128
    · rw [if_pos h]; exact .inr ⟨i, rfl, Nat.le_refl _, by omega, h, fun j h1 h2 => by omega⟩
    · rw [if_neg h]
      rcases endGo_spec s f (i + 1) with ⟨h1, h2⟩ | ⟨e, h1, h2, h3, h4, h5⟩
      · exact .inl ⟨h1, fun j a b => by by_cases c : j = i; (subst c; omega); exact h2 j (by omega) (by omega)⟩
      · exact .inr ⟨e, h1, by omega, by omega, h4, fun j a b => by by_cases c : j = i; (subst c; omega); exact h5 j (by omega) b⟩
theorem endOf_spec (s : ByteArray) : (endOf s = -1 ∧ ∀ j, j < s.size → j < 5 → 128 ≤ byt s j) ∨ (∃ e : Nat, endOf s = e ∧ e < s.size ∧ e < 5 ∧ byt s e < 128 ∧ ∀ j, j < e → 128 ≤ byt s j) := by
  rcases endGo_spec s (min s.size 5) 0 with ⟨h1, h2⟩ | ⟨e, h1, h2, h3, h4, h5⟩
  · exact .inl ⟨h1, fun j a b => h2 j (Nat.zero_le _) (by omega)⟩
  · exact .inr ⟨e, h1, by omega, by omega, h4, fun j a => h5 j (Nat.zero_le _) a⟩

set_option maxRecDepth 100000 in
theorem Take_any (s : ByteArray) (hs : s.size ≤ 9223372036854775807) (w : World) : Calls Tryz.prog 107 #[.string s] w fun r w' => r = takeE s ∧ w' = w := by
  rcases endOf_spec s with ⟨h, _⟩ | ⟨e, h, he, he5, _⟩
  · have HE := Lib.hid h
    by_cases h5 : s.size < 5
    · have HG : Hid (takeV s = (0, 0, 5)) := by show _ = _; unfold takeV; rw [if_pos (by omega), if_pos h5]
      have h5b : decide ((s.size : Int) < 5) = true := decide_eq_true (by omega)
      clear h
      go_enter Tryz.func107, Tryz.ntmps107
      go_wp2_with fail
      refine (end_any s hs _).mono ?_
      rintro r w1 ⟨rfl, rfl⟩
      rw [HE.out]
      go_wp2
      refine bodyPost_ret (v := .tuple #[.int .i64 0, .int .i64 0, .int .i64 5]) (by simp [results, Tryz.results107, go_sem]) rfl ?_
      exact ⟨(takeE_of HG.out).symm, rfl⟩
    · have HG : Hid (takeV s = (0, 0, 2)) := by show _ = _; unfold takeV; rw [if_pos (by omega), if_neg h5]
      have h5b : decide ((s.size : Int) < 5) = false := decide_eq_false (by omega)
      clear h
      go_enter Tryz.func107, Tryz.ntmps107
      go_wp2_with fail
      refine (end_any s hs _).mono ?_
      rintro r w1 ⟨rfl, rfl⟩
      rw [HE.out]
      go_wp2
      refine bodyPost_ret (v := .tuple #[.int .i64 0, .int .i64 0, .int .i64 2]) (by simp [results, Tryz.results107, go_sem]) rfl ?_
      exact ⟨(takeE_of HG.out).symm, rfl⟩
  · exact Take_loop s hs e he he5 h w
end Go.Proofs.YtfobnemocodomaaGreat
set_option linter.unusedVariables false
set_option linter.unusedSimpArgs false
set_option maxHeartbeats 400000
namespace Go.Proofs.YtfobnemocodomaaGreat
open Go.RowKit

theorem numFrom_snoc (s : ByteArray) : ∀ f i, numFrom s i (f + 1) = numFrom s i f + byt s (i + f) % 128 * 128 ^ f
  | 0, i => by simp [numFrom]
  | f + 1, i => by
    rw [numFrom, numFrom_snoc s f (i + 1), numFrom]
    have h3 : (128 : Int) ^ (f + 1) = 128 ^ f * 128 := Int.pow_succ ..
    rw [h3, show i + 1 + f = i + (f + 1) by omega, Int.mul_add, ← Int.mul_assoc (byt s (i + (f + 1)) % 128)]
    generalize byt s (i + (f + 1)) % 128 * 128 ^ f = X
    omega
theorem endOf_at {s : ByteArray} {k : Nat} (h : ∀ j, j < k → 128 ≤ byt s j) (h1 : k < s.size) (h2 : k < 5) (h3 : byt s k < 128) : endOf s = k := by
  rcases endOf_spec s with ⟨e, h4⟩ | ⟨e, h4, h5, h6, h7, h8⟩
  · have := h4 k h1 h2; omega
  · rw [h4]
    rcases Nat.lt_trichotomy e k with c | c | c
    · have := h e c; omega
    · rw [c]
    · have := h8 k c; omega
theorem endOf_none {s : ByteArray} (h : ∀ j, j < s.size → j < 5 → 128 ≤ byt s j) : endOf s = -1 := by
  rcases endOf_spec s with ⟨e, h4⟩ | ⟨e, h4, h5, h6, h7, h8⟩
  · exact e
  · have := h e h5 h6; omega
theorem pow_bd (k : Nat) (h : k ≤ 4) : 1 ≤ (128 : Int) ^ k ∧ (128 : Int) ^ k ≤ 268435456 := by
  have : k = 0 ∨ k = 1 ∨ k = 2 ∨ k = 3 ∨ k = 4 := by omega
  rcases this with rfl | rfl | rfl | rfl | rfl <;> decide

theorem wrap64_byte {x : Int} (h0 : 0 ≤ x) (h1 : x < 256) : wrap64 x = x := by unfold wrap64; omega
theorem step_bd (x m P : Int) (h0 : 0 ≤ x) (h1 : x < 256) (hm1 : 0 ≤ m) (hm2 : m < 268435456) (hP1 : 1 ≤ P) (hP2 : P ≤ 268435456) :
    wrap64 (m + wrap64 (x % 128 * P)) = m + x % 128 * P ∧ x.tmod 128 = x % 128 ∧ wrap64 (P * 128) = P * 128 := by
  have hx1 : 0 ≤ x % 128 := by omega
  have hx2 : x % 128 ≤ 127 := by omega
  have h1 : 0 ≤ x % 128 * P := Int.mul_nonneg hx1 (by omega)
  have h2 : x % 128 * P ≤ 127 * 268435456 := Int.mul_le_mul hx2 hP2 (by omega) (by omega)
  generalize x % 128 * P = Y at *
  refine ⟨?_, Int.tmod_eq_emod_of_nonneg (by omega), ?_⟩ <;> (unfold wrap64; omega)

set_option maxRecDepth 100000 in
theorem refTake_any (s : ByteArray) (hs : s.size ≤ 9223372036854775807) (w : World) : Calls Tryz.prog 78 #[.string s] w fun r w' => r = takeE s ∧ w' = w := by
  go_enter Tryz.func78, Tryz.ntmps78
  go_wp2
  go_loopw [5,6,7] (fun n u i wr => ∃ k : Nat, ∃ m P : Int, k ≤ 5 ∧ i = .int .i64 k ∧ n = .int .i64 m ∧ u = .int .i64 P ∧ k ≤ s.size ∧ Hid (m = numFrom s 0 k ∧ P = 128 ^ k ∧ ∀ j, j < k → 128 ≤ byt s j) ∧ wr = w) (fun _ _ i _ => 5 - (intOf i).toNat)
  case atStart => exact ⟨0, 0, 1, by omega, rfl, rfl, rfl, Nat.zero_le _, Lib.hid ⟨rfl, rfl, fun j h => by omega⟩, rfl⟩
  case round =>
    obtain ⟨k, m, P, hk, rfl, rfl, rfl, hks, hI, rfl⟩ := hrel
    by_cases h5 : k < 5
    · have h5i : (k : Int) < 5 := by omega
      by_cases hsz : k = s.size
      · have hszb : ((k : Int) == s.size) = true := by simp [hsz]
        have HG : Hid (takeV s = (0, 0, 5)) := by
          show _ = _
          unfold takeV
          rw [endOf_none (fun j h1 h2 => hI.out.2.2 j (by omega)), if_pos (by omega), if_pos (by omega)]
        clear hsz hI hks
        go_wp2
        refine bodyPost_ret (v := .tuple #[.int .i64 0, .int .i64 0, .int .i64 5]) (by simp [results, Tryz.results78, go_sem]) rfl ?_
        exact ⟨(takeE_of HG.out).symm, rfl⟩
      · have hszb : ((k : Int) == s.size) = false := by simp; omega
        have hks1 : k < s.size := by omega
        have hks2 : (k : Int) < s.size := by omega
        obtain ⟨hm, hP, hall⟩ := hI.out
        obtain ⟨hm1, hm2⟩ := numFrom_bd4 s k 0 (by omega)
        obtain ⟨hP1, hP2⟩ := pow_bd k (by omega)
        rw [← hm] at hm1 hm2
        rw [← hP] at hP1 hP2
        have hsn := numFrom_snoc s k 0
        rw [← hm, ← hP, Nat.zero_add, byt_at hks1] at hsn
        have hk0m : k = 0 → m = 0 ∧ P = 1 := fun h => by subst h; exact ⟨by rw [hm]; rfl, by rw [hP]; rfl⟩
        have hP1' : Hid (P * 128 = 128 ^ (k + 1)) := by show _ = _; rw [hP, Int.pow_succ]
        have HSN := Lib.hid hsn
        have hbt := Lib.hid (byt_at hks1)
        have HALL := Lib.hid hall
        replace hk0m := Lib.hid hk0m
        clear hm hP hsn hall hI
        have hX : ((s[k]'hks1).toNat : Int) < 256 := by have := (s[k]'hks1).toNat_lt; omega
        obtain ⟨hb1, hb2, hb3⟩ := step_bd ((s[k]'hks1).toNat : Int) m P (by omega) hX hm1 hm2 hP1 hP2
        have hw1 : wrap64 ((s[k]'hks1).toNat : Int) = ((s[k]'hks1).toNat : Int) := wrap64_byte (by omega) hX
        replace hb1 := Lib.hid hb1
        replace hb3 := Lib.hid hb3
        clear hm1 hm2 hP1 hP2 hb2 hszb
        have hszb : ((k : Int) == s.size) = false := by simp; omega
        by_cases c1 : 128 ≤ ((s[k]'hks1).toNat : Int)
        · have hA : 128 ≤ wrap64 ((s[k]'hks1).toNat : Int) := by omega
          have hall2 : Hid (∀ j, j < k + 1 → 128 ≤ byt s j) := fun j hj => by
            by_cases c : j = k
            · subst c; rw [hbt.out]; exact c1
            · exact HALL.out j (by omega)
          have HW1 := Lib.hid hw1
          clear hw1 HALL hX c1 hbt hk0m
          go_wp2
          go_roundw
          case rel =>
            refine ⟨k + 1, _, _, by omega, rfl, rfl, rfl, by omega, Lib.hid ⟨?_, ?_, hall2.out⟩, trivial⟩
            · rw [HSN.out, ← hb1.out, HW1.out]
            · rw [hb3.out]; exact hP1'.out
          case measure => simp [intOf]; omega
        · have hA : wrap64 ((s[k]'hks1).toNat : Int) < 128 := by omega
          have hE : Hid (endOf s = k) := endOf_at HALL.out hks1 h5 (by rw [hbt.out]; omega)
          by_cases c2 : ((s[k]'hks1).toNat : Int) = 0 ∧ 0 < k
          · have HG : Hid (takeV s = (0, 0, 7)) := by
              show _ = _
              unfold takeV
              rw [hE.out, if_neg (by omega), if_pos ⟨by rw [show ((k : Int).toNat) = k by omega, hbt.out]; exact c2.1, by omega⟩]
            have hz : wrap64 ((s[k]'hks1).toNat : Int) = 0 := by rw [hw1]; exact c2.1
            have hk0 : (0 : Int) < k := by omega
            clear hb1 hb3 hw1 HSN HALL hX c1 hP1' hbt hE c2 hk0m
            go_wp2
            refine bodyPost_ret (v := .tuple #[.int .i64 0, .int .i64 0, .int .i64 7]) (by simp [results, Tryz.results78, go_sem]) rfl ?_
            exact ⟨(takeE_of HG.out).symm, rfl⟩
          · skip
            have HV : Hid (takeV s = if 1073741824 < numFrom s 0 (k + 1) then (0, 0, 2) else (numFrom s 0 (k + 1), (k : Int) + 1, 0)) := by
              show _ = _
              unfold takeV
              rw [hE.out, if_neg (by omega), if_neg (fun h => c2 ⟨by rw [← hbt.out]; exact h.1, by have := h.2; omega⟩)]
              rfl
            have hNE : Hid (wrap64 (m + wrap64 (wrap64 ((s[k]'hks1).toNat : Int) % 128 * P)) = numFrom s 0 (k + 1)) := by
              show _ = _
              rw [hw1, hb1.out, HSN.out]
            have h0X : 0 ≤ wrap64 ((s[k]'hks1).toNat : Int) := by omega
            have HW1 := Lib.hid hw1
            by_cases hz : wrap64 ((s[k]'hks1).toNat : Int) = 0
            · have hk0 : k = 0 := by
                rcases Nat.eq_zero_or_pos k with h | h
                · exact h
                · exact absurd ⟨by rw [← hw1]; exact hz, h⟩ c2
              obtain ⟨rfl, rfl⟩ := hk0m.out hk0
              subst hk0
              have hx0 : ((s[0]'hks1).toNat : Int) = 0 := by rw [← hw1]; exact hz
              have hN0 : numFrom s 0 (0 + 1) = 0 := by
                rw [HSN.out, hx0]; rfl
              have HG : Hid (takeV s = (0, 1, 0)) := by show _ = _; rw [HV.out, hN0]; rfl
              clear hw1 c1 c2 hb1 hb3 HSN HALL hX hP1' hbt hE HV hNE hN0 hk0m HW1 hx0
              go_wp2
              refine bodyPost_ret (v := .tuple #[.int .i64 0, .int .i64 1, .int .i64 0]) (by simp [results, Tryz.results78, go_sem]) rfl ?_
              exact ⟨(takeE_of HG.out).symm, rfl⟩
            · have hA : ((s[k]'hks1).toNat : Int) < 128 := by omega
              have hz : ¬((s[k]'hks1).toNat : Int) = 0 := by rw [← hw1]; exact hz
              rw [hw1] at hNE
              clear hw1 c1 c2 hk0m
              by_cases cb : 1073741824 < numFrom s 0 (k + 1)
              · have HG : Hid (takeV s = (0, 0, 2)) := by show _ = _; rw [HV.out, if_pos cb]
                rw [← hNE.out] at cb
                have cbb := decide_eq_true cb
                clear cb hb1 hb3 HW1 HSN HALL hP1' hbt hE HV hNE
                go_wp2
                refine bodyPost_ret (v := .tuple #[.int .i64 0, .int .i64 0, .int .i64 2]) (by simp [results, Tryz.results78, go_sem]) rfl ?_
                exact ⟨(takeE_of HG.out).symm, rfl⟩
              · have HG : Hid (takeV s = (wrap64 (m + wrap64 (((s[k]'hks1).toNat : Int) % 128 * P)), (k : Int) + 1, 0)) := by show _ = _; rw [HV.out, if_neg cb, hNE.out]
                rw [← hNE.out] at cb
                have cbb := decide_eq_false cb
                clear hb1 hb3 HW1 HSN HALL hP1' hbt hE HV hNE cb
                go_wp2
                refine bodyPost_ret (v := .tuple #[.int .i64 (wrap64 (m + wrap64 (((s[k]'hks1).toNat : Int) % 128 * P))), .int .i64 ((k : Int) + 1), .int .i64 0]) (by simp [results, Tryz.results78, go_sem]) rfl ?_
                exact ⟨(takeE_of HG.out).symm, rfl⟩
    · have hk5 : k = 5 := by omega
      subst hk5
      have HG : Hid (takeV s = (0, 0, 2)) := by
        show _ = _
        unfold takeV
        rw [endOf_none (fun j h1 h2 => hI.out.2.2 j h2), if_pos (by omega), if_neg (by omega)]
      clear hI
      go_wp2
      refine bodyPost_ret (v := .tuple #[.int .i64 0, .int .i64 0, .int .i64 2]) (by simp [results, Tryz.results78, go_sem]) rfl ?_
      exact ⟨(takeE_of HG.out).symm, rfl⟩
end Go.Proofs.YtfobnemocodomaaGreat
set_option linter.unusedVariables false
set_option linter.unusedSimpArgs false
set_option maxHeartbeats 400000
namespace Go.Proofs.YtfobnemocodomaaGreat
open Go.RowKit

/-- a number's bytes, the lowest first -/
def grpN (n : Nat) : List Int := if 128 ≤ n then ((n : Int) % 128 + 128) :: grpN (n / 128) else [(n : Int)]
termination_by n
theorem grpN_big {n : Nat} (h : 128 ≤ n) : grpN n = ((n : Int) % 128 + 128) :: grpN (n / 128) := by rw [grpN]; exact if_pos h
theorem grpN_small {n : Nat} (h : n < 128) : grpN n = [(n : Int)] := by rw [grpN]; exact if_neg (by omega)
theorem grpN_len : ∀ (f n : Nat), n < 128 ^ (f + 1) → (grpN n).length ≤ f + 1
  | 0, n, h => by rw [grpN_small (by simpa using h)]; simp
  | f + 1, n, h => by
    by_cases c : 128 ≤ n
    · rw [grpN_big c]
      have := grpN_len f (n / 128) (by rw [Nat.pow_succ] at h; exact Nat.div_lt_of_lt_mul (by rw [Nat.mul_comm]; exact h))
      simp only [List.length_cons]; omega
    · rw [grpN_small (by omega)]; simp
theorem grpN_len5 (n : Nat) (h : n ≤ 1073741824) : (grpN n).length ≤ 5 := grpN_len 4 n (by omega)
theorem grpN_bd : ∀ (f n : Nat), n ≤ f → ∀ x ∈ grpN n, 0 ≤ x ∧ x < 256
  | f, n, h => by
    by_cases c : 128 ≤ n
    · rw [grpN_big c]
      intro x hx
      rcases List.mem_cons.1 hx with rfl | hx
      · omega
      · cases f with
        | zero => omega
        | succ f => exact grpN_bd f (n / 128) (by omega) x hx
    · rw [grpN_small (by omega)]
      intro x hx
      simp at hx
      omega

theorem or128 (x : Int) (h0 : 0 ≤ x) (h1 : x < 128) : bits .or .u8 x 128 = x + 128 := by
  obtain ⟨n, rfl⟩ : ∃ n : Nat, x = n := ⟨x.toNat, by omega⟩
  have key : ∀ k : Fin 128, bits .or .u8 ((k.val : Nat) : Int) 128 = (k.val : Int) + 128 := by decide
  exact key ⟨n, by omega⟩

def encB (x : Int) : Array Value := #[.int .u8 x]

theorem groups_any (m : Int) (w : World) :
    Calls Tryz.prog 95 #[.int .i64 m] w fun e w' => e = .returned (.func (.func 118) #[] #[.pointer (some ⟨w.heap.size, 0, none⟩)]) ∧
      w' = w.alloc (.cells #[.int .i64 m] 3) := by
  go_enter Tryz.func95, Tryz.ntmps95
  go_wp2
  go_ret
  exact ⟨rfl, rfl⟩

set_option maxRecDepth 100000 in
set_option maxHeartbeats 4000000 in
theorem groups1_any (n l : Nat) (w0 : World) (bn : Nat) (xs : List Int) (hbn : w0.heap.size ≤ bn)
    (J Jx : List Int → World → Prop)
    (hJ : ∀ pre A B, J pre A → Mv (fun k => k = bn) A.heap.size A B → J pre B)
    (hY : ∀ pre x W1, J pre W1 → (pre ++ [x]) <+: xs → YieldAt Fence.wide n Tryz.prog l (encB x) W1 fun e W' =>
      Kp (fun k => k = bn) w0.heap.size W1 W' ∧ ((e = .returned (.bool true) ∧ J (pre ++ [x]) W') ∨ (e = .returned (.bool false) ∧ Jx (pre ++ [x]) W')))
    (m : Nat) (hm : m ≤ 1073741824) (hxs : xs = grpN m) (W : World) (hP : Boxed W bn 3 (.int .i64 m)) (hg : Gr w0 W) (h0 : J [] W) :
    Calls Tryz.prog 118 #[.func (.yield l) #[] #[], .pointer (some ⟨bn, 0, none⟩)] W fun e W' => (∃ v, e = .returned v) ∧ (J xs W' ∨ ∃ pre, pre <+: xs ∧ Jx pre W') := by
  have HP := Lib.hid hP; clear hP
  have HX := Lib.hid hxs; clear hxs
  have HJ := Lib.hid hJ; clear hJ
  have HY := Lib.hid hY; clear hY
  go_enter Tryz.func118, Tryz.ntmps118
  go_wp2
  go_loopg [3] (m) (fun k p1 wr => ∃ pre, ∃ q : Nat, q ≤ 1073741824 ∧ Hid (k = q ∧ xs = pre ++ grpN q ∧ J pre wr) ∧ Boxed wr bn 3 (.int .i64 q))
  case atStart => exact ⟨[], m, hm, Lib.hid ⟨rfl, by simpa using HX.out, h0⟩, HP.out⟩
  case round =>
    clear HP HX h0
    obtain ⟨pre, q, hq, hr, hb⟩ := hrel
    obtain ⟨hk, hxs, hj⟩ := hr.out
    have hc := cell_of_one hb
    have hf := free_of_one hb
    have HB := Lib.hid hb; clear hb
    have HJ0 := Lib.hid hj; clear hj
    have HX := Lib.hid hxs; clear hxs
    have HK := Lib.hid hk; clear hk
    clear hr
    by_cases hq1 : 128 ≤ q
    · have hqi : (128 : Int) ≤ q := by omega
      have hX2 : Hid (xs = pre ++ bits .or .u8 ((q : Int) % 128) 128 :: grpN (q / 128)) := by show _ = _; rw [HX.out, grpN_big hq1, or128 _ (by omega) (by omega)]
      obtain ⟨fn, tmps, assign, body, hy, hR⟩ := HY.out pre (bits .or .u8 ((q : Int) % 128) 128) wr HJ0.out (by rw [hX2.out]; simp)
      simp only [encB] at hy
      have HR := Lib.hid hR; clear hR
      go_upto_region 2 with (fail)
      refine (wpIn_wide (n := n + 1)).1 ?_
      gi_wp2
      refine HR.out.mono ?_
      clear hy HR hc hf
      rintro e W3 ⟨hkp, (⟨rfl, hJ3⟩ | ⟨rfl, hJx3⟩)⟩
      · have hb3 := hkp.boxed HB.out (.inr rfl)
        have hc := cell_of_one hb3
        have hf := free_of_one hb3
        have HB3 := Lib.hid hb3; clear hb3
        gi_wp2
        go_wp2
        have hmv := (Mv.refl (fun k => k = bn) W3.heap.size W3).setCell (p := ⟨bn, 0, none⟩) (.inl rfl) (.int .i64 ((q : Int) / 128))
        go_roundg (q / 128)
        case measure => have := HK.out; omega
        case rel => exact ⟨pre ++ [bits .or .u8 ((q : Int) % 128) 128], q / 128, by omega, Lib.hid ⟨rfl, by rw [hX2.out]; simp, HJ.out _ _ _ hJ3 hmv⟩, one_setCell HB3.out⟩
      · gi_wp2
        go_wp2
        refine bodyPost_ret (results_none rfl _ _ _) rfl ?_
        exact ⟨⟨_, rfl⟩, .inr ⟨pre ++ [bits .or .u8 ((q : Int) % 128) 128], by rw [hX2.out]; simp, hJx3⟩⟩
    · have hqi : ¬ (128 : Int) ≤ q := by omega
      have hX2 : Hid (xs = pre ++ [(q : Int)]) := by show _ = _; rw [HX.out, grpN_small (by omega)]
      obtain ⟨fn, tmps, assign, body, hy, hR⟩ := HY.out pre (q : Int) wr HJ0.out (by rw [hX2.out]; exact List.prefix_refl _)
      simp only [encB] at hy
      have HR := Lib.hid hR; clear hR
      go_upto_region 3 with (fail)
      refine (wpIn_wide (n := n + 1)).1 ?_
      gi_wp2
      refine HR.out.mono ?_
      clear hy HR hc hf
      rintro e W3 ⟨hkp, (⟨rfl, hJ3⟩ | ⟨rfl, hJx3⟩)⟩
      · gi_wp2
        go_end0
        exact ⟨⟨_, rfl⟩, .inl (by rw [hX2.out]; exact hJ3)⟩
      · gi_wp2
        go_end0
        exact ⟨⟨_, rfl⟩, .inr ⟨pre ++ [(q : Int)], by rw [hX2.out]; exact List.prefix_refl _, hJx3⟩⟩
end Go.Proofs.YtfobnemocodomaaGreat
set_option linter.unusedVariables false
set_option linter.unusedSimpArgs false
set_option maxHeartbeats 400000
namespace Go.Proofs.YtfobnemocodomaaGreat
open Go.RowKit Go.Shelf
attribute [local go_sem] Oper.semAt_some

/-- the text of a number's bytes; none if there is no such number -/
def putS (m : Int) : ByteArray := if 0 ≤ m ∧ m ≤ 1073741824 then strOfNums (grpN m.toNat) else ⟨#[]⟩

/-- a row of bytes of the call's own -/
def OwnB (w : World) (base : Nat) (v : Value) (l : List Int) : Prop := w.ownsRow base 5 1 v l.length (l.map (Value.int .u8))
theorem OwnB.nil (w : World) (base : Nat) : OwnB w base (.slice none 0 0) [] := World.ownsRow_nil _ _ _ _
theorem OwnB.ge {w : World} {b : Nat} {v : Value} {l : List Int} (h : OwnB w b v l) : ∀ k, v.ownBlock = some k → b ≤ k := fun k hk => (World.ownsRow.lt h k hk).1
theorem OwnB.isCells {w : World} {b : Nat} {v : Value} {l : List Int} (h : OwnB w b v l) : ∀ (j : Nat) (o : Obj), v.ownBlock = some j → w.heap[j]? = some o → o.isCells = true := by
  intro j o ej hj
  rcases h.2 with ⟨rfl, _⟩ | ⟨g, cap, cur, rfl, _, hgb, _⟩
  · simp [Value.ownBlock] at ej
  · obtain rfl : g = j := by simpa [Value.ownBlock] using ej
    rw [hgb] at hj; cases hj; rfl
/-- the text of such a row -/
theorem OwnB.text {w : World} {b : Nat} {v : Value} {l : List Int} (h : OwnB w b v l) : ∃ a c, v = .slice a l.length c ∧ (convert 47 9 (.slice a l.length c)).run Tryz.prog w = .ok (.string (strOfNums l)) w := by
  rcases h.2 with ⟨rfl, h0⟩ | ⟨g, cap, cur, rfl, hg, hh, hle, hm, _⟩
  · have : l = [] := List.eq_nil_of_length_eq_zero h0
    subst this
    exact ⟨none, 0, rfl, by rw [run_convert_bytes_nil w 47 5 Tryz.underlying47 Tryz.underlying5 _ _ _ Tryz.underlying9]; rfl⟩
  · refine ⟨_, cap, rfl, run_convert_bytes_arg w 47 5 Tryz.underlying47 Tryz.underlying5 g 0 _ cap l rfl (fun i hi => ?_) 9 Tryz.underlying9⟩
    have := World.ownsRow.cells h (g := g) rfl i (.int .u8 (l.getD i 0)) (by simp [List.getElem?_map, List.getD, List.getElem?_eq_getElem hi])
    have e : ((⟨g, 0, none⟩ : Addr).add i) = ⟨g, 0 + i, none⟩ := by unfold Addr.add; split <;> simp_all
    rw [e] at this
    exact this

theorem cells_newB (w : World) (cs : List Value) (t : TypeId) : ∀ j u, cs[j]? = some u → (w.alloc (.cells cs.toArray t)).cell? ((⟨w.heap.size, 0, none⟩ : Addr).add j) = some u := by
  intro j u h
  have hb := World.alloc_heap_new w (.cells cs.toArray t)
  have e : ((⟨w.heap.size, 0, none⟩ : Addr).add j) = ⟨w.heap.size, j, none⟩ := by unfold Addr.add; split <;> simp_all
  rw [e]
  simp only [World.cell?, hb]
  simpa using h

theorem box_grownB {W w1 : World} {o : Obj} {b : Nat} {t : TypeId} {u v : Value} (hgrow : (W.alloc o).grownBy w1 v.ownBlock) (hb : Boxed W b t u) (hne : ∀ j, v.ownBlock = some j → b ≠ j) : Boxed w1 b t u :=
  (hgrow.block b (by have := hb.lt; simp; omega) (fun e => hne b e.symm rfl)).trans ((Below.heap_alloc _ _ _ hb.lt).trans hb)
theorem Gr.putObj' {a b : World} (h : Gr a b) {l : Nat} (hl : a.heap.size ≤ l) (o : Obj) : Gr a (b.putObj l o) :=
  h.trans ⟨rfl, rfl, rfl, by simp, fun k hk => World.putObj_heap_other (by omega)⟩
theorem infoByte : (Tryz.prog.info? 5).map (fun i => (i.zero, i.size, i.bytes)) = some (some (.int .u8 0), 1, 1) := by kernel_rfl

/-- Put's own state between two rounds -/
structure BSt (w : World) (ob B0 : Nat) (l : List Int) (W : World) : Prop where
  out : ∃ v, Boxed W ob 47 v ∧ OwnB W B0 v l
  gr : Gr w W
theorem BSt.mv {w : World} {ob B0 bn : Nat} {l : List Int} {A W : World} (h : BSt w ob B0 l A) (m : Mv (fun k => k = bn) B0 A W) (h7 : ¬ (ob = bn)) (hB : bn < B0) (hw : w.heap.size ≤ bn) : BSt w ob B0 l W := by
  obtain ⟨⟨v, h1, h2⟩, h4⟩ := h
  exact ⟨⟨v, m.boxed h1 h7, m.ownsRow h2 (fun k hk e => by have := h2.ge k hk; omega)⟩, m.below h4 (by omega) (Nat.le_refl _) (fun k hk => by omega)⟩
theorem BSt.add {w : World} {ob B0 bn : Nat} {v v' : Value} {l : List Int} {p : Int} {W w1 : World} (h7B : ob < B0) (hB : B0 ≤ W.heap.size) (hw : w.heap.size ≤ ob) (hwB : w.heap.size ≤ B0) (hS : bn < B0) (hS7 : ¬ (ob = bn))
    (hb : Boxed W ob 47 v) (ho : OwnB W B0 v l) (hg : Gr w W)
    (hown : w1.ownsRow B0 5 1 v' (l.length + 1) (l.map (Value.int .u8) ++ [.int .u8 p])) (hgrow : (W.alloc (.cells #[.int .u8 p] 5)).grownBy w1 v.ownBlock) :
    BSt w ob B0 (l ++ [p]) (w1.setCell ⟨ob, 0, none⟩ v') ∧ KeepsFrom B0 W (w1.setCell ⟨ob, 0, none⟩ v') ∧ Kp (fun k => k = bn) w.heap.size W (w1.setCell ⟨ob, 0, none⟩ v') := by
  have hne : ∀ j, j < B0 → some j ≠ v.ownBlock := fun j hj e => by have := ho.ge j e.symm; omega
  have hb1 : Boxed w1 ob 47 v := (hgrow.block ob (by simp; omega) (hne _ h7B)).trans ((Below.heap_alloc _ _ _ (by omega)).trans hb)
  have hg1 : Gr w w1 := (hg.al _).grown hgrow (by have := hg.size; simp; omega) (fun j e => by have := ho.ge j e; omega)
  refine ⟨⟨⟨v', one_setCell hb1, ?_⟩, hg1.set hw _⟩, ?_, ?_⟩
  · have := ownsRow_setCell_below hown (a := ⟨ob, 0, none⟩) h7B v'
    have e : (l ++ [p]).map (Value.int .u8) = l.map (Value.int .u8) ++ [.int .u8 p] := by simp
    unfold OwnB
    rw [e]
    simpa using this
  · exact (((KeepsOthers.alloc W _).trans (KeepsOthers.of_grownBy hgrow fun j o ej hj => by
      have ha : OwnB (W.alloc (.cells #[.int .u8 p] 5)) B0 v l := World.ownsRow.alloc ho _
      exact ha.isCells j o ej hj)).trans (KeepsOthers.setCell _ _ _)).from _
  · exact (((Kp.refl _ _ _).alloc _).grown hgrow (fun j e => ⟨by have := ho.ge j e; omega, fun e' => by have := ho.ge j e; omega⟩)).setCell ⟨hw, hS7⟩ _

theorem groups_iter (n : Nat) (w0 w : World) (bn : Nat) (hbn : w0.heap.size ≤ bn) (m : Nat) (hm : m ≤ 1073741824) (hP : Boxed w bn 3 (.int .i64 m)) (hg : Gr w0 w) :
    Iter (n + 1) Tryz.prog 118 #[.pointer (some ⟨bn, 0, none⟩)] encB (grpN m) (fun k => k = bn) w0.heap.size w := by
  intro l J Jx W hG hJ hJx hY h0
  exact callsIn_wide.2 (groups1_any n l w0 bn _ hbn J Jx hJ hY m hm rfl W ((hG.block _ hP.lt).trans hP) (hg.tr hG) h0)

set_option maxRecDepth 100000 in
theorem cPut_no (m : Int) (w : World) (h : ¬ (0 ≤ m ∧ m ≤ 1073741824)) : Calls Tryz.prog 60 #[.int .i64 m] w fun e w' => e = .returned (.string (putS m)) ∧ Gr w w' := by
  have hr : (decide (0 ≤ m) && decide (m ≤ 1073741824)) = false := by simp; omega
  have HP : Hid (putS m = ⟨#[]⟩) := if_neg h
  clear h
  go_enter Tryz.func60, Tryz.ntmps60
  go_wp2_with fail
  refine (right_num m _).mono ?_
  rintro e w1 ⟨rfl, rfl⟩
  rw [hr]
  go_wp2
  go_ret
  exact ⟨by rw [HP.out]; rfl, Gr.rfl' _⟩

set_option maxRecDepth 100000 in
set_option maxHeartbeats 2000000 in
theorem cPut_yes (m : Nat) (hm : m ≤ 1073741824) (w : World) : Calls Tryz.prog 60 #[.int .i64 m] w fun e w' => e = .returned (.string (putS m)) ∧ Gr w w' := by
  have hr : (decide (0 ≤ (m : Int)) && decide ((m : Int) ≤ 1073741824)) = true := by simp; omega
  have HPS : Hid (putS m = strOfNums (grpN m)) := by show _ = _; unfold putS; rw [if_pos (by omega)]; rfl
  have HL := Lib.hid (grpN_len5 m hm)
  refine (callsIn_wide (n := 3)).1 (callsIn_of_wp_marks Tryz.func60 rfl trivial ?_)
  refine wpIn_wide.2 ?_
  simp only [Tryz.ntmps60, List.size_toArray, List.length_cons, List.length_nil, Nat.reduceAdd, Nat.reduceSub, Array.replicate_succ, Array.replicate_zero, List.push_toArray, List.append_toArray, List.nil_append, List.cons_append]
  go_wp2_with fail
  refine (right_num m _).mono ?_
  rintro e w1 ⟨rfl, rfl⟩
  rw [hr]
  go_wp2_with fail
  refine (groups_any m _).mono ?_
  rintro e w2 ⟨rfl, rfl⟩
  go_wp2_with fail
  obtain ⟨W0, hW0⟩ : ∃ W0, (w1.alloc (.cells #[.slice none 0 0] 47)).alloc (.cells #[.int .i64 m] 3) = W0 := ⟨_, rfl⟩
  rw [hW0]
  have hsz0 : W0.heap.size = w1.heap.size + 2 := by rw [← hW0]; simp
  have hbo : Boxed W0 w1.heap.size 47 (.slice none 0 0) := by
    rw [← hW0]
    exact (Below.heap_alloc _ _ _ (by simp)).trans (World.alloc_heap_new w1 _)
  have hbn : Boxed W0 (w1.heap.size + 1) 3 (.int .i64 m) := by
    have := World.alloc_heap_new (w1.alloc (.cells #[.slice none 0 0] 47)) (.cells #[.int .i64 m] 3)
    rw [World.size_alloc] at this
    rw [← hW0]
    exact this
  have hgW0 : Gr w1 W0 := by rw [← hW0]; exact ((Gr.rfl' _).al _).al _
  obtain ⟨i0, hi, hz0, hz1, hz2⟩ := info_parts infoByte
  clear hW0 hr
  refine wpIn_wide.1 (wpIn_range (n := 3) (gf := 118) (lb := #[.pointer (some ⟨w1.heap.size + 1, 0, none⟩)]) rfl (enters_of Tryz.func118 (by kernel_rfl) rfl)
    (groups_iter 1 w1 W0 _ (by omega) m hm hbn hgW0) (fun k hk => by omega) (by omega) (fun _ => rfl)
    (fun pre W => BSt w1 w1.heap.size W0.heap.size pre W) (fun _ _ _ => False)
    (fun pre x a' W => W0.heap.size ≤ W.heap.size ∧ BSt w1 w1.heap.size W0.heap.size pre W ∧
      a' = { tmps := #[.int .i64 m, undef, .string ⟨#[]⟩, .pointer (some ⟨w1.heap.size, 0, none⟩), .int .u8 x, .int .i64 m, .bool true, .bool false, .int .i64 m, .func (.func 118) #[] #[.pointer (some ⟨w1.heap.size + 1, 0, none⟩)], .int .u8 x, undef, undef, undef, undef, undef, undef], defers := [] })
    ?hI (fun _ _ _ _ h _ => h) ?hAx ?h0 ?assign ?body ?done (fun _ _ _ _ _ _ h => h.elim))
  case hI => intro pre A B h m'; exact h.mv m' (by omega) (by omega) (by omega)
  case hAx =>
    rintro pre x a' A B ⟨hs, h, rfl⟩ m'
    exact ⟨Nat.le_trans hs m'.size, h.mv m' (by omega) (by omega) (by omega), rfl⟩
  case h0 => exact ⟨⟨_, hbo, OwnB.nil _ _⟩, hgW0⟩
  case assign =>
    intro l pre x W K hI hpre hl hlt hK
    simp only [encB]
    have hKK := Lib.hid hK; clear hK
    gi_wp2
    exact hKK.out _ _ (KeepsFrom.refl _ _) (Kp.refl _ _ _) ⟨by omega, hI, rfl⟩
  case body =>
    rintro l pre x a' W hl ⟨r, hr⟩ hpre ⟨hs, ⟨⟨v, hbv, hov⟩, hg⟩, rfl⟩
    have hlen : pre.length + 1 ≤ 5 := by
      have h2 := hpre.length_le
      have h4 := HL.out
      simp at h2; omega
    have HPRE := Lib.hid hpre; clear hpre
    have hv0 := hbv.cell
    have hvf := free_of_one hbv
    have HR := Lib.hid hr; clear hr
    have HBV := Lib.hid hbv; clear hbv
    gi_wp2_with (first | (gi_at_builtin; go_loud (refine wpListIn_append_own _ rfl _ _ 47 rfl W0.heap.size 5 i0 (.int .u8 0) 1 1 Tryz.underlying47 hi hz0 hz1 hz2 rfl (by decide) v _ _ rfl (World.ownsRow.alloc hov _) ⟨_, 0, none⟩ 1 1 [.int .u8 x] rfl rfl (cells_newB _ _ _) (by simp [Value.oneCell']) (by simp only [maxLen]; omega) (by omega) (by simp; omega) ?_); intro v' w2 hown' hgrow _; obtain ⟨g', cap', rfl⟩ := ownsRow_succ hown'; have hbv1 : w2.cell? ⟨w1.heap.size, 0, none⟩ = some v := (box_grownB hgrow HBV.out (fun j e => by have := hov.ge _ e; omega)).cell; have hbf1 : w2.frozen? ⟨w1.heap.size, 0, none⟩ = false := free_of_one (box_grownB hgrow HBV.out (fun j e => by have := hov.ge _ e; omega))))
    obtain ⟨hS, hKF, hKP⟩ := BSt.add (p := x) (bn := w1.heap.size + 1) (by omega) (by omega) (by omega) (by omega) (by omega) (by omega) HBV.out hov hg hown' hgrow
    show _ ∧ _ ∧ _
    exact ⟨hKF, hKP, hS⟩
  case done =>
    intro D W hD hI hK
    obtain ⟨⟨v, hbv, hov⟩, hg⟩ := hI
    obtain ⟨av, cv, rfl, hcv⟩ := hov.text
    have hv0 := hbv.cell
    go_wp2
    refine ⟨by simp, .inl ⟨_, _, rfl, run_takeDeferred hK, ?_⟩⟩
    exact ⟨_, results_tmp rfl _ _ _, by rw [HPS.out]; rfl, hg.putObj' (by omega) _⟩

theorem cPut_any (m : Int) (w : World) : Calls Tryz.prog 60 #[.int .i64 m] w fun e w' => e = .returned (.string (putS m)) ∧ Gr w w' := by
  by_cases h : 0 ≤ m ∧ m ≤ 1073741824
  · obtain ⟨k, rfl⟩ : ∃ k : Nat, m = k := ⟨m.toNat, by omega⟩
    exact cPut_yes k (by omega) w
  · exact cPut_no m w h
end Go.Proofs.YtfobnemocodomaaGreat
set_option linter.unusedVariables false
set_option linter.unusedSimpArgs false
set_option maxHeartbeats 400000
namespace Go.Proofs.YtfobnemocodomaaGreat
open Go.RowKit Go.Shelf

theorem conv1 (x : Int) (W : World) (g : Nat) (hc : W.cell? ⟨g, 0, none⟩ = some (.int .u8 x)) : (convert 47 9 (.slice (some ⟨g, 0, none⟩) 1 1)).run Tryz.prog W = .ok (.string (strOfNums [x])) W :=
  run_convert_bytes_arg W 47 5 Tryz.underlying47 Tryz.underlying5 g 0 _ 1 [x] rfl (fun i hi => by
    obtain rfl : i = 0 := by simp only [List.length_cons, List.length_nil] at hi; omega
    simpa using hc) 9 Tryz.underlying9
theorem conv1_new (x : Int) (W : World) : (convert 47 9 (.slice (some ⟨W.heap.size, 0, none⟩) 1 1)).run Tryz.prog (W.alloc (.cells #[.int .u8 x] 5)) = .ok (.string (strOfNums [x])) (W.alloc (.cells #[.int .u8 x] 5)) :=
  conv1 x _ _ (by have := cells_newB W [.int .u8 x] 5 0 (.int .u8 x) rfl; exact this)

theorem conv1_drew (x : Int) (W : World) : (convert 47 9 (.slice (some ⟨W.heap.size, 0, none⟩) 1 1)).run Tryz.prog (W.alloc (.cells #[.int .u8 x] 5)).drew = .ok (.string (strOfNums [x])) (W.alloc (.cells #[.int .u8 x] 5)).drew :=
  conv1 x _ _ (by have := cells_newB W [.int .u8 x] 5 0 (.int .u8 x) rfl; exact this)
theorem cells_newD (x : Int) (W : World) : (W.alloc (.cells #[.int .u8 x] 5)).drew.cell? ⟨W.heap.size, 0, none⟩ = some (.int .u8 x) := by
  have := cells_newB W [.int .u8 x] 5 0 (.int .u8 x) rfl; exact this

theorem cells_newE (x : Int) (W : World) : (W.alloc (.cells #[.int .u8 x] 5)).cell? ⟨W.heap.size, 0, none⟩ = some (.int .u8 x) := by
  have := cells_newB W [.int .u8 x] 5 0 (.int .u8 x) rfl; exact this

theorem putS_nat (m : Nat) (hm : m ≤ 1073741824) : putS m = strOfNums (grpN m) := by unfold putS; rw [if_pos (by omega)]; rfl
theorem strOfNums_cons (x : Int) (l : List Int) : strOfNums (x :: l) = strOfNums [x] ++ strOfNums l := by
  apply ByteArray.ext
  simp [strOfNums, ByteArray.data_append]

end Go.Proofs.YtfobnemocodomaaGreat
