/- count.Take. -/
import Derived.Test.YtfobnemocodomaaCntA
set_option linter.unusedVariables false
set_option linter.unusedSimpArgs false
set_option maxHeartbeats 400000
namespace Go.Proofs.Ytfobnemocodomaa
open Go.RowKit

/-- the number of the bytes i .. last, the lowest first -/
def numFrom (s : ByteArray) (i : Nat) : Nat → Int
  | 0 => 0
  | f + 1 => byt s i % 128 + 128 * numFrom s (i + 1) f

theorem bits_or_i64_nat (a b : Nat) (ha : a < 9223372036854775808) (hb : b < 9223372036854775808) : bits .or .i64 (a : Int) (b : Int) = ((a ||| b : Nat) : Int) := by
  have hx : a ||| b < 2 ^ 63 := Nat.or_lt_two_pow (by omega) (by omega)
  have h1 : (BitVec.ofInt 64 (a : Int)).toNat = a := by
    rw [BitVec.ofInt_natCast, BitVec.toNat_ofNat]; exact Nat.mod_eq_of_lt (by omega)
  have h2 : (BitVec.ofInt 64 (b : Int)).toNat = b := by
    rw [BitVec.ofInt_natCast, BitVec.toNat_ofNat]; exact Nat.mod_eq_of_lt (by omega)
  show IntKind.i64.wrap ((BitVec.ofInt 64 (a : Int) ||| BitVec.ofInt 64 (b : Int)).toNat : Int) = _
  rw [BitVec.toNat_or, h1, h2, IntKind.wrap_i64]
  omega
/-- seven low bits put behind a number -/
theorem or_low (m b : Int) (hm : 0 ≤ m) (hm2 : m < 36028797018963968) (hb : 0 ≤ b) (hb2 : b < 128) : bits .or .i64 (m * 128) b = m * 128 + b := by
  obtain ⟨x, rfl⟩ : ∃ x : Nat, m = x := ⟨m.toNat, by omega⟩
  obtain ⟨y, rfl⟩ : ∃ y : Nat, b = y := ⟨b.toNat, by omega⟩
  have := bits_or_i64_nat (x * 128) y (by omega) (by omega)
  have e : x * 128 ||| y = x * 128 + y := by
    have := Nat.two_pow_add_eq_or_of_lt (i := 7) (b := y) (by omega) x
    rw [show x * 128 = 2 ^ 7 * x by omega]
    exact this.symm
  rw [e] at this
  simpa using this

theorem numFrom_bd (s : ByteArray) : ∀ f i, 0 ≤ numFrom s i f ∧ numFrom s i f < 128 ^ f
  | 0, _ => by simp [numFrom]
  | f + 1, i => by
    have h1 := numFrom_bd s f (i + 1)
    have h2 := byt_bd s i
    have h3 : (128 : Int) ^ (f + 1) = 128 * 128 ^ f := by rw [Int.pow_succ]; omega
    simp only [numFrom]
    rw [h3]
    generalize (128 : Int) ^ f = P at *
    omega
theorem numFrom_bd4 (s : ByteArray) (f i : Nat) (hf : f ≤ 4) : 0 ≤ numFrom s i f ∧ numFrom s i f < 268435456 := by
  have h := numFrom_bd s f i
  have : f = 0 ∨ f = 1 ∨ f = 2 ∨ f = 3 ∨ f = 4 := by omega
  rcases this with rfl | rfl | rfl | rfl | rfl <;> (simp at h; omega)
theorem numFrom_bd5 (s : ByteArray) (f i : Nat) (hf : f ≤ 5) : 0 ≤ numFrom s i f ∧ numFrom s i f < 34359738368 := by
  have h := numFrom_bd s f i
  have : f = 0 ∨ f = 1 ∨ f = 2 ∨ f = 3 ∨ f = 4 ∨ f = 5 := by omega
  rcases this with rfl | rfl | rfl | rfl | rfl | rfl <;> (simp at h; omega)

/-- what count.Take answers: the number, its bytes, the error -/
def takeV (s : ByteArray) : Int × Int × Int :=
  if endOf s < 0 then (if s.size < 5 then (0, 0, 5) else (0, 0, 2))
  else if byt s (endOf s).toNat = 0 ∧ 0 < endOf s then (0, 0, 7)
  else if 1073741824 < numFrom s 0 ((endOf s).toNat + 1) then (0, 0, 2)
  else (numFrom s 0 ((endOf s).toNat + 1), endOf s + 1, 0)
def takeE (s : ByteArray) : Ending := .returned (.tuple #[.int .i64 (takeV s).1, .int .i64 (takeV s).2.1, .int .i64 (takeV s).2.2])
theorem takeE_of {s : ByteArray} {a b c : Int} (h : takeV s = (a, b, c)) : takeE s = .returned (.tuple #[.int .i64 a, .int .i64 b, .int .i64 c]) := by unfold takeE; rw [h]

set_option maxRecDepth 100000 in
theorem Take_loop (s : ByteArray) (hs : s.size ≤ 9223372036854775807) (e : Nat) (he : e < s.size) (he5 : e < 5) (hE : endOf s = e) (w : World) : Calls Try.prog 203 #[.string s] w fun r w' => r = takeE s ∧ w' = w := by
  have HV : Hid (takeV s = if byt s e = 0 ∧ 0 < e then (0, 0, 7) else if 1073741824 < numFrom s 0 (e + 1) then (0, 0, 2) else (numFrom s 0 (e + 1), (e : Int) + 1, 0)) := by
    show _ = _
    unfold takeV
    rw [hE, if_neg (by omega)]
    simp
  have HE := Lib.hid hE
  clear hE
  have hes : (e : Int) < s.size := by omega
  have hB := byt_at he
  by_cases hb0 : byt s e = 0 ∧ 0 < e
  · have HG : Hid (takeV s = (0, 0, 7)) := by show _ = _; rw [HV.out, if_pos hb0]
    have hx : ((s[e]'he).toNat : Int) = 0 := by rw [← hB]; exact hb0.1
    have hxb : (((s[e]'he).toNat : Int) == 0) = true := by rw [hx]; rfl
    have hp : 0 < e := hb0.2
    have hpi : (0 : Int) < e := by omega
    clear hb0 HV hB
    go_enter Try.func203, Try.ntmps203
    go_wp2_with fail
    refine (end_any s hs _).mono ?_
    rintro r w1 ⟨rfl, rfl⟩
    rw [HE.out]
    go_wp2
    refine bodyPost_ret (v := .tuple #[.int .i64 0, .int .i64 0, .int .i64 7]) (by simp [results, Try.results203, go_sem]) rfl ?_
    exact ⟨(takeE_of HG.out).symm, rfl⟩
  · have HV2 : Hid (takeV s = if 1073741824 < numFrom s 0 (e + 1) then (0, 0, 2) else (numFrom s 0 (e + 1), (e : Int) + 1, 0)) := by show _ = _; rw [HV.out, if_neg hb0]
    obtain ⟨hN1, hN2⟩ := numFrom_bd5 s (e + 1) 0 (by omega)
    have HN : Hid (∃ N, N = numFrom s 0 (e + 1)) := ⟨_, rfl⟩
    have hcase : (((s[e]'he).toNat : Int) == 0) = false ∨ e = 0 := by
      rw [← hB]
      by_cases h1 : byt s e = 0
      · right; rcases Nat.eq_zero_or_pos e with h | h; exact h; exact absurd ⟨h1, h⟩ hb0
      · left; simpa using h1
    clear hb0 HV hB
    rcases hcase with hc | rfl
    all_goals
      go_enter Try.func203, Try.ntmps203
      go_wp2_with fail
      refine (end_any s hs _).mono ?_
      rintro r w1 ⟨rfl, rfl⟩
      rw [HE.out]
      go_wp2
    · skip
      go_loopw [6,7] (fun n i wr => ∃ k : Nat, ∃ m : Int, k ≤ e + 1 ∧ i = .int .i64 ((k : Int) - 1) ∧ n = .int .i64 m ∧ Hid (m = numFrom s k (e + 1 - k)) ∧ wr = w1) (fun _ i _ => (intOf i + 1).toNat)
      case atStart => exact ⟨e + 1, 0, by omega, by simp, rfl, Lib.hid (by simp [numFrom]), rfl⟩
      case round =>
        obtain ⟨k, m, hk, rfl, rfl, hm, rfl⟩ := hrel
        by_cases h0 : 0 < k
        · obtain ⟨k, rfl⟩ : ∃ j, k = j + 1 := ⟨k - 1, by omega⟩
          have hi : (((k + 1 : Nat) : Int) - 1) = k := by omega
          have hks : k < s.size := by omega
          have hks' : (k : Int) < s.size := by omega
          obtain ⟨hm1, hm2⟩ := numFrom_bd4 s (e + 1 - (k + 1)) (k + 1) (by omega)
          rw [← hm.out] at hm1 hm2
          have hw : wrap64 (m * 128) = m * 128 := by unfold wrap64; omega
          have hob := or_low m (((s[k]'hks).toNat : Int) % 128) hm1 (by omega) (by omega) (by omega)
          have hst : Hid (m * 128 + ((s[k]'hks).toNat : Int) % 128 = numFrom s k (e + 1 - k)) := by
            show _ = _
            rw [show e + 1 - k = (e + 1 - (k + 1)) + 1 by omega, numFrom, ← hm.out, byt_at hks]; omega
          rw [hi]
          clear hi
          go_wp2
          go_roundw
          case rel => exact ⟨k, _, by omega, rfl, by simp only [hw, hob], hst, trivial⟩
          case measure => simp [intOf]
        · have hk0 : k = 0 := by omega
          subst hk0
          have HM : Hid (m = numFrom s 0 (e + 1)) := hm
          have hmb := hN1
          rw [← HM.out] at hN1 hN2
          by_cases hbig : 1073741824 < m
          · have hrb : (decide (0 ≤ m) && decide (m ≤ 1073741824)) = false := by simp; omega
            have HG : Hid (takeV s = (0, 0, 2)) := by show _ = _; rw [HV2.out, ← HM.out, if_pos hbig]
            go_wp2_with fail
            refine (right_num m _).mono ?_
            rintro r w2 ⟨rfl, rfl⟩
            rw [hrb]
            go_wp2
            refine bodyPost_ret (v := .tuple #[.int .i64 0, .int .i64 0, .int .i64 2]) (by simp [results, Try.results203, go_sem]) rfl ?_
            exact ⟨(takeE_of HG.out).symm, rfl⟩
          · have hrb : (decide (0 ≤ m) && decide (m ≤ 1073741824)) = true := by simp; omega
            have HG : Hid (takeV s = (m, ((e : Nat) : Int) + 1, 0)) := by show _ = _; rw [HV2.out, ← HM.out, if_neg hbig]
            go_wp2_with fail
            refine (right_num m _).mono ?_
            rintro r w2 ⟨rfl, rfl⟩
            rw [hrb]
            go_wp2
            refine bodyPost_ret (v := .tuple #[.int .i64 m, .int .i64 (((e : Nat) : Int) + 1), .int .i64 0]) (by simp [results, Try.results203, go_sem]) rfl ?_
            exact ⟨(takeE_of HG.out).symm, rfl⟩
    · skip
      go_loopw [6,7] (fun n i wr => ∃ k : Nat, ∃ m : Int, k ≤ 0 + 1 ∧ i = .int .i64 ((k : Int) - 1) ∧ n = .int .i64 m ∧ Hid (m = numFrom s k (0 + 1 - k)) ∧ wr = w1) (fun _ i _ => (intOf i + 1).toNat)
      case atStart => exact ⟨0 + 1, 0, by omega, by simp, rfl, Lib.hid (by simp [numFrom]), rfl⟩
      case round =>
        obtain ⟨k, m, hk, rfl, rfl, hm, rfl⟩ := hrel
        by_cases h0 : 0 < k
        · obtain ⟨k, rfl⟩ : ∃ j, k = j + 1 := ⟨k - 1, by omega⟩
          have hi : (((k + 1 : Nat) : Int) - 1) = k := by omega
          have hks : k < s.size := by omega
          have hks' : (k : Int) < s.size := by omega
          obtain ⟨hm1, hm2⟩ := numFrom_bd4 s (0 + 1 - (k + 1)) (k + 1) (by omega)
          rw [← hm.out] at hm1 hm2
          have hw : wrap64 (m * 128) = m * 128 := by unfold wrap64; omega
          have hob := or_low m (((s[k]'hks).toNat : Int) % 128) hm1 (by omega) (by omega) (by omega)
          have hst : Hid (m * 128 + ((s[k]'hks).toNat : Int) % 128 = numFrom s k (0 + 1 - k)) := by
            show _ = _
            rw [show 0 + 1 - k = (0 + 1 - (k + 1)) + 1 by omega, numFrom, ← hm.out, byt_at hks]; omega
          rw [hi]
          clear hi
          go_wp2
          go_roundw
          case rel => exact ⟨k, _, by omega, rfl, by simp only [hw, hob], hst, trivial⟩
          case measure => simp [intOf]
        · have hk0 : k = 0 := by omega
          subst hk0
          have HM : Hid (m = numFrom s 0 (0 + 1)) := hm
          have hmb := hN1
          rw [← HM.out] at hN1 hN2
          by_cases hbig : 1073741824 < m
          · have hrb : (decide (0 ≤ m) && decide (m ≤ 1073741824)) = false := by simp; omega
            have HG : Hid (takeV s = (0, 0, 2)) := by show _ = _; rw [HV2.out, ← HM.out, if_pos hbig]
            go_wp2_with fail
            refine (right_num m _).mono ?_
            rintro r w2 ⟨rfl, rfl⟩
            rw [hrb]
            go_wp2
            refine bodyPost_ret (v := .tuple #[.int .i64 0, .int .i64 0, .int .i64 2]) (by simp [results, Try.results203, go_sem]) rfl ?_
            exact ⟨(takeE_of HG.out).symm, rfl⟩
          · have hrb : (decide (0 ≤ m) && decide (m ≤ 1073741824)) = true := by simp; omega
            have HG : Hid (takeV s = (m, ((0 : Nat) : Int) + 1, 0)) := by show _ = _; rw [HV2.out, ← HM.out, if_neg hbig]
            go_wp2_with fail
            refine (right_num m _).mono ?_
            rintro r w2 ⟨rfl, rfl⟩
            rw [hrb]
            go_wp2
            refine bodyPost_ret (v := .tuple #[.int .i64 m, .int .i64 (((0 : Nat) : Int) + 1), .int .i64 0]) (by simp [results, Try.results203, go_sem]) rfl ?_
            exact ⟨(takeE_of HG.out).symm, rfl⟩
    · skip
      go_loopw [6,7] (fun n i wr => ∃ k : Nat, ∃ m : Int, k ≤ 0 + 1 ∧ i = .int .i64 ((k : Int) - 1) ∧ n = .int .i64 m ∧ Hid (m = numFrom s k (0 + 1 - k)) ∧ wr = w1) (fun _ i _ => (intOf i + 1).toNat)
      case atStart => exact ⟨0 + 1, 0, by omega, by simp, rfl, Lib.hid (by simp [numFrom]), rfl⟩
      case round =>
        obtain ⟨k, m, hk, rfl, rfl, hm, rfl⟩ := hrel
        by_cases h0 : 0 < k
        · obtain ⟨k, rfl⟩ : ∃ j, k = j + 1 := ⟨k - 1, by omega⟩
          have hi : (((k + 1 : Nat) : Int) - 1) = k := by omega
          have hks : k < s.size := by omega
          have hks' : (k : Int) < s.size := by omega
          obtain ⟨hm1, hm2⟩ := numFrom_bd4 s (0 + 1 - (k + 1)) (k + 1) (by omega)
          rw [← hm.out] at hm1 hm2
          have hw : wrap64 (m * 128) = m * 128 := by unfold wrap64; omega
          have hob := or_low m (((s[k]'hks).toNat : Int) % 128) hm1 (by omega) (by omega) (by omega)
          have hst : Hid (m * 128 + ((s[k]'hks).toNat : Int) % 128 = numFrom s k (0 + 1 - k)) := by
            show _ = _
            rw [show 0 + 1 - k = (0 + 1 - (k + 1)) + 1 by omega, numFrom, ← hm.out, byt_at hks]; omega
          rw [hi]
          clear hi
          go_wp2
          go_roundw
          case rel => exact ⟨k, _, by omega, rfl, by simp only [hw, hob], hst, trivial⟩
          case measure => simp [intOf]
        · have hk0 : k = 0 := by omega
          subst hk0
          have HM : Hid (m = numFrom s 0 (0 + 1)) := hm
          have hmb := hN1
          rw [← HM.out] at hN1 hN2
          by_cases hbig : 1073741824 < m
          · have hrb : (decide (0 ≤ m) && decide (m ≤ 1073741824)) = false := by simp; omega
            have HG : Hid (takeV s = (0, 0, 2)) := by show _ = _; rw [HV2.out, ← HM.out, if_pos hbig]
            go_wp2_with fail
            refine (right_num m _).mono ?_
            rintro r w2 ⟨rfl, rfl⟩
            rw [hrb]
            go_wp2
            refine bodyPost_ret (v := .tuple #[.int .i64 0, .int .i64 0, .int .i64 2]) (by simp [results, Try.results203, go_sem]) rfl ?_
            exact ⟨(takeE_of HG.out).symm, rfl⟩
          · have hrb : (decide (0 ≤ m) && decide (m ≤ 1073741824)) = true := by simp; omega
            have HG : Hid (takeV s = (m, ((0 : Nat) : Int) + 1, 0)) := by show _ = _; rw [HV2.out, ← HM.out, if_neg hbig]
            go_wp2_with fail
            refine (right_num m _).mono ?_
            rintro r w2 ⟨rfl, rfl⟩
            rw [hrb]
            go_wp2
            refine bodyPost_ret (v := .tuple #[.int .i64 m, .int .i64 (((0 : Nat) : Int) + 1), .int .i64 0]) (by simp [results, Try.results203, go_sem]) rfl ?_
            exact ⟨(takeE_of HG.out).symm, rfl⟩

theorem endGo_spec (s : ByteArray) : ∀ f i, (endGo s f i = -1 ∧ ∀ j, i ≤ j → j < i + f → 128 ≤ byt s j) ∨ (∃ e : Nat, endGo s f i = e ∧ i ≤ e ∧ e < i + f ∧ byt s e < 128 ∧ ∀ j, i ≤ j → j < e → 128 ≤ byt s j)
  | 0, i => .inl ⟨rfl, fun j h1 h2 => by omega⟩
  | f + 1, i => by
    rw [endGo]
    by_cases h : byt s i < 128
    · rw [if_pos h]; exact .inr ⟨i, rfl, Nat.le_refl _, by omega, h, fun j h1 h2 => by omega⟩
    · rw [if_neg h]
      rcases endGo_spec s f (i + 1) with ⟨h1, h2⟩ | ⟨e, h1, h2, h3, h4, h5⟩
      · exact .inl ⟨h1, fun j a b => by by_cases c : j = i; (subst c; omega); exact h2 j (by omega) (by omega)⟩
      · exact .inr ⟨e, h1, by omega, by omega, h4, fun j a b => by by_cases c : j = i; (subst c; omega); exact h5 j (by omega) b⟩
theorem endOf_spec (s : ByteArray) : (endOf s = -1 ∧ ∀ j, j < s.size → j < 5 → 128 ≤ byt s j) ∨ (∃ e : Nat, endOf s = e ∧ e < s.size ∧ e < 5 ∧ byt s e < 128 ∧ ∀ j, j < e → 128 ≤ byt s j) := by
  rcases endGo_spec s (min s.size 5) 0 with ⟨h1, h2⟩ | ⟨e, h1, h2, h3, h4, h5⟩
  · exact .inl ⟨h1, fun j a b => h2 j (Nat.zero_le _) (by omega)⟩
  · exact .inr ⟨e, h1, by omega, by omega, h4, fun j a => h5 j (Nat.zero_le _) a⟩

set_option maxRecDepth 100000 in
theorem Take_any (s : ByteArray) (hs : s.size ≤ 9223372036854775807) (w : World) : Calls Try.prog 203 #[.string s] w fun r w' => r = takeE s ∧ w' = w := by
  rcases endOf_spec s with ⟨h, _⟩ | ⟨e, h, he, he5, _⟩
  · have HE := Lib.hid h
    by_cases h5 : s.size < 5
    · have HG : Hid (takeV s = (0, 0, 5)) := by show _ = _; unfold takeV; rw [if_pos (by omega), if_pos h5]
      have h5b : decide ((s.size : Int) < 5) = true := decide_eq_true (by omega)
      clear h
      go_enter Try.func203, Try.ntmps203
      go_wp2_with fail
      refine (end_any s hs _).mono ?_
      rintro r w1 ⟨rfl, rfl⟩
      rw [HE.out]
      go_wp2
      refine bodyPost_ret (v := .tuple #[.int .i64 0, .int .i64 0, .int .i64 5]) (by simp [results, Try.results203, go_sem]) rfl ?_
      exact ⟨(takeE_of HG.out).symm, rfl⟩
    · have HG : Hid (takeV s = (0, 0, 2)) := by show _ = _; unfold takeV; rw [if_pos (by omega), if_neg h5]
      have h5b : decide ((s.size : Int) < 5) = false := decide_eq_false (by omega)
      clear h
      go_enter Try.func203, Try.ntmps203
      go_wp2_with fail
      refine (end_any s hs _).mono ?_
      rintro r w1 ⟨rfl, rfl⟩
      rw [HE.out]
      go_wp2
      refine bodyPost_ret (v := .tuple #[.int .i64 0, .int .i64 0, .int .i64 2]) (by simp [results, Try.results203, go_sem]) rfl ?_
      exact ⟨(takeE_of HG.out).symm, rfl⟩
  · exact Take_loop s hs e he he5 h w
end Go.Proofs.Ytfobnemocodomaa
