/- count: end, right, Take. -/
import Derived.Test.YtfobnemocodomaaBase
set_option linter.unusedVariables false
set_option linter.unusedSimpArgs false
set_option maxHeartbeats 400000
namespace Go.Proofs.Ytfobnemocodomaa
open Go.RowKit

theorem right_num (n : Int) (w : World) : Calls Try.prog 188 #[.int .i64 n] w fun e w' => e = .returned (.bool (decide (0 ≤ n) && decide (n ≤ 1073741824))) ∧ w' = w := by
  by_cases h : 0 ≤ n
  · have hb : decide (0 ≤ n) = true := decide_eq_true h
    go_enter Try.func188, Try.ntmps188
    go_wp2
    go_ret
    exact ⟨ret_bool (by simp [h]), rfl⟩
  · have hb : decide (0 ≤ n) = false := decide_eq_false h
    go_enter Try.func188, Try.ntmps188
    go_wp2
    go_ret
    exact ⟨ret_bool (by simp), rfl⟩

def byt (s : ByteArray) (i : Nat) : Int := if h : i < s.size then ((s[i]'h).toNat : Int) else 0
theorem byt_at {s : ByteArray} {i : Nat} (h : i < s.size) : byt s i = ((s[i]'h).toNat : Int) := dif_pos h
theorem byt_bd (s : ByteArray) (i : Nat) : 0 ≤ byt s i ∧ byt s i ≤ 255 := by
  unfold byt; split
  · rename_i h; have := (s[i]'h).toNat_lt; omega
  · omega
def endGo (s : ByteArray) : Nat → Nat → Int
  | 0, _ => -1
  | f + 1, i => if byt s i < 128 then i else endGo s f (i + 1)
def endOf (s : ByteArray) : Int := endGo s (min s.size 5) 0

set_option maxRecDepth 100000 in
theorem end_any (s : ByteArray) (hs : s.size ≤ 9223372036854775807) (w : World) : Calls Try.prog 217 #[.string s] w fun e w' => e = .returned (.int .i64 (endOf s)) ∧ w' = w := by
  go_enter Try.func217, Try.ntmps217
  go_wp2
  · have h5 : 5 ≤ s.size := by omega
    have HM : Hid (endOf s = endGo s (5 - 0) 0) := by show endGo s (min s.size 5) 0 = _; rw [Nat.min_eq_right (by omega)]
    go_loopw [7] (fun i wr => ∃ k : Nat, k ≤ 5 ∧ i = .int .i64 k ∧ Hid (endOf s = endGo s (5 - k) k) ∧ wr = w) (fun i _ => 5 - (intOf i).toNat)
    case atStart => exact ⟨0, Nat.zero_le _, rfl, HM, rfl⟩
    case round =>
      obtain ⟨k, hk, rfl, hch, rfl⟩ := hrel
      by_cases hlt : k < 5
      · have hlt1 : (k : Int) < s.size := by omega
        have hlt2 : (k : Int) < 5 := by omega
        have hf : Hid (endGo s (5 - k) k = if byt s k < 128 then (k : Int) else endGo s (5 - (k + 1)) (k + 1)) := by
          show _ = _
          rw [show 5 - k = (5 - (k + 1)) + 1 by omega, endGo]
        go_wp2
        · go_ret
          exact ⟨ret_int (by rw [hch.out, hf.out, byt_at (by omega), if_pos (by assumption)]), rfl⟩
        · go_roundw
          case rel => exact ⟨k + 1, by omega, by go_num, Lib.hid (by rw [hch.out, hf.out, byt_at (by omega), if_neg (by omega)]), trivial⟩
          case measure => simp [intOf]; omega
      · have hkM : k = 5 := by omega
        subst hkM
        have hz := hch.out
        rw [Nat.sub_self] at hz
        have HZ := Lib.hid hz
        clear hz
        go_wp2
        go_ret
        exact ⟨ret_int (by rw [HZ.out]; rfl), rfl⟩
  · have h5 : s.size ≤ 5 := by omega
    have HM : Hid (endOf s = endGo s (s.size - 0) 0) := by show endGo s (min s.size 5) 0 = _; rw [Nat.min_eq_left (by omega)]; rfl
    go_loopw [7] (fun i wr => ∃ k : Nat, k ≤ s.size ∧ i = .int .i64 k ∧ Hid (endOf s = endGo s (s.size - k) k) ∧ wr = w) (fun i _ => s.size - (intOf i).toNat)
    case atStart => exact ⟨0, Nat.zero_le _, rfl, HM, rfl⟩
    case round =>
      obtain ⟨k, hk, rfl, hch, rfl⟩ := hrel
      by_cases hlt : k < s.size
      · have hlt1 : (k : Int) < s.size := by omega
        have hlt2 : (k : Int) < 5 := by omega
        have hf : Hid (endGo s (s.size - k) k = if byt s k < 128 then (k : Int) else endGo s (s.size - (k + 1)) (k + 1)) := by
          show _ = _
          rw [show s.size - k = (s.size - (k + 1)) + 1 by omega, endGo]
        go_wp2
        · go_ret
          exact ⟨ret_int (by rw [hch.out, hf.out, byt_at (by omega), if_pos (by assumption)]), rfl⟩
        · go_roundw
          case rel => exact ⟨k + 1, by omega, by go_num, Lib.hid (by rw [hch.out, hf.out, byt_at (by omega), if_neg (by omega)]), trivial⟩
          case measure => simp [intOf]; omega
      · have hkM : k = s.size := by omega
        subst hkM
        have hz := hch.out
        rw [Nat.sub_self] at hz
        have HZ := Lib.hid hz
        clear hz
        go_wp2
        go_ret
        exact ⟨ret_int (by rw [HZ.out]; rfl), rfl⟩
end Go.Proofs.Ytfobnemocodomaa
