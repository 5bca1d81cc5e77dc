/- paths: sign, Name. -/
import Derived.Test.YtfobnemocodomaaGreatZBa
import Derived.Test.YtfobnemocodomaaGreatZQthC
set_option linter.unusedVariables false
set_option linter.unusedSimpArgs false
set_option maxHeartbeats 4000000
namespace Go.Proofs.YtfobnemocodomaaGreat.Pt
open Go.RowKit

def signI (n : Int) : Bool := decide (97 ≤ n ∧ n ≤ 122) || decide (48 ≤ n ∧ n ≤ 57) || decide (n = 46) || decide (n = 95) || decide (n = 45)
theorem signI_eq (c : UInt8) : signI (c.toNat : Int) = signP c := by
  have h : ∀ x : Fin 256, signI ((UInt8.ofNat x.val).toNat : Int) = signP (UInt8.ofNat x.val) := by decide +kernel
  have := h ⟨c.toNat, c.toNat_lt⟩
  simpa using this
theorem sign_any (n : Int) (w : World) : Calls Tryz.prog 134 #[.int .u8 n] w fun r w' => r = .returned (.bool (signI n)) ∧ w' = w := by
  by_cases e1 : n = 46
  · subst e1
    go_enter Tryz.func134, Tryz.ntmps134
    go_wp2
    go_ret
    exact ⟨rfl, rfl⟩
  by_cases e2 : n = 95
  · subst e2
    go_enter Tryz.func134, Tryz.ntmps134
    go_wp2
    go_ret
    exact ⟨rfl, rfl⟩
  by_cases e3 : n = 45
  · subst e3
    go_enter Tryz.func134, Tryz.ntmps134
    go_wp2
    go_ret
    exact ⟨rfl, rfl⟩
  have f1 : (n == 46) = false := by simp [e1]
  have f2 : (n == 95) = false := by simp [e2]
  have f3 : (n == 45) = false := by simp [e3]
  by_cases a1 : (97 : Int) ≤ n
  · by_cases a2 : n ≤ 122
    · have hv : signI n = true := by simp [signI, a1, a2]
      have HV := Lib.hid hv
      clear hv e1 e2 e3
      go_enter Tryz.func134, Tryz.ntmps134
      go_wp2
      go_ret
      rw [HV.out]
      exact ⟨rfl, rfl⟩
    · have b1 : (48 : Int) ≤ n := by omega
      have b2 : ¬ n ≤ 57 := by omega
      have hv : signI n = false := by simp [signI, a1, a2, b1, b2, e1, e2, e3]
      have HV := Lib.hid hv
      clear hv
      go_enter Tryz.func134, Tryz.ntmps134
      go_wp2
      go_ret
      rw [HV.out]
      exact ⟨rfl, rfl⟩
  · by_cases b1 : (48 : Int) ≤ n
    · by_cases b2 : n ≤ 57
      · have hv : signI n = true := by simp [signI, a1, b1, b2]
        have HV := Lib.hid hv
        clear hv e1 e2 e3
        go_enter Tryz.func134, Tryz.ntmps134
        go_wp2
        go_ret
        rw [HV.out]
        exact ⟨rfl, rfl⟩
      · have hv : signI n = false := by simp [signI, a1, b1, b2, e1, e2, e3]
        have HV := Lib.hid hv
        clear hv
        go_enter Tryz.func134, Tryz.ntmps134
        go_wp2
        go_ret
        rw [HV.out]
        exact ⟨rfl, rfl⟩
    · have hv : signI n = false := by simp [signI, a1, b1, e1, e2, e3]
      have HV := Lib.hid hv
      clear hv
      go_enter Tryz.func134, Tryz.ntmps134
      go_wp2
      go_ret
      rw [HV.out]
      exact ⟨rfl, rfl⟩
theorem sign_at (c : UInt8) (b : Bool) (h : signP c = b) (w : World) : Calls Tryz.prog 134 #[.int .u8 (c.toNat : Int)] w fun r w' => r = .returned (.bool b) ∧ w' = w := by
  have := sign_any (c.toNat : Int) w
  rwa [signI_eq, h] at this
def gbt (l : List UInt8) (j : Nat) : UInt8 := l[j]?.getD 0
theorem gbt_at {l : List UInt8} {j : Nat} (h : j < l.length) : gbt l j = l[j] := by simp [gbt, h]
theorem all_upto (l : List UInt8) (h : ∀ j, j < l.length → signP (gbt l j) = true) : l.all signP = true := by
  rw [List.all_eq_true]
  intro c hc
  obtain ⟨j, hj, rfl⟩ := List.mem_iff_getElem.1 hc
  have := h j hj
  rwa [gbt_at hj] at this
theorem all_not (l : List UInt8) (j : Nat) (hj : j < l.length) (h : signP (gbt l j) = false) : l.all signP = false := by
  cases hs : l.all signP with
  | false => rfl
  | true =>
    have := List.all_eq_true.1 hs _ (List.getElem_mem hj)
    rw [gbt_at hj] at h; rw [this] at h; cases h
/-- a text of these bytes -/
def bs (l : List UInt8) : ByteArray := ⟨l.toArray⟩
theorem bs_list (l : List UInt8) : (bs l).data.toList = l := rfl
theorem bs_of (s : ByteArray) : bs s.data.toList = s := rfl
theorem bs_size (l : List UInt8) : (bs l).size = l.length := rfl
theorem bs_inj {a b : List UInt8} (h : bs a = bs b) : a = b := by
  have := congrArg (fun s : ByteArray => s.data.toList) h
  simpa [bs] using this
theorem Name_any (l : List UInt8) (hl : l.length ≤ maxLen) (w : World) : Calls Tryz.prog 108 #[.string (bs l)] w fun r w' => r = .returned (.bool (nameV l)) ∧ w' = w := by
  unfold maxLen at hl
  by_cases h1 : l = []
  · subst h1
    change Calls Tryz.prog 108 #[.string ⟨#[]⟩] w _
    go_enter Tryz.func108, Tryz.ntmps108
    go_wp2
    go_ret
    exact ⟨rfl, rfl⟩
  by_cases h2 : l = [46]
  · subst h2
    change Calls Tryz.prog 108 #[.string ⟨#[46]⟩] w _
    go_enter Tryz.func108, Tryz.ntmps108
    go_wp2
    go_ret
    exact ⟨rfl, rfl⟩
  by_cases h3 : l = [46, 46]
  · subst h3
    change Calls Tryz.prog 108 #[.string ⟨#[46, 46]⟩] w _
    go_enter Tryz.func108, Tryz.ntmps108
    go_wp2
    go_ret
    exact ⟨rfl, rfl⟩
  have hp : 1 ≤ l.length := by
    cases l with
    | nil => exact absurd rfl h1
    | cons _ _ => simp
  obtain ⟨s, hs⟩ : ∃ s, bs l = s := ⟨_, rfl⟩
  have hsz : s.size = l.length := by rw [← hs]; rfl
  have hat : ∀ k (h : k < s.size), s[k] = gbt l k := fun k h => by
    have h2 : k < l.length := by omega
    rw [gbt_at h2]
    subst hs
    rfl
  have hsl : s.toList = l := by rw [Lib.toList_data, ← hs]; rfl
  have n1 : ¬ s.toList = [] := by rw [hsl]; exact h1
  have n2 : ¬ s.toList = [46] := by rw [hsl]; exact h2
  have n3 : ¬ s.toList = [46, 46] := by rw [hsl]; exact h3
  have m1 : s.toList.isEmpty = false := by rw [hsl]; simp [h1]
  have m2 : (s.toList == [46]) = false := by rw [hsl]; simp [h2]
  have m3 : (s.toList == [46, 46]) = false := by rw [hsl]; simp [h3]
  rw [hs]
  by_cases h4 : l.length ≤ 12
  · have hv : nameV l = l.all signP := by
      unfold nameV
      simp [h2, h3, hp, h4]
    have HV := Lib.hid hv
    have hs12 : ¬ (12 : Int) < (s.size : Int) := by omega
    have HAT := Lib.hid hat
    have HSZ := Lib.hid hsz
    clear hv hat hsz h1 h2 h3 hs h4 hp hl hsl
    go_enter Tryz.func108, Tryz.ntmps108
    go_wp2
    go_loopw [21] (fun i wr => ∃ k : Nat, k ≤ s.size ∧ i = .int .i64 k ∧ Hid (∀ j, j < k → signP (gbt l j) = true) ∧ wr = w) (fun i _ => s.size - (intOf i).toNat)
    case atStart => exact ⟨0, Nat.zero_le _, rfl, Lib.hid (fun j hj => absurd hj (by omega)), rfl⟩
    case round =>
      obtain ⟨k, hk, rfl, HA, rfl⟩ := hrel
      by_cases hlt : k < s.size
      · have hki : (k : Int) < (s.size : Int) := by omega
        have hgk : s[k] = gbt l k := HAT.out k hlt
        cases hv : signP (gbt l k) with
        | false =>
          have hno := all_not l k (by have := HSZ.out; omega) hv
          have HSG := Lib.hid hv
          have HNO := Lib.hid hno
          clear hno hv
          go_wp2_with fail
          refine (sign_at _ false HSG.out _).mono ?_
          rintro r w3 ⟨rfl, rfl⟩
          go_wp2
          go_ret
          rw [HV.out, HNO.out]
          exact ⟨rfl, rfl⟩
        | true =>
          have HSG := Lib.hid hv
          have HA2 : Hid (∀ j, j < k + 1 → signP (gbt l j) = true) := Lib.hid (fun j hj => by
            by_cases hjk : j = k
            · subst hjk; exact hv
            · exact HA.out j (by omega))
          clear hv HA
          go_wp2_with fail
          refine (sign_at _ true HSG.out _).mono ?_
          rintro r w3 ⟨rfl, rfl⟩
          go_wp2
          go_roundw
          case rel => exact ⟨k + 1, by omega, by go_num, HA2, trivial⟩
          case measure => simp [intOf]; omega
      · have hkn : k = s.size := by omega
        subst hkn
        have hki : ¬ (s.size : Int) < (s.size : Int) := by omega
        have hall : l.all signP = true := all_upto l (fun j hj => HA.out j (by have := HSZ.out; omega))
        have HL := Lib.hid hall
        clear hall
        go_wp2
        go_ret
        rw [HV.out, HL.out]
        exact ⟨rfl, rfl⟩
  · have hv : nameV l = false := by
      unfold nameV
      simp [h4]
    have HV := Lib.hid hv
    have hs12 : (12 : Int) < (s.size : Int) := by omega
    clear hv hat hsz h1 h2 h3 hs h4 hp hl hsl
    go_enter Tryz.func108, Tryz.ntmps108
    go_wp2
    go_ret
    rw [HV.out]
    exact ⟨rfl, rfl⟩
end Go.Proofs.YtfobnemocodomaaGreat.Pt
