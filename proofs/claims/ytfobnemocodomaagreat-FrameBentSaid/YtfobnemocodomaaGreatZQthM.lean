/- hearsayref04: Name. -/
import Derived.Test.YtfobnemocodomaaGreatZQthL
set_option linter.unusedVariables false
set_option linter.unusedSimpArgs false
set_option maxHeartbeats 4000000
namespace Go.Proofs.YtfobnemocodomaaGreat.Pt
open Go.RowKit

theorem signP_iff (c : UInt8) : signP c = true ↔ (97 ≤ c.toNat ∧ c.toNat ≤ 122) ∨ (48 ≤ c.toNat ∧ c.toNat ≤ 57) ∨ c = 46 ∨ c = 95 ∨ c = 45 := by
  unfold signP
  simp [or_assoc]
theorem refName_any (l : List UInt8) (hl : l.length ≤ maxLen) (w : World) : Calls Tryz.prog 79 #[.string (bs l)] w fun r w' => r = .returned (.bool (nameV l)) ∧ w' = w := by
  unfold maxLen at hl
  by_cases h1 : l = []
  · subst h1
    change Calls Tryz.prog 79 #[.string ⟨#[]⟩] w _
    go_enter Tryz.func79, Tryz.ntmps79
    go_wp2
    go_ret
    exact ⟨rfl, rfl⟩
  by_cases h2 : l = [46]
  · subst h2
    change Calls Tryz.prog 79 #[.string ⟨#[46]⟩] w _
    go_enter Tryz.func79, Tryz.ntmps79
    go_wp2
    go_ret
    exact ⟨rfl, rfl⟩
  by_cases h3 : l = [46, 46]
  · subst h3
    change Calls Tryz.prog 79 #[.string ⟨#[46, 46]⟩] w _
    go_enter Tryz.func79, Tryz.ntmps79
    go_wp2
    go_ret
    exact ⟨rfl, rfl⟩
  have hp : 1 ≤ l.length := by
    cases l with
    | nil => exact absurd rfl h1
    | cons _ _ => simp
  obtain ⟨s, hs⟩ : ∃ s, bs l = s := ⟨_, rfl⟩
  have hsz : s.size = l.length := by rw [← hs]; rfl
  have hat : ∀ k (h : k < s.size), s[k] = gbt l k := fun k h => by
    have h2 : k < l.length := by omega
    rw [gbt_at h2]
    subst hs
    rfl
  have hsl : s.toList = l := by rw [Lib.toList_data, ← hs]; rfl
  have n1 : ¬ s.toList = [] := by rw [hsl]; exact h1
  have n2 : ¬ s.toList = [46] := by rw [hsl]; exact h2
  have n3 : ¬ s.toList = [46, 46] := by rw [hsl]; exact h3
  have m1 : s.toList.isEmpty = false := by rw [hsl]; simp [h1]
  have m2 : (s.toList == [46]) = false := by rw [hsl]; simp [h2]
  have m3 : (s.toList == [46, 46]) = false := by rw [hsl]; simp [h3]
  have hs1 : ¬ (s.size : Int) < 1 := by omega
  rw [hs]
  by_cases h4 : l.length ≤ 12
  · have hv : nameV l = l.all signP := by
      unfold nameV
      simp [h2, h3, hp, h4]
    have HV := Lib.hid hv
    have hs12 : ¬ (12 : Int) < (s.size : Int) := by omega
    have HAT := Lib.hid hat
    have HSZ := Lib.hid hsz
    clear hv hat hsz h1 h2 h3 hs h4 hp hl hsl
    go_enter Tryz.func79, Tryz.ntmps79
    go_wp2
    go_loopw [3] (fun i wr => ∃ k : Nat, k ≤ s.size ∧ i = .int .i64 k ∧ Hid (∀ j, j < k → signP (gbt l j) = true) ∧ wr = w) (fun i _ => s.size - (intOf i).toNat)
    case atStart => exact ⟨0, Nat.zero_le _, rfl, Lib.hid (fun j hj => absurd hj (by omega)), rfl⟩
    case round =>
      obtain ⟨k, hk, rfl, HA, rfl⟩ := hrel
      by_cases hlt : k < s.size
      · have hki : (k : Int) < (s.size : Int) := by omega
        have hgk : s[k] = gbt l k := HAT.out k hlt
        obtain ⟨c, hc⟩ : ∃ c, gbt l k = c := ⟨_, rfl⟩
        rw [hc] at hgk
        have hc256 : (c.toNat : Int) < 256 := by have := c.toNat_lt; omega
        cases hv : signP c with
        | false =>
          have hno : nameV l = false := by rw [HV.out]; exact all_not l k (by have := HSZ.out; omega) (by rw [hc]; exact hv)
          have HNO := Lib.hid hno
          have hx : ¬ ((97 ≤ c.toNat ∧ c.toNat ≤ 122) ∨ (48 ≤ c.toNat ∧ c.toNat ≤ 57) ∨ c = 46 ∨ c = 95 ∨ c = 45) := fun h => by rw [(signP_iff c).2 h] at hv; cases hv
          have x1 : ¬ (c.toNat : Int) = 46 := fun e => hx (Or.inr (Or.inr (Or.inl (UInt8.toNat_inj.1 (by show c.toNat = 46; omega)))))
          have x2 : ¬ (c.toNat : Int) = 95 := fun e => hx (Or.inr (Or.inr (Or.inr (Or.inl (UInt8.toNat_inj.1 (by show c.toNat = 95; omega))))))
          have x3 : ¬ (c.toNat : Int) = 45 := fun e => hx (Or.inr (Or.inr (Or.inr (Or.inr (UInt8.toNat_inj.1 (by show c.toNat = 45; omega))))))
          have y1 : ((c.toNat : Int) != 46) = true := by simpa using x1
          have y2 : ((c.toNat : Int) != 95) = true := by simpa using x2
          have y3 : ((c.toNat : Int) != 45) = true := by simpa using x3
          have hx2 : ¬ (97 ≤ c.toNat ∧ c.toNat ≤ 122) ∧ ¬ (48 ≤ c.toNat ∧ c.toNat ≤ 57) := ⟨fun h => hx (Or.inl h), fun h => hx (Or.inr (Or.inl h))⟩
          clear hno hv HV hx hc HA
          by_cases a1 : (c.toNat : Int) < 97
          · by_cases b1 : (c.toNat : Int) < 48
            · clear hx2
              go_wp2
              go_ret
              rw [HNO.out]
              exact ⟨rfl, rfl⟩
            · have b2 : (57 : Int) < (c.toNat : Int) := by omega
              clear hx2
              go_wp2
              go_ret
              rw [HNO.out]
              exact ⟨rfl, rfl⟩
          · have a2 : (122 : Int) < (c.toNat : Int) := by omega
            have b1 : ¬ (c.toNat : Int) < 48 := by omega
            have b2 : (57 : Int) < (c.toNat : Int) := by omega
            clear hx2
            go_wp2
            go_ret
            rw [HNO.out]
            exact ⟨rfl, rfl⟩
        | true =>
          have HA2 : Hid (∀ j, j < k + 1 → signP (gbt l j) = true) := Lib.hid (fun j hj => by
            by_cases hjk : j = k
            · subst hjk; rw [hc]; exact hv
            · exact HA.out j (by omega))
          have hx := (signP_iff c).1 hv
          clear hv HA hc
          rcases hx with ⟨ha, hb⟩ | ⟨ha, hb⟩ | rfl | rfl | rfl
          · have f1 : ¬ (c.toNat : Int) < 97 := by omega
            have f2 : ¬ (122 : Int) < (c.toNat : Int) := by omega
            clear ha hb
            go_wp2
            go_roundw
            case rel => exact ⟨k + 1, by omega, by go_num, HA2, trivial⟩
            case measure => simp [intOf]; omega
          · have f1 : (c.toNat : Int) < 97 := by omega
            have f2 : ¬ (c.toNat : Int) < 48 := by omega
            have f3 : ¬ (57 : Int) < (c.toNat : Int) := by omega
            clear ha hb
            go_wp2
            go_roundw
            case rel => exact ⟨k + 1, by omega, by go_num, HA2, trivial⟩
            case measure => simp [intOf]; omega
          · skip
            go_wp2
            go_roundw
            case rel => exact ⟨k + 1, by omega, by go_num, HA2, trivial⟩
            case measure => simp [intOf]; omega
          · skip
            go_wp2
            go_roundw
            case rel => exact ⟨k + 1, by omega, by go_num, HA2, trivial⟩
            case measure => simp [intOf]; omega
          · skip
            go_wp2
            go_roundw
            case rel => exact ⟨k + 1, by omega, by go_num, HA2, trivial⟩
            case measure => simp [intOf]; omega
      · have hkn : k = s.size := by omega
        subst hkn
        have hki : ¬ (s.size : Int) < (s.size : Int) := by omega
        have hall : l.all signP = true := all_upto l (fun j hj => HA.out j (by have := HSZ.out; omega))
        have HL := Lib.hid hall
        clear hall
        go_wp2
        go_ret
        rw [HV.out, HL.out]
        exact ⟨rfl, rfl⟩
  · have hv : nameV l = false := by
      unfold nameV
      simp [h4]
    have HV := Lib.hid hv
    have hs12 : (12 : Int) < (s.size : Int) := by omega
    clear hv hat hsz h1 h2 h3 hs h4 hp hl hsl
    go_enter Tryz.func79, Tryz.ntmps79
    go_wp2
    go_ret
    rw [HV.out]
    exact ⟨rfl, rfl⟩
end Go.Proofs.YtfobnemocodomaaGreat.Pt
