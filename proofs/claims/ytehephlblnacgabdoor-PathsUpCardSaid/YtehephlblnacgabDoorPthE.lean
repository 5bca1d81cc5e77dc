/- hearsaylaw04: long, awake, PathsRow. -/
import Derived.Test.YtehephlblnacgabDoorPthD
set_option linter.unusedVariables false
set_option linter.unusedSimpArgs false
set_option maxHeartbeats 4000000
namespace Go.Proofs.YtehephlblnacgabDoor
open Go.RowKit

def longV (xs : List (List UInt8)) : Bool := xs.any fun p => decide (400 < p.length)
theorem longV_yes (xs : List (List UInt8)) (k : Nat) (h : k < xs.length) (hk : 400 < xs[k].length) : longV xs = true := by
  unfold longV
  rw [List.any_eq_true]
  exact ⟨xs[k], List.getElem_mem h, by simpa using hk⟩
theorem longV_no (xs : List (List UInt8)) (h : ∀ j (hj : j < xs.length), ¬ 400 < xs[j].length) : longV xs = false := by
  unfold longV
  rw [List.any_eq_false]
  intro p hp
  obtain ⟨j, hj, rfl⟩ := List.mem_iff_getElem.1 hp
  simpa using h j hj
theorem longV_mem {xs : List (List UInt8)} (h : longV xs = false) : ∀ p ∈ xs, p.length ≤ 400 := by
  intro p hp
  unfold longV at h
  rw [List.any_eq_false] at h
  have := h p hp
  simp at this; omega
/-- texts in a row, wherever it lies -/
def Tx (w : World) (A : Option Addr) (xs : List (List UInt8)) : Prop := ∀ j (h : j < xs.length), ∃ ad, A = some ad ∧ w.cell? (ad.add j) = some (.string (bs xs[j]))
theorem Tx.gr {w w' : World} {A : Option Addr} {xs : List (List UInt8)} (h : Tx w A xs) (k : Gr w w') : Tx w' A xs := fun j hj => let ⟨ad, e, c⟩ := h j hj; ⟨ad, e, k.cell c⟩
theorem long_any (A : Option Addr) (c : Nat) (xs : List (List UInt8)) (w : World) (hn : xs.length ≤ 9223372036854775807) (h : Tx w A xs) :
    Calls Tryd.prog 4 #[.slice A xs.length c] w fun r w' => r = .returned (.bool (longV xs)) ∧ w' = w := by
  have HT := Lib.hid h
  clear h
  go_enter Tryd.func4, Tryd.ntmps4
  go_wp2
  go_loopw [3] (fun i wr => ∃ k : Nat, k ≤ xs.length ∧ i = .int .i64 k ∧ Hid (∀ j (h : j < xs.length), j < k → ¬ 400 < xs[j].length) ∧ wr = w) (fun i _ => xs.length - (intOf i).toNat)
  case atStart => exact ⟨0, Nat.zero_le _, rfl, Lib.hid (fun j _ hj => absurd hj (by omega)), rfl⟩
  case round =>
    obtain ⟨k, hk, rfl, HA, rfl⟩ := hrel
    by_cases hlt : k < xs.length
    · have hki : (k : Int) < (xs.length : Int) := by omega
      obtain ⟨ad, rfl, hc⟩ := HT.out k hlt
      by_cases hl : 400 < xs[k].length
      · have HV := Lib.hid (longV_yes xs k hlt hl)
        have hi : (400 : Int) < ((bs xs[k]).size : Int) := by rw [bs_size]; omega
        obtain ⟨s1, hs1⟩ : ∃ s1, bs xs[k] = s1 := ⟨_, rfl⟩
        rw [hs1] at hc hi
        clear hs1 hl
        go_wp2
        go_ret
        rw [HV.out]
        exact ⟨rfl, rfl⟩
      · have HA2 : Hid (∀ j (h : j < xs.length), j < k + 1 → ¬ 400 < xs[j].length) := Lib.hid (fun j h hj => by
          by_cases hjk : j = k
          · subst hjk; exact hl
          · exact HA.out j h (by omega))
        have hi : ¬ (400 : Int) < ((bs xs[k]).size : Int) := by rw [bs_size]; omega
        obtain ⟨s1, hs1⟩ : ∃ s1, bs xs[k] = s1 := ⟨_, rfl⟩
        rw [hs1] at hc hi
        clear hs1 hl HA
        go_wp2
        go_roundw
        case rel => exact ⟨k + 1, by omega, by go_num, HA2, trivial⟩
        case measure => simp [intOf]; omega
    · have hkn : k = xs.length := by omega
      subst hkn
      have hki : ¬ (xs.length : Int) < (xs.length : Int) := by omega
      have HV := Lib.hid (longV_no xs (fun j hj => HA.out j hj hj))
      go_wp2
      go_ret
      rw [HV.out]
      exact ⟨rfl, rfl⟩
theorem awake_any (w : World) (hm : Mx w) : Calls Tryd.prog 5 #[] w fun r w' => r = .returned (.bool true) ∧ Gr w w' := by
  have HM := Lib.hid hm
  clear hm
  have C1 : Hid (∀ w, Mx w → Calls Tryd.prog 12 #[.string ⟨#[97, 47, 98, 46, 99]⟩] w fun r w' => r = .returned (.int .i64 0) ∧ Gr w w') := Lib.hid (fun w hm => by
    have h := Check_any [97, 47, 98, 46, 99] w (by decide) hm
    rwa [show chkV [97, 47, 98, 46, 99] = 0 by decide] at h)
  have C2 : Hid (∀ w, Mx w → Calls Tryd.prog 12 #[.string ⟨#[97, 47, 47, 98]⟩] w fun r w' => r = .returned (.int .i64 1) ∧ Gr w w') := Lib.hid (fun w hm => by
    have h := Check_any [97, 47, 47, 98] w (by decide) hm
    rwa [show chkV [97, 47, 47, 98] = 1 by decide] at h)
  have C3 : Hid (∀ w, Mx w → Calls Tryd.prog 12 #[.string ⟨#[97, 47, 46, 46]⟩] w fun r w' => r = .returned (.int .i64 1) ∧ Gr w w') := Lib.hid (fun w hm => by
    have h := Check_any [97, 47, 46, 46] w (by decide) hm
    rwa [show chkV [97, 47, 46, 46] = 1 by decide] at h)
  have C4 : Hid (∀ w, Mx w → Calls Tryd.prog 13 #[.string ⟨#[97, 47, 98]⟩, .string ⟨#[97, 45, 98]⟩] w fun r w' => r = .returned (.int .i64 (-1)) ∧ Gr w w') := Lib.hid (fun w hm => by
    have h := Compare_any [97, 47, 98] [97, 45, 98] w (by decide) (by decide) hm
    rwa [show cmpS [97, 47, 98] [97, 45, 98] = -1 by decide] at h)
  have C5 : Hid (∀ w, Calls Tryd.prog 14 #[.string ⟨#[120, 95, 49]⟩] w fun r w' => r = .returned (.bool true) ∧ w' = w) := Lib.hid (fun w => by
    have h := Name_any [120, 95, 49] (by decide) w
    rwa [show nameV [120, 95, 49] = true by decide] at h)
  have HG := Lib.hid (Gr.rfl' w)
  go_enter Tryd.func5, Tryd.ntmps5
  go_wp2_with fail
  refine (C1.out _ (HM.out.gr HG.out)).mono ?_
  rintro r w1 ⟨rfl, hg⟩
  replace HG := Lib.hid (HG.out.tr hg)
  clear hg
  go_wp2_with fail
  refine (C2.out _ (HM.out.gr HG.out)).mono ?_
  rintro r w2 ⟨rfl, hg⟩
  replace HG := Lib.hid (HG.out.tr hg)
  clear hg
  go_wp2_with fail
  refine (C3.out _ (HM.out.gr HG.out)).mono ?_
  rintro r w3 ⟨rfl, hg⟩
  replace HG := Lib.hid (HG.out.tr hg)
  clear hg
  go_wp2_with fail
  refine (C4.out _ (HM.out.gr HG.out)).mono ?_
  rintro r w4 ⟨rfl, hg⟩
  replace HG := Lib.hid (HG.out.tr hg)
  clear hg
  go_wp2_with fail
  refine (C5.out _).mono ?_
  rintro r w5 ⟨rfl, rfl⟩
  go_wp2
  go_ret
  exact ⟨rfl, HG.out⟩
end Go.Proofs.YtehephlblnacgabDoor
