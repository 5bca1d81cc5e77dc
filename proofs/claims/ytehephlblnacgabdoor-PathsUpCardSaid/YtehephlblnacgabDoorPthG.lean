/- paths: Under; hearsaylaw04: PathsTogether. -/
import Derived.Test.YtehephlblnacgabDoorPthF
import Derived.Lib.SmallJoins
set_option linter.unusedVariables false
set_option linter.unusedSimpArgs false
set_option maxHeartbeats 4000000
namespace Go.Proofs.YtehephlblnacgabDoor
open Go.RowKit

theorem Under_any (a d : List UInt8) (w : World) (ha : a.length < 4294967281) (hd : d.length < 4294967281) (hm : Mx w) :
    Calls Tryd.prog 10 #[.string (bs a), .string (bs d)] w fun r w' => r = .returned (.bool (underV a d)) ∧ Gr w w' := by
  have HM := Lib.hid hm
  have C1 := Lib.hid (fun w hm => Check_any a w ha hm)
  have C2 := Lib.hid (fun w hm => Check_any d w hd hm)
  have C3 : Hid (∀ w, Calls Tryd.prog 19 #[.string (bs a), .string (bs d ++ ⟨#[47]⟩)] w fun r w' => r = .returned (.bool ((d ++ [47]).isPrefixOf a)) ∧ w' = w) := Lib.hid (fun w => by
    have h := Tryd.strings_HasPrefix (bs a) (bs d ++ ⟨#[47]⟩) w
    rw [Go.Joins.data_append] at h
    exact h)
  cases hpa : pathV a with
  | false =>
    have hne : ¬ chkV a = 0 := fun e => by rw [(chkV_ok a).1 e] at hpa; cases hpa
    have HV : Hid (underV a d = false) := Lib.hid (by unfold underV; rw [hpa]; rfl)
    obtain ⟨n, hn⟩ : ∃ n, chkV a = n := ⟨_, rfl⟩
    obtain ⟨s1, hs1⟩ : ∃ s1, bs a = s1 := ⟨_, rfl⟩
    obtain ⟨s2, hs2⟩ : ∃ s2, bs d = s2 := ⟨_, rfl⟩
    rw [hn] at C1 hne
    rw [hs1] at C1 ⊢
    rw [hs2]
    clear C2 C3 hm hpa hn hs1 hs2 ha hd
    go_enter Tryd.func10, Tryd.ntmps10
    go_wp2_with fail
    refine (C1.out _ HM.out).mono ?_
    rintro r w1 ⟨rfl, hg⟩
    have HG := Lib.hid hg
    clear hg C1
    go_wp2
    go_ret
    rw [HV.out]
    exact ⟨rfl, HG.out⟩
  | true =>
    rw [(chkV_ok a).2 hpa] at C1
    by_cases hd0 : d = []
    · subst hd0
      have HV : Hid (underV a [] = true) := Lib.hid (by unfold underV; rw [hpa]; rfl)
      obtain ⟨s1, hs1⟩ : ∃ s1, bs a = s1 := ⟨_, rfl⟩
      change Calls Tryd.prog 10 #[.string (bs a), .string ⟨#[]⟩] w _
      rw [hs1] at C1 ⊢
      clear C2 C3 hm hpa hs1 ha hd
      go_enter Tryd.func10, Tryd.ntmps10
      go_wp2_with fail
      refine (C1.out _ HM.out).mono ?_
      rintro r w1 ⟨rfl, hg⟩
      have HG := Lib.hid hg
      clear hg C1
      go_wp2
      go_ret
      rw [HV.out]
      exact ⟨rfl, HG.out⟩
    · have n1 : ¬ (bs d).toList = [] := by rw [Lib.toList_data]; exact hd0
      have n2 : (bs d).toList.isEmpty = false := by rw [Lib.toList_data, bs_list]; simp [hd0]
      have hdb : (d == []) = false := by simp [hd0]
      cases hpd : pathV d with
      | false =>
        have hne : ¬ chkV d = 0 := fun e => by rw [(chkV_ok d).1 e] at hpd; cases hpd
        have HV : Hid (underV a d = false) := Lib.hid (by unfold underV; rw [hpa, hpd, hdb]; rfl)
        obtain ⟨n, hn⟩ : ∃ n, chkV d = n := ⟨_, rfl⟩
        obtain ⟨s1, hs1⟩ : ∃ s1, bs a = s1 := ⟨_, rfl⟩
        obtain ⟨s2, hs2⟩ : ∃ s2, bs d = s2 := ⟨_, rfl⟩
        rw [hn] at C2 hne
        rw [hs1] at C1 ⊢
        rw [hs2] at C2 n1 n2 ⊢
        clear C3 hm hpa hpd hn hs1 hs2 ha hd hdb hd0
        go_enter Tryd.func10, Tryd.ntmps10
        go_wp2_with fail
        refine (C1.out _ HM.out).mono ?_
        rintro r w1 ⟨rfl, hg⟩
        have HG := Lib.hid hg
        clear hg C1
        go_wp2_with fail
        refine (C2.out _ (HM.out.gr HG.out)).mono ?_
        rintro r w2 ⟨rfl, hg⟩
        replace HG := Lib.hid (HG.out.tr hg)
        clear hg C2
        go_wp2
        go_ret
        rw [HV.out]
        exact ⟨rfl, HG.out⟩
      | true =>
        rw [(chkV_ok d).2 hpd] at C2
        have HV : Hid (underV a d = (d ++ [47]).isPrefixOf a) := Lib.hid (by unfold underV; rw [hpa, hpd, hdb]; rfl)
        obtain ⟨q, hq⟩ : ∃ q, (d ++ [47]).isPrefixOf a = q := ⟨_, rfl⟩
        have c1 : (bs d).size + 1 ≤ 9223372036854775807 := by rw [bs_size]; omega
        obtain ⟨s1, hs1⟩ : ∃ s1, bs a = s1 := ⟨_, rfl⟩
        obtain ⟨s2, hs2⟩ : ∃ s2, bs d = s2 := ⟨_, rfl⟩
        rw [hq] at C3 HV
        rw [hs1] at C1 C3 ⊢
        rw [hs2] at C2 C3 n1 n2 c1 ⊢
        have c2 : s2.size + (⟨#[47]⟩ : ByteArray).size ≤ 9223372036854775807 := c1
        have c3 : ¬ 9223372036854775807 < s2.size + 1 := by omega
        clear hm hpa hpd hq hs1 hs2 ha hd hdb hd0
        go_enter Tryd.func10, Tryd.ntmps10
        go_wp2_with fail
        refine (C1.out _ HM.out).mono ?_
        rintro r w1 ⟨rfl, hg⟩
        have HG := Lib.hid hg
        clear hg C1
        go_wp2_with fail
        refine (C2.out _ (HM.out.gr HG.out)).mono ?_
        rintro r w2 ⟨rfl, hg⟩
        replace HG := Lib.hid (HG.out.tr hg)
        clear hg C2
        go_wp2_with fail
        refine (C3.out _).mono ?_
        rintro r w3 ⟨rfl, rfl⟩
        go_wp2
        go_ret
        rw [HV.out]
        exact ⟨rfl, HG.out⟩
end Go.Proofs.YtehephlblnacgabDoor
