/- paths: Compare. -/
import Derived.Test.YtehephlblnacgabDoorPthB
import Derived.WalkMore
set_option linter.unusedVariables false
set_option linter.unusedSimpArgs false
set_option maxHeartbeats 4000000
namespace Go.Proofs.YtehephlblnacgabDoor
open Go.RowKit
open Lib (compareBytes)

theorem cmp_end {ps qs : List (List UInt8)} (k : Nat) (h1 : k ≤ ps.length) (h2 : k ≤ qs.length) (h3 : ps.take k = qs.take k) (h : k = ps.length ∨ k = qs.length) :
    cmpV ps qs = max (-1) (min 1 ((ps.length : Int) - qs.length)) := by
  rw [cmpV_drop k ps qs h1 h2 h3, cmpV_nil]
  · simp only [List.length_drop]; omega
  · rcases h with h | h
    · left; rw [h]; simp
    · right; rw [h]; simp
theorem cmp_ne {ps qs : List (List UInt8)} (k : Nat) (h1 : k < ps.length) (h2 : k < qs.length) (h3 : ps.take k = qs.take k) (h : ps[k] ≠ qs[k]) :
    cmpV ps qs = compareBytes ps[k] qs[k] := by
  rw [cmpV_drop k ps qs (by omega) (by omega) h3, List.drop_eq_getElem_cons h1, List.drop_eq_getElem_cons h2, cmpV_head _ _ _ _ h]
theorem take_more {ps qs : List (List UInt8)} (k : Nat) (h1 : k < ps.length) (h2 : k < qs.length) (h3 : ps.take k = qs.take k) (h : ps[k] = qs[k]) : ps.take (k + 1) = qs.take (k + 1) := by
  rw [List.take_succ_eq_append_getElem h1, List.take_succ_eq_append_getElem h2, h3, h]
theorem pieces_pos (l : List UInt8) : 1 ≤ (pieces l).length := by
  have := pieces_ne l
  cases h : pieces l with
  | nil => exact absurd h this
  | cons _ _ => simp
theorem Compare_any (a b : List UInt8) (w : World) (hla : a.length < 4294967281) (hlb : b.length < 4294967281) (hm : Mx w) :
    Calls Tryd.prog 13 #[.string (bs a), .string (bs b)] w fun r w' => r = .returned (.int .i64 (cmpS a b)) ∧ Gr w w' := by
  have HM := Lib.hid hm
  have HA := Lib.hid (fun w hm => Split_any a w hla hm)
  have HB := Lib.hid (fun w hm => Split_any b w hlb hm)
  obtain ⟨ps, hps⟩ : ∃ ps, pieces a = ps := ⟨_, rfl⟩
  obtain ⟨qs, hqs⟩ : ∃ qs, pieces b = qs := ⟨_, rfl⟩
  have hcv : cmpS a b = cmpV ps qs := by unfold cmpS; rw [hps, hqs]
  have hp : ps.length < 4294967282 := by have := pieces_len_le a; rw [hps] at this; omega
  have hq : qs.length < 4294967282 := by have := pieces_len_le b; rw [hqs] at this; omega
  rw [hcv]
  rw [hps] at HA
  rw [hqs] at HB
  obtain ⟨s, hs⟩ : ∃ s, bs a = s := ⟨_, rfl⟩
  obtain ⟨t, ht⟩ : ∃ t, bs b = t := ⟨_, rfl⟩
  rw [hs] at HA ⊢
  rw [ht] at HB ⊢
  clear hm hla hlb hps hqs hcv hs ht
  go_enter Tryd.func13, Tryd.ntmps13
  go_wp2
  go_step3
  go_wp2_with fail
  refine (HA.out _ HM.out).mono ?_
  rintro r w1 ⟨⟨g, rfl, hta, hg1, hg2⟩, hg⟩
  have HT := Lib.hid hta
  have HG := Lib.hid hg
  clear hta hg hg1 hg2
  go_wp2_with fail
  refine (HB.out _ (HM.out.gr HG.out)).mono ?_
  rintro r w2 ⟨⟨g2, rfl, htb, hg1, hg2⟩, hg⟩
  replace HT := Lib.hid (HT.out.gr hg)
  have HU := Lib.hid htb
  replace HG := Lib.hid (HG.out.tr hg)
  clear htb hg hg1 hg2 HA HB
  go_wp2
  go_step3
  go_wp2
  go_loopw [21, 7] (fun i u wr => ∃ k : Nat, k ≤ ps.length ∧ k ≤ qs.length ∧ i = .int .i64 k ∧ u = .int .i64 ((ps.length : Int) - (qs.length : Int)) ∧ Hid (ps.take k = qs.take k) ∧ wr = w2) (fun i _ _ => ps.length - (intOf i).toNat)
  case atStart => exact ⟨0, Nat.zero_le _, Nat.zero_le _, rfl, rfl, Lib.hid rfl, rfl⟩
  case round =>
    obtain ⟨k, hk, hk2, rfl, rfl, HE, rfl⟩ := hrel
    by_cases hlt : k < ps.length
    · have hki : (k : Int) < (ps.length : Int) := by omega
      have hc := HT.out k hlt
      by_cases hlt2 : k < qs.length
      · have hkj : (k : Int) < (qs.length : Int) := by omega
        have hkn : ¬ (k : Int) = (qs.length : Int) := by omega
        have hd := HU.out k hlt2
        by_cases hpq : ps[k] = qs[k]
        · have HE2 := Lib.hid (take_more k hlt hlt2 HE.out hpq)
          rw [hpq] at hc
          obtain ⟨s1, hs1⟩ : ∃ s1, bs qs[k] = s1 := ⟨_, rfl⟩
          rw [hs1] at hc hd
          clear hs1 hpq HE
          go_wp2
          go_roundw
          case rel => exact ⟨k + 1, by omega, by omega, by go_num, rfl, HE2, trivial⟩
          case measure => simp [intOf]; omega
        · have hv : cmpV ps qs = max (-1) (min 1 (compareBytes ps[k] qs[k])) := by
            rw [cmp_ne k hlt hlt2 HE.out hpq]
            have h1 := cmpB_ord.lo ps[k] qs[k]
            have h2 := cmpB_ord.hi ps[k] qs[k]
            omega
          have HV := Lib.hid hv
          have n1 : ¬ (bs ps[k]).toList = (bs qs[k]).toList := by rw [Lib.toList_data, Lib.toList_data]; exact hpq
          have n2 : ((bs ps[k]).toList == (bs qs[k]).toList) = false := by simpa using n1
          have n3 : ¬ bs ps[k] = bs qs[k] := fun e => hpq (bs_inj e)
          have HC : Hid (∀ w, Calls Tryd.prog 21 #[.string (bs ps[k]), .string (bs qs[k])] w fun e w' => e = .returned (.int .i64 (compareBytes ps[k] qs[k])) ∧ w' = w) := Lib.hid (fun w => Tryd.strings_Compare _ _ w)
          have HB1 : Hid (-1 ≤ compareBytes ps[k] qs[k] ∧ compareBytes ps[k] qs[k] ≤ 1) := Lib.hid ⟨cmpB_ord.lo _ _, cmpB_ord.hi _ _⟩
          obtain ⟨c, hcv⟩ : ∃ c, compareBytes ps[k] qs[k] = c := ⟨_, rfl⟩
          rw [hcv] at HV HC HB1
          obtain ⟨s1, hs1⟩ : ∃ s1, bs ps[k] = s1 := ⟨_, rfl⟩
          obtain ⟨s2, hs2⟩ : ∃ s2, bs qs[k] = s2 := ⟨_, rfl⟩
          rw [hs1] at hc n1 n2 n3 HC
          rw [hs2] at hd n1 n2 n3 HC
          clear hv hpq hcv hs1 hs2
          go_wp2_with fail
          refine (HC.out _).mono ?_
          rintro r w3 ⟨rfl, rfl⟩
          go_wp2
          rw [Exit.noGoto_ret]
          go_ret
          rw [HV.out]
          exact ⟨rfl, HG.out⟩
      · have hkq : k = qs.length := by omega
        have HV := Lib.hid (cmp_end k hk hk2 HE.out (Or.inr hkq))
        subst hkq
        go_wp2
        rw [Exit.noGoto_ret]
        go_ret
        rw [HV.out]
        exact ⟨rfl, HG.out⟩
    · have hkn : k = ps.length := by omega
      have HV := Lib.hid (cmp_end k hk hk2 HE.out (Or.inl hkn))
      subst hkn
      have hki : ¬ (ps.length : Int) < (ps.length : Int) := by omega
      go_wp2
      go_ret
      rw [HV.out]
      exact ⟨rfl, HG.out⟩
end Go.Proofs.YtehephlblnacgabDoor
