/- hearsayref04: Compare. -/
import Derived.Test.YtehephlblnacgaaDoorPthJ
set_option linter.unusedVariables false
set_option linter.unusedSimpArgs false
set_option maxHeartbeats 4000000
namespace Go.Proofs.YtehephlblnacgaaDoor
open Go.RowKit
open Lib (compareBytes)

theorem less_cmp : ∀ a b : List UInt8, Op.bytesLess a b = decide (compareBytes a b < 0)
  | [], [] => by simp [Op.bytesLess, compareBytes]
  | [], _ :: _ => by simp [Op.bytesLess, compareBytes]
  | _ :: _, [] => by simp [Op.bytesLess, compareBytes]
  | x :: xs, y :: ys => by
    unfold Op.bytesLess compareBytes
    rw [less_cmp xs ys]
    by_cases h1 : x < y
    · simp [h1]
    · by_cases h2 : y < x
      · have : ¬ x = y := fun e => by subst e; exact h1 h2
        simp [h1, h2, this]
      · have : x = y := by
          apply UInt8.toNat_inj.1
          rw [UInt8.lt_iff_toNat_lt] at h1 h2; omega
        subst this
        simp [h1]
theorem refCompare_any (a b : List UInt8) (w : World) (hla : a.length ≤ 4096) (hlb : b.length ≤ 4096) :
    Calls Tryd.prog 19 #[.string (bs a), .string (bs b)] w fun r w' => r = .returned (.int .i64 (cmpS a b)) ∧ Gr w w' := by
  have HA := Lib.hid (fun w => Pieces_any a w hla)
  have HB := Lib.hid (fun w => Pieces_any b w hlb)
  obtain ⟨ps, hps⟩ : ∃ ps, pieces a = ps := ⟨_, rfl⟩
  obtain ⟨qs, hqs⟩ : ∃ qs, pieces b = qs := ⟨_, rfl⟩
  have hcv : cmpS a b = cmpV ps qs := by unfold cmpS; rw [hps, hqs]
  have hp : ps.length < 4294967282 := by have := pieces_len_le a; rw [hps] at this; omega
  have hq : qs.length < 4294967282 := by have := pieces_len_le b; rw [hqs] at this; omega
  rw [hcv]
  rw [hps] at HA
  rw [hqs] at HB
  obtain ⟨s, hs⟩ : ∃ s, bs a = s := ⟨_, rfl⟩
  obtain ⟨t, ht⟩ : ∃ t, bs b = t := ⟨_, rfl⟩
  rw [hs] at HA ⊢
  rw [ht] at HB ⊢
  clear hla hlb hps hqs hcv hs ht
  go_enter Tryd.func19, Tryd.ntmps19
  go_wp2_with fail
  refine (HA.out _).mono ?_
  rintro r w1 ⟨⟨v1, rfl, ho1⟩, hg⟩
  obtain ⟨A1, c1, rfl⟩ := ho1.shape
  obtain HT : Hid (∀ w', Gr w1 w' → ∀ j (hj : j < ps.length), ∃ g, A1 = some ⟨g, 0, none⟩ ∧ w'.cell? ⟨g, j, none⟩ = some (.string (bs ps[j]))) := Lib.hid (fun w' gw j hj => by
    obtain ⟨g, rfl, _, _, _, _, hc⟩ := (ho1.gr gw).cell
    exact ⟨g, rfl, hc j hj⟩)
  have HG := Lib.hid hg
  clear hg HA ho1
  go_wp2_with fail
  refine (HB.out _).mono ?_
  rintro r w2 ⟨⟨v2, rfl, ho2⟩, hg⟩
  obtain ⟨A2, c2, rfl⟩ := ho2.shape
  replace HT : Hid (∀ w', Gr w2 w' → ∀ j (hj : j < ps.length), ∃ g, A1 = some ⟨g, 0, none⟩ ∧ w'.cell? ⟨g, j, none⟩ = some (.string (bs ps[j]))) := Lib.hid (fun w' gw => HT.out w' (hg.tr gw))
  obtain HU : Hid (∀ w', Gr w2 w' → ∀ j (hj : j < qs.length), ∃ g, A2 = some ⟨g, 0, none⟩ ∧ w'.cell? ⟨g, j, none⟩ = some (.string (bs qs[j]))) := Lib.hid (fun w' gw j hj => by
    obtain ⟨g, rfl, _, _, _, _, hc⟩ := (ho2.gr gw).cell
    exact ⟨g, rfl, hc j hj⟩)
  replace HG := Lib.hid (HG.out.tr hg)
  clear hg HB ho2
  go_wp2
  go_loopw [7] (fun i wr => ∃ k : Nat, k ≤ ps.length ∧ k ≤ qs.length ∧ i = .int .i64 k ∧ Hid (ps.take k = qs.take k) ∧ Hid (Gr w2 wr)) (fun i _ => ps.length - (intOf i).toNat)
  case atStart => exact ⟨0, Nat.zero_le _, Nat.zero_le _, rfl, Lib.hid rfl, Lib.hid (Gr.rfl' _)⟩
  case round =>
    obtain ⟨k, hk, hk2, rfl, HE, HR⟩ := hrel
    by_cases hlt : k < ps.length
    · have hki : (k : Int) < (ps.length : Int) := by omega
      by_cases hlt2 : k < qs.length
      · have hkj : (k : Int) < (qs.length : Int) := by omega
        obtain ⟨g1, rfl, hc⟩ := HT.out wr HR.out k hlt
        obtain ⟨g2, rfl, hd⟩ := HU.out wr HR.out k hlt2
        have hl1 : Op.bytesLess (bs ps[k]).toList (bs qs[k]).toList = decide (compareBytes ps[k] qs[k] < 0) := by rw [Lib.toList_data, Lib.toList_data]; exact less_cmp _ _
        have hl2 : Op.bytesLess (bs qs[k]).toList (bs ps[k]).toList = decide (compareBytes qs[k] ps[k] < 0) := by rw [Lib.toList_data, Lib.toList_data]; exact less_cmp _ _
        have hneg := cmpB_ord.neg ps[k] qs[k]
        have hlo := cmpB_ord.lo ps[k] qs[k]
        have hhi := cmpB_ord.hi ps[k] qs[k]
        by_cases hpq : ps[k] = qs[k]
        · have h0 := (cmpB_ord.eq0 _ _).2 hpq
          have hb1 : Op.bytesLess (bs ps[k]).toList (bs qs[k]).toList = false := by rw [hl1]; simp; omega
          have hb2 : Op.bytesLess (bs qs[k]).toList (bs ps[k]).toList = false := by rw [hl2]; simp; omega
          have HE2 := Lib.hid (take_more k hlt hlt2 HE.out hpq)
          rw [hpq] at hc hb1
          obtain ⟨s1, hs1⟩ : ∃ s1, bs qs[k] = s1 := ⟨_, rfl⟩
          rw [hs1] at hc hd hb1
          clear hs1 hpq HE hl1 hl2 hneg hlo hhi h0 hb2
          go_wp2
          refine wp_region_quiet_lit (by kernel_rfl) (by kernel_rfl) ?_
          repeat (first | go_big_quiet_step (fail) | quiet_step (fail))
          refine wpQuiet_nil ?_
          intro _ hw'
          obtain ⟨nq, hw''⟩ := hw'
          subst hw''
          go_wp2
          refine wp_region_quiet_lit (by kernel_rfl) (by kernel_rfl) ?_
          repeat (first | go_big_quiet_step (fail) | quiet_step (fail))
          refine wpQuiet_nil ?_
          intro _ hw'
          obtain ⟨nr, hw''⟩ := hw'
          subst hw''
          go_wp2
          go_roundw
          case rel => exact ⟨k + 1, by omega, by omega, by go_num, HE2, Lib.hid (HR.out.drN _)⟩
          case measure => simp [intOf]; omega
        · have hne : compareBytes ps[k] qs[k] ≠ 0 := fun e => hpq ((cmpB_ord.eq0 _ _).1 e)
          have hcm := cmp_ne k hlt hlt2 HE.out hpq
          by_cases hls : compareBytes ps[k] qs[k] < 0
          · have hb1 : Op.bytesLess (bs ps[k]).toList (bs qs[k]).toList = true := by rw [hl1]; simpa using hls
            have HV : Hid (cmpV ps qs = -1) := Lib.hid (by omega)
            obtain ⟨s1, hs1⟩ : ∃ s1, bs ps[k] = s1 := ⟨_, rfl⟩
            obtain ⟨s2, hs2⟩ : ∃ s2, bs qs[k] = s2 := ⟨_, rfl⟩
            rw [hs1] at hc hb1
            rw [hs2] at hd hb1
            clear hs1 hs2 hpq HE hl1 hl2 hneg hlo hhi hne hcm hls
            go_wp2
            refine wp_region_quiet_lit (by kernel_rfl) (by kernel_rfl) ?_
            repeat (first | go_big_quiet_step (fail) | quiet_step (fail))
            refine wpQuiet_nil ?_
            intro _ hw'
            obtain ⟨nq, hw''⟩ := hw'
            subst hw''
            go_wp2
            go_ret
            rw [HV.out]
            exact ⟨rfl, HG.out.tr (HR.out.drN _)⟩
          · have hb1 : Op.bytesLess (bs ps[k]).toList (bs qs[k]).toList = false := by rw [hl1]; simp; omega
            have hb2 : Op.bytesLess (bs qs[k]).toList (bs ps[k]).toList = true := by rw [hl2]; simp; omega
            have e1 : ¬ (bs ps[k]).toList = (bs qs[k]).toList := by rw [Lib.toList_data, Lib.toList_data]; exact hpq
            have e2 : ((bs ps[k]).toList == (bs qs[k]).toList) = false := by simpa using e1
            have HV : Hid (cmpV ps qs = 1) := Lib.hid (by omega)
            obtain ⟨s1, hs1⟩ : ∃ s1, bs ps[k] = s1 := ⟨_, rfl⟩
            obtain ⟨s2, hs2⟩ : ∃ s2, bs qs[k] = s2 := ⟨_, rfl⟩
            rw [hs1] at hc hb1 hb2 e1 e2
            rw [hs2] at hd hb1 hb2 e1 e2
            clear hs1 hs2 hpq HE hl1 hl2 hneg hlo hhi hne hcm hls
            go_wp2
            refine wp_region_quiet_lit (by kernel_rfl) (by kernel_rfl) ?_
            repeat (first | go_big_quiet_step (fail) | quiet_step (fail))
            refine wpQuiet_nil ?_
            intro _ hw'
            obtain ⟨nq, hw''⟩ := hw'
            subst hw''
            go_wp2
            refine wp_region_quiet_lit (by kernel_rfl) (by kernel_rfl) ?_
            repeat (first | go_big_quiet_step (fail) | quiet_step (fail))
            refine wpQuiet_nil ?_
            intro _ hw'
            obtain ⟨nr, hw''⟩ := hw'
            subst hw''
            go_wp2
            go_ret
            rw [HV.out]
            exact ⟨rfl, HG.out.tr ((HR.out.drN _).drN _)⟩
      · have hkq : k = qs.length := by omega
        have HV := Lib.hid (cmp_end k hk hk2 HE.out (Or.inr hkq))
        subst hkq
        have hkj : ¬ (qs.length : Int) < (qs.length : Int) := by omega
        have HV2 : Hid (cmpV ps qs = 1) := Lib.hid (by have := HV.out; omega)
        have n1 : ¬ (ps.length : Int) < (qs.length : Int) := by omega
        go_wp2
        go_ret
        rw [HV2.out]
        exact ⟨rfl, HG.out.tr HR.out⟩
    · have hkn : k = ps.length := by omega
      have HV := Lib.hid (cmp_end k hk hk2 HE.out (Or.inl hkn))
      subst hkn
      have hki : ¬ (ps.length : Int) < (ps.length : Int) := by omega
      by_cases h1 : ps.length < qs.length
      · have n1 : (ps.length : Int) < (qs.length : Int) := by omega
        have HV2 : Hid (cmpV ps qs = -1) := Lib.hid (by have := HV.out; omega)
        go_wp2
        go_ret
        rw [HV2.out]
        exact ⟨rfl, HG.out.tr HR.out⟩
      · have he : ps.length = qs.length := by omega
        have HV2 : Hid (cmpV ps qs = 0) := Lib.hid (by have := HV.out; omega)
        have n1 : ¬ (ps.length : Int) < (qs.length : Int) := by omega
        have n2 : ¬ (qs.length : Int) < (ps.length : Int) := by omega
        go_wp2
        go_ret
        rw [HV2.out]
        exact ⟨rfl, HG.out.tr HR.out⟩
end Go.Proofs.YtehephlblnacgaaDoor
