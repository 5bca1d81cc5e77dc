/- hearsayref04: Up, Last, Under. -/
import Derived.Test.YtehephlblnacgabDoorPthU
import Derived.Test.YtehephlblnacgabDoorPthQ
set_option linter.unusedVariables false
set_option linter.unusedSimpArgs false
set_option maxHeartbeats 4000000
namespace Go.Proofs.YtehephlblnacgabDoor
open Go.RowKit

theorem refUp_any (l : List UInt8) (w : World) (hl : l.length ≤ 4096) :
    Calls Tryd.prog 7 #[.string (bs l)] w fun r w' => r = .returned (.string (bs (upV l))) ∧ Gr w w' := by
  have HP := Lib.hid (fun w => refParts_any l w hl)
  obtain ⟨s, hs⟩ : ∃ s, bs l = s := ⟨_, rfl⟩
  rw [hs] at HP ⊢
  clear hs hl
  go_enter Tryd.func7, Tryd.ntmps7
  go_wp2_with fail
  refine (HP.out _).mono ?_
  rintro r w1 ⟨⟨v, B, rfl, hr⟩, hg⟩
  have HG := Lib.hid hg
  clear hg
  rcases hr with ⟨hv, ho⟩ | ⟨hv, rfl⟩
  · obtain ⟨_, h1, h4, hn⟩ := pathV_parts hv
    have HV : Hid (upV l = joinP (pieces l).dropLast) := Lib.hid (by unfold upV; rw [hv]; rfl)
    generalize hps : pieces l = ps at *
    obtain ⟨A, c, rfl⟩ := ho.shape
    obtain ⟨g, rfl, _, _, hlc, hcm, _⟩ := ho.cell
    by_cases h2 : ps.length < 2
    · have h2i : (ps.length : Int) < 2 := by omega
      have HV2 : Hid (upV l = []) := Lib.hid (by
        rw [HV.out]
        have : ps.dropLast = [] := by apply List.eq_nil_of_length_eq_zero; rw [List.length_dropLast]; omega
        rw [this]; rfl)
      clear hv ho hn hps h2
      go_wp2
      go_ret
      rw [HV2.out]
      exact ⟨rfl, HG.out⟩
    · obtain ⟨m, hpm⟩ : ∃ m, ps.length = m + 1 := ⟨ps.length - 1, by omega⟩
      have hdl : ps.dropLast.length = m := by rw [List.length_dropLast]; omega
      have htx : Tx w1 (some ⟨g, 0, none⟩) ps.dropLast := fun j hj => by
        obtain ⟨ad, e, hc⟩ := ho.tx j (by omega)
        exact ⟨ad, e, by rw [hc, List.getElem_dropLast]⟩
      have HJ := refJoin_any (some ⟨g, 0, none⟩) c ps.dropLast w1 (by omega) htx (fun p hp => by have := name_len (hn p (List.dropLast_subset _ hp)); omega)
      have hpo : partsOk ps.dropLast = true := by
        unfold partsOk
        simp only [Bool.and_eq_true, decide_eq_true_eq, List.all_eq_true]
        exact ⟨by omega, fun p hp => hn p (List.dropLast_subset _ hp)⟩
      rw [hdl, joinR_yes hpo, ← HV.out] at HJ
      replace HJ := Lib.hid HJ
      rw [hpm]
      have hm4 : m ≤ 4 := by omega
      have h2i : ¬ ((m : Int) + 1 < 2) := by omega
      have hmc : (m : Int) ≤ (c : Int) := by omega
      have hmc2 : m ≤ c := by omega
      unfold maxLen at hcm
      clear hv ho h1 h4 hn hps hpm hdl htx HV hpo h2 hlc
      go_wp2_with fail
      refine (HJ.out).mono ?_
      rintro r w2 ⟨rfl, hg⟩
      replace HG := Lib.hid (HG.out.tr hg)
      clear hg HJ
      obtain ⟨t, ht⟩ : ∃ t, bs (upV l) = t := ⟨_, rfl⟩
      rw [ht]
      go_wp2
      go_ret
      exact ⟨(by rw [ht]; rfl), HG.out⟩
  · have HV : Hid (upV l = []) := Lib.hid (by unfold upV; rw [hv]; rfl)
    clear hv
    go_wp2
    go_ret
    rw [HV.out]
    exact ⟨rfl, HG.out⟩
theorem refLast_any (l : List UInt8) (w : World) (hl : l.length ≤ 4096) :
    Calls Tryd.prog 9 #[.string (bs l)] w fun r w' => r = .returned (.string (bs (lastV l))) ∧ Gr w w' := by
  have HP := Lib.hid (fun w => refParts_any l w hl)
  obtain ⟨s, hs⟩ : ∃ s, bs l = s := ⟨_, rfl⟩
  rw [hs] at HP ⊢
  clear hs hl
  go_enter Tryd.func9, Tryd.ntmps9
  go_wp2_with fail
  refine (HP.out _).mono ?_
  rintro r w1 ⟨⟨v, B, rfl, hr⟩, hg⟩
  have HG := Lib.hid hg
  clear hg
  rcases hr with ⟨hv, ho⟩ | ⟨hv, rfl⟩
  · obtain ⟨_, h1, h4, hn⟩ := pathV_parts hv
    have hlv : lastV l = (pieces l).getLastD [] := by unfold lastV; rw [hv]; rfl
    generalize hps : pieces l = ps at *
    obtain ⟨A, c, rfl⟩ := ho.shape
    obtain ⟨g, rfl, _, _, hlc, hcm, hcl⟩ := ho.cell
    obtain ⟨m, hpm⟩ : ∃ m, ps.length = m + 1 := ⟨ps.length - 1, by omega⟩
    have hc := hcl m (by omega)
    have hlm : lastV l = ps[m] := by
      have e : ps[ps.length - 1]? = some ps[m] := by rw [show ps.length - 1 = m by omega]; exact List.getElem?_eq_getElem _
      rw [hlv, List.getLastD_eq_getLast?, List.getLast?_eq_getElem?, e]; rfl
    rw [← hlm] at hc
    rw [hpm]
    have hm4 : m ≤ 4 := by omega
    obtain ⟨t, ht⟩ : ∃ t, bs (lastV l) = t := ⟨_, rfl⟩
    rw [ht] at hc
    clear hv h1 h4 hn hps hpm hlm hlv ho hcl hlc hcm
    go_wp2
    go_ret
    exact ⟨(by rw [ht]; rfl), HG.out⟩
  · have HV : Hid (lastV l = []) := Lib.hid (by unfold lastV; rw [hv]; rfl)
    clear hv
    go_wp2
    go_ret
    rw [HV.out]
    exact ⟨rfl, HG.out⟩
theorem pathV_nil : pathV [] = false := by decide
theorem under_len {s d : List UInt8} (h : (pieces s).length ≤ (pieces d).length) : (d ++ [47]).isPrefixOf s = false := by
  cases hx : (d ++ [47]).isPrefixOf s with
  | false => rfl
  | true =>
    obtain ⟨A, hA, e⟩ := (under_iff s d).1 hx
    have := congrArg List.length e
    rw [List.length_append] at this
    have := List.length_pos_iff.2 hA
    omega
theorem under_ne {s d : List UInt8} (k : Nat) (h1 : k < (pieces d).length) (h2 : k < (pieces s).length) (h : (pieces s)[k] ≠ (pieces d)[k]) : (d ++ [47]).isPrefixOf s = false := by
  cases hx : (d ++ [47]).isPrefixOf s with
  | false => rfl
  | true =>
    obtain ⟨A, hA, e⟩ := (under_iff s d).1 hx
    exfalso; apply h
    have : (pieces s)[k]? = (pieces d)[k]? := by rw [e, List.getElem?_append_left h1]
    rw [List.getElem?_eq_getElem h1, List.getElem?_eq_getElem h2] at this
    exact Option.some.inj this
theorem under_yes {s d : List UInt8} (hl : (pieces d).length < (pieces s).length) (h : ∀ k (h1 : k < (pieces d).length), (pieces s)[k] = (pieces d)[k]) : (d ++ [47]).isPrefixOf s = true := by
  refine (under_iff s d).2 ⟨(pieces s).drop (pieces d).length, ?_, ?_⟩
  · intro e
    have := congrArg List.length e
    rw [List.length_drop] at this
    simp only [List.length_nil] at this
    omega
  · have : (pieces s).take (pieces d).length = pieces d := by
      apply List.ext_getElem
      · rw [List.length_take]; omega
      · intro k h1 h2
        rw [List.getElem_take]
        exact h k h2
    rw [← this, List.length_take, Nat.min_eq_left (by omega), List.take_append_drop]
theorem under_lenR {s d : List UInt8} {ps qs : List (List UInt8)} (e1 : pieces s = ps) (e2 : pieces d = qs) (h : ps.length ≤ qs.length) : (d ++ [47]).isPrefixOf s = false := by subst e1 e2; exact under_len h
theorem under_neR {s d : List UInt8} {ps qs : List (List UInt8)} (e1 : pieces s = ps) (e2 : pieces d = qs) (k : Nat) (h1 : k < qs.length) (h2 : k < ps.length) (h : ps[k] ≠ qs[k]) : (d ++ [47]).isPrefixOf s = false := by subst e1 e2; exact under_ne k h1 h2 h
theorem under_yesR {s d : List UInt8} {ps qs : List (List UInt8)} (e1 : pieces s = ps) (e2 : pieces d = qs) (hl : qs.length < ps.length) (h : ∀ k (h1 : k < qs.length), ps[k]'(Nat.lt_trans h1 hl) = qs[k]) : (d ++ [47]).isPrefixOf s = true := by subst e1 e2; exact under_yes hl h
theorem refUnder_any (a d : List UInt8) (w : World) (ha : a.length ≤ 4096) (hd : d.length ≤ 4096) :
    Calls Tryd.prog 11 #[.string (bs a), .string (bs d)] w fun r w' => r = .returned (.bool (underV a d)) ∧ Gr w w' := by
  have P1 := Lib.hid (fun w => refParts_any a w ha)
  have P2 := Lib.hid (fun w => refParts_any d w hd)
  have n1 : d ≠ [] → ¬ (bs d).toList = [] := fun h => by rw [Lib.toList_data]; exact h
  have n2 : d ≠ [] → (bs d).toList.isEmpty = false := fun h => by rw [Lib.toList_data, bs_list]; simp [h]
  by_cases hd0 : d = []
  · subst hd0
    change Calls Tryd.prog 11 #[.string (bs a), .string ⟨#[]⟩] w _
    rw [show bs [] = ⟨#[]⟩ from rfl] at P2
    obtain ⟨s, hs⟩ : ∃ s, bs a = s := ⟨_, rfl⟩
    rw [hs] at P1 ⊢
    have HU : Hid (underV a [] = pathV a) := Lib.hid (by unfold underV; simp)
    clear hs ha hd n1 n2
    go_enter Tryd.func11, Tryd.ntmps11
    go_wp2_with fail
    refine (P1.out _).mono ?_
    rintro r w1 ⟨⟨v, B, rfl, hr⟩, hg⟩
    have HG := Lib.hid hg
    clear hg
    go_wp2_with fail
    refine (P2.out _).mono ?_
    rintro r w2 ⟨⟨v2, B2, rfl, hr2⟩, hg⟩
    replace HG := Lib.hid (HG.out.tr hg)
    clear hg
    rcases hr2 with ⟨hv2, ho2⟩ | ⟨hv2, rfl⟩
    · rw [pathV_nil] at hv2; cases hv2
    rcases hr with ⟨hv, ho⟩ | ⟨hv, rfl⟩
    · have h1 := (pathV_parts hv).2.1
      obtain ⟨A, c, rfl⟩ := ho.shape
      have HV : Hid (underV a [] = true) := Lib.hid (by rw [HU.out, hv])
      obtain ⟨n, hn⟩ : ∃ n, (pieces a).length = n := ⟨_, rfl⟩
      rw [hn] at h1 ⊢
      have e1 : ¬ (n : Int) = 0 := by omega
      have e2 : ¬ n = 0 := by omega
      have e3 : ¬ (n : Int) ≤ 0 := by omega
      clear hv ho hv2 HU hn
      go_wp2
      go_loopw [7] (fun i wr => i = .int .i64 0 ∧ wr = w2) (fun i _ => 1 - (intOf i).toNat)
      case atStart => exact ⟨rfl, rfl⟩
      case round =>
        obtain ⟨rfl, rfl⟩ := hrel
        go_wp2
        go_ret
        rw [HV.out]
        exact ⟨rfl, HG.out⟩
    · have HV : Hid (underV a [] = false) := Lib.hid (by rw [HU.out, hv])
      clear hv hv2 HU
      go_wp2
      go_ret
      rw [HV.out]
      exact ⟨rfl, HG.out⟩
  · replace n1 := n1 hd0
    replace n2 := n2 hd0
    have hdb : (d == []) = false := by simp [hd0]
    obtain ⟨s, hs⟩ : ∃ s, bs a = s := ⟨_, rfl⟩
    obtain ⟨t, ht⟩ : ∃ t, bs d = t := ⟨_, rfl⟩
    rw [hs] at P1 ⊢
    rw [ht] at P2 n1 n2 ⊢
    have HU : Hid (underV a d = (pathV a && (pathV d && (d ++ [47]).isPrefixOf a))) := Lib.hid (by unfold underV; rw [hdb, Bool.false_or])
    have HPA := Lib.hid (pieces_lt a ha)
    have HPD := Lib.hid (pieces_lt d hd)
    clear hs ht ha hd hdb hd0
    go_enter Tryd.func11, Tryd.ntmps11
    go_wp2_with fail
    refine (P1.out _).mono ?_
    rintro r w1 ⟨⟨v, B, rfl, hr⟩, hg⟩
    have HR1 := Lib.hid hr
    have HG := Lib.hid hg
    clear hg hr
    go_wp2_with fail
    refine (P2.out _).mono ?_
    rintro r w2 ⟨⟨v2, B2, rfl, hr2⟩, hg⟩
    have HG2 := Lib.hid hg
    replace HG := Lib.hid (HG.out.tr hg)
    clear hg
    rcases HR1.out with ⟨hv, ho⟩ | ⟨hv, rfl⟩
    · have h1 := (pathV_parts hv).2.1
      obtain ⟨A, c, rfl⟩ := ho.shape
      replace ho := ho.gr HG2.out
      rcases hr2 with ⟨hv2, ho2⟩ | ⟨hv2, rfl⟩
      · have h2 := (pathV_parts hv2).2.1
        obtain ⟨A2, c2, rfl⟩ := ho2.shape
        have HV : Hid (underV a d = (d ++ [47]).isPrefixOf a) := Lib.hid (by rw [HU.out, hv, hv2]; rfl)
        obtain ⟨ps, hps⟩ : ∃ ps, pieces a = ps := ⟨_, rfl⟩
        obtain ⟨qs, hqs⟩ : ∃ qs, pieces d = qs := ⟨_, rfl⟩
        have HUL := Lib.hid (@under_lenR a d ps qs hps hqs)
        have HUN := Lib.hid (@under_neR a d ps qs hps hqs)
        have HUY := Lib.hid (@under_yesR a d ps qs hps hqs)
        clear HR1 HU hv hv2
        rw [hps] at ho HPA h1
        rw [hqs] at ho2 HPD h2
        rw [hps, hqs]
        have hp0 : ¬ (ps.length : Int) = 0 := by omega
        have hp0' : ¬ ps.length = 0 := by omega
        have hq0 : ¬ (qs.length : Int) = 0 := by omega
        have hq0' : ¬ qs.length = 0 := by omega
        have hp0b : ((ps.length : Int) == 0) = false := by simpa using hp0'
        have hq0b : ((qs.length : Int) == 0) = false := by simpa using hq0'
        have HT := Lib.hid ho.tx
        have HT2 := Lib.hid ho2.tx
        have hpa := HPA.out
        have hpd := HPD.out
        clear hps hqs ho ho2 HG2 HPA HPD
        by_cases hle : ps.length ≤ qs.length
        · have hlei : (ps.length : Int) ≤ (qs.length : Int) := by omega
          have HV2 : Hid (underV a d = false) := Lib.hid (by rw [HV.out, HUL.out hle])
          clear HV HUL HUN HUY
          go_wp2
          go_ret
          rw [HV2.out]
          exact ⟨rfl, HG.out⟩
        · have hlei : ¬ (ps.length : Int) ≤ (qs.length : Int) := by omega
          go_wp2
          go_loopw [7] (fun i wr => ∃ k : Nat, k ≤ qs.length ∧ i = .int .i64 k ∧ Hid (∀ j (h : j < qs.length), j < k → ps[j]'(by omega) = qs[j]) ∧ Hid (Gr w2 wr)) (fun i _ => qs.length - (intOf i).toNat)
          case atStart => exact ⟨0, Nat.zero_le _, rfl, Lib.hid (fun j _ hj => absurd hj (by omega)), Lib.hid (Gr.rfl' _)⟩
          case round =>
            obtain ⟨k, hk, rfl, HA, HR⟩ := hrel
            by_cases hlt : k < qs.length
            · have hki : (k : Int) < (qs.length : Int) := by omega
              have hki2 : (k : Int) < (ps.length : Int) := by omega
              obtain ⟨ad, rfl, hc⟩ := HT.out k (by omega)
              obtain ⟨bd, rfl, hd⟩ := HT2.out k hlt
              replace hc := HR.out.cell hc
              replace hd := HR.out.cell hd
              by_cases hpq : ps[k] = qs[k]
              · have HA2 : Hid (∀ j (h : j < qs.length), j < k + 1 → ps[j]'(by omega) = qs[j]) := Lib.hid (fun j h hj => by
                  by_cases hjk : j = k
                  · subst hjk; exact hpq
                  · exact HA.out j h (by omega))
                rw [hpq] at hc
                obtain ⟨s1, hs1⟩ : ∃ s1, bs qs[k] = s1 := ⟨_, rfl⟩
                rw [hs1] at hc hd
                clear hs1 hpq HA
                go_wp2
                refine wp_region_quiet_lit (by kernel_rfl) (by kernel_rfl) ?_
                repeat (first | go_big_quiet_step (fail) | quiet_step (fail))
                refine wpQuiet_nil ?_
                intro _ hw'
                obtain ⟨nq, hw''⟩ := hw'
                subst hw''
                go_wp2
                go_roundw
                case rel => exact ⟨k + 1, by omega, by go_num, HA2, Lib.hid (HR.out.drN _)⟩
                case measure => simp [intOf]; omega
              · have HV2 : Hid (underV a d = false) := Lib.hid (by rw [HV.out]; exact HUN.out k hlt (by omega) hpq)
                have e1 : ¬ (bs ps[k]).toList = (bs qs[k]).toList := by rw [Lib.toList_data, Lib.toList_data]; exact hpq
                have e2 : ((bs ps[k]).toList == (bs qs[k]).toList) = false := by simpa using e1
                obtain ⟨s1, hs1⟩ : ∃ s1, bs ps[k] = s1 := ⟨_, rfl⟩
                obtain ⟨s2, hs2⟩ : ∃ s2, bs qs[k] = s2 := ⟨_, rfl⟩
                rw [hs1] at hc e1 e2
                rw [hs2] at hd e1 e2
                clear hs1 hs2 hpq HA HV HUL HUN HUY
                go_wp2
                refine wp_region_quiet_lit (by kernel_rfl) (by kernel_rfl) ?_
                repeat (first | go_big_quiet_step (fail) | quiet_step (fail))
                refine wpQuiet_nil ?_
                intro _ hw'
                obtain ⟨nq, hw''⟩ := hw'
                subst hw''
                go_wp2
                go_ret
                rw [HV2.out]
                exact ⟨rfl, HG.out.tr (HR.out.drN _)⟩
            · have hkn : k = qs.length := by omega
              subst hkn
              have hki : ¬ (qs.length : Int) < (qs.length : Int) := by omega
              have HV2 : Hid (underV a d = true) := Lib.hid (by rw [HV.out]; exact HUY.out (by omega) (fun j hj => HA.out j hj hj))
              clear HV HUL HUN HUY
              go_wp2
              go_ret
              rw [HV2.out]
              exact ⟨rfl, HG.out.tr HR.out⟩
      · have HV : Hid (underV a d = false) := Lib.hid (by rw [HU.out, hv2]; simp)
        obtain ⟨n, hn⟩ : ∃ n, (pieces a).length = n := ⟨_, rfl⟩
        rw [hn] at h1 ⊢
        have e1 : ¬ (n : Int) = 0 := by omega
        have e2 : ¬ n = 0 := by omega
        clear hv ho hv2 HU HR1 hn HPA HPD
        go_wp2
        go_ret
        rw [HV.out]
        exact ⟨rfl, HG.out⟩
    · have HV : Hid (underV a d = false) := Lib.hid (by rw [HU.out, hv]; rfl)
      clear hv hr2 HU HR1
      go_wp2
      go_ret
      rw [HV.out]
      exact ⟨rfl, HG.out⟩
end Go.Proofs.YtehephlblnacgabDoor
