/- hearsaylaw04: PathsTogether. -/
import Derived.Test.YtehephlblnacgaaDoorPthG
set_option linter.unusedVariables false
set_option linter.unusedSimpArgs false
set_option maxHeartbeats 4000000
namespace Go.Proofs.YtehephlblnacgaaDoor
open Go.RowKit

theorem pathsTogether_bs (a b c d : List UInt8) (w : World) (hm : Mx w) : Calls Tryd.prog 6 #[.agg #[.string (bs a), .string (bs b), .string (bs c)], .string (bs d)] w fun r w' => r = .returned (.bool true) ∧ Gr w w' := by
  have HM := Lib.hid hm
  have HL : Hid (∀ n, Calls Tryd.prog 9 #[.slice (some ⟨w.heap.size + 1, 0, none⟩) 4 4] (((w.alloc (.cells #[.string (bs a), .string (bs b), .string (bs c)] 33)).drewN n).alloc (.cells #[.string (bs a), .string (bs b), .string (bs d), .string (bs c)] 9)) fun r w' => r = .returned (.bool (longV [a, b, d, c])) ∧ Gr w w') := Lib.hid (fun n => by
    have h := long_new ((w.alloc (.cells #[.string (bs a), .string (bs b), .string (bs c)] 33)).drewN n) [a, b, d, c] (by simp)
    have e : ((w.alloc (.cells #[.string (bs a), .string (bs b), .string (bs c)] 33)).drewN n).heap.size = w.heap.size + 1 := World.size_alloc _ _
    rw [e] at h
    refine Calls.mono h ?_
    rintro r w' ⟨h1, h2⟩
    exact ⟨h1, (((Gr.rfl' w).al _).drN n).tr h2⟩)
  clear hm
  obtain ⟨s1, hs1⟩ : ∃ s1, bs a = s1 := ⟨_, rfl⟩
  obtain ⟨s2, hs2⟩ : ∃ s2, bs b = s2 := ⟨_, rfl⟩
  obtain ⟨s3, hs3⟩ : ∃ s3, bs c = s3 := ⟨_, rfl⟩
  obtain ⟨s4, hs4⟩ : ∃ s4, bs d = s4 := ⟨_, rfl⟩
  rw [hs1, hs2, hs3, hs4] at HL ⊢
  cases hl : longV [a, b, d, c] with
  | true =>
    rw [hl] at HL
    clear hl
    clear hs1 hs2 hs3 hs4
    go_enter Tryd.func6, Tryd.ntmps6
    go_wp2
    refine wp_region_quiet_lit (by kernel_rfl) (by kernel_rfl) ?_
    repeat (first | go_big_quiet_step (fail) | quiet_step (fail))
    refine wpQuiet_nil ?_
    intro _ hw'
    obtain ⟨hq, hw''⟩ := hw'
    subst hw''
    go_wp2_with fail
    refine (HL.out hq).mono ?_
    rintro r w1 ⟨rfl, hg⟩
    have HG := Lib.hid hg
    clear hg HL
    go_wp2_with fail
    refine (awake_any _ (HM.out.gr HG.out)).mono ?_
    rintro r w9 ⟨rfl, hg⟩
    replace HG := Lib.hid (HG.out.tr hg)
    clear hg
    go_wp2
    go_ret
    exact ⟨rfl, HG.out⟩
  | false =>
    rw [hl] at HL
    have hmem := longV_mem hl
    have ha : a.length < 4294967281 := by have := hmem a (by simp); omega
    have hb : b.length < 4294967281 := by have := hmem b (by simp); omega
    have hc : c.length < 4294967281 := by have := hmem c (by simp); omega
    have hd : d.length < 4294967281 := by have := hmem d (by simp); omega
    have U1 := Lib.hid (fun w hm => Under_any a d w ha hd hm)
    have U2 := Lib.hid (fun w hm => Under_any b d w hb hd hm)
    have U3 := Lib.hid (fun w hm => Under_any c d w hc hd hm)
    have K := Lib.hid (fun w hm => Check_any c w hc hm)
    have P1 := Lib.hid (fun w hm => Compare_any a c w ha hc hm)
    have P2 := Lib.hid (fun w hm => Compare_any c b w hc hb hm)
    rw [hs1, hs4] at U1
    rw [hs2, hs4] at U2
    rw [hs3, hs4] at U3
    rw [hs3] at K
    rw [hs1, hs3] at P1
    rw [hs3, hs2] at P2
    clear hl hmem ha hb hc hd
    cases hu1 : underV a d with
    | false =>
      rw [hu1] at U1
      clear hu1 U2 U3 K P1 P2
      clear hs1 hs2 hs3 hs4
      go_enter Tryd.func6, Tryd.ntmps6
      go_wp2
      refine wp_region_quiet_lit (by kernel_rfl) (by kernel_rfl) ?_
      repeat (first | go_big_quiet_step (fail) | quiet_step (fail))
      refine wpQuiet_nil ?_
      intro _ hw'
      obtain ⟨hq, hw''⟩ := hw'
      subst hw''
      go_wp2_with fail
      refine (HL.out hq).mono ?_
      rintro r w1 ⟨rfl, hg⟩
      have HG := Lib.hid hg
      clear hg HL
      go_wp2_with fail
      refine (U1.out _ (HM.out.gr HG.out)).mono ?_
      rintro r wU1 ⟨rfl, hg⟩
      replace HG := Lib.hid (HG.out.tr hg)
      clear hg U1
      go_wp2_with fail
      refine (awake_any _ (HM.out.gr HG.out)).mono ?_
      rintro r w9 ⟨rfl, hg⟩
      replace HG := Lib.hid (HG.out.tr hg)
      clear hg
      go_wp2
      go_ret
      exact ⟨rfl, HG.out⟩
    | true =>
      rw [hu1] at U1
      cases hu2 : underV b d with
      | false =>
        rw [hu2] at U2
        clear hu1 hu2 U3 K P1 P2
        clear hs1 hs2 hs3 hs4
        go_enter Tryd.func6, Tryd.ntmps6
        go_wp2
        refine wp_region_quiet_lit (by kernel_rfl) (by kernel_rfl) ?_
        repeat (first | go_big_quiet_step (fail) | quiet_step (fail))
        refine wpQuiet_nil ?_
        intro _ hw'
        obtain ⟨hq, hw''⟩ := hw'
        subst hw''
        go_wp2_with fail
        refine (HL.out hq).mono ?_
        rintro r w1 ⟨rfl, hg⟩
        have HG := Lib.hid hg
        clear hg HL
        go_wp2_with fail
        refine (U1.out _ (HM.out.gr HG.out)).mono ?_
        rintro r wU1 ⟨rfl, hg⟩
        replace HG := Lib.hid (HG.out.tr hg)
        clear hg U1
        go_wp2_with fail
        refine (U2.out _ (HM.out.gr HG.out)).mono ?_
        rintro r wU2 ⟨rfl, hg⟩
        replace HG := Lib.hid (HG.out.tr hg)
        clear hg U2
        go_wp2_with fail
        refine (awake_any _ (HM.out.gr HG.out)).mono ?_
        rintro r w9 ⟨rfl, hg⟩
        replace HG := Lib.hid (HG.out.tr hg)
        clear hg
        go_wp2
        go_ret
        exact ⟨rfl, HG.out⟩
      | true =>
        rw [hu2] at U2
        by_cases hk : chkV c = 0
        · rw [hk] at K
          have hpc := (chkV_ok c).1 hk
          by_cases h1 : cmpS a c ≤ 0
          · by_cases h2 : cmpS c b ≤ 0
            · rw [together hu1 hu2 hpc h1 h2] at U3
              obtain ⟨x, hx⟩ : ∃ x, cmpS a c = x := ⟨_, rfl⟩
              obtain ⟨y, hy⟩ : ∃ y, cmpS c b = y := ⟨_, rfl⟩
              rw [hx] at P1 h1
              rw [hy] at P2 h2
              clear hu1 hu2 hk hpc hx hy
              have n1 : ¬ 0 < x := by omega
              have n2 : ¬ 0 < y := by omega
              clear hs1 hs2 hs3 hs4
              go_enter Tryd.func6, Tryd.ntmps6
              go_wp2
              refine wp_region_quiet_lit (by kernel_rfl) (by kernel_rfl) ?_
              repeat (first | go_big_quiet_step (fail) | quiet_step (fail))
              refine wpQuiet_nil ?_
              intro _ hw'
              obtain ⟨hq, hw''⟩ := hw'
              subst hw''
              go_wp2_with fail
              refine (HL.out hq).mono ?_
              rintro r w1 ⟨rfl, hg⟩
              have HG := Lib.hid hg
              clear hg HL
              go_wp2_with fail
              refine (U1.out _ (HM.out.gr HG.out)).mono ?_
              rintro r wU1 ⟨rfl, hg⟩
              replace HG := Lib.hid (HG.out.tr hg)
              clear hg U1
              go_wp2_with fail
              refine (U2.out _ (HM.out.gr HG.out)).mono ?_
              rintro r wU2 ⟨rfl, hg⟩
              replace HG := Lib.hid (HG.out.tr hg)
              clear hg U2
              go_wp2_with fail
              refine (K.out _ (HM.out.gr HG.out)).mono ?_
              rintro r wK ⟨rfl, hg⟩
              replace HG := Lib.hid (HG.out.tr hg)
              clear hg K
              go_wp2_with fail
              refine (P1.out _ (HM.out.gr HG.out)).mono ?_
              rintro r wP1 ⟨rfl, hg⟩
              replace HG := Lib.hid (HG.out.tr hg)
              clear hg P1
              go_wp2_with fail
              refine (P2.out _ (HM.out.gr HG.out)).mono ?_
              rintro r wP2 ⟨rfl, hg⟩
              replace HG := Lib.hid (HG.out.tr hg)
              clear hg P2
              go_wp2_with fail
              refine (U3.out _ (HM.out.gr HG.out)).mono ?_
              rintro r wU3 ⟨rfl, hg⟩
              replace HG := Lib.hid (HG.out.tr hg)
              clear hg U3
              go_wp2_with fail
              refine (awake_any _ (HM.out.gr HG.out)).mono ?_
              rintro r w9 ⟨rfl, hg⟩
              replace HG := Lib.hid (HG.out.tr hg)
              clear hg
              go_wp2
              go_ret
              exact ⟨rfl, HG.out⟩
            · obtain ⟨x, hx⟩ : ∃ x, cmpS a c = x := ⟨_, rfl⟩
              obtain ⟨y, hy⟩ : ∃ y, cmpS c b = y := ⟨_, rfl⟩
              rw [hx] at P1 h1
              rw [hy] at P2 h2
              clear hu1 hu2 hk hpc hx hy U3
              have n1 : ¬ 0 < x := by omega
              have n2 : 0 < y := by omega
              clear hs1 hs2 hs3 hs4
              go_enter Tryd.func6, Tryd.ntmps6
              go_wp2
              refine wp_region_quiet_lit (by kernel_rfl) (by kernel_rfl) ?_
              repeat (first | go_big_quiet_step (fail) | quiet_step (fail))
              refine wpQuiet_nil ?_
              intro _ hw'
              obtain ⟨hq, hw''⟩ := hw'
              subst hw''
              go_wp2_with fail
              refine (HL.out hq).mono ?_
              rintro r w1 ⟨rfl, hg⟩
              have HG := Lib.hid hg
              clear hg HL
              go_wp2_with fail
              refine (U1.out _ (HM.out.gr HG.out)).mono ?_
              rintro r wU1 ⟨rfl, hg⟩
              replace HG := Lib.hid (HG.out.tr hg)
              clear hg U1
              go_wp2_with fail
              refine (U2.out _ (HM.out.gr HG.out)).mono ?_
              rintro r wU2 ⟨rfl, hg⟩
              replace HG := Lib.hid (HG.out.tr hg)
              clear hg U2
              go_wp2_with fail
              refine (K.out _ (HM.out.gr HG.out)).mono ?_
              rintro r wK ⟨rfl, hg⟩
              replace HG := Lib.hid (HG.out.tr hg)
              clear hg K
              go_wp2_with fail
              refine (P1.out _ (HM.out.gr HG.out)).mono ?_
              rintro r wP1 ⟨rfl, hg⟩
              replace HG := Lib.hid (HG.out.tr hg)
              clear hg P1
              go_wp2_with fail
              refine (P2.out _ (HM.out.gr HG.out)).mono ?_
              rintro r wP2 ⟨rfl, hg⟩
              replace HG := Lib.hid (HG.out.tr hg)
              clear hg P2
              go_wp2_with fail
              refine (awake_any _ (HM.out.gr HG.out)).mono ?_
              rintro r w9 ⟨rfl, hg⟩
              replace HG := Lib.hid (HG.out.tr hg)
              clear hg
              go_wp2
              go_ret
              exact ⟨rfl, HG.out⟩
          · obtain ⟨x, hx⟩ : ∃ x, cmpS a c = x := ⟨_, rfl⟩
            rw [hx] at P1 h1
            clear hu1 hu2 hk hpc hx U3 P2
            have n1 : 0 < x := by omega
            clear hs1 hs2 hs3 hs4
            go_enter Tryd.func6, Tryd.ntmps6
            go_wp2
            refine wp_region_quiet_lit (by kernel_rfl) (by kernel_rfl) ?_
            repeat (first | go_big_quiet_step (fail) | quiet_step (fail))
            refine wpQuiet_nil ?_
            intro _ hw'
            obtain ⟨hq, hw''⟩ := hw'
            subst hw''
            go_wp2_with fail
            refine (HL.out hq).mono ?_
            rintro r w1 ⟨rfl, hg⟩
            have HG := Lib.hid hg
            clear hg HL
            go_wp2_with fail
            refine (U1.out _ (HM.out.gr HG.out)).mono ?_
            rintro r wU1 ⟨rfl, hg⟩
            replace HG := Lib.hid (HG.out.tr hg)
            clear hg U1
            go_wp2_with fail
            refine (U2.out _ (HM.out.gr HG.out)).mono ?_
            rintro r wU2 ⟨rfl, hg⟩
            replace HG := Lib.hid (HG.out.tr hg)
            clear hg U2
            go_wp2_with fail
            refine (K.out _ (HM.out.gr HG.out)).mono ?_
            rintro r wK ⟨rfl, hg⟩
            replace HG := Lib.hid (HG.out.tr hg)
            clear hg K
            go_wp2_with fail
            refine (P1.out _ (HM.out.gr HG.out)).mono ?_
            rintro r wP1 ⟨rfl, hg⟩
            replace HG := Lib.hid (HG.out.tr hg)
            clear hg P1
            go_wp2_with fail
            refine (awake_any _ (HM.out.gr HG.out)).mono ?_
            rintro r w9 ⟨rfl, hg⟩
            replace HG := Lib.hid (HG.out.tr hg)
            clear hg
            go_wp2
            go_ret
            exact ⟨rfl, HG.out⟩
        · obtain ⟨x, hx⟩ : ∃ x, chkV c = x := ⟨_, rfl⟩
          rw [hx] at K hk
          clear hu1 hu2 hx U3 P1 P2
          clear hs1 hs2 hs3 hs4
          go_enter Tryd.func6, Tryd.ntmps6
          go_wp2
          refine wp_region_quiet_lit (by kernel_rfl) (by kernel_rfl) ?_
          repeat (first | go_big_quiet_step (fail) | quiet_step (fail))
          refine wpQuiet_nil ?_
          intro _ hw'
          obtain ⟨hq, hw''⟩ := hw'
          subst hw''
          go_wp2_with fail
          refine (HL.out hq).mono ?_
          rintro r w1 ⟨rfl, hg⟩
          have HG := Lib.hid hg
          clear hg HL
          go_wp2_with fail
          refine (U1.out _ (HM.out.gr HG.out)).mono ?_
          rintro r wU1 ⟨rfl, hg⟩
          replace HG := Lib.hid (HG.out.tr hg)
          clear hg U1
          go_wp2_with fail
          refine (U2.out _ (HM.out.gr HG.out)).mono ?_
          rintro r wU2 ⟨rfl, hg⟩
          replace HG := Lib.hid (HG.out.tr hg)
          clear hg U2
          go_wp2_with fail
          refine (K.out _ (HM.out.gr HG.out)).mono ?_
          rintro r wK ⟨rfl, hg⟩
          replace HG := Lib.hid (HG.out.tr hg)
          clear hg K
          go_wp2_with fail
          refine (awake_any _ (HM.out.gr HG.out)).mono ?_
          rintro r w9 ⟨rfl, hg⟩
          replace HG := Lib.hid (HG.out.tr hg)
          clear hg
          go_wp2
          go_ret
          exact ⟨rfl, HG.out⟩
end Go.Proofs.YtehephlblnacgaaDoor
