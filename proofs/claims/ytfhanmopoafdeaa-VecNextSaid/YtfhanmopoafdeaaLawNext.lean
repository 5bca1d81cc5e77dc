/- VecNext: the law's walk. -/
import Derived.Test.YtfhanmopoafdeaaLawCheck
set_option linter.unusedVariables false
set_option linter.unusedSimpArgs false
set_option maxHeartbeats 4000000
namespace Go.Proofs.Ytfhanmopoafdeaa
open Go.RowKit
attribute [local go_sem high] eqDot


set_option maxRecDepth 100000 in
theorem VecNext_any (A1 : Option Addr) (c1 : Nat) (a : List Dot) (q : Int) (w : World) (h1 : Dots w A1 a) (hc1 : a.length ≤ c1) :
    Calls Try.prog 8 #[.slice A1 a.length c1, .int .i64 q] w fun e w' => e = .returned (.bool true) ∧ Gr w w' := by
  have hu31 := Try.underlying31
  have H1 := Lib.hid h1; clear h1
  have H3 := Lib.hid (DRows.one (cap := c1) H1.out 22)
  have hg := (Gr.rfl' w).al (.cells #[.slice A1 a.length c1] 22)
  replace H1 := Lib.hid (H1.out.gr hg)
  rcases hm : manyB [⟨A1, c1, a⟩] with _ | _
  · rcases hN : nextV a q with ⟨P, C, E⟩
    have hnw := next_with (l := a) (q := q)
    rw [hN] at hnw
    have HN := Lib.hid hN; clear hN
    by_cases hE : E = 0
    · obtain ⟨hw1, hw2⟩ := hnw hE
      have HW1 := Lib.hid hw1
      have HW2 := Lib.hid hw2
      clear hnw hw1 hw2
      subst hE
      go_enter Try.func8, Try.ntmps8
      go_wp2_with fail
      refine (many_any _ _ [⟨A1, c1, a⟩] _ H3.out).mono ?_
      rintro e wc ⟨rfl, hgc⟩
      replace H1 := Lib.hid (H1.out.gr hgc)
      replace hg := hg.tr hgc
      clear hgc
      rw [hm]
      go_wp2_with fail
      refine (Next_any A1 c1 a q _ H1.out).mono ?_
      rw [nextE_of HN.out]
      rintro e wc ⟨rfl, hgc⟩
      replace H1 := Lib.hid (H1.out.gr hgc)
      replace hg := hg.tr hgc
      clear hgc
      have HBX : Hid (∀ w', Gr (wc.alloc (.cells #[.int .i64 P, .int .i64 C] 31)) w' → w'.cell? ⟨wc.heap.size, 0, none⟩ = some (.int .i64 P) ∧ w'.cell? ⟨wc.heap.size, 1, none⟩ = some (.int .i64 C)) := fun w' g => box_cells wc _ _ _ g
      have hgb : Gr w (wc.alloc (.cells #[.int .i64 P, .int .i64 C] 31)) := hg.al _
      replace H1 := Lib.hid (H1.out.gr ((Gr.rfl' _).al (.cells #[.int .i64 P, .int .i64 C] 31)))
      clear hg
      go_wp2_with fail
      refine (refNext_any A1 c1 a q _ H1.out).mono ?_
      rw [nextE_of HN.out]
      rintro e wd ⟨rfl, hg⟩
      replace H1 := Lib.hid (H1.out.gr hg)
      have HBY : Hid (∀ w', Gr (wd.alloc (.cells #[.int .i64 P, .int .i64 C] 31)) w' → w'.cell? ⟨wd.heap.size, 0, none⟩ = some (.int .i64 P) ∧ w'.cell? ⟨wd.heap.size, 1, none⟩ = some (.int .i64 C)) := fun w' g => box_cells wd _ _ _ g
      replace H1 := Lib.hid (H1.out.gr ((Gr.rfl' _).al (.cells #[.int .i64 P, .int .i64 C] 31)))
      have hgd := hg.al (.cells #[.int .i64 P, .int .i64 C] 31)
      clear hg
      obtain ⟨hk0, hk1⟩ := HBX.out _ hgd
      obtain ⟨hk2, hk3⟩ := HBY.out _ (Gr.rfl' _)
      have hg := Gr.rfl' (wd.alloc (.cells #[.int .i64 P, .int .i64 C] 31))
      go_wp2
      replace hg := hg.dr
      replace H1 := Lib.hid (H1.out.gr ((Gr.rfl' _).dr))
      go_region_held3 (fun w' => w'.cell? ⟨wc.heap.size, 0, none⟩ = some (.int .i64 P) ∧ w'.cell? ⟨wc.heap.size, 1, none⟩ = some (.int .i64 C)) (exact HBX.out _ (hgd.tr hg)) (first
        | (go_at_call 18; refine (With_any A1 c1 a P C _ H1.out hc1).mono ?_; rintro e we ⟨vJ, rfl, hoJ, hgc⟩; replace H1 := Lib.hid (H1.out.gr hgc); replace hg := hg.tr hgc; obtain ⟨AJ, cJ, rfl, hcJ, hDJ⟩ := hoJ.dots; have HJ := Lib.hid hDJ; clear hDJ hoJ hgc)
        | (go_at_call 28; refine (Has_any AJ cJ (joinL a [(P, C)]) P C _ HJ.out).mono ?_; rintro e we ⟨rfl, hgc⟩; replace H1 := Lib.hid (H1.out.gr hgc); replace hg := hg.tr hgc; rw [HW2.out]; clear hgc HJ)
        | (go_at_call 28; refine (Has_any A1 c1 a P C _ H1.out).mono ?_; rintro e we ⟨rfl, hgc⟩; replace H1 := Lib.hid (H1.out.gr hgc); replace hg := hg.tr hgc; rw [HW1.out]; clear hgc))
      all_goals
        obtain ⟨hk0, hk1⟩ := HBX.out _ (hgd.tr hg)
        obtain ⟨hk2, hk3⟩ := HBY.out _ hg
        go_wp2_with fail
        refine (awake_any _).mono ?_
        rintro e wc ⟨rfl, hgc⟩
        replace hg := hg.tr hgc
        clear hgc
        go_wp2
        go_ret
        exact ⟨rfl, (hgb.tr hgd).tr hg⟩
    · have hEb : (E == 0) = false := by simp [hE]
      clear hnw hE
      go_enter Try.func8, Try.ntmps8
      go_wp2_with fail
      refine (many_any _ _ [⟨A1, c1, a⟩] _ H3.out).mono ?_
      rintro e wc ⟨rfl, hgc⟩
      replace H1 := Lib.hid (H1.out.gr hgc)
      replace hg := hg.tr hgc
      clear hgc
      rw [hm]
      go_wp2_with fail
      refine (Next_any A1 c1 a q _ H1.out).mono ?_
      rw [nextE_of HN.out]
      rintro e wc ⟨rfl, hgc⟩
      replace H1 := Lib.hid (H1.out.gr hgc)
      replace hg := hg.tr hgc
      clear hgc
      have HBX : Hid (∀ w', Gr (wc.alloc (.cells #[.int .i64 P, .int .i64 C] 31)) w' → w'.cell? ⟨wc.heap.size, 0, none⟩ = some (.int .i64 P) ∧ w'.cell? ⟨wc.heap.size, 1, none⟩ = some (.int .i64 C)) := fun w' g => box_cells wc _ _ _ g
      have hgb : Gr w (wc.alloc (.cells #[.int .i64 P, .int .i64 C] 31)) := hg.al _
      replace H1 := Lib.hid (H1.out.gr ((Gr.rfl' _).al (.cells #[.int .i64 P, .int .i64 C] 31)))
      clear hg
      go_wp2_with fail
      refine (refNext_any A1 c1 a q _ H1.out).mono ?_
      rw [nextE_of HN.out]
      rintro e wd ⟨rfl, hg⟩
      replace H1 := Lib.hid (H1.out.gr hg)
      have HBY : Hid (∀ w', Gr (wd.alloc (.cells #[.int .i64 P, .int .i64 C] 31)) w' → w'.cell? ⟨wd.heap.size, 0, none⟩ = some (.int .i64 P) ∧ w'.cell? ⟨wd.heap.size, 1, none⟩ = some (.int .i64 C)) := fun w' g => box_cells wd _ _ _ g
      replace H1 := Lib.hid (H1.out.gr ((Gr.rfl' _).al (.cells #[.int .i64 P, .int .i64 C] 31)))
      have hgd := hg.al (.cells #[.int .i64 P, .int .i64 C] 31)
      clear hg
      obtain ⟨hk0, hk1⟩ := HBX.out _ hgd
      obtain ⟨hk2, hk3⟩ := HBY.out _ (Gr.rfl' _)
      have hg := Gr.rfl' (wd.alloc (.cells #[.int .i64 P, .int .i64 C] 31))
      go_wp2
      refine wp_region_quiet_lit (by kernel_rfl) (by kernel_rfl) ?_
      repeat (first | go_big_quiet_step (fail) | quiet_step (fail))
      refine wpQuiet_nil ?_
      intro _ hw'
      obtain ⟨nq, hw''⟩ := hw'
      subst hw''
      replace hg := (Gr.rfl' (wd.alloc (.cells #[.int .i64 P, .int .i64 C] 31))).drN nq
      all_goals
        obtain ⟨hk0, hk1⟩ := HBX.out _ (hgd.tr hg)
        obtain ⟨hk2, hk3⟩ := HBY.out _ hg
        go_wp2_with fail
        refine (awake_any _).mono ?_
        rintro e wc ⟨rfl, hgc⟩
        replace hg := hg.tr hgc
        clear hgc
        go_wp2
        go_ret
        exact ⟨rfl, (hgb.tr hgd).tr hg⟩
  · go_enter Try.func8, Try.ntmps8
    go_wp2_with fail
    refine (many_any _ _ [⟨A1, c1, a⟩] _ H3.out).mono ?_
    rintro e wc ⟨rfl, hgc⟩
    replace hg := hg.tr hgc
    clear hgc
    rw [hm]
    go_wp2_with fail
    refine (awake_any _).mono ?_
    rintro e wc ⟨rfl, hgc⟩
    replace hg := hg.tr hgc
    clear hgc
    go_wp2
    go_ret
    exact ⟨rfl, hg⟩
end Go.Proofs.Ytfhanmopoafdeaa
