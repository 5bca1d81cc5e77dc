/- VecJoins: the law's walk. -/
import Derived.Test.YtfhanmopoafdeaaLawCheck
set_option linter.unusedVariables false
set_option linter.unusedSimpArgs false
set_option maxHeartbeats 4000000
namespace Go.Proofs.Ytfhanmopoafdeaa
open Go.RowKit


set_option maxRecDepth 100000 in
theorem VecJoins_any (A1 A2 : Option Addr) (c1 c2 : Nat) (a b : List Dot) (x y : Int) (w : World) (h1 : Dots w A1 a) (h2 : Dots w A2 b) (hc1 : a.length ≤ c1) (hc2 : b.length ≤ c2) :
    Calls Try.prog 4 #[.slice A1 a.length c1, .slice A2 b.length c2, .agg #[.int .i64 x, .int .i64 y]] w fun e w' => e = .returned (.bool true) ∧ Gr w w' := by
  have hgb : Gr w (w.alloc (.cells #[.int .i64 x, .int .i64 y] 31)) := (Gr.rfl' w).al _
  have H1 := Lib.hid (h1.gr hgb); clear h1
  have H2 := Lib.hid (h2.gr hgb); clear h2
  have H3 := DRows.two (c := c1) (d := c2) H1.out H2.out 22
  rw [World.size_alloc] at H3
  replace H3 := Lib.hid H3
  have hg := (Gr.rfl' (w.alloc (.cells #[.int .i64 x, .int .i64 y] 31))).al (.cells #[.slice A1 a.length c1, .slice A2 b.length c2] 22)
  have HBX : Hid (∀ w', Gr (w.alloc (.cells #[.int .i64 x, .int .i64 y] 31)) w' → w'.cell? ⟨w.heap.size, 0, none⟩ = some (.int .i64 x) ∧ w'.cell? ⟨w.heap.size, 1, none⟩ = some (.int .i64 y)) := fun w' g => box_cells w _ _ _ g
  replace H1 := Lib.hid (H1.out.gr hg)
  replace H2 := Lib.hid (H2.out.gr hg)
  have HE1 := Lib.hid (join_eq a b)
  have HE2 := Lib.hid (meet_eq a b)
  have HE3 := Lib.hid (join_eq a [(x, y)])
  rcases hm : manyB [⟨A1, c1, a⟩, ⟨A2, c2, b⟩] with _ | _
  · go_enter Try.func4, Try.ntmps4
    go_wp2_with fail
    refine (many_any _ _ [⟨A1, c1, a⟩, ⟨A2, c2, b⟩] _ H3.out).mono ?_
    rintro e wc ⟨rfl, hgc⟩
    replace H1 := Lib.hid (H1.out.gr hgc)
    replace H2 := Lib.hid (H2.out.gr hgc)
    replace hg := hg.tr hgc
    clear hgc
    rw [hm]
    obtain ⟨hk0, hk1⟩ := HBX.out _ hg
    go_wp2
    replace hg := hg.dr
    replace H1 := Lib.hid (H1.out.gr ((Gr.rfl' _).dr))
    replace H2 := Lib.hid (H2.out.gr ((Gr.rfl' _).dr))
    go_region_held3 (fun w' => w'.cell? ⟨w.heap.size, 0, none⟩ = some (.int .i64 x) ∧ w'.cell? ⟨w.heap.size, 1, none⟩ = some (.int .i64 y)) (exact HBX.out _ hg) (first
      | (go_at_call 12; refine (Join_any A1 A2 c1 c2 a b _ H1.out H2.out hc1 hc2).mono ?_; rintro e wc ⟨vJ, rfl, hoJ, hgc⟩; replace H1 := Lib.hid (H1.out.gr hgc); replace H2 := Lib.hid (H2.out.gr hgc); replace hg := hg.tr hgc; obtain ⟨AJ, cJ, rfl, hcJ, hDJ⟩ := hoJ.dots; have HJ := Lib.hid hDJ; clear hDJ hoJ hgc)
      | (go_at_call 16; refine (refJoin_any A1 A2 c1 c2 a b _ H1.out H2.out).mono ?_; rintro e wc ⟨vK, rfl, hoK, hgc⟩; replace H1 := Lib.hid (H1.out.gr hgc); replace H2 := Lib.hid (H2.out.gr hgc); replace HJ := Lib.hid (HJ.out.gr hgc); replace hg := hg.tr hgc; rw [← HE1.out] at hoK; obtain ⟨AK, cK, rfl, hcK, hDK⟩ := hoK.dots; have HK := Lib.hid hDK; clear hDK hoK hgc)
      | (go_at_call 15; refine (refSame_any AJ AK cJ cK (joinL a b) (joinL a b) _ HJ.out HK.out).mono ?_; rintro e wc ⟨rfl, hgc⟩; replace H1 := Lib.hid (H1.out.gr hgc); replace H2 := Lib.hid (H2.out.gr hgc); replace hg := hg.tr hgc; rw [decide_eq_true rfl]; clear hgc HJ HK)
      | (go_at_call 13; refine (Meet_any A1 A2 c1 c2 a b _ H1.out H2.out hc1 hc2).mono ?_; rintro e wc ⟨vM, rfl, hoM, hgc⟩; replace H1 := Lib.hid (H1.out.gr hgc); replace H2 := Lib.hid (H2.out.gr hgc); replace hg := hg.tr hgc; obtain ⟨AM, cM, rfl, hcM, hDM⟩ := hoM.dots; have HM := Lib.hid hDM; clear hDM hoM hgc)
      | (go_at_call 17; refine (refMeet_any A1 A2 c1 c2 a b _ H1.out H2.out).mono ?_; rintro e wc ⟨vN, rfl, hoN, hgc⟩; replace H1 := Lib.hid (H1.out.gr hgc); replace H2 := Lib.hid (H2.out.gr hgc); replace HM := Lib.hid (HM.out.gr hgc); replace hg := hg.tr hgc; change OwnDots _ _ _ (refMeetL a b) at hoN; rw [← HE2.out] at hoN; obtain ⟨AN, cN, rfl, hcN, hDN⟩ := hoN.dots; have HN := Lib.hid hDN; clear hDN hoN hgc)
      | (go_at_call 15; refine (refSame_any AM AN cM cN (meetL a b) (meetL a b) _ HM.out HN.out).mono ?_; rintro e wc ⟨rfl, hgc⟩; replace H1 := Lib.hid (H1.out.gr hgc); replace H2 := Lib.hid (H2.out.gr hgc); replace hg := hg.tr hgc; rw [decide_eq_true rfl]; clear hgc HM HN)
      | (go_at_call 18; refine (With_any A1 c1 a x y _ H1.out hc1).mono ?_; rintro e wc ⟨vP, rfl, hoP, hgc⟩; replace H1 := Lib.hid (H1.out.gr hgc); replace hg := hg.tr hgc; obtain ⟨AP, cP, rfl, hcP, hDP⟩ := hoP.dots; have HP := Lib.hid hDP; clear hDP hoP hgc)
      | (go_at_call 19; refine (refWith_any A1 c1 a x y _ H1.out).mono ?_; rintro e wc ⟨vQ, rfl, hoQ, hgc⟩; replace H1 := Lib.hid (H1.out.gr hgc); replace HP := Lib.hid (HP.out.gr hgc); replace hg := hg.tr hgc; rw [← HE3.out] at hoQ; obtain ⟨AQ, cQ, rfl, hcQ, hDQ⟩ := hoQ.dots; have HQ := Lib.hid hDQ; clear hDQ hoQ hgc)
      | (go_at_call 15; refine (refSame_any AP AQ cP cQ (joinL a [(x, y)]) (joinL a [(x, y)]) _ HP.out HQ.out).mono ?_; rintro e wc ⟨rfl, hgc⟩; replace H1 := Lib.hid (H1.out.gr hgc); replace hg := hg.tr hgc; rw [decide_eq_true rfl]; clear hgc HP HQ)
      | (go_at_call 11; refine (awake_any _).mono ?_; rintro e wc ⟨rfl, hgc⟩; replace hg := hg.tr hgc))
    all_goals (go_wp2; go_ret; exact ⟨rfl, hgb.tr hg⟩)
  · go_enter Try.func4, Try.ntmps4
    go_wp2_with fail
    refine (many_any _ _ [⟨A1, c1, a⟩, ⟨A2, c2, b⟩] _ H3.out).mono ?_
    rintro e wc ⟨rfl, hgc⟩
    replace hg := hg.tr hgc
    clear hgc
    rw [hm]
    go_wp2_with fail
    refine (awake_any _).mono ?_
    rintro e wc ⟨rfl, hgc⟩
    replace hg := hg.tr hgc
    clear hgc
    go_wp2
    go_ret
    exact ⟨rfl, hgb.tr hg⟩
end Go.Proofs.Ytfhanmopoafdeaa
