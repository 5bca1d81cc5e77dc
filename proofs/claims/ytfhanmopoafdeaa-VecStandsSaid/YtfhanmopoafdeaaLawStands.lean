/- VecStands: the law's walk. -/
import Derived.Test.YtfhanmopoafdeaaVecAw
import Derived.Test.YtfhanmopoafdeaaVecH
set_option linter.unusedVariables false
set_option linter.unusedSimpArgs false
set_option maxHeartbeats 1600000
namespace Go.Proofs.Ytfhanmopoafdeaa
open Go.RowKit

theorem VecStands_any (A1 A2 : Option Addr) (c1 c2 : Nat) (a b : List Dot) (w : World) (h1 : Dots w A1 a) (h2 : Dots w A2 b) (hc1 : a.length ≤ c1) (hc2 : b.length ≤ c2) :
    Calls Try.prog 6 #[.slice A1 a.length c1, .slice A2 b.length c2] w fun e w' => e = .returned (.bool true) ∧ Gr w w' := by
  have H1 := Lib.hid h1; clear h1
  have H2 := Lib.hid h2; clear h2
  have H3 := Lib.hid (DRows.two (c := c1) (d := c2) H1.out H2.out 22)
  have hg0 : Gr w (w.alloc (.cells #[.slice A1 a.length c1, .slice A2 b.length c2] 22)) := (Gr.rfl' w).al _
  rcases hm : manyB [⟨A1, c1, a⟩, ⟨A2, c2, b⟩] with _ | _
  · go_enter Try.func6, Try.ntmps6
    go_wp2_with fail
    refine (many_any _ _ [⟨A1, c1, a⟩, ⟨A2, c2, b⟩] _ H3.out).mono ?_
    rintro e w1 ⟨rfl, hg1⟩
    rw [hm]
    have hg2 := hg0.tr hg1
    go_wp2_with fail
    refine (Within_any A1 A2 c1 c2 a b _ (H1.out.gr hg2) (H2.out.gr hg2) hc1 hc2).mono ?_
    rintro e w2 ⟨rfl, hg3⟩
    replace hg2 := hg2.tr hg3
    go_wp2_with fail
    refine (refWithin_any A1 A2 c1 c2 a b _ (H1.out.gr hg2) (H2.out.gr hg2)).mono ?_
    rintro e w3 ⟨rfl, hg4⟩
    rw [within_eq]
    replace hg2 := hg2.tr hg4
    go_wp2_with fail
    refine (Compare_any A1 A2 c1 c2 a b _ (H1.out.gr hg2) (H2.out.gr hg2) hc1 hc2).mono ?_
    rintro e w4 ⟨rfl, hg5⟩
    replace hg2 := hg2.tr hg5
    go_wp2_with fail
    refine (refCompare_any A1 A2 c1 c2 a b _ (H1.out.gr hg2) (H2.out.gr hg2)).mono ?_
    rintro e w5 ⟨rfl, hg6⟩
    rw [cmp_eq]
    replace hg2 := hg2.tr hg6
    go_wp2_with fail
    refine (Same_any A1 A2 c1 c2 a b _ (H1.out.gr hg2) (H2.out.gr hg2)).mono ?_
    rintro e w6 ⟨rfl, hg7⟩
    replace hg2 := hg2.tr hg7
    go_wp2_with fail
    refine (refSame_any A1 A2 c1 c2 a b _ (H1.out.gr hg2) (H2.out.gr hg2)).mono ?_
    rintro e w7 ⟨rfl, hg8⟩
    replace hg2 := hg2.tr hg8
    go_wp2_with fail
    refine (awake_any _).mono ?_
    rintro e w8 ⟨rfl, hg9⟩
    go_wp2
    go_ret
    exact ⟨rfl, hg2.tr hg9⟩
  · go_enter Try.func6, Try.ntmps6
    go_wp2_with fail
    refine (many_any _ _ [⟨A1, c1, a⟩, ⟨A2, c2, b⟩] _ H3.out).mono ?_
    rintro e w1 ⟨rfl, hg1⟩
    rw [hm]
    go_wp2_with fail
    refine (awake_any _).mono ?_
    rintro e w2 ⟨rfl, hg2⟩
    go_wp2
    go_ret
    exact ⟨rfl, (hg0.tr hg1).tr hg2⟩
end Go.Proofs.Ytfhanmopoafdeaa
