/- hearsaylaw11.RecordLeaves. -/
import Derived.Test.YtfobnemocodomaaLvB
set_option linter.unusedVariables false
set_option linter.unusedSimpArgs false
set_option maxHeartbeats 1000000
namespace Go.Proofs.Ytfobnemocodomaa
open Go.RowKit Go.Shelf Go.Great
set_option maxRecDepth 100000 in
theorem RecordLeaves_any (A : Option Addr) (cap : Nat) (l : List Vx) (w : World) (hD : Vers w A l) :
    Calls Try.prog 3 #[.slice A l.length cap] w fun r w' => r = .returned (.bool true) ∧ Gr w w' := by
  have HV := Lib.hid (VRows.one (cap := cap) hD 22)
  have HD := Lib.hid hD; clear hD
  have hga := Lib.hid ((Gr.rfl' w).al (.cells #[.slice A l.length cap] 22))
  go_enter Try.func3, Try.ntmps3
  go_wp2_with fail
  refine (vGreat_any _ 1 [⟨A, cap, l⟩] _ HV.out).mono ?_
  rintro r w0 ⟨⟨rfl, h70⟩ | rfl, hg0⟩
  · have h7 : l.length ≤ 70 := h70 ⟨A, cap, l⟩ (by simp)
    have HG := Lib.hid (hga.out.tr hg0)
    clear h70 hg0 hga
    go_wp2_with fail
    refine (recLeaf_any A cap l _ (HD.out.gr HG.out)).mono ?_
    rintro r w1 ⟨rfl, hg1⟩
    go_wp2_with fail
    refine (refLeafOf_any A cap l _ (HD.out.gr (HG.out.tr hg1)) (by omega)).mono ?_
    rintro r w2 ⟨rfl, hg2⟩
    go_wp2_with fail
    refine (awake_any _).mono ?_
    rintro r w3 ⟨rfl, hg3⟩
    go_wp2
    go_ret
    exact ⟨rfl, HG.out.tr ((hg1.tr hg2).tr hg3)⟩
  · go_wp2_with fail
    refine (awake_any _).mono ?_
    rintro r w3 ⟨rfl, hg3⟩
    go_wp2
    go_ret
    exact ⟨rfl, (hga.out.tr hg0).tr hg3⟩
end Go.Proofs.Ytfobnemocodomaa
