/- The empty leaf, no kids. -/
import Derived.Test.YtfobnemocodomaaKidF
set_option linter.unusedVariables false
set_option linter.unusedSimpArgs false
set_option maxHeartbeats 2000000
namespace Go.Proofs.Ytfobnemocodomaa
open Go.RowKit Go.Great

set_option maxRecDepth 100000 in
theorem idxNil_any (f : Value) (w : World) :
    Calls Try.prog 159 #[.slice none 0 0, f] w fun e w' => e = .returned (.int .i64 (-1)) ∧ Gr w w' := by
  have g0 := Lib.hid (Gr.rfl' w)
  go_enter Try.func159, Try.ntmps159
  go_wp2
  go_loopw [8] (fun i wr => i = .int .i64 0 ∧ Hid (Gr w wr)) (fun _ _ => 0)
  case atStart => exact ⟨rfl, g0⟩
  case round =>
    clear g0
    obtain ⟨rfl, HG⟩ := hrel
    go_wp2
    go_ret
    exact ⟨rfl, HG.out⟩
set_option maxRecDepth 100000 in
theorem hasNil_any (f : Value) (w : World) :
    Calls Try.prog 87 #[.slice none 0 0, f] w fun e w' => e = .returned (.bool false) ∧ Gr w w' := by
  have HC := Lib.hid (idxNil_any f w)
  go_enter Try.func87, Try.ntmps87
  go_wp2_with fail
  refine (HC.out).mono ?_
  rintro e w1 ⟨rfl, hg1⟩
  go_wp2
  go_ret
  exact ⟨rfl, hg1⟩
set_option maxRecDepth 100000 in
theorem covered_any (A : Option Addr) (n c : Nat) (w : World) :
    Calls Try.prog 88 #[.slice A n c] w fun e w' => e = .returned (.func (.func 160) #[] #[.pointer (some ⟨w.heap.size, 0, none⟩)]) ∧ w' = w.alloc (.cells #[.slice A n c] 79) := by
  go_enter Try.func88, Try.ntmps88
  go_wp2
  go_ret
  exact ⟨rfl, rfl⟩
set_option maxRecDepth 100000 in
theorem leafNil_any (w : World) :
    Calls Try.prog 37 #[.slice none 0 0] w fun e w' => e = .returned (.int .i64 0) ∧ Gr w w' := by
  have g0 := Lib.hid (Gr.rfl' w)
  go_enter Try.func37, Try.ntmps37
  go_wp2
  go_loopw [11] (fun i wr => i = .int .i64 0 ∧ Hid (Gr w wr)) (fun _ _ => 0)
  case atStart => exact ⟨rfl, g0⟩
  case round =>
    clear g0
    obtain ⟨rfl, HG⟩ := hrel
    have HG1 := Lib.hid (HG.out.al (.cells #[.slice none 0 0] 22))
    go_wp2_with fail
    refine (covered_any _ _ _ _).mono ?_
    rintro e w1 ⟨rfl, rfl⟩
    have HG2 := Lib.hid (HG1.out.al (.cells #[.slice (some ⟨wr.heap.size, 0, none⟩) 1 1] 79))
    go_wp2_with fail
    refine (hasNil_any _ _).mono ?_
    rintro e w2 ⟨rfl, hg2⟩
    go_wp2
    go_ret
    exact ⟨rfl, HG2.out.tr hg2⟩
set_option maxRecDepth 100000 in
theorem kidsNil_any (w : World) :
    Calls Try.prog 174 #[.slice none 0 0] w fun e w' => e = .returned (.int .i64 0) ∧ Gr w w' := by
  have g0 := Lib.hid (Gr.rfl' w)
  go_enter Try.func174, Try.ntmps174
  go_wp2
  go_loopw [10] (fun i wr => i = .int .i64 0 ∧ Hid (Gr w wr)) (fun _ _ => 0)
  case atStart => exact ⟨rfl, g0⟩
  case round =>
    clear g0
    obtain ⟨rfl, HG⟩ := hrel
    go_wp2
    go_ret
    exact ⟨rfl, HG.out⟩
end Go.Proofs.Ytfobnemocodomaa
