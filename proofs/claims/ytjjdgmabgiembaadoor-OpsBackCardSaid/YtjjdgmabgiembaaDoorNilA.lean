/- What none answers: the writer's methods and the reader's at nil. -/
import Derived.Test.YtjjdgmabgiembaaDoorLwB
import Derived.Test.YtjjdgmabgiembaaDoorDigEq
set_option linter.unusedVariables false
set_option linter.unusedSimpArgs false
set_option maxHeartbeats 400000
namespace Go.Proofs.YtjjdgmabgiembaaDoor
open Go.RowKit Go.Shelf Go.Great

set_option maxRecDepth 100000 in
theorem wNumber_nil (n : Int) (w : World) : Calls Tryd.prog 25 #[.pointer none, .int .i64 n] w fun r w' => r = .returned (.tuple #[]) ∧ Gr w w' := by
  have hne := putS_ne n
  go_enter Tryd.func25, Tryd.ntmps25
  go_wp2_with fail
  refine (cPut_any n _).mono ?_
  rintro r w1 ⟨rfl, hg1⟩
  go_wp2_with fail
  refine (wPut_nil (numOk n) _ _).mono ?_
  rintro r w2 ⟨rfl, rfl⟩
  go_wp2
  go_end0
  exact ⟨rfl, hg1.al _⟩
set_option maxRecDepth 100000 in
theorem wText_nil (s : ByteArray) (w : World) : Calls Tryd.prog 43 #[.pointer none, .string s] w fun r w' => r = .returned (.tuple #[]) ∧ Gr w w' := by
  go_enter Tryd.func43, Tryd.ntmps43
  go_wp2_with fail
  refine (cPut_any s.size _).mono ?_
  rintro r w1 ⟨rfl, hg1⟩
  go_wp2_with fail
  refine (wPut_nil _ _ _).mono ?_
  rintro r w2 ⟨rfl, rfl⟩
  go_wp2
  go_end0
  exact ⟨rfl, hg1.al _⟩
set_option maxRecDepth 100000 in
theorem wFail_nil (f : Int) (w : World) : Calls Tryd.prog 42 #[.pointer none, .int .i64 f] w fun r w' => r = .returned (.tuple #[]) ∧ w' = w := by
  go_enter Tryd.func42, Tryd.ntmps42
  go_wp2
  go_end0
  exact ⟨rfl, rfl⟩
set_option maxRecDepth 100000 in
theorem wDone_nil (w : World) : Calls Tryd.prog 27 #[.pointer none] w fun r w' => r = .returned (.tuple #[.string ⟨#[]⟩, .int .i64 13]) ∧ w' = w := by
  go_enter Tryd.func27, Tryd.ntmps27
  go_wp2
  go_ret2
  exact ⟨rfl, rfl⟩

set_option maxRecDepth 100000 in
theorem Err_nil (w : World) : Calls Tryd.prog 34 #[.pointer none] w fun r w' => r = .returned (.int .i64 13) ∧ w' = w := by
  go_enter Tryd.func34, Tryd.ntmps34
  go_wp2
  go_ret
  exact ⟨rfl, rfl⟩
set_option maxRecDepth 100000 in
theorem Left_nil (w : World) : Calls Tryd.prog 39 #[.pointer none] w fun r w' => r = .returned (.int .i64 0) ∧ w' = w := by
  go_enter Tryd.func39, Tryd.ntmps39
  go_wp2
  go_ret
  exact ⟨rfl, rfl⟩
set_option maxRecDepth 100000 in
theorem dDone_nil (w : World) : Calls Tryd.prog 35 #[.pointer none] w fun r w' => r = .returned (.int .i64 13) ∧ w' = w := by
  go_enter Tryd.func35, Tryd.ntmps35
  go_wp2_with fail
  refine (Err_nil _).mono ?_
  rintro r w1 ⟨rfl, rfl⟩
  go_wp2
  go_ret
  exact ⟨rfl, rfl⟩
set_option maxRecDepth 100000 in
theorem dFail_nil (f : Int) (w : World) : Calls Tryd.prog 51 #[.pointer none, .int .i64 f] w fun r w' => r = .returned (.tuple #[]) ∧ w' = w := by
  go_enter Tryd.func51, Tryd.ntmps51
  go_wp2
  go_end0
  exact ⟨rfl, rfl⟩
set_option maxRecDepth 100000 in
theorem takeI_nil (v : Value) (w : World) : Calls Tryd.prog 49 #[.pointer none, v] w fun r w' => r = .returned (.int .i64 0) ∧ w' = w := by
  go_enter Tryd.func49, Tryd.ntmps49
  go_wp2_with fail
  refine (Err_nil _).mono ?_
  rintro r w1 ⟨rfl, rfl⟩
  go_wp2
  go_ret
  exact ⟨rfl, rfl⟩
set_option maxRecDepth 100000 in
theorem takeS_nil (v : Value) (w : World) : Calls Tryd.prog 61 #[.pointer none, v] w fun r w' => r = .returned (.string ⟨#[]⟩) ∧ w' = w := by
  go_enter Tryd.func61, Tryd.ntmps61
  go_wp2_with fail
  refine (Err_nil _).mono ?_
  rintro r w1 ⟨rfl, rfl⟩
  go_wp2
  go_ret
  exact ⟨rfl, rfl⟩
theorem number_any (m : Int) (w : World) :
    Calls Tryd.prog 50 #[.int .i64 m] w fun e w' => e = .returned (.func (.func 59) #[] #[.pointer (some ⟨w.heap.size, 0, none⟩)]) ∧
      w' = w.alloc (.cells #[.int .i64 m] 3) := by
  go_enter Tryd.func50, Tryd.ntmps50
  go_wp2
  go_ret
  exact ⟨rfl, rfl⟩
set_option maxRecDepth 100000 in
theorem dNumber_nil (m : Int) (w : World) : Calls Tryd.prog 32 #[.pointer none, .int .i64 m] w fun r w' => r = .returned (.int .i64 0) ∧ Gr w w' := by
  go_enter Tryd.func32, Tryd.ntmps32
  go_wp2_with fail
  refine (number_any m _).mono ?_
  rintro r w1 ⟨rfl, rfl⟩
  go_wp2_with fail
  refine (takeI_nil _ _).mono ?_
  rintro r w2 ⟨rfl, rfl⟩
  go_wp2
  go_ret
  exact ⟨rfl, (Gr.rfl' _).al _⟩
set_option maxRecDepth 100000 in
theorem dText_nil (m : Int) (w : World) : Calls Tryd.prog 52 #[.pointer none, .int .i64 m] w fun r w' => r = .returned (.string ⟨#[]⟩) ∧ Gr w w' := by
  go_enter Tryd.func52, Tryd.ntmps52
  go_wp2_with fail
  refine (takeS_nil _ _).mono ?_
  rintro r w2 ⟨rfl, rfl⟩
  go_wp2
  go_ret
  exact ⟨rfl, (Gr.rfl' _).al _⟩
end Go.Proofs.YtjjdgmabgiembaaDoor
