/- hearsaylaw11.RecordLeaves: the row. -/
import Derived.Test.YtfobnemocodomaaOpenL
import Derived.Test.YtfobnemocodomaaJf
import Derived.Test.YtfobnemocodomaaLvC
set_option linter.unusedVariables false
namespace Go.Proofs.Ytfobnemocodomaa
open Go.ChangeShapes Go.WideShapes Go.ChangeAt Go.RowKit Go.Deep Go.Joins

set_option maxRecDepth 100000 in
theorem recordLeaves_lifted (os : Os) (started : os.Started) (H : Type) (enc : TypeId × Value → H) :
    ReturnsInHanded {} Try.checked os 3 .any (Rows.recordLeavesSpec.pre6 enc Try.prog Try.f3 Rows.recordLeavesRow.domain false) (Rows.recordLeavesSpec.post enc Try.prog Try.f3 false true false false) := by
  refine returnsInHanded_of_change (C := Try.checked) own started (by kernel_rfl) Try.func3
    (ChangeSpec.witness6 (enc := enc) (C := Try.checked) false ⟨#[], #[.slice none 0 0], []⟩ 8 (by kernel_rfl) (by kernel_rfl) (by kernel_rfl) (by kernel_rfl)) ?_
  intro W base args ds gs before hval0 hW hcnd _
  have hval : ∀ (j : Nat) t v, Try.f3.params[j]? = some t → args[j]? = some v → Value.okWide Try.prog W .any base t v := hval0
  have hW' := hW
  obtain ⟨p, q, hA0, hV, rfl, hfz, hnd⟩ := hW
  have hA : DataW.TrodAll enc Try.prog W 0 (fun _ => true) true Try.f3.params.toList args.toList ds p := hA0
  rw [Try.params3] at hA hval
  obtain ⟨v0, vs0, d0, ds0, p0, q0, hargs, rfl, rfl, h0, r0⟩ := trodAll_cons hA
  obtain ⟨rfl, rfl, rfl⟩ := trodAll_nil r0
  obtain rfl : args = #[v0] := by cases args; simp_all
  obtain ⟨rfl, rfl⟩ := trodVars_none hV
  obtain ⟨a0, len0, cap0, rfl⟩ := okWide_slice Try.underlying22 (hval 0 22 v0 rfl rfl)
  have lt0 : ∀ x ∈ p0, x.block < W.heap.size := by obtain ⟨m, hm⟩ := h0; exact DataW.trod_lt m _ _ _ hm
  obtain ⟨l0, rfl, hc0, w0, vc0⟩ := open_vers h0
  clear hA0 hval0
  refine (RecordLeaves_any a0 cap0 l0 W w0).mono fun e W' ⟨he, bel⟩ => ?_
  subst he
  exact ⟨_, rfl, _, _, _, [], _, [], hW', trodAll_mk1 (shut_bool Try.underlying4 _), (trodAll_cons_mk (Below.trod laidOut (by kernel_rfl) (of_decide_eq_true (by kernel_rfl)) h0 bel lt0) trodAll_mk0), rfl, bel.frame _, fun h => by cases h⟩

set_option maxHeartbeats 4000000 in
theorem recordLeaves_k9 : (Rows.recordLeavesRow.inPlace == Try.pinned.checked.prog.inPlace 3) = true := by kernel_rfl
set_option maxHeartbeats 4000000 in
theorem recordLeaves_k10 : (Rows.recordLeavesRow.unfollowed == Try.pinned.checked.prog.unfollowed 3) = true := by kernel_rfl
set_option maxHeartbeats 4000000 in
theorem recordLeaves_k11 : (Rows.recordLeavesRow.recurses == Try.pinned.checked.prog.recurses 3) = true := by kernel_rfl
set_option maxHeartbeats 4000000 in
theorem recordLeaves_k12 : (Rows.recordLeavesRow.named == Try.pinned.checked.prog.varsNamed 3) = true := by kernel_rfl
set_option maxHeartbeats 4000000 in
set_option maxRecDepth 100000 in
theorem recordLeaves_closed : joinedFacts Try.pinned.checked.prog 3 Try.f3 Rows.recordLeavesSpec Rows.recordLeavesRow = true := by
  unfold joinedFacts
  refine jband (jband (jband (jband (jband (jband (jband (jband (jband (jband (jband (jband (jband (jband (jband (jband (jband (jband (jband (jband (jband (jband (jband (jband (jband (jband (jband (jband (jband (jband (jband ?_ jP1) jP2) ?_) ?_) ?_) ?_) ?_) ?_) recordLeaves_k9) recordLeaves_k10) recordLeaves_k11) recordLeaves_k12) ?_) ?_) ?_) ?_) ?_) ?_) ?_) ?_) ?_) jP22) ?_) jP24) jP25) jP26) jP27) ?_) ?_) ?_) ?_
  all_goals kernel_rfl

theorem recordLeaves_over : Rows.recordLeavesRow.holds Try.pinned (OpenSpec.ofChange Rows.recordLeavesSpec) :=
  OpenClaim.holds_of_wide 3 Try.f3 rfl rfl rfl rfl rfl rfl rfl ⟨rfl, rfl, rfl, rfl, rfl⟩ rfl rfl rfl rfl rfl (by kernel_rfl) Try.func3 recordLeaves_closed
    (of_decide_eq_true (by kernel_rfl)) (by unfold Func.isWrapper; first | (rw [if_pos (by decide +kernel)]; kernel_rfl) | (rw [if_neg (by decide +kernel)]; exact ⟨rfl, rfl⟩))
    (fun os started H enc _ => recordLeaves_lifted os started H enc)

theorem recordLeaves_proved : Rows.RecordLeavesSaid := recordLeaves_over
#print axioms recordLeaves_proved
end Go.Proofs.Ytfobnemocodomaa
