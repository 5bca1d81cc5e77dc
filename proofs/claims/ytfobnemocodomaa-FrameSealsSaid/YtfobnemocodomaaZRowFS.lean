/- hearsaylaw13.FrameSeals: the row. -/
import Derived.Test.YtfobnemocodomaaZOpenU
import Derived.Test.YtfobnemocodomaaZJf
import Derived.Test.YtfobnemocodomaaZFrmB
set_option linter.unusedVariables false
namespace Go.Proofs.Ytfobnemocodomaa
open Go.ChangeShapes Go.WideShapes Go.ChangeAt Go.RowKit Go.Deep Go.Joins

set_option maxRecDepth 100000 in
theorem frameSeals_lifted (os : Os) (started : os.Started) (H : Type) (enc : TypeId × Value → H) :
    ReturnsInHanded {} Try.checked os 17 .any (Rows.frameSealsSpec.pre6 enc Try.prog Try.f17 Rows.frameSealsRow.domain false) (Rows.frameSealsSpec.post enc Try.prog Try.f17 false true false false) := by
  refine returnsInHanded_of_change_shaped (C := Try.checked) own started (by kernel_rfl) Try.func17
    (ChangeSpec.witness6 (enc := enc) (C := Try.checked) false ⟨#[], #[.agg zMx.cells], []⟩ 8 (by kernel_rfl) (by kernel_rfl) (by kernel_rfl) (by kernel_rfl)) ?_
  intro W base args ds gs before hval0 hW hcnd _ hsh _
  have hF := pmx_of_shape hsh
  have hval : ∀ (j : Nat) t v, Try.f17.params[j]? = some t → args[j]? = some v → Value.okWide Try.prog W .any base t v := hval0
  have hW' := hW
  obtain ⟨p, q, hA0, hV, rfl, hfz, hnd⟩ := hW
  have hA : DataW.TrodAll enc Try.prog W 0 (fun _ => true) true Try.f17.params.toList args.toList ds p := hA0
  rw [Try.params17] at hA hval
  obtain ⟨v0, vs0, d0, ds0, p0, q0, hargs, rfl, rfl, h0, r0⟩ := trodAll_cons hA
  obtain ⟨rfl, rfl, rfl⟩ := trodAll_nil r0
  obtain rfl : args = #[v0] := by cases args; simp_all
  obtain ⟨rfl, rfl⟩ := trodVars_none hV
  have lt0 : ∀ x ∈ p0, x.block < W.heap.size := by obtain ⟨m, hm⟩ := h0; exact DataW.trod_lt m _ _ _ hm
  obtain ⟨x0, rfl, hx0, vc0⟩ := open_msg (hval 0 74 v0 rfl rfl) h0
  clear hA0 hval0
  refine (FrameSeals_any x0 W hx0 hF).mono fun e W' ⟨he, bel⟩ => ?_
  subst he
  exact ⟨_, rfl, _, _, _, [], _, [], hW', trodAll_mk1 (shut_bool Try.underlying4 _), (trodAll_cons_mk (Below.trod laidOut (by kernel_rfl) (of_decide_eq_true (by kernel_rfl)) h0 bel lt0) trodAll_mk0), rfl, bel.frame _, fun h => by cases h⟩

set_option maxHeartbeats 4000000 in
theorem frameSeals_k9 : (Rows.frameSealsRow.inPlace == Try.pinned.checked.prog.inPlace 17) = true := by kernel_rfl
set_option maxHeartbeats 4000000 in
theorem frameSeals_k10 : (Rows.frameSealsRow.unfollowed == Try.pinned.checked.prog.unfollowed 17) = true := by kernel_rfl
set_option maxHeartbeats 4000000 in
theorem frameSeals_k11 : (Rows.frameSealsRow.recurses == Try.pinned.checked.prog.recurses 17) = true := by kernel_rfl
set_option maxHeartbeats 4000000 in
theorem frameSeals_k12 : (Rows.frameSealsRow.named == Try.pinned.checked.prog.varsNamed 17) = true := by kernel_rfl
set_option maxHeartbeats 4000000 in
set_option maxRecDepth 100000 in
theorem frameSeals_closed : joinedFacts Try.pinned.checked.prog 17 Try.f17 Rows.frameSealsSpec Rows.frameSealsRow = true := by
  unfold joinedFacts
  refine jband (jband (jband (jband (jband (jband (jband (jband (jband (jband (jband (jband (jband (jband (jband (jband (jband (jband (jband (jband (jband (jband (jband (jband (jband (jband (jband (jband (jband (jband (jband ?_ jP1) jP2) ?_) ?_) ?_) ?_) ?_) ?_) frameSeals_k9) frameSeals_k10) frameSeals_k11) frameSeals_k12) ?_) ?_) ?_) ?_) ?_) ?_) ?_) ?_) ?_) jP22) ?_) jP24) jP25) jP26) jP27) ?_) ?_) ?_) ?_
  all_goals kernel_rfl

theorem frameSeals_over : Rows.frameSealsRow.holds Try.pinned (OpenSpec.ofChange Rows.frameSealsSpec) :=
  OpenClaim.holds_of_wide 17 Try.f17 rfl rfl rfl rfl rfl rfl rfl ⟨rfl, rfl, rfl, rfl, rfl⟩ rfl rfl rfl rfl rfl (by kernel_rfl) Try.func17 frameSeals_closed
    (of_decide_eq_true (by kernel_rfl)) (by unfold Func.isWrapper; first | (rw [if_pos (by decide +kernel)]; kernel_rfl) | (rw [if_neg (by decide +kernel)]; exact ⟨rfl, rfl⟩))
    (fun os started H enc _ => frameSeals_lifted os started H enc)

theorem frameSeals_proved : Rows.FrameSealsSaid := frameSeals_over
#print axioms frameSeals_proved
end Go.Proofs.Ytfobnemocodomaa
