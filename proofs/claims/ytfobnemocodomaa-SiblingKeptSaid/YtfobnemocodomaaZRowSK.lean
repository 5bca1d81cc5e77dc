/- hearsaylaw07.SiblingKept: the row. -/
import Derived.Test.YtfobnemocodomaaZBm
import Derived.Test.YtfobnemocodomaaZJf
import Derived.Test.YtfobnemocodomaaZKepX
set_option linter.unusedVariables false
namespace Go.Proofs.Ytfobnemocodomaa
open Go.ChangeShapes Go.WideShapes Go.ChangeAt Go.RowKit Go.Deep Go.Joins

set_option maxRecDepth 100000 in
theorem siblingKept_lifted (os : Os) (started : os.Started) (H : Type) (enc : TypeId × Value → H) :
    ReturnsInHanded {} Try.checked os 10 .any (Rows.siblingKeptSpec.pre6 enc Try.prog Try.f10 Rows.siblingKeptRow.domain false) (Rows.siblingKeptSpec.post enc Try.prog Try.f10 false true false false) := by
  refine returnsInHanded_of_change (C := Try.checked) own started (by kernel_rfl) Try.func10
    (ChangeSpec.witness6 (enc := enc) (C := Try.checked) false ⟨#[], #[.slice none 0 0], []⟩ 8 (by kernel_rfl) (by kernel_rfl) (by kernel_rfl) (by kernel_rfl)) ?_
  intro W base args ds gs before hval0 hW hcnd _
  have hval : ∀ (j : Nat) t v, Try.f10.params[j]? = some t → args[j]? = some v → Value.okWide Try.prog W .any base t v := hval0
  have hW' := hW
  obtain ⟨p, q, hA0, hV, rfl, hfz, hnd⟩ := hW
  have hA : DataW.TrodAll enc Try.prog W 0 (fun _ => true) true Try.f10.params.toList args.toList ds p := hA0
  rw [Try.params10] at hA hval
  obtain ⟨v0, vs0, d0, ds0, p0, q0, hargs, rfl, rfl, h0, r0⟩ := trodAll_cons hA
  obtain ⟨rfl, rfl, rfl⟩ := trodAll_nil r0
  obtain rfl : args = #[v0] := by cases args; simp_all
  obtain ⟨rfl, rfl⟩ := trodVars_none hV
  obtain ⟨a0, len0, cap0, rfl⟩ := okWide_slice Try.underlying60 (hval 0 60 v0 rfl rfl)
  have lt0 : ∀ x ∈ p0, x.block < W.heap.size := by obtain ⟨m, hm⟩ := h0; exact DataW.trod_lt m _ _ _ hm
  obtain ⟨l0, rfl, hc0, w0⟩ := open_stps h0
  clear hA0 hval0
  refine (SiblingKept_any a0 cap0 l0 W w0).mono fun e W' ⟨he, bel⟩ => ?_
  subst he
  exact ⟨_, rfl, _, _, _, [], _, [], hW', trodAll_mk1 (shut_bool Try.underlying4 _), (trodAll_cons_mk (Below.trod laidOut (by kernel_rfl) (of_decide_eq_true (by kernel_rfl)) h0 bel lt0) trodAll_mk0), rfl, bel.frame _, fun h => by cases h⟩

set_option maxHeartbeats 4000000 in
theorem siblingKept_k9 : (Rows.siblingKeptRow.inPlace == Try.pinned.checked.prog.inPlace 10) = true := by kernel_rfl
set_option maxHeartbeats 4000000 in
theorem siblingKept_k10 : (Rows.siblingKeptRow.unfollowed == Try.pinned.checked.prog.unfollowed 10) = true := by kernel_rfl
set_option maxHeartbeats 4000000 in
theorem siblingKept_k11 : (Rows.siblingKeptRow.recurses == Try.pinned.checked.prog.recurses 10) = true := by kernel_rfl
set_option maxHeartbeats 4000000 in
theorem siblingKept_k12 : (Rows.siblingKeptRow.named == Try.pinned.checked.prog.varsNamed 10) = true := by kernel_rfl
set_option maxHeartbeats 4000000 in
set_option maxRecDepth 100000 in
theorem siblingKept_closed : joinedFacts Try.pinned.checked.prog 10 Try.f10 Rows.siblingKeptSpec Rows.siblingKeptRow = true := by
  unfold joinedFacts
  refine jband (jband (jband (jband (jband (jband (jband (jband (jband (jband (jband (jband (jband (jband (jband (jband (jband (jband (jband (jband (jband (jband (jband (jband (jband (jband (jband (jband (jband (jband (jband ?_ jP1) jP2) ?_) ?_) ?_) ?_) ?_) ?_) siblingKept_k9) siblingKept_k10) siblingKept_k11) siblingKept_k12) ?_) ?_) ?_) ?_) ?_) ?_) ?_) ?_) ?_) jP22) ?_) jP24) jP25) jP26) jP27) ?_) ?_) ?_) ?_
  all_goals kernel_rfl

theorem siblingKept_over : Rows.siblingKeptRow.holds Try.pinned (OpenSpec.ofChange Rows.siblingKeptSpec) :=
  OpenClaim.holds_of_wide 10 Try.f10 rfl rfl rfl rfl rfl rfl rfl ⟨rfl, rfl, rfl, rfl, rfl⟩ rfl rfl rfl rfl rfl (by kernel_rfl) Try.func10 siblingKept_closed
    (of_decide_eq_true (by kernel_rfl)) (by unfold Func.isWrapper; first | (rw [if_pos (by decide +kernel)]; kernel_rfl) | (rw [if_neg (by decide +kernel)]; exact ⟨rfl, rfl⟩))
    (fun os started H enc _ => siblingKept_lifted os started H enc)

theorem siblingKept_proved : Rows.SiblingKeptSaid := siblingKept_over
#print axioms siblingKept_proved
end Go.Proofs.Ytfobnemocodomaa
