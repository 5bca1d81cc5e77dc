/- hearsaylaw14.NodeSeen: the row. -/
import Derived.Test.YtfobnemocodomaaOpenN
import Derived.Test.YtfobnemocodomaaJf
import Derived.Test.YtfobnemocodomaaNsA
set_option linter.unusedVariables false
namespace Go.Proofs.Ytfobnemocodomaa
open Go.ChangeShapes Go.WideShapes Go.ChangeAt Go.RowKit Go.Deep Go.Joins

set_option maxRecDepth 100000 in
theorem nodeSeen_lifted (os : Os) (started : os.Started) (H : Type) (enc : TypeId × Value → H) :
    ReturnsInHanded {} Try.checked os 4 .any (Rows.nodeSeenSpec.pre6 enc Try.prog Try.f4 Rows.nodeSeenRow.domain false) (Rows.nodeSeenSpec.post enc Try.prog Try.f4 false true false false) := by
  refine returnsInHanded_of_change (C := Try.checked) own started (by kernel_rfl) Try.func4
    (ChangeSpec.witness6 (enc := enc) (C := Try.checked) false ⟨#[], #[.agg #[.slice none 0 0, .slice none 0 0], .agg #[.slice none 0 0, .slice none 0 0]], []⟩ 8 (by kernel_rfl) (by kernel_rfl) (by kernel_rfl) (by kernel_rfl)) ?_
  intro W base args ds gs before hval0 hW hcnd _
  have hval : ∀ (j : Nat) t v, Try.f4.params[j]? = some t → args[j]? = some v → Value.okWide Try.prog W .any base t v := hval0
  have hW' := hW
  obtain ⟨p, q, hA0, hV, rfl, hfz, hnd⟩ := hW
  have hA : DataW.TrodAll enc Try.prog W 0 (fun _ => true) true Try.f4.params.toList args.toList ds p := hA0
  rw [Try.params4] at hA hval
  obtain ⟨v0, vs0, d0, ds0, p0, q0, hargs, rfl, rfl, h0, r0⟩ := trodAll_cons hA
  obtain ⟨v1, vs1, d1, ds1, p1, q1, rfl, rfl, rfl, h1, r1⟩ := trodAll_cons r0
  obtain ⟨rfl, rfl, rfl⟩ := trodAll_nil r1
  obtain rfl : args = #[v0, v1] := by cases args; simp_all
  obtain ⟨rfl, rfl⟩ := trodVars_none hV
  have lt0 : ∀ x ∈ p0, x.block < W.heap.size := by obtain ⟨m, hm⟩ := h0; exact DataW.trod_lt m _ _ _ hm
  obtain ⟨a0, b0, l0, k0, c0, e0, rfl, w0, u0⟩ := open_node (hval 0 31 v0 rfl rfl) h0
  have lt1 : ∀ x ∈ p1, x.block < W.heap.size := by obtain ⟨m, hm⟩ := h1; exact DataW.trod_lt m _ _ _ hm
  obtain ⟨a1, b1, l1, k1, c1, e1, rfl, w1, u1⟩ := open_node (hval 1 31 v1 rfl rfl) h1
  clear hA0 hval0
  refine (NodeSeen_any a0 a1 b0 b1 c0 c1 e0 e1 l0 l1 k0 k1 W w0 w1 u0 u1).mono fun e W' ⟨he, bel⟩ => ?_
  subst he
  exact ⟨_, rfl, _, _, _, [], _, [], hW', trodAll_mk1 (shut_bool Try.underlying4 _), (trodAll_cons_mk (Below.trod laidOut (by kernel_rfl) (of_decide_eq_true (by kernel_rfl)) h0 bel lt0) (trodAll_cons_mk (Below.trod laidOut (by kernel_rfl) (of_decide_eq_true (by kernel_rfl)) h1 bel lt1) trodAll_mk0)), rfl, bel.frame _, fun h => by cases h⟩

set_option maxHeartbeats 4000000 in
theorem nodeSeen_k9 : (Rows.nodeSeenRow.inPlace == Try.pinned.checked.prog.inPlace 4) = true := by kernel_rfl
set_option maxHeartbeats 4000000 in
theorem nodeSeen_k10 : (Rows.nodeSeenRow.unfollowed == Try.pinned.checked.prog.unfollowed 4) = true := by kernel_rfl
set_option maxHeartbeats 4000000 in
theorem nodeSeen_k11 : (Rows.nodeSeenRow.recurses == Try.pinned.checked.prog.recurses 4) = true := by kernel_rfl
set_option maxHeartbeats 4000000 in
theorem nodeSeen_k12 : (Rows.nodeSeenRow.named == Try.pinned.checked.prog.varsNamed 4) = true := by kernel_rfl
set_option maxHeartbeats 4000000 in
set_option maxRecDepth 100000 in
theorem nodeSeen_closed : joinedFacts Try.pinned.checked.prog 4 Try.f4 Rows.nodeSeenSpec Rows.nodeSeenRow = true := by
  unfold joinedFacts
  refine jband (jband (jband (jband (jband (jband (jband (jband (jband (jband (jband (jband (jband (jband (jband (jband (jband (jband (jband (jband (jband (jband (jband (jband (jband (jband (jband (jband (jband (jband (jband ?_ jP1) jP2) ?_) ?_) ?_) ?_) ?_) ?_) nodeSeen_k9) nodeSeen_k10) nodeSeen_k11) nodeSeen_k12) ?_) ?_) ?_) ?_) ?_) ?_) ?_) ?_) ?_) jP22) ?_) jP24) jP25) jP26) jP27) ?_) ?_) ?_) ?_
  all_goals kernel_rfl

theorem nodeSeen_over : Rows.nodeSeenRow.holds Try.pinned (OpenSpec.ofChange Rows.nodeSeenSpec) :=
  OpenClaim.holds_of_wide 4 Try.f4 rfl rfl rfl rfl rfl rfl rfl ⟨rfl, rfl, rfl, rfl, rfl⟩ rfl rfl rfl rfl rfl (by kernel_rfl) Try.func4 nodeSeen_closed
    (of_decide_eq_true (by kernel_rfl)) (by unfold Func.isWrapper; first | (rw [if_pos (by decide +kernel)]; kernel_rfl) | (rw [if_neg (by decide +kernel)]; exact ⟨rfl, rfl⟩))
    (fun os started H enc _ => nodeSeen_lifted os started H enc)

theorem nodeSeen_proved : Rows.NodeSeenSaid := nodeSeen_over
#print axioms nodeSeen_proved
end Go.Proofs.Ytfobnemocodomaa
