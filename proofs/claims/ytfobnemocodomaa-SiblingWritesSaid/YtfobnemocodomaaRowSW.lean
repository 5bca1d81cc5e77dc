/- hearsaylaw07.SiblingWrites: the row. -/
import Derived.Test.YtfobnemocodomaaOpenL
import Derived.Test.YtfobnemocodomaaJf
import Derived.Test.YtfobnemocodomaaSynR
set_option linter.unusedVariables false
namespace Go.Proofs.Ytfobnemocodomaa
open Go.ChangeShapes Go.WideShapes Go.ChangeAt Go.RowKit Go.Deep Go.Joins

set_option maxRecDepth 100000 in
theorem siblingWrites_lifted (os : Os) (started : os.Started) (H : Type) (enc : TypeId × Value → H) :
    ReturnsInHanded {} Try.checked os 9 .any (Rows.siblingWritesSpec.pre6 enc Try.prog Try.f9 Rows.siblingWritesRow.domain false) (Rows.siblingWritesSpec.post enc Try.prog Try.f9 false true false false) := by
  refine returnsInHanded_of_change (C := Try.checked) own started (by kernel_rfl) Try.func9
    (ChangeSpec.witness6 (enc := enc) (C := Try.checked) false ⟨#[], #[.slice none 0 0, .agg #[.int .i64 0, .int .i64 0], .string ⟨#[]⟩], []⟩ 8 (by kernel_rfl) (by kernel_rfl) (by kernel_rfl) (by kernel_rfl)) ?_
  intro W base args ds gs before hval0 hW hcnd _
  have hval : ∀ (j : Nat) t v, Try.f9.params[j]? = some t → args[j]? = some v → Value.okWide Try.prog W .any base t v := hval0
  have hW' := hW
  obtain ⟨p, q, hA0, hV, rfl, hfz, hnd⟩ := hW
  have hA : DataW.TrodAll enc Try.prog W 0 (fun _ => true) true Try.f9.params.toList args.toList ds p := hA0
  rw [Try.params9] at hA hval
  obtain ⟨v0, vs0, d0, ds0, p0, q0, hargs, rfl, rfl, h0, r0⟩ := trodAll_cons hA
  obtain ⟨v1, vs1, d1, ds1, p1, q1, rfl, rfl, rfl, h1, r1⟩ := trodAll_cons r0
  obtain ⟨v2, vs2, d2, ds2, p2, q2, rfl, rfl, rfl, h2, r2⟩ := trodAll_cons r1
  obtain ⟨rfl, rfl, rfl⟩ := trodAll_nil r2
  obtain rfl : args = #[v0, v1, v2] := by cases args; simp_all
  obtain ⟨rfl, rfl⟩ := trodVars_none hV
  obtain ⟨a0, len0, cap0, rfl⟩ := okWide_slice Try.underlying22 (hval 0 22 v0 rfl rfl)
  have lt0 : ∀ x ∈ p0, x.block < W.heap.size := by obtain ⟨m, hm⟩ := h0; exact DataW.trod_lt m _ _ _ hm
  obtain ⟨l0, rfl, hc0, w0, vc0⟩ := open_vers h0
  have lt1 : ∀ x ∈ p1, x.block < W.heap.size := by obtain ⟨m, hm⟩ := h1; exact DataW.trod_lt m _ _ _ hm
  obtain ⟨x1, y1, rfl, wx1, wy1⟩ := open_dot (hval 1 47 v1 rfl rfl) h1
  obtain ⟨s2, rfl, rfl, rfl, w2⟩ := open_strA (hval 2 9 v2 rfl rfl) h2
  clear hA0 hval0
  refine (SiblingWrites_any a0 cap0 l0 x1 y1 s2 W w0 vc0 w2).mono fun e W' ⟨he, bel⟩ => ?_
  subst he
  exact ⟨_, rfl, _, _, _, [], _, [], hW', trodAll_mk1 (shut_bool Try.underlying4 _), (trodAll_cons_mk (Below.trod laidOut (by kernel_rfl) (of_decide_eq_true (by kernel_rfl)) h0 bel lt0) (trodAll_cons_mk (Below.trod laidOut (by kernel_rfl) (of_decide_eq_true (by kernel_rfl)) h1 bel lt1) (trodAll_cons_mk (shut_strA w2) trodAll_mk0))), rfl, bel.frame _, fun h => by cases h⟩

set_option maxHeartbeats 4000000 in
theorem siblingWrites_k9 : (Rows.siblingWritesRow.inPlace == Try.pinned.checked.prog.inPlace 9) = true := by kernel_rfl
set_option maxHeartbeats 4000000 in
theorem siblingWrites_k10 : (Rows.siblingWritesRow.unfollowed == Try.pinned.checked.prog.unfollowed 9) = true := by kernel_rfl
set_option maxHeartbeats 4000000 in
theorem siblingWrites_k11 : (Rows.siblingWritesRow.recurses == Try.pinned.checked.prog.recurses 9) = true := by kernel_rfl
set_option maxHeartbeats 4000000 in
theorem siblingWrites_k12 : (Rows.siblingWritesRow.named == Try.pinned.checked.prog.varsNamed 9) = true := by kernel_rfl
set_option maxHeartbeats 4000000 in
set_option maxRecDepth 100000 in
theorem siblingWrites_closed : joinedFacts Try.pinned.checked.prog 9 Try.f9 Rows.siblingWritesSpec Rows.siblingWritesRow = true := by
  unfold joinedFacts
  refine jband (jband (jband (jband (jband (jband (jband (jband (jband (jband (jband (jband (jband (jband (jband (jband (jband (jband (jband (jband (jband (jband (jband (jband (jband (jband (jband (jband (jband (jband (jband ?_ jP1) jP2) ?_) ?_) ?_) ?_) ?_) ?_) siblingWrites_k9) siblingWrites_k10) siblingWrites_k11) siblingWrites_k12) ?_) ?_) ?_) ?_) ?_) ?_) ?_) ?_) ?_) jP22) ?_) jP24) jP25) jP26) jP27) ?_) ?_) ?_) ?_
  all_goals kernel_rfl

theorem siblingWrites_over : Rows.siblingWritesRow.holds Try.pinned (OpenSpec.ofChange Rows.siblingWritesSpec) :=
  OpenClaim.holds_of_wide 9 Try.f9 rfl rfl rfl rfl rfl rfl rfl ⟨rfl, rfl, rfl, rfl, rfl⟩ rfl rfl rfl rfl rfl (by kernel_rfl) Try.func9 siblingWrites_closed
    (of_decide_eq_true (by kernel_rfl)) (by unfold Func.isWrapper; first | (rw [if_pos (by decide +kernel)]; kernel_rfl) | (rw [if_neg (by decide +kernel)]; exact ⟨rfl, rfl⟩))
    (fun os started H enc _ => siblingWrites_lifted os started H enc)

theorem siblingWrites_proved : Rows.SiblingWritesSaid := siblingWrites_over
#print axioms siblingWrites_proved
end Go.Proofs.Ytfobnemocodomaa
