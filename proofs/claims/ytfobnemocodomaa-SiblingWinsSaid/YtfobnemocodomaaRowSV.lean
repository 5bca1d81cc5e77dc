/- hearsaylaw07.SiblingWins: the row. -/
import Derived.Test.YtfobnemocodomaaOpenL
import Derived.Test.YtfobnemocodomaaJf
import Derived.Test.YtfobnemocodomaaSynW
set_option linter.unusedVariables false
namespace Go.Proofs.Ytfobnemocodomaa
open Go.ChangeShapes Go.WideShapes Go.ChangeAt Go.RowKit Go.Deep Go.Joins

set_option maxRecDepth 100000 in
theorem siblingWins_lifted (os : Os) (started : os.Started) (H : Type) (enc : TypeId × Value → H) :
    ReturnsInHanded {} Try.checked os 8 .any (Rows.siblingWinsSpec.pre6 enc Try.prog Try.f8 Rows.siblingWinsRow.domain false) (Rows.siblingWinsSpec.post enc Try.prog Try.f8 false true false false) := by
  refine returnsInHanded_of_change (C := Try.checked) own started (by kernel_rfl) Try.func8
    (ChangeSpec.witness6 (enc := enc) (C := Try.checked) false ⟨#[], #[.slice none 0 0, .agg (⟨0, 0, none, [], 0, false, ⟨#[]⟩⟩ : Vx).cells, .agg (⟨0, 0, none, [], 0, false, ⟨#[]⟩⟩ : Vx).cells], []⟩ 8 (by kernel_rfl) (by kernel_rfl) (by kernel_rfl) (by kernel_rfl)) ?_
  intro W base args ds gs before hval0 hW hcnd _
  have hval : ∀ (j : Nat) t v, Try.f8.params[j]? = some t → args[j]? = some v → Value.okWide Try.prog W .any base t v := hval0
  have hW' := hW
  obtain ⟨p, q, hA0, hV, rfl, hfz, hnd⟩ := hW
  have hA : DataW.TrodAll enc Try.prog W 0 (fun _ => true) true Try.f8.params.toList args.toList ds p := hA0
  rw [Try.params8] at hA hval
  obtain ⟨v0, vs0, d0, ds0, p0, q0, hargs, rfl, rfl, h0, r0⟩ := trodAll_cons hA
  obtain ⟨v1, vs1, d1, ds1, p1, q1, rfl, rfl, rfl, h1, r1⟩ := trodAll_cons r0
  obtain ⟨v2, vs2, d2, ds2, p2, q2, rfl, rfl, rfl, h2, r2⟩ := trodAll_cons r1
  obtain ⟨rfl, rfl, rfl⟩ := trodAll_nil r2
  obtain rfl : args = #[v0, v1, v2] := by cases args; simp_all
  obtain ⟨rfl, rfl⟩ := trodVars_none hV
  obtain ⟨a0, len0, cap0, rfl⟩ := okWide_slice Try.underlying22 (hval 0 22 v0 rfl rfl)
  have lt0 : ∀ x ∈ p0, x.block < W.heap.size := by obtain ⟨m, hm⟩ := h0; exact DataW.trod_lt m _ _ _ hm
  obtain ⟨l0, rfl, hc0, w0, vc0⟩ := open_vers h0
  have lt1 : ∀ x ∈ p1, x.block < W.heap.size := by obtain ⟨m, hm⟩ := h1; exact DataW.trod_lt m _ _ _ hm
  obtain ⟨x1, rfl, hx1, vc1⟩ := open_verv (hval 1 49 v1 rfl rfl) h1
  have lt2 : ∀ x ∈ p2, x.block < W.heap.size := by obtain ⟨m, hm⟩ := h2; exact DataW.trod_lt m _ _ _ hm
  obtain ⟨x2, rfl, hx2, vc2⟩ := open_verv (hval 2 49 v2 rfl rfl) h2
  clear hA0 hval0
  refine (SiblingWins_any a0 cap0 l0 x1 x2 W w0 vc0 hx1 hx2).mono fun e W' ⟨he, bel⟩ => ?_
  subst he
  exact ⟨_, rfl, _, _, _, [], _, [], hW', trodAll_mk1 (shut_bool Try.underlying4 _), (trodAll_cons_mk (Below.trod laidOut (by kernel_rfl) (of_decide_eq_true (by kernel_rfl)) h0 bel lt0) (trodAll_cons_mk (Below.trod laidOut (by kernel_rfl) (of_decide_eq_true (by kernel_rfl)) h1 bel lt1) (trodAll_cons_mk (Below.trod laidOut (by kernel_rfl) (of_decide_eq_true (by kernel_rfl)) h2 bel lt2) trodAll_mk0))), rfl, bel.frame _, fun h => by cases h⟩

set_option maxHeartbeats 4000000 in
theorem siblingWins_k9 : (Rows.siblingWinsRow.inPlace == Try.pinned.checked.prog.inPlace 8) = true := by kernel_rfl
set_option maxHeartbeats 4000000 in
theorem siblingWins_k10 : (Rows.siblingWinsRow.unfollowed == Try.pinned.checked.prog.unfollowed 8) = true := by kernel_rfl
set_option maxHeartbeats 4000000 in
theorem siblingWins_k11 : (Rows.siblingWinsRow.recurses == Try.pinned.checked.prog.recurses 8) = true := by kernel_rfl
set_option maxHeartbeats 4000000 in
theorem siblingWins_k12 : (Rows.siblingWinsRow.named == Try.pinned.checked.prog.varsNamed 8) = true := by kernel_rfl
set_option maxHeartbeats 4000000 in
set_option maxRecDepth 100000 in
theorem siblingWins_closed : joinedFacts Try.pinned.checked.prog 8 Try.f8 Rows.siblingWinsSpec Rows.siblingWinsRow = true := by
  unfold joinedFacts
  refine jband (jband (jband (jband (jband (jband (jband (jband (jband (jband (jband (jband (jband (jband (jband (jband (jband (jband (jband (jband (jband (jband (jband (jband (jband (jband (jband (jband (jband (jband (jband ?_ jP1) jP2) ?_) ?_) ?_) ?_) ?_) ?_) siblingWins_k9) siblingWins_k10) siblingWins_k11) siblingWins_k12) ?_) ?_) ?_) ?_) ?_) ?_) ?_) ?_) ?_) jP22) ?_) jP24) jP25) jP26) jP27) ?_) ?_) ?_) ?_
  all_goals kernel_rfl

theorem siblingWins_over : Rows.siblingWinsRow.holds Try.pinned (OpenSpec.ofChange Rows.siblingWinsSpec) :=
  OpenClaim.holds_of_wide 8 Try.f8 rfl rfl rfl rfl rfl rfl rfl ⟨rfl, rfl, rfl, rfl, rfl⟩ rfl rfl rfl rfl rfl (by kernel_rfl) Try.func8 siblingWins_closed
    (of_decide_eq_true (by kernel_rfl)) (by unfold Func.isWrapper; first | (rw [if_pos (by decide +kernel)]; kernel_rfl) | (rw [if_neg (by decide +kernel)]; exact ⟨rfl, rfl⟩))
    (fun os started H enc _ => siblingWins_lifted os started H enc)

theorem siblingWins_proved : Rows.SiblingWinsSaid := siblingWins_over
#print axioms siblingWins_proved
end Go.Proofs.Ytfobnemocodomaa
