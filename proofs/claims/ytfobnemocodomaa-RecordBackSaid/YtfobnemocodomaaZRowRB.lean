/- hearsaylaw11.RecordBack: the row. -/
import Derived.Test.YtfobnemocodomaaZBs
import Derived.Test.YtfobnemocodomaaZJf
import Derived.Test.YtfobnemocodomaaZRrF
set_option linter.unusedVariables false
namespace Go.Proofs.Ytfobnemocodomaa
open Go.ChangeShapes Go.WideShapes Go.ChangeAt Go.RowKit Go.Deep Go.Joins

set_option maxRecDepth 100000 in
theorem recordBack_lifted (os : Os) (started : os.Started) (H : Type) (enc : TypeId × Value → H) :
    ReturnsInHanded {} Try.checked os 6 .any (Rows.recordBackSpec.pre6 enc Try.prog Try.f6 Rows.recordBackRow.domain false) (Rows.recordBackSpec.post enc Try.prog Try.f6 false true false false) := by
  refine returnsInHanded_of_change (C := Try.checked) own started (by kernel_rfl) Try.func6
    (ChangeSpec.witness6 (enc := enc) (C := Try.checked) false ⟨#[], #[.slice none 0 0, .slice none 0 0, .string ⟨#[]⟩], []⟩ 8 (by kernel_rfl) (by kernel_rfl) (by kernel_rfl) (by kernel_rfl)) ?_
  intro W base args ds gs before hval0 hW hcnd _
  have hval : ∀ (j : Nat) t v, Try.f6.params[j]? = some t → args[j]? = some v → Value.okWide Try.prog W .any base t v := hval0
  have hW' := hW
  obtain ⟨p, q, hA0, hV, rfl, hfz, hnd⟩ := hW
  have hA : DataW.TrodAll enc Try.prog W 0 (fun _ => true) true Try.f6.params.toList args.toList ds p := hA0
  rw [Try.params6] at hA hval
  obtain ⟨v0, vs0, d0, ds0, p0, q0, hargs, rfl, rfl, h0, r0⟩ := trodAll_cons hA
  obtain ⟨v1, vs1, d1, ds1, p1, q1, rfl, rfl, rfl, h1, r1⟩ := trodAll_cons r0
  obtain ⟨v2, vs2, d2, ds2, p2, q2, rfl, rfl, rfl, h2, r2⟩ := trodAll_cons r1
  obtain ⟨rfl, rfl, rfl⟩ := trodAll_nil r2
  obtain rfl : args = #[v0, v1, v2] := by cases args; simp_all
  obtain ⟨rfl, rfl⟩ := trodVars_none hV
  obtain ⟨a0, len0, cap0, rfl⟩ := okWide_slice Try.underlying22 (hval 0 22 v0 rfl rfl)
  have lt0 : ∀ x ∈ p0, x.block < W.heap.size := by obtain ⟨m, hm⟩ := h0; exact DataW.trod_lt m _ _ _ hm
  obtain ⟨l0, rfl, hc0, w0, vc0⟩ := open_vers h0
  obtain ⟨a1, len1, cap1, rfl⟩ := okWide_slice Try.underlying36 (hval 1 36 v1 rfl rfl)
  have lt1 : ∀ x ∈ p1, x.block < W.heap.size := by obtain ⟨m, hm⟩ := h1; exact DataW.trod_lt m _ _ _ hm
  obtain ⟨l1, rfl, hc1, w1⟩ := open_dots h1
  obtain ⟨s2, rfl, rfl, rfl, w2⟩ := open_strA (hval 2 9 v2 rfl rfl) h2
  clear hA0 hval0
  refine (RecordBack_any a0 cap0 l0 a1 cap1 l1 s2 W w0 w1 (by have := w2; unfold maxLen at this; omega)).mono fun e W' ⟨he, bel⟩ => ?_
  subst he
  exact ⟨_, rfl, _, _, _, [], _, [], hW', trodAll_mk1 (shut_bool Try.underlying4 _), (trodAll_cons_mk (Below.trod laidOut (by kernel_rfl) (of_decide_eq_true (by kernel_rfl)) h0 bel lt0) (trodAll_cons_mk (Below.trod laidOut (by kernel_rfl) (of_decide_eq_true (by kernel_rfl)) h1 bel lt1) (trodAll_cons_mk (shut_strA w2) trodAll_mk0))), rfl, bel.frame _, fun h => by cases h⟩

set_option maxHeartbeats 4000000 in
theorem recordBack_k9 : (Rows.recordBackRow.inPlace == Try.pinned.checked.prog.inPlace 6) = true := by kernel_rfl
set_option maxHeartbeats 4000000 in
theorem recordBack_k10 : (Rows.recordBackRow.unfollowed == Try.pinned.checked.prog.unfollowed 6) = true := by kernel_rfl
set_option maxHeartbeats 4000000 in
theorem recordBack_k11 : (Rows.recordBackRow.recurses == Try.pinned.checked.prog.recurses 6) = true := by kernel_rfl
set_option maxHeartbeats 4000000 in
theorem recordBack_k12 : (Rows.recordBackRow.named == Try.pinned.checked.prog.varsNamed 6) = true := by kernel_rfl
set_option maxHeartbeats 4000000 in
set_option maxRecDepth 100000 in
theorem recordBack_closed : joinedFacts Try.pinned.checked.prog 6 Try.f6 Rows.recordBackSpec Rows.recordBackRow = true := by
  unfold joinedFacts
  refine jband (jband (jband (jband (jband (jband (jband (jband (jband (jband (jband (jband (jband (jband (jband (jband (jband (jband (jband (jband (jband (jband (jband (jband (jband (jband (jband (jband (jband (jband (jband ?_ jP1) jP2) ?_) ?_) ?_) ?_) ?_) ?_) recordBack_k9) recordBack_k10) recordBack_k11) recordBack_k12) ?_) ?_) ?_) ?_) ?_) ?_) ?_) ?_) ?_) jP22) ?_) jP24) jP25) jP26) jP27) ?_) ?_) ?_) ?_
  all_goals kernel_rfl

theorem recordBack_over : Rows.recordBackRow.holds Try.pinned (OpenSpec.ofChange Rows.recordBackSpec) :=
  OpenClaim.holds_of_wide 6 Try.f6 rfl rfl rfl rfl rfl rfl rfl ⟨rfl, rfl, rfl, rfl, rfl⟩ rfl rfl rfl rfl rfl (by kernel_rfl) Try.func6 recordBack_closed
    (of_decide_eq_true (by kernel_rfl)) (by unfold Func.isWrapper; first | (rw [if_pos (by decide +kernel)]; kernel_rfl) | (rw [if_neg (by decide +kernel)]; exact ⟨rfl, rfl⟩))
    (fun os started H enc _ => recordBack_lifted os started H enc)

theorem recordBack_proved : Rows.RecordBackSaid := recordBack_over
#print axioms recordBack_proved
end Go.Proofs.Ytfobnemocodomaa
