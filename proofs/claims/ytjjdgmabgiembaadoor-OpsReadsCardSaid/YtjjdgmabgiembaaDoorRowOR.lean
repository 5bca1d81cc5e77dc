/- hearsaylaw34.OpsReads: the row. -/
import Derived.Test.YtjjdgmabgiembaaDoorTie
import Derived.Test.YtjjdgmabgiembaaDoorCards
import Derived.Test.YtjjdgmabgiembaaDoorOpenO
import Derived.Test.YtjjdgmabgiembaaDoorOpsV
set_option linter.unusedVariables false
namespace Go.Proofs.YtjjdgmabgiembaaDoor
open Go.ChangeShapes Go.WideShapes Go.ChangeAt Go.RowKit Go.Deep Go.Joins

theorem open_str {H : Type} {enc : TypeId × Value → H} {W : World} {b0 : Nat} {r : Reach} {v : Value} {d : DataW H} {p : List MemPlace} (hv : Value.okWide Tryd.prog W r b0 9 v) (h : DataW.Trod enc Tryd.prog W 0 (fun _ => true) true 9 v d p) :
    ∃ s : ByteArray, v = .string s ∧ d = .lit (.string s.data.toList) ∧ p = [] ∧ s.size ≤ maxLen := by
  obtain ⟨fuel, hf⟩ := h
  obtain ⟨s, hc, hx, hs⟩ := DataW.trod_string Tryd.underlying9 hf
  simp only [Prod.mk.injEq] at hx
  refine ⟨s, ?_, hx.1, hx.2, hs⟩
  cases v <;> simp_all [Value.cells, Value.okWide, Tryd.underlying9, Cell.okWide, Cell.ok]
theorem shut_str {H : Type} {enc : TypeId × Value → H} {W : World} {sp : Nat → Bool} {s : ByteArray} (h : s.size ≤ maxLen) : DataW.Trod enc Tryd.prog W 0 sp true 9 (.string s) (.lit (.string s.data.toList)) [] := ⟨1, by simp [DataW.trod, Value.cells, Tryd.underlying9, h]⟩

set_option maxRecDepth 100000 in
theorem opsReads_lifted (os : Os) (started : os.Started) (H : Type) (enc : TypeId × Value → H) :
    ReturnsInHanded {} Tryd.checked os 5 .any (fun w args => (Rows.opsReadsSpec.pre enc Tryd.prog Tryd.f5 [] false w args ∧ laidMetH Tryd.prog [("hearsay/ops.fields", Rows.laid_hearsay_ops_fields)] w) ∧ sizedMet enc Tryd.prog Tryd.f5 (OpenSpec.ofChange Rows.opsReadsSpec) false w args)
      (Rows.opsReadsSpec.post enc Tryd.prog Tryd.f5 false true false false) := by
  refine returnsInHanded_of_change_and (C := Tryd.checked) (X := fun w _ => laidMetH Tryd.prog [("hearsay/ops.fields", Rows.laid_hearsay_ops_fields)] w) (fun _ _ _ hh h => h.of_heap hh) own started (by kernel_rfl) Tryd.func5
    (ChangeSpec.witness_shaped (enc := enc) (C := Tryd.checked) (os := os) (X := fun w _ => laidMetH Tryd.prog [("hearsay/ops.fields", Rows.laid_hearsay_ops_fields)] w) false (World.laidAll Tryd.prog os [("hearsay/ops.fields", Rows.laid_hearsay_ops_fields)]) #[.string ⟨#[]⟩] 8 (World.laidAll_os _ _ _)
      (World.shaped_of_ZipB (by kernel_rfl) (by kernel_rfl)) (by kernel_rfl) (by kernel_rfl) (by kernel_rfl)
      (by rw [MakeChecks.laidMetH_plain _ _ _ (by kernel_rfl)]; exact laidMet_laidAll _ (by kernel_rfl) (by kernel_rfl))) ?_
  intro W base args ds gs before hval0 hW _ _ hL _
  have hval : ∀ (j : Nat) t v, Tryd.f5.params[j]? = some t → args[j]? = some v → Value.okWide Tryd.prog W .any base t v := hval0
  have hW' := hW
  obtain ⟨p, q, hA0, hV, rfl, hfz, hnd⟩ := hW
  have hA : DataW.TrodAll enc Tryd.prog W 0 (fun _ => true) true Tryd.f5.params.toList args.toList ds p := hA0
  rw [Tryd.params5] at hA hval
  obtain ⟨v0, vs0, d0, ds0, p0, q0, hargs, rfl, rfl, h0, r0⟩ := trodAll_cons hA
  obtain ⟨rfl, rfl, rfl⟩ := trodAll_nil r0
  obtain rfl : args = #[v0] := by cases args; simp_all
  obtain ⟨rfl, rfl⟩ := trodVars_none hV
  obtain ⟨s0, rfl, rfl, rfl, w0⟩ := open_str (hval 0 9 v0 rfl rfl) h0
  have hF := of_laid hL
  clear hA0 hval0
  refine (OpsReads_any s0 W hF (by have := w0; unfold maxLen at this; exact this)).mono fun e W' ⟨he, bel⟩ => ?_
  subst he
  exact ⟨_, rfl, _, _, _, [], _, [], hW', trodAll_mk1 (shut_bool Tryd.underlying4 _), (trodAll_cons_mk (shut_str w0) trodAll_mk0), rfl, bel.frame _, fun h => by cases h⟩

theorem opsReads_over : Rows.opsReadsRow.holds Tryd.pinned (OpenSpec.ofChange Rows.opsReadsSpec) :=
  OpenClaim.holds_of_wide 5 Tryd.f5 rfl rfl rfl rfl rfl rfl rfl ⟨rfl, rfl, rfl, rfl, rfl⟩ rfl rfl rfl rfl rfl (by kernel_rfl) Tryd.func5 (by kernel_rfl)
    (of_decide_eq_true (by kernel_rfl)) (by unfold Func.isWrapper; first | (rw [if_pos (by decide +kernel)]; kernel_rfl) | (rw [if_neg (by decide +kernel)]; exact ⟨rfl, rfl⟩))
    (fun os started H enc _ => opsReads_lifted os started H enc)

set_option maxRecDepth 100000 in
theorem opsReads_proved : Rows.OpsReadsCardSaid :=
  Claim7.holds_tied_plain_at .later [] [.data] true (true, "96d5e711f85bf6a817fe2b9e2ce33cad749ba484d126eedc18db8d18f90d7347") false opsReads_over (fun _ h => by cases h) (by kernel_rfl) (fun _ h => by cases h) opsReads_row_tie rfl ⟨rfl, rfl⟩ (by kernel_rfl) rfl
    (fun f fn hf hfn => by
      obtain rfl : f = 5 := Option.some.inj ((show Tryd.prog.funcNamed "hearsay/hearsaylaw34.OpsReads" = some 5 by kernel_rfl).symm.trans hf) |>.symm
      obtain rfl : fn = Tryd.f5 := (Option.some.inj (Tryd.func5.symm.trans hfn)).symm
      exact ⟨by kernel_rfl, fun j t ht => by
        rw [Tryd.params5] at ht
        have hm : t ∈ [9] := by simpa using Array.mem_of_getElem? ht
        have hall : ([9].all fun u => !Tryd.prog.wantsStandIn u) = true := by kernel_rfl
        exact (show Tryd.prog.wantsStandIn t = false by simpa using List.all_eq_true.1 hall t hm)⟩)
    (by kernel_rfl)
#print axioms opsReads_proved
end Go.Proofs.YtjjdgmabgiembaaDoor
