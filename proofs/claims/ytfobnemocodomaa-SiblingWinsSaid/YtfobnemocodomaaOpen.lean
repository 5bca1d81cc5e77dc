/- What an argument reads as: dots, a dot, an integer. -/
import Derived.Test.YtfobnemocodomaaRows
import Derived.Test.YtfobnemocodomaaBase
import Derived.ProofKit
import Derived.OpenShut
import Derived.ShutString
import Derived.ChangeOld
import Derived.Below
import Derived.Deep.SlicePairs
import Derived.Lib.SmallJoins
set_option linter.unusedVariables false
set_option linter.unusedSimpArgs false
namespace Go.Proofs.Ytfobnemocodomaa
open Go.ChangeShapes Go.WideShapes Go.ChangeAt Go.RowKit Go.Deep Go.Joins

theorem own : ownKnob Try.prog.godebug = none := by kernel_rfl
theorem laidOut : laidOutB Try.prog = true := by kernel_rfl

theorem open_dots {H : Type} {enc : TypeId × Value → H} {W : World} {A : Option Addr} {n c : Nat} {d : DataW H} {p : List MemPlace} (h : DataW.Trod enc Try.prog W 0 (fun _ => true) true 36 (.slice A n c) d p) :
    ∃ l : List Dot, n = l.length ∧ l.length ≤ c ∧ Dots W A l := by
  obtain ⟨fuel, hf⟩ := h
  rcases open_slice_pairs (f0 := _) (f1 := _) Try.underlying36 Try.underlying47 (by kernel_rfl) rfl rfl (by kernel_rfl) (by kernel_rfl) hf with ⟨hcs, _⟩ | ⟨a, len, cap, m, k, V0, V1, D0, D1, P0, P1, hcs, _, hl, hm, hmm, _, hx⟩
  · simp [Value.cells] at hcs
    obtain ⟨rfl, rfl, rfl⟩ := hcs
    exact ⟨[], rfl, by simp, Dots.nil _ _⟩
  · simp [Value.cells] at hcs
    obtain ⟨rfl, rfl, rfl⟩ := hcs
    have hmc : m = c := by simpa using hmm
    subst hmc
    have hv : ∀ i, i < m → V0 i = .int .i64 (intOf (V0 i)) ∧ V1 i = .int .i64 (intOf (V1 i)) := by
      intro i hi
      obtain ⟨_, _, h3, h4⟩ := hx i hi
      obtain ⟨n0, e0, _⟩ := DataW.trod_int Try.underlying3 h3
      obtain ⟨n1, e1, _⟩ := DataW.trod_int Try.underlying3 h4
      simp only [List.cons.injEq, and_true] at e0 e1
      rw [e0, e1]
      exact ⟨rfl, rfl⟩
    refine ⟨(List.range n).map fun i => (intOf (V0 i), intOf (V1 i)), by simp, by simpa using hl, by simp only [List.length_map, List.length_range, maxLen] at *; omega, fun i hi => ?_⟩
    have hin : i < n := by simpa using hi
    obtain ⟨h1, h2, _, _⟩ := hx i (by omega)
    obtain ⟨e1, e2⟩ := hv i (by omega)
    refine ⟨a, rfl, ?_, ?_⟩
    · rw [h1, e1]; simp [intOf]
    · have : (⟨(a.add (i * 2)).block, (a.add (i * 2)).off + 1, none⟩ : Addr) = a.add (i * 2 + 1) := by
        unfold Addr.add
        by_cases h0 : i * 2 = 0
        · rw [if_pos h0, if_neg (by omega), h0]
        · rw [if_neg h0, if_neg (by omega)]; rfl
      rw [this, h2, e2]; simp [intOf]

set_option maxRecDepth 100000 in
theorem open_dot {H : Type} {enc : TypeId × Value → H} {W : World} {b0 : Nat} {r : Reach} {v : Value} {d : DataW H} {p : List MemPlace} (hv : Value.okWide Try.prog W r b0 47 v) (h : DataW.Trod enc Try.prog W 0 (fun _ => true) true 47 v d p) :
    ∃ x y : Int, v = .agg #[.int .i64 x, .int .i64 y] ∧ (Lit.int .i64 x).wf = true ∧ (Lit.int .i64 y).wf = true := by
  obtain ⟨v0, v1, y0, y1, k, rfl, _, _, h0, h1⟩ := open_agg2 Try.underlying47 (by kernel_rfl) (by kernel_rfl) hv h
  obtain ⟨n0, e0, _, w0⟩ := DataW.trod_int Try.underlying3 h0
  obtain ⟨n1, e1, _, w1⟩ := DataW.trod_int Try.underlying3 h1
  simp only [List.cons.injEq, and_true] at e0 e1
  rw [e0, e1]
  exact ⟨_, _, rfl, w0, w1⟩
end Go.Proofs.Ytfobnemocodomaa
