/- What an argument reads as: versions, a version. -/
import Derived.Test.YtfobnemocodomaaOpen
import Derived.Test.YtfobnemocodomaaOpenV
set_option linter.unusedVariables false
set_option linter.unusedSimpArgs false
namespace Go.Proofs.Ytfobnemocodomaa
open Go.ChangeShapes Go.WideShapes Go.ChangeAt Go.RowKit Go.Deep Go.Joins

set_option maxRecDepth 100000 in
theorem open_verv {H : Type} {enc : TypeId × Value → H} {W : World} {b0 : Nat} {r : Reach} {v : Value} {d : DataW H} {p : List MemPlace} (hv : Value.okWide Try.prog W r b0 49 v) (h : DataW.Trod enc Try.prog W 0 (fun _ => true) true 49 v d p) :
    ∃ x : Vx, v = .agg x.cells ∧ VxOk W x ∧ x.pl.length ≤ x.pc := by
  obtain ⟨cs, rfl, hsz⟩ := okWide_struct Try.underlying49 hv
  obtain ⟨fuel, hf⟩ := h
  obtain ⟨q, h1, h2, e⟩ := open_ver hf
  have he : cs.toList = q.cells.toList := by simpa [Value.cells] using e
  exact ⟨q, by rw [Array.ext' he], h1, h2⟩
set_option maxRecDepth 100000 in
theorem open_vers {H : Type} {enc : TypeId × Value → H} {W : World} {A : Option Addr} {n c : Nat} {d : DataW H} {p : List MemPlace} (h : DataW.Trod enc Try.prog W 0 (fun _ => true) true 22 (.slice A n c) d p) :
    ∃ l : List Vx, n = l.length ∧ l.length ≤ c ∧ Vers W A l ∧ ∀ x ∈ l, x.pl.length ≤ x.pc := by
  obtain ⟨fuel, hf⟩ := h
  obtain ⟨A', l, c', e, h1, h2, h3⟩ := open_versL hf
  have e' : [Value.slice A n c] = [.slice A' l.length c'] := by simpa [Value.cells] using e
  simp only [List.cons.injEq, Value.slice.injEq, and_true] at e'
  obtain ⟨rfl, rfl, rfl⟩ := e'
  exact ⟨l, rfl, h1, h2, h3⟩
set_option maxRecDepth 100000 in
theorem open_strA {H : Type} {enc : TypeId × Value → H} {W : World} {b0 : Nat} {r : Reach} {v : Value} {d : DataW H} {p : List MemPlace} (hv : Value.okWide Try.prog W r b0 9 v) (h : DataW.Trod enc Try.prog W 0 (fun _ => true) true 9 v d p) :
    ∃ s : ByteArray, v = .string s ∧ d = .lit (.string s.data.toList) ∧ p = [] ∧ s.size ≤ maxLen := by
  obtain ⟨fuel, hf⟩ := h
  obtain ⟨s, hc, hx, hs⟩ := DataW.trod_string Try.underlying9 hf
  simp only [Prod.mk.injEq] at hx
  refine ⟨s, ?_, hx.1, hx.2, hs⟩
  cases v <;> simp_all [Value.cells, Value.okWide, Try.underlying9, Cell.okWide, Cell.ok]
theorem shut_strA {H : Type} {enc : TypeId × Value → H} {W : World} {sp : Nat → Bool} {s : ByteArray} (h : s.size ≤ maxLen) : DataW.Trod enc Try.prog W 0 sp true 9 (.string s) (.lit (.string s.data.toList)) [] := ⟨1, by simp [DataW.trod, Value.cells, Try.underlying9, h]⟩
end Go.Proofs.Ytfobnemocodomaa
