/- What an argument reads as: a node, versions, a version. -/
import Derived.Test.YtfobnemocodomaaOpen
import Derived.Test.YtfobnemocodomaaOpenW
set_option linter.unusedVariables false
set_option linter.unusedSimpArgs false
namespace Go.Proofs.Ytfobnemocodomaa
open Go.ChangeShapes Go.WideShapes Go.ChangeAt Go.RowKit Go.Deep Go.Joins

set_option maxRecDepth 100000 in
theorem open_node {H : Type} {enc : TypeId × Value → H} {W : World} {b0 : Nat} {r : Reach} {v : Value} {d : DataW H} {p : List MemPlace} (hv : Value.okWide Try.prog W r b0 31 v) (h : DataW.Trod enc Try.prog W 0 (fun _ => true) true 31 v d p) :
    ∃ (A B : Option Addr) (l : List Vx) (k : List Kx) (c d : Nat), v = .agg #[.slice A l.length c, .slice B k.length d] ∧ Vers W A l ∧ Kids W B k := by
  obtain ⟨cs, rfl, hsz⟩ := okWide_struct Try.underlying31 hv
  obtain ⟨fuel, hf⟩ := h
  obtain ⟨A, B, l, k, c, d, e, hl, hk⟩ := open_nodeL hf (fun _ _ _ h => open_kidsL h)
  have he : cs.toList = [.slice A l.length c, .slice B k.length d] := by simpa [Value.cells] using e
  refine ⟨A, B, l, k, c, d, ?_, hl, hk⟩
  have : cs = #[.slice A l.length c, .slice B k.length d] := Array.ext' (by simpa using he)
  rw [this]
end Go.Proofs.Ytfobnemocodomaa
