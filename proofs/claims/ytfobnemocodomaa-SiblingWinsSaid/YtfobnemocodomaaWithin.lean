/- vec.Within and Compare. -/
import Derived.Test.YtfobnemocodomaaMade
set_option linter.unusedVariables false
set_option linter.unusedSimpArgs false
set_option maxHeartbeats 400000
namespace Go.Proofs.Ytfobnemocodomaa
open Go.RowKit Go.Shelf
attribute [local go_sem] Oper.semAt_some

def leB (l : List (Int × Int × Int)) : Bool := l.all fun x => decide (x.2.1 ≤ x.2.2)
theorem leB_snoc (l : List (Int × Int × Int)) (p x y : Int) : leB (l ++ [(p, x, y)]) = (leB l && decide (x ≤ y)) := by simp [leB]
theorem leB_pre {l m : List (Int × Int × Int)} (h : l <+: m) (hl : leB l = false) : leB m = false := by
  obtain ⟨t, rfl⟩ := h
  simp only [leB, List.all_append] at hl ⊢
  simp [hl]
def withinB (a b : List Dot) : Bool := decide (chk a = 0) && decide (chk b = 0) && leB (mrg a b)

def cmpI (a b : List Dot) : Int := if withinB a b = true then (if withinB b a = true then 0 else 1) else (if withinB b a = true then 2 else 3)
end Go.Proofs.Ytfobnemocodomaa
