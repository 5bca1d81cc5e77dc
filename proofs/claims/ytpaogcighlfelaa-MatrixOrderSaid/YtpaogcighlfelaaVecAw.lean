/- awake: chapter 5's example holds. -/
import Derived.Test.YtpaogcighlfelaaVecP
set_option linter.unusedVariables false
set_option linter.unusedSimpArgs false
set_option maxHeartbeats 400000
namespace Go.Proofs.Ytpaogcighlfelaa
open Go.RowKit
attribute [local go_sem high] eqDot

theorem Dots.twoNew {w : World} (p c q d : Int) (t : TypeId) : Dots (w.alloc (.cells #[.int .i64 p, .int .i64 c, .int .i64 q, .int .i64 d] t)) (some ⟨w.heap.size, 0, none⟩) [(p, c), (q, d)] := by
  refine ⟨by simp, fun i hi => ?_⟩
  have : i = 0 ∨ i = 1 := by simp at hi; omega
  rcases this with rfl | rfl
  · exact ⟨_, rfl, by simp [Addr.add], by simp [Addr.add]⟩
  · exact ⟨_, rfl, by simp [Addr.add], by simp [Addr.add]⟩

def exA : List Dot := [(0, 2), (3, 1)]
def exB : List Dot := [(0, 1), (5, 4)]
theorem ex_mrg : mrg exA exB = [(0, 2, 1), (3, 1, 0), (5, 0, 4)] := by simp [exA, exB, mrg]
theorem ex_chk : chk exA = 0 ∧ chk exB = 0 := by decide
theorem ex_join : joinL exA exB = [(0, 2), (3, 1), (5, 4)] := by unfold joinL; rw [if_pos ex_chk, ex_mrg]; decide
theorem ex_meet : meetL exA exB = [(0, 1)] := by unfold meetL; rw [if_pos ex_chk, ex_mrg]; decide
theorem ex_cmp : cmpI exA exB = 3 := by
  have h1 : withinB exA exB = false := by unfold withinB; rw [ex_mrg]; decide
  have h2 : withinB exB exA = false := by
    have : mrg exB exA = [(0, 1, 2), (3, 0, 1), (5, 4, 0)] := by simp [exA, exB, mrg]
    unfold withinB; rw [this]; decide
  simp [cmpI, h1, h2]

end Go.Proofs.Ytpaogcighlfelaa
