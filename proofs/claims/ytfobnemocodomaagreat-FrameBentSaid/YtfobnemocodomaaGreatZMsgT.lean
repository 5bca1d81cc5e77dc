/- The bytes of a message: the document's; MessageWrites. -/
import Derived.Test.YtfobnemocodomaaGreatZMsgS
import Derived.Test.YtfobnemocodomaaGreatZMsgP
import Derived.Test.YtfobnemocodomaaGreatZRwB
set_option linter.unusedVariables false
set_option linter.unusedSimpArgs false
set_option maxHeartbeats 4000000
namespace Go.Proofs.YtfobnemocodomaaGreat
open Go.RowKit Go.Shelf Go.Great

theorem wput_err (is : Bool) (t : List UInt8) {s : List UInt8 × Int} (h : s.2 ≠ 0) : wput is t s = s := by unfold wput; rw [if_pos h]
theorem vput_err (l : List Dot) {s : List UInt8 × Int} (h : s.2 ≠ 0) : vput l s = s := by
  unfold vput
  split
  · unfold wfail; rw [if_pos h]
  · rw [wnum_err _ _ h, vnum_err _ _ h]
theorem rowsP_err (l : List DRow) {s : List UInt8 × Int} (h : s.2 ≠ 0) : rowsP l s = s := by
  induction l with
  | nil => rfl
  | cons d r ih =>
    show rowsP r (vput d.l s) = s
    rw [vput_err _ h, ih]
theorem bodyP_err (x : Mx) {s : List UInt8 × Int} (h : s.2 ≠ 0) : bodyP x s = s := by
  unfold bodyP wtxt
  simp only [wput_err _ _ h, vput_err _ h, wnum_err _ _ h, rowsP_err _ h, ite_self]
theorem numsW_err (l : List Int) {s : List UInt8 × Int} (h : s.2 ≠ 0) : numsW l s = s := by
  induction l with
  | nil => rfl
  | cons d r ih =>
    show numsW r (wnum d s) = s
    rw [wnum_err _ _ h, ih]
/-- what the document puts, whatever is wrong -/
def mPut2 (x : Mx) : List UInt8 × Int := bodyP x (wnum x.Sd (wnum x.To (wnum x.F (wnum x.K (wfail (mChk x) ([], 0))))))
theorem mPut2_done (x : Mx) : doneV (mPut2 x) = mBytes x := by
  have hw : wfail (mChk x) ([], 0) = ([], mChk x) := rfl
  have hn : ∀ s, wnum x.Sd (wnum x.To (wnum x.F (wnum x.K s))) = numsW (mNums x) s := fun _ => rfl
  unfold mPut2 mBytes mPut
  rw [hw, hn]
  by_cases h : mChk x = 0
  · rw [if_neg (by simpa using h), h]
  · rw [if_pos h, numsW_err _ (by simpa using h), bodyP_err _ (by simpa using h)]
    unfold doneV
    rw [if_pos (by simpa using h)]
end Go.Proofs.YtfobnemocodomaaGreat
