/- paths: Compare. -/
import Derived.Test.YtfobnemocodomaaGreatZQthB
import Derived.WalkMore
set_option linter.unusedVariables false
set_option linter.unusedSimpArgs false
set_option maxHeartbeats 4000000
namespace Go.Proofs.YtfobnemocodomaaGreat.Pt
open Go.RowKit
open Lib (compareBytes)

theorem cmp_end {ps qs : List (List UInt8)} (k : Nat) (h1 : k ≤ ps.length) (h2 : k ≤ qs.length) (h3 : ps.take k = qs.take k) (h : k = ps.length ∨ k = qs.length) :
    cmpV ps qs = max (-1) (min 1 ((ps.length : Int) - qs.length)) := by
  rw [cmpV_drop k ps qs h1 h2 h3, cmpV_nil]
  · simp only [List.length_drop]; omega
  · rcases h with h | h
    · left; rw [h]; simp
    · right; rw [h]; simp
theorem cmp_ne {ps qs : List (List UInt8)} (k : Nat) (h1 : k < ps.length) (h2 : k < qs.length) (h3 : ps.take k = qs.take k) (h : ps[k] ≠ qs[k]) :
    cmpV ps qs = compareBytes ps[k] qs[k] := by
  rw [cmpV_drop k ps qs (by omega) (by omega) h3, List.drop_eq_getElem_cons h1, List.drop_eq_getElem_cons h2, cmpV_head _ _ _ _ h]
theorem take_more {ps qs : List (List UInt8)} (k : Nat) (h1 : k < ps.length) (h2 : k < qs.length) (h3 : ps.take k = qs.take k) (h : ps[k] = qs[k]) : ps.take (k + 1) = qs.take (k + 1) := by
  rw [List.take_succ_eq_append_getElem h1, List.take_succ_eq_append_getElem h2, h3, h]
theorem pieces_pos (l : List UInt8) : 1 ≤ (pieces l).length := by
  have := pieces_ne l
  cases h : pieces l with
  | nil => exact absurd h this
  | cons _ _ => simp
end Go.Proofs.YtfobnemocodomaaGreat.Pt
