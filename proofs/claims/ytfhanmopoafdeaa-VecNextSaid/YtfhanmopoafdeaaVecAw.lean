/- awake: chapter 5's example holds. -/
import Derived.Test.YtfhanmopoafdeaaVecP
set_option linter.unusedVariables false
set_option linter.unusedSimpArgs false
set_option maxHeartbeats 400000
namespace Go.Proofs.Ytfhanmopoafdeaa
open Go.RowKit
attribute [local go_sem high] eqDot

theorem Dots.twoNew {w : World} (p c q d : Int) (t : TypeId) : Dots (w.alloc (.cells #[.int .i64 p, .int .i64 c, .int .i64 q, .int .i64 d] t)) (some ⟨w.heap.size, 0, none⟩) [(p, c), (q, d)] := by
  refine ⟨by simp, fun i hi => ?_⟩
  have : i = 0 ∨ i = 1 := by simp at hi; omega
  rcases this with rfl | rfl
  · exact ⟨_, rfl, by simp [Addr.add], by simp [Addr.add]⟩
  · exact ⟨_, rfl, by simp [Addr.add], by simp [Addr.add]⟩

def exA : List Dot := [(0, 2), (3, 1)]
def exB : List Dot := [(0, 1), (5, 4)]
theorem ex_mrg : mrg exA exB = [(0, 2, 1), (3, 1, 0), (5, 0, 4)] := by simp [exA, exB, mrg]
theorem ex_chk : chk exA = 0 ∧ chk exB = 0 := by decide
theorem ex_join : joinL exA exB = [(0, 2), (3, 1), (5, 4)] := by unfold joinL; rw [if_pos ex_chk, ex_mrg]; decide
theorem ex_meet : meetL exA exB = [(0, 1)] := by unfold meetL; rw [if_pos ex_chk, ex_mrg]; decide
theorem ex_cmp : cmpI exA exB = 3 := by
  have h1 : withinB exA exB = false := by unfold withinB; rw [ex_mrg]; decide
  have h2 : withinB exB exA = false := by
    have : mrg exB exA = [(0, 1, 2), (3, 0, 1), (5, 4, 0)] := by simp [exA, exB, mrg]
    unfold withinB; rw [this]; decide
  simp [cmpI, h1, h2]

set_option maxRecDepth 100000 in
theorem awake_any (w : World) : Calls Try.prog 11 #[] w fun e w' => e = .returned (.bool true) ∧ Gr w w' := by
  have hu31 := Try.underlying31
  have hA := Dots.twoNew (w := w) 0 2 3 1 31
  have hB := Dots.twoNew (w := w.alloc (.cells #[.int .i64 0, .int .i64 2, .int .i64 3, .int .i64 1] 31)) 0 1 5 4 31
  rw [World.size_alloc] at hB
  have HA := Lib.hid (show Dots _ _ exA from hA.gr ((Gr.rfl' _).al (.cells #[.int .i64 0, .int .i64 1, .int .i64 5, .int .i64 4] 31)))
  have HB := Lib.hid (show Dots _ _ exB from hB)
  clear hA hB
  have hg0 : Gr w ((w.alloc (.cells #[.int .i64 0, .int .i64 2, .int .i64 3, .int .i64 1] 31)).alloc (.cells #[.int .i64 0, .int .i64 1, .int .i64 5, .int .i64 4] 31)) := ((Gr.rfl' w).al _).al _
  go_enter Try.func11, Try.ntmps11
  go_wp2_with fail
  refine (Join_any _ _ 2 2 exA exB _ HA.out HB.out (by decide) (by decide)).mono ?_
  rintro e w1 ⟨v, rfl, ho, hg1⟩
  rw [ex_join] at ho
  obtain ⟨A, c, rfl, hc, hD⟩ := ho.dots
  clear ho
  obtain ⟨ad, rfl, hx, hy⟩ := hD.2 2 (by decide)
  simp only [List.getElem_cons_succ, List.getElem_cons_zero, Nat.reduceMul, List.length_cons, List.length_nil, Nat.reduceAdd] at hx hy hc ⊢
  clear hD
  go_wp2_with fail
  refine (Meet_any _ _ 2 2 exA exB _ (HA.out.gr hg1) (HB.out.gr hg1) (by decide) (by decide)).mono ?_
  rintro e w2 ⟨v, rfl, ho, hg2⟩
  rw [ex_meet] at ho
  obtain ⟨A2, c2, rfl, hc2, hD⟩ := ho.dots
  clear ho
  obtain ⟨ad2, rfl, hx2, hy2⟩ := hD.2 0 (by decide)
  simp only [List.getElem_cons_succ, List.getElem_cons_zero, Nat.reduceMul, Nat.zero_mul, Addr.add_zero', List.length_cons, List.length_nil, Nat.reduceAdd] at hx2 hy2 hc2 ⊢
  clear hD
  simp [Addr.add] at hx hy hx2 hy2
  replace hx := hg2.cell hx
  replace hy := hg2.cell hy
  have hgg := hg1.tr hg2
  go_wp2_with (go_at_call 22; refine (Compare_any _ _ 2 2 exA exB _ (HA.out.gr hgg) (HB.out.gr hgg) (by decide) (by decide)).mono ?_; rw [ex_cmp]; rintro e w3 ⟨rfl, hg3⟩)
  go_ret
  exact ⟨rfl, hg0.tr (hgg.tr hg3)⟩
end Go.Proofs.Ytfhanmopoafdeaa
