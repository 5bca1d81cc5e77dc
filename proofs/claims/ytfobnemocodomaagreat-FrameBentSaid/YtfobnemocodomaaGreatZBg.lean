/- vec.pairs: the two lists merged, told piece by piece. -/
import Derived.Test.YtfobnemocodomaaGreatZBa
import Derived.Test.YtfobnemocodomaaGreatZBb
import Derived.BigRegion
import Derived.Deep.CutRange
set_option linter.unusedVariables false
set_option linter.unusedSimpArgs false
set_option maxHeartbeats 400000
namespace Go.Proofs.YtfobnemocodomaaGreat
open Go.RowKit

def mrg : List Dot → List Dot → List (Int × Int × Int)
  | [], b => b.map fun d => (d.1, 0, d.2)
  | x :: a, [] => (x.1, x.2, 0) :: mrg a []
  | x :: a, y :: b => if x.1 < y.1 then (x.1, x.2, 0) :: mrg a (y :: b) else if y.1 < x.1 then (y.1, 0, y.2) :: mrg (x :: a) b else (x.1, x.2, y.2) :: mrg a b
termination_by a b => a.length + b.length

theorem Dots.tail {w : World} {ad : Addr} {c : Nat} {d : Dot} {r : List Dot} (h : Dots w (some ad) (d :: r)) (hc : (d :: r).length ≤ c) : Dots w (some (if c = 1 then ad else ad.add 2)) r := by
  refine ⟨by have := h.1; simp at this; omega, fun i hi => ?_⟩
  obtain ⟨ad', e, a, b⟩ := h.2 (i + 1) (by simpa using hi)
  cases e
  have hc1 : c ≠ 1 := by simp at hc; omega
  rw [if_neg hc1]
  have hadd : (ad.add 2).add (i * 2) = ad.add ((i + 1) * 2) := by
    unfold Addr.add
    by_cases h0 : i = 0
    · subst h0; simp
    · rw [if_neg (by omega), if_neg (by omega), if_neg (by omega)]
      simp only [Addr.mk.injEq, true_and, and_true]
      omega
  exact ⟨_, rfl, by rw [hadd]; simpa using a, by rw [hadd]; simpa using b⟩

def encP (x : Int × Int × Int) : Array Value := #[.int .i64 x.1, .agg #[.int .i64 x.2.1, .int .i64 x.2.2]]

structure PSt (w0 : World) (ba bb : Nat) (a b : List Dot) (W : World) : Prop where
  A1 : ∃ A1 c1, Boxed W ba 34 (.slice A1 a.length c1) ∧ a.length ≤ c1 ∧ Dots w0 A1 a
  A2 : ∃ A2 c2, Boxed W bb 34 (.slice A2 b.length c2) ∧ b.length ≤ c2 ∧ Dots w0 A2 b
  gr : Gr w0 W

theorem heap_set_same {W : World} {b o : Nat} {cs : Array Value} {t : TypeId} {fr : Nat × Nat} (h : W.heap[b]? = some (.cells cs t fr)) (u : Value) : (W.setCell ⟨b, o, none⟩ u).heap[b]? = some (.cells (cs.setIfInBounds o u) t fr) := by
  simp [World.setCell, Array.getElem?_modify, h]
theorem heap_set_other {W : World} {b k o : Nat} (h : k ≠ b) (u : Value) : (W.setCell ⟨b, o, none⟩ u).heap[k]? = W.heap[k]? := Below.heap_setCell _ _ _ _ h

theorem cut_addr (c : Nat) (ad : Addr) : (if c = 1 then some ad else some ⟨ad.block, ad.off + 2, none⟩) = some (if c = 1 then ad else ad.add 2) := by
  by_cases h : c = 1
  · simp [h]
  · simp [h, Addr.add]

theorem PSt.kp {w0 : World} {ba bb : Nat} {a b : List Dot} {W W' : World} (h : PSt w0 ba bb a b W) (k : Kp (fun k => k = ba ∨ k = bb) w0.heap.size W W') : PSt w0 ba bb a b W' := by
  obtain ⟨⟨A1, c1, h1, h2, h3⟩, ⟨A2, c2, h4, h5, h6⟩, hg⟩ := h
  exact ⟨⟨A1, c1, k.boxed h1 (.inr (.inl rfl)), h2, h3⟩, ⟨A2, c2, k.boxed h4 (.inr (.inr rfl)), h5, h6⟩, k.below hg (Nat.le_refl _)⟩
end Go.Proofs.YtfobnemocodomaaGreat
