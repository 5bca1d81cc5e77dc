/- Size and Next, and the document's. -/
import Derived.Test.YtfobnemocodomaaVecP
set_option linter.unusedVariables false
set_option linter.unusedSimpArgs false
set_option maxHeartbeats 400000
namespace Go.Proofs.Ytfobnemocodomaa
open Go.RowKit

def sumL : List Dot → Int
  | [] => 0
  | d :: r => d.2 + sumL r
def sumG (l : List Dot) : Nat → Int
  | 0 => 0
  | k + 1 => sumG l k + getV l k
def sizeV (l : List Dot) : Int := if chk l = 0 then sumL l else 0
theorem sumL_snoc (l : List Dot) (d : Dot) : sumL (l ++ [d]) = sumL l + d.2 := by
  induction l with
  | nil => simp [sumL]
  | cons x l ih => simp only [List.cons_append, sumL, ih]; omega
theorem sumL_le : ∀ {l : List Dot}, (∀ d ∈ l, 1 ≤ d.2 ∧ d.2 ≤ 1048576) → 0 ≤ sumL l ∧ sumL l ≤ 1048576 * l.length
  | [], _ => by simp [sumL]
  | d :: r, h => by
    have h1 := h d (by simp)
    have h2 := sumL_le (l := r) fun x hx => h x (by simp [hx])
    simp only [sumL, List.length_cons]; omega
theorem getV_nonneg (l : List Dot) (q : Int) : 0 ≤ getV l q ∧ getV l q ≤ 1048576 := by
  rw [getV_eq]
  by_cases h : chk l = 0
  · rw [if_pos h]; exact cnt_nonneg ((chk_ok l).1 h) q
  · rw [if_neg h]; omega
theorem sumG_le (l : List Dot) : ∀ k : Nat, 0 ≤ sumG l k ∧ sumG l k ≤ 1048576 * k
  | 0 => by simp [sumG]
  | k + 1 => by have := sumG_le l k; have := getV_nonneg l k; simp only [sumG]; omega
theorem sumG_bad {l : List Dot} (h : chk l ≠ 0) : ∀ k, sumG l k = 0
  | 0 => rfl
  | k + 1 => by simp only [sumG, sumG_bad h k, getV_eq, if_neg h]; rfl
def sumC (l : List Dot) : Nat → Int
  | 0 => 0
  | k + 1 => sumC l k + cnt l k
theorem sumC_cons {x : Dot} {l : List Dot} (h : ∀ d ∈ l, x.1 < d.1) (h0 : 0 ≤ x.1) : ∀ k : Nat, sumC (x :: l) k = sumC l k + if x.1 < k then x.2 else 0
  | 0 => by rw [if_neg (by simp; exact h0)]; simp [sumC]
  | k + 1 => by
    have hcast : ((k + 1 : Nat) : Int) = k + 1 := rfl
    simp only [sumC, sumC_cons h h0 k, cnt_cons, hcast]
    by_cases e : x.1 = k
    · rw [if_pos e, if_neg (by omega), if_pos (by omega), cnt_gt (l := l) (fun d hd => by rw [← e]; exact h d hd)]
    · rw [if_neg e]
      by_cases c : x.1 < k
      · rw [if_pos c, if_pos (by omega)]; omega
      · rw [if_neg c, if_neg (by omega)]; omega
theorem sumC_eq : ∀ {l : List Dot}, Okv l → sumC l 64 = sumL l
  | [], _ => by decide
  | x :: l, h => by
    obtain ⟨h1, h2, h3⟩ := Okv.cons_iff.1 h
    rw [sumC_cons h2 h1.1, sumC_eq h3, if_pos (show x.1 < ((64 : Nat) : Int) from h1.2.1)]
    simp only [sumL]; omega
theorem sumG_sumC {l : List Dot} (h : chk l = 0) : ∀ k, sumG l k = sumC l k
  | 0 => rfl
  | k + 1 => by simp only [sumG, sumC, sumG_sumC h k, getV_eq, if_pos h]
theorem size_eq (l : List Dot) : sizeV l = sumG l 64 := by
  unfold sizeV
  by_cases h : chk l = 0
  · rw [if_pos h, sumG_sumC h, sumC_eq ((chk_ok l).1 h)]
  · rw [if_neg h, sumG_bad h]

/-- the dot that comes next: its peer, its count, the error -/
def nextV (l : List Dot) (p : Int) : Int × Int × Int :=
  if chk l ≠ 0 then (0, 0, chk l) else if p < 0 ∨ 64 ≤ p then (0, 0, 11) else if cnt l p = 1048576 then (0, 0, 12) else (p, cnt l p + 1, 0)
theorem box2 {W : World} {b : Nat} {x y : Value} {t : TypeId} (h : W.heap[b]? = some (.cells #[x, y] t (0, 0))) :
    W.cell? ⟨b, 0, none⟩ = some x ∧ W.cell? ⟨b, 1, none⟩ = some y ∧ W.frozen? ⟨b, 0, none⟩ = false ∧ W.frozen? ⟨b, 1, none⟩ = false :=
  ⟨by simp [World.cell?, h], by simp [World.cell?, h], by simp [World.frozen?, h], by simp [World.frozen?, h]⟩
theorem box2_gr {W W' : World} {b : Nat} {x y : Value} {t : TypeId} (g : Gr W W') (h : W.heap[b]? = some (.cells #[x, y] t (0, 0))) : W'.heap[b]? = some (.cells #[x, y] t (0, 0)) := by
  have hb : b < W.heap.size := by
    rcases Nat.lt_or_ge b W.heap.size with c | c
    · exact c
    · rw [Array.getElem?_eq_none c] at h; cases h
  rw [g.block b hb]; exact h
theorem box2_set {W : World} {b : Nat} {x y : Value} {t : TypeId} (h : W.heap[b]? = some (.cells #[x, y] t (0, 0))) (u v : Value) : ((W.setCell ⟨b, 0, none⟩ u).setCell ⟨b, 1, none⟩ v).cell? ⟨b, 0, none⟩ = some u ∧ ((W.setCell ⟨b, 0, none⟩ u).setCell ⟨b, 1, none⟩ v).cell? ⟨b, 1, none⟩ = some v := by
  have h1 := heap_set_same h (o := 0) u
  have h2 := heap_set_same h1 (o := 1) v
  constructor
  · simp [World.cell?, h2]
  · simp [World.cell?, h2]
def nextE (l : List Dot) (q : Int) : Ending := .returned (.tuple #[.agg #[.int .i64 (nextV l q).1, .int .i64 (nextV l q).2.1], .int .i64 (nextV l q).2.2])
theorem nextE_of {l : List Dot} {q a b c : Int} (h : nextV l q = (a, b, c)) : nextE l q = .returned (.tuple #[.agg #[.int .i64 a, .int .i64 b], .int .i64 c]) := by unfold nextE; rw [h]

theorem dotChk_next {l : List Dot} {q : Int} (h : chk l = 0) : dotChk q (getV l q + 1) = (nextV l q).2.2 ∧ ((nextV l q).2.2 = 0 → nextV l q = (q, getV l q + 1, 0)) ∧ ((nextV l q).2.2 ≠ 0 → nextV l q = (0, 0, (nextV l q).2.2)) := by
  unfold nextV
  rw [if_neg (by simpa using h), getV_eq, if_pos h]
  have hc := cnt_nonneg ((chk_ok l).1 h) q
  unfold dotChk
  by_cases h1 : q < 0 ∨ 64 ≤ q
  · rw [if_pos h1, if_pos h1]; simp
  · rw [if_neg h1, if_neg h1]
    by_cases h2 : cnt l q = 1048576
    · rw [if_pos h2, if_pos (by omega)]; simp
    · rw [if_neg h2, if_neg (by omega)]; simp

end Go.Proofs.Ytfobnemocodomaa
