/- Sorting in place: what it comes to, in lists. -/
import Derived.Test.YtfobnemocodomaaBase
import Derived.Sort.Lot0
set_option linter.unusedVariables false
set_option linter.unusedSimpArgs false
namespace Go.Proofs.Ytfobnemocodomaa
open Go.Sort

section
variable {α : Type}
theorem at_mid [Inhabited α] (x z : List α) (p : α) : (x ++ p :: z)[x.length]! = p := by
  simp [getElem!_def]
theorem at_mid2 [Inhabited α] (x y z : List α) (p q : α) : (x ++ p :: (y ++ q :: z))[x.length + 1 + y.length]! = q := by
  have e : x ++ p :: (y ++ q :: z) = (x ++ p :: y) ++ q :: z := by simp
  have h : (x ++ p :: y).length = x.length + 1 + y.length := by simp; omega
  rw [e, ← h, at_mid]
theorem set_mid (x z : List α) (p q : α) : (x ++ p :: z).set x.length q = x ++ q :: z := by
  rw [List.set_append_right _ _ (Nat.le_refl _)]; simp
theorem arr_at [Inhabited α] (l : List α) (i : Nat) : l.toArray[i]! = l[i]! := by simp [getElem!_def]
theorem swp_list [Inhabited α] (x y z : List α) (p q : α) : swp (x ++ p :: (y ++ q :: z)).toArray x.length (x.length + 1 + y.length) = (x ++ q :: (y ++ p :: z)).toArray := by
  unfold swp
  rw [arr_at, arr_at, at_mid, at_mid2]
  simp only [List.setIfInBounds_toArray]
  rw [set_mid]
  have e : x ++ q :: (y ++ q :: z) = (x ++ q :: y) ++ q :: z := by simp
  have h : (x ++ q :: y).length = x.length + 1 + y.length := by simp; omega
  rw [e, ← h, set_mid]; simp
theorem swp_list' [Inhabited α] (x y z : List α) (p q : α) : swp (x ++ p :: (y ++ q :: z)).toArray (x.length + 1 + y.length) x.length = (x ++ q :: (y ++ p :: z)).toArray := by
  unfold swp
  rw [arr_at, arr_at, at_mid, at_mid2]
  have e : x ++ p :: (y ++ q :: z) = (x ++ p :: y) ++ q :: z := by simp
  have h : (x ++ p :: y).length = x.length + 1 + y.length := by simp; omega
  simp only [List.setIfInBounds_toArray]
  rw [e, ← h, set_mid]
  rw [show x ++ p :: y ++ p :: z = x ++ p :: (y ++ p :: z) by simp, set_mid]
theorem at_seg [Inhabited α] (x u z : List α) (i : Nat) (h : i < u.length) : (x ++ (u ++ z))[x.length + i]! = u[i]! := by
  simp [getElem!_def, List.getElem?_append_right, List.getElem?_append_left, h]

variable (P C : α → Int)
/-- peers upwards, counts downwards -/
def ltk (x y : α) : Bool := decide (P x < P y ∨ (P x = P y ∧ C y < C x))
def Srt (l : List α) : Prop := l.Pairwise fun x y => ltk P C y x = false
def inK (a b : Int) (y : α) : Bool := decide (P y = a ∧ C y = b)
/-- the same, class by class -/
def Stb (r l : List α) : Prop := ∀ a b : Int, r.filter (inK P C a b) = l.filter (inK P C a b)
/-- sorted, and stable -/
structure Mrg (r l : List α) : Prop where
  len : r.length = l.length
  srt : Srt P C r
  stb : Stb P C r l
variable {P C}
theorem ltk_trans1 {x y z : α} (h : ltk P C y x = false) (k : ltk P C z y = false) : ltk P C z x = false := by
  unfold ltk at *; simp only [decide_eq_false_iff_not] at *; omega
theorem ltk_trans2 {x y z : α} (h : ltk P C x y = true) (k : ltk P C z y = false) : ltk P C x z = true := by
  unfold ltk at *; simp only [decide_eq_false_iff_not, decide_eq_true_eq] at *; omega
theorem ltk_trans3 {x y z : α} (h : ltk P C y x = false) (k : ltk P C y z = true) : ltk P C x z = true := by
  unfold ltk at *; simp only [decide_eq_false_iff_not, decide_eq_true_eq] at *; omega
theorem ltk_not {x y : α} (h : ltk P C x y = true) : ltk P C y x = false := by
  unfold ltk at *; simp only [decide_eq_false_iff_not, decide_eq_true_eq] at *; omega
theorem ltk_refl (x : α) : ltk P C x x = false := by unfold ltk; simp
theorem Stb.refl (l : List α) : Stb P C l l := fun _ _ => rfl
theorem Stb.trans {a b c : List α} (h : Stb P C a b) (k : Stb P C b c) : Stb P C a c := fun x y => (h x y).trans (k x y)
theorem Stb.symm {a b : List α} (h : Stb P C a b) : Stb P C b a := fun x y => (h x y).symm
theorem Stb.app {a b c d : List α} (h : Stb P C a b) (k : Stb P C c d) : Stb P C (a ++ c) (b ++ d) := fun x y => by
  rw [List.filter_append, List.filter_append, h x y, k x y]
theorem Stb.swap {u v : List α} (h : ∀ x ∈ u, ∀ y ∈ v, ltk P C y x = true) : Stb P C (v ++ u) (u ++ v) := fun a b => by
  rw [List.filter_append, List.filter_append]
  cases hu : u.filter (inK P C a b) with
  | nil => simp
  | cons x r =>
    have hx : x ∈ u.filter (inK P C a b) := by rw [hu]; simp
    obtain ⟨hx1, hx2⟩ := List.mem_filter.1 hx
    have hv : v.filter (inK P C a b) = [] := by
      rw [List.filter_eq_nil_iff]
      intro y hy hk
      have := h x hx1 y hy
      unfold inK at *; unfold ltk at this
      simp only [decide_eq_true_eq] at *
      omega
    rw [hv]; simp
theorem Stb.mem {r l : List α} (h : Stb P C r l) {x : α} : x ∈ r ↔ x ∈ l := by
  have e := h (P x) (C x)
  have k : inK P C (P x) (C x) x = true := by simp [inK]
  constructor
  · intro hx
    have : x ∈ r.filter (inK P C (P x) (C x)) := List.mem_filter.2 ⟨hx, k⟩
    rw [e] at this; exact (List.mem_filter.1 this).1
  · intro hx
    have : x ∈ l.filter (inK P C (P x) (C x)) := List.mem_filter.2 ⟨hx, k⟩
    rw [← e] at this; exact (List.mem_filter.1 this).1
theorem Mrg.refl {l : List α} (h : Srt P C l) : Mrg P C l l := ⟨rfl, h, Stb.refl _⟩
theorem Srt.app {a b : List α} (ha : Srt P C a) (hb : Srt P C b) (h : ∀ x ∈ a, ∀ y ∈ b, ltk P C y x = false) : Srt P C (a ++ b) := List.pairwise_append.2 ⟨ha, hb, h⟩
theorem Srt.left {a b : List α} (h : Srt P C (a ++ b)) : Srt P C a := (List.pairwise_append.1 h).1
theorem Srt.right {a b : List α} (h : Srt P C (a ++ b)) : Srt P C b := (List.pairwise_append.1 h).2.1
theorem Srt.cross {a b : List α} (h : Srt P C (a ++ b)) : ∀ x ∈ a, ∀ y ∈ b, ltk P C y x = false := (List.pairwise_append.1 h).2.2
/-- two merged halves are a whole that is merged -/
theorem Mrg.join {u1 u2 v1 v2 r1 r2 : List α} (hu : Srt P C (u1 ++ u2)) (hv : Srt P C (v1 ++ v2)) (c1 : ∀ x ∈ u1, ∀ y ∈ v2, ltk P C y x = false) (c2 : ∀ x ∈ u2, ∀ y ∈ v1, ltk P C y x = true)
    (h1 : Mrg P C r1 (u1 ++ v1)) (h2 : Mrg P C r2 (u2 ++ v2)) : Mrg P C (r1 ++ r2) ((u1 ++ u2) ++ (v1 ++ v2)) := by
  refine ⟨?_, h1.srt.app h2.srt fun x hx y hy => ?_, ?_⟩
  · have a := h1.len; have b := h2.len
    simp only [List.length_append] at *; omega
  · rcases List.mem_append.1 (h1.stb.mem.1 hx) with hx | hx <;> rcases List.mem_append.1 (h2.stb.mem.1 hy) with hy | hy
    · exact hu.cross x hx y hy
    · exact c1 x hx y hy
    · exact ltk_not (c2 y hy x hx)
    · exact hv.cross x hx y hy
  · have e1 : Stb P C (r1 ++ r2) ((u1 ++ v1) ++ (u2 ++ v2)) := h1.stb.app h2.stb
    refine e1.trans ?_
    have e2 : (u1 ++ v1) ++ (u2 ++ v2) = u1 ++ ((v1 ++ u2) ++ v2) := by simp
    have e3 : (u1 ++ u2) ++ (v1 ++ v2) = u1 ++ ((u2 ++ v1) ++ v2) := by simp
    rw [e2, e3]
    exact (Stb.refl _).app ((Stb.swap c2).app (Stb.refl _))
theorem srt_le {u : List α} (h : Srt P C u) {i j : Nat} (hij : i ≤ j) (hj : j < u.length) : ltk P C u[j] (u[i]'(by omega)) = false := by
  rcases Nat.lt_or_ge i j with h' | h'
  · exact (List.pairwise_iff_getElem.1 h) i j (by omega) hj h'
  · obtain rfl : i = j := by omega
    exact ltk_refl _
theorem bang [Inhabited α] {u : List α} {i : Nat} (h : i < u.length) : u[i]! = u[i] := by simp [getElem!_def, h]
theorem cut1 [Inhabited α] {u v : List α} (hu : Srt P C u) (hv : Srt P C v) {i j : Nat} (hi : i ≤ u.length) (h : i = 0 ∨ j = v.length ∨ (j < v.length ∧ ltk P C v[j]! u[i - 1]! = false)) : ∀ x ∈ u.take i, ∀ y ∈ v.drop j, ltk P C y x = false := by
  intro x hx y hy
  obtain ⟨a, ha, rfl⟩ := List.getElem_of_mem hx
  obtain ⟨b, hb, rfl⟩ := List.getElem_of_mem hy
  simp only [List.length_take, List.length_drop] at ha hb
  rw [List.getElem_take, List.getElem_drop]
  rcases h with h | h | ⟨h1, h⟩
  · omega
  · omega
  · rw [bang h1, bang (by omega)] at h
    exact ltk_trans1 (srt_le hu (show a ≤ i - 1 by omega) (by omega)) (ltk_trans1 h (srt_le hv (show j ≤ j + b by omega) (by omega)))
theorem cut2 [Inhabited α] {u v : List α} (hu : Srt P C u) (hv : Srt P C v) {i j : Nat} (hj : j ≤ v.length) (h : i = u.length ∨ j = 0 ∨ (i < u.length ∧ ltk P C v[j - 1]! u[i]! = true)) : ∀ x ∈ u.drop i, ∀ y ∈ v.take j, ltk P C y x = true := by
  intro x hx y hy
  obtain ⟨a, ha, rfl⟩ := List.getElem_of_mem hx
  obtain ⟨b, hb, rfl⟩ := List.getElem_of_mem hy
  simp only [List.length_take, List.length_drop] at ha hb
  rw [List.getElem_take, List.getElem_drop]
  rcases h with h | h | ⟨h1, h⟩
  · omega
  · omega
  · rw [bang h1, bang (by omega)] at h
    exact ltk_trans2 (ltk_trans3 (srt_le hv (show b ≤ j - 1 by omega) (by omega)) h) (srt_le hu (show i ≤ i + a by omega) (by omega))
/-- one that is set into a sorted row, at its place -/
theorem Mrg.ins1 {u : α} {v : List α} (hv : Srt P C v) {j : Nat} (hj : j ≤ v.length) (h1 : ∀ y ∈ v.take j, ltk P C y u = true) (h2 : ∀ y ∈ v.drop j, ltk P C y u = false) : Mrg P C (v.take j ++ u :: v.drop j) (u :: v) := by
  have hv' := hv
  rw [← List.take_append_drop j v] at hv'
  have := Mrg.join (u1 := []) (u2 := [u]) (v1 := v.take j) (v2 := v.drop j) (r1 := v.take j) (r2 := u :: v.drop j) (by simp [Srt]) hv' (by simp) (by simpa using h1) (by simpa using Mrg.refl hv'.left)
    (by simpa using Mrg.refl (show Srt P C ([u] ++ v.drop j) from Srt.app (by simp [Srt]) hv'.right (by simpa using h2)))
  simpa using this
theorem Mrg.ins2 {v : α} {u : List α} (hu : Srt P C u) {i : Nat} (hi : i ≤ u.length) (h1 : ∀ x ∈ u.take i, ltk P C v x = false) (h2 : ∀ x ∈ u.drop i, ltk P C v x = true) : Mrg P C (u.take i ++ v :: u.drop i) (u ++ [v]) := by
  have hu' := hu
  rw [← List.take_append_drop i u] at hu'
  have := Mrg.join (u1 := u.take i) (u2 := u.drop i) (v1 := [v]) (v2 := []) (r1 := u.take i ++ [v]) (r2 := u.drop i) hu' (by simp [Srt]) (by simp) (by simpa using h2)
    (Mrg.refl (hu'.left.app (by simp [Srt]) (by simpa using h1))) (by simpa using Mrg.refl hu'.right)
  simpa using this
end
end Go.Proofs.Ytfobnemocodomaa
