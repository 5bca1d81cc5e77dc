/- Joined texts: SrtP SynP SrtA SynJ LeafP. -/
import Derived.Test.YtfobnemocodomaaZBa
import Derived.Sort.Lot0
import Derived.Test.YtfobnemocodomaaZBd
import Derived.Test.YtfobnemocodomaaZBe
set_option maxHeartbeats 200000
set_option linter.unusedVariables false
set_option linter.unusedSimpArgs false
namespace Go.Proofs.Ytfobnemocodomaa
open Go.Sort

section
variable {α : Type}
theorem at_mid [Inhabited α] (x z : List α) (p : α) : (x ++ p :: z)[x.length]! = p := by
  simp [getElem!_def]
theorem at_mid2 [Inhabited α] (x y z : List α) (p q : α) : (x ++ p :: (y ++ q :: z))[x.length + 1 + y.length]! = q := by
  have e : x ++ p :: (y ++ q :: z) = (x ++ p :: y) ++ q :: z := by simp
  have h : (x ++ p :: y).length = x.length + 1 + y.length := by simp; omega
  rw [e, ← h, at_mid]
theorem set_mid (x z : List α) (p q : α) : (x ++ p :: z).set x.length q = x ++ q :: z := by
  rw [List.set_append_right _ _ (Nat.le_refl _)]; simp
theorem arr_at [Inhabited α] (l : List α) (i : Nat) : l.toArray[i]! = l[i]! := by simp [getElem!_def]
theorem swp_list [Inhabited α] (x y z : List α) (p q : α) : swp (x ++ p :: (y ++ q :: z)).toArray x.length (x.length + 1 + y.length) = (x ++ q :: (y ++ p :: z)).toArray := by
  unfold swp
  rw [arr_at, arr_at, at_mid, at_mid2]
  simp only [List.setIfInBounds_toArray]
  rw [set_mid]
  have e : x ++ q :: (y ++ q :: z) = (x ++ q :: y) ++ q :: z := by simp
  have h : (x ++ q :: y).length = x.length + 1 + y.length := by simp; omega
  rw [e, ← h, set_mid]; simp
theorem swp_list' [Inhabited α] (x y z : List α) (p q : α) : swp (x ++ p :: (y ++ q :: z)).toArray (x.length + 1 + y.length) x.length = (x ++ q :: (y ++ p :: z)).toArray := by
  unfold swp
  rw [arr_at, arr_at, at_mid, at_mid2]
  have e : x ++ p :: (y ++ q :: z) = (x ++ p :: y) ++ q :: z := by simp
  have h : (x ++ p :: y).length = x.length + 1 + y.length := by simp; omega
  simp only [List.setIfInBounds_toArray]
  rw [e, ← h, set_mid]
  rw [show x ++ p :: y ++ p :: z = x ++ p :: (y ++ p :: z) by simp, set_mid]
theorem at_seg [Inhabited α] (x u z : List α) (i : Nat) (h : i < u.length) : (x ++ (u ++ z))[x.length + i]! = u[i]! := by
  simp [getElem!_def, List.getElem?_append_right, List.getElem?_append_left, h]

variable (P C : α → Int)
/-- peers upwards, counts downwards -/
def ltk (x y : α) : Bool := decide (P x < P y ∨ (P x = P y ∧ C y < C x))
def Srt (l : List α) : Prop := l.Pairwise fun x y => ltk P C y x = false
def inK (a b : Int) (y : α) : Bool := decide (P y = a ∧ C y = b)
/-- the same, class by class -/
def Stb (r l : List α) : Prop := ∀ a b : Int, r.filter (inK P C a b) = l.filter (inK P C a b)
/-- sorted, and stable -/
structure Mrg (r l : List α) : Prop where
  len : r.length = l.length
  srt : Srt P C r
  stb : Stb P C r l
variable {P C}
theorem ltk_trans1 {x y z : α} (h : ltk P C y x = false) (k : ltk P C z y = false) : ltk P C z x = false := by
  unfold ltk at *; simp only [decide_eq_false_iff_not] at *; omega
theorem ltk_trans2 {x y z : α} (h : ltk P C x y = true) (k : ltk P C z y = false) : ltk P C x z = true := by
  unfold ltk at *; simp only [decide_eq_false_iff_not, decide_eq_true_eq] at *; omega
theorem ltk_trans3 {x y z : α} (h : ltk P C y x = false) (k : ltk P C y z = true) : ltk P C x z = true := by
  unfold ltk at *; simp only [decide_eq_false_iff_not, decide_eq_true_eq] at *; omega
theorem ltk_not {x y : α} (h : ltk P C x y = true) : ltk P C y x = false := by
  unfold ltk at *; simp only [decide_eq_false_iff_not, decide_eq_true_eq] at *; omega
theorem ltk_refl (x : α) : ltk P C x x = false := by unfold ltk; simp
theorem Stb.refl (l : List α) : Stb P C l l := fun _ _ => rfl
theorem Stb.trans {a b c : List α} (h : Stb P C a b) (k : Stb P C b c) : Stb P C a c := fun x y => (h x y).trans (k x y)
theorem Stb.symm {a b : List α} (h : Stb P C a b) : Stb P C b a := fun x y => (h x y).symm
theorem Stb.app {a b c d : List α} (h : Stb P C a b) (k : Stb P C c d) : Stb P C (a ++ c) (b ++ d) := fun x y => by
  rw [List.filter_append, List.filter_append, h x y, k x y]
theorem Stb.swap {u v : List α} (h : ∀ x ∈ u, ∀ y ∈ v, ltk P C y x = true) : Stb P C (v ++ u) (u ++ v) := fun a b => by
  rw [List.filter_append, List.filter_append]
  cases hu : u.filter (inK P C a b) with
  | nil => simp
  | cons x r =>
    have hx : x ∈ u.filter (inK P C a b) := by rw [hu]; simp
    obtain ⟨hx1, hx2⟩ := List.mem_filter.1 hx
    have hv : v.filter (inK P C a b) = [] := by
      rw [List.filter_eq_nil_iff]
      intro y hy hk
      have := h x hx1 y hy
      unfold inK at *; unfold ltk at this
      simp only [decide_eq_true_eq] at *
      omega
    rw [hv]; simp
theorem Stb.mem {r l : List α} (h : Stb P C r l) {x : α} : x ∈ r ↔ x ∈ l := by
  have e := h (P x) (C x)
  have k : inK P C (P x) (C x) x = true := by simp [inK]
  constructor
  · intro hx
    have : x ∈ r.filter (inK P C (P x) (C x)) := List.mem_filter.2 ⟨hx, k⟩
    rw [e] at this; exact (List.mem_filter.1 this).1
  · intro hx
    have : x ∈ l.filter (inK P C (P x) (C x)) := List.mem_filter.2 ⟨hx, k⟩
    rw [← e] at this; exact (List.mem_filter.1 this).1
theorem Mrg.refl {l : List α} (h : Srt P C l) : Mrg P C l l := ⟨rfl, h, Stb.refl _⟩
theorem Srt.app {a b : List α} (ha : Srt P C a) (hb : Srt P C b) (h : ∀ x ∈ a, ∀ y ∈ b, ltk P C y x = false) : Srt P C (a ++ b) := List.pairwise_append.2 ⟨ha, hb, h⟩
theorem Srt.left {a b : List α} (h : Srt P C (a ++ b)) : Srt P C a := (List.pairwise_append.1 h).1
theorem Srt.right {a b : List α} (h : Srt P C (a ++ b)) : Srt P C b := (List.pairwise_append.1 h).2.1
theorem Srt.cross {a b : List α} (h : Srt P C (a ++ b)) : ∀ x ∈ a, ∀ y ∈ b, ltk P C y x = false := (List.pairwise_append.1 h).2.2
/-- two merged halves are a whole that is merged -/
theorem Mrg.join {u1 u2 v1 v2 r1 r2 : List α} (hu : Srt P C (u1 ++ u2)) (hv : Srt P C (v1 ++ v2)) (c1 : ∀ x ∈ u1, ∀ y ∈ v2, ltk P C y x = false) (c2 : ∀ x ∈ u2, ∀ y ∈ v1, ltk P C y x = true)
    (h1 : Mrg P C r1 (u1 ++ v1)) (h2 : Mrg P C r2 (u2 ++ v2)) : Mrg P C (r1 ++ r2) ((u1 ++ u2) ++ (v1 ++ v2)) := by
  refine ⟨?_, h1.srt.app h2.srt fun x hx y hy => ?_, ?_⟩
  · have a := h1.len; have b := h2.len
    simp only [List.length_append] at *; omega
  · rcases List.mem_append.1 (h1.stb.mem.1 hx) with hx | hx <;> rcases List.mem_append.1 (h2.stb.mem.1 hy) with hy | hy
    · exact hu.cross x hx y hy
    · exact c1 x hx y hy
    · exact ltk_not (c2 y hy x hx)
    · exact hv.cross x hx y hy
  · have e1 : Stb P C (r1 ++ r2) ((u1 ++ v1) ++ (u2 ++ v2)) := h1.stb.app h2.stb
    refine e1.trans ?_
    have e2 : (u1 ++ v1) ++ (u2 ++ v2) = u1 ++ ((v1 ++ u2) ++ v2) := by simp
    have e3 : (u1 ++ u2) ++ (v1 ++ v2) = u1 ++ ((u2 ++ v1) ++ v2) := by simp
    rw [e2, e3]
    exact (Stb.refl _).app ((Stb.swap c2).app (Stb.refl _))
theorem srt_le {u : List α} (h : Srt P C u) {i j : Nat} (hij : i ≤ j) (hj : j < u.length) : ltk P C u[j] (u[i]'(by omega)) = false := by
  rcases Nat.lt_or_ge i j with h' | h'
  · exact (List.pairwise_iff_getElem.1 h) i j (by omega) hj h'
  · obtain rfl : i = j := by omega
    exact ltk_refl _
theorem bang [Inhabited α] {u : List α} {i : Nat} (h : i < u.length) : u[i]! = u[i] := by simp [getElem!_def, h]
theorem cut1 [Inhabited α] {u v : List α} (hu : Srt P C u) (hv : Srt P C v) {i j : Nat} (hi : i ≤ u.length) (h : i = 0 ∨ j = v.length ∨ (j < v.length ∧ ltk P C v[j]! u[i - 1]! = false)) : ∀ x ∈ u.take i, ∀ y ∈ v.drop j, ltk P C y x = false := by
  intro x hx y hy
  obtain ⟨a, ha, rfl⟩ := List.getElem_of_mem hx
  obtain ⟨b, hb, rfl⟩ := List.getElem_of_mem hy
  simp only [List.length_take, List.length_drop] at ha hb
  rw [List.getElem_take, List.getElem_drop]
  rcases h with h | h | ⟨h1, h⟩
  · omega
  · omega
  · rw [bang h1, bang (by omega)] at h
    exact ltk_trans1 (srt_le hu (show a ≤ i - 1 by omega) (by omega)) (ltk_trans1 h (srt_le hv (show j ≤ j + b by omega) (by omega)))
theorem cut2 [Inhabited α] {u v : List α} (hu : Srt P C u) (hv : Srt P C v) {i j : Nat} (hj : j ≤ v.length) (h : i = u.length ∨ j = 0 ∨ (i < u.length ∧ ltk P C v[j - 1]! u[i]! = true)) : ∀ x ∈ u.drop i, ∀ y ∈ v.take j, ltk P C y x = true := by
  intro x hx y hy
  obtain ⟨a, ha, rfl⟩ := List.getElem_of_mem hx
  obtain ⟨b, hb, rfl⟩ := List.getElem_of_mem hy
  simp only [List.length_take, List.length_drop] at ha hb
  rw [List.getElem_take, List.getElem_drop]
  rcases h with h | h | ⟨h1, h⟩
  · omega
  · omega
  · rw [bang h1, bang (by omega)] at h
    exact ltk_trans2 (ltk_trans3 (srt_le hv (show b ≤ j - 1 by omega) (by omega)) h) (srt_le hu (show i ≤ i + a by omega) (by omega))
/-- one that is set into a sorted row, at its place -/
theorem Mrg.ins1 {u : α} {v : List α} (hv : Srt P C v) {j : Nat} (hj : j ≤ v.length) (h1 : ∀ y ∈ v.take j, ltk P C y u = true) (h2 : ∀ y ∈ v.drop j, ltk P C y u = false) : Mrg P C (v.take j ++ u :: v.drop j) (u :: v) := by
  have hv' := hv
  rw [← List.take_append_drop j v] at hv'
  have := Mrg.join (u1 := []) (u2 := [u]) (v1 := v.take j) (v2 := v.drop j) (r1 := v.take j) (r2 := u :: v.drop j) (by simp [Srt]) hv' (by simp) (by simpa using h1) (by simpa using Mrg.refl hv'.left)
    (by simpa using Mrg.refl (show Srt P C ([u] ++ v.drop j) from Srt.app (by simp [Srt]) hv'.right (by simpa using h2)))
  simpa using this
theorem Mrg.ins2 {v : α} {u : List α} (hu : Srt P C u) {i : Nat} (hi : i ≤ u.length) (h1 : ∀ x ∈ u.take i, ltk P C v x = false) (h2 : ∀ x ∈ u.drop i, ltk P C v x = true) : Mrg P C (u.take i ++ v :: u.drop i) (u ++ [v]) := by
  have hu' := hu
  rw [← List.take_append_drop i u] at hu'
  have := Mrg.join (u1 := u.take i) (u2 := u.drop i) (v1 := [v]) (v2 := []) (r1 := u.take i ++ [v]) (r2 := u.drop i) hu' (by simp [Srt]) (by simp) (by simpa using h2)
    (Mrg.refl (hu'.left.app (by simp [Srt]) (by simpa using h1))) (by simpa using Mrg.refl hu'.right)
  simpa using this
end
end Go.Proofs.Ytfobnemocodomaa
set_option maxHeartbeats 200000
set_option linter.unusedVariables false
set_option linter.unusedSimpArgs false
namespace Go.Proofs.Ytfobnemocodomaa

instance : Inhabited Vx := ⟨⟨0, 0, none, [], 0, false, ⟨#[]⟩⟩⟩
/-- the best of a peer: the first of the greatest count -/
def bstStep (p : Int) (acc : Option Vx) (x : Vx) : Option Vx := if x.P = p then (match acc with | none => some x | some y => if y.C < x.C then some x else some y) else acc
def bstL (p : Int) (l : List Vx) : Option Vx := l.foldl (bstStep p) none
def isBest (l : List Vx) (p : Int) (x : Vx) : Prop := x.P = p ∧ (l.filter (inK Vx.P Vx.C p x.C)).head? = some x ∧ ∀ y ∈ l, y.P = p → y.C ≤ x.C
def Best (p : Int) (l : List Vx) : Option Vx → Prop
  | none => ∀ y ∈ l, y.P ≠ p
  | some x => isBest l p x
theorem isBest.mem {l : List Vx} {p : Int} {x : Vx} (h : isBest l p x) : x ∈ l := by
  have := List.mem_of_mem_head? (Option.mem_def.2 h.2.1)
  exact (List.mem_filter.1 this).1
theorem isBest.uniq {l : List Vx} {p : Int} {x y : Vx} (h : isBest l p x) (k : isBest l p y) : x = y := by
  have h1 := h.2.2 y k.mem k.1
  have h2 := k.2.2 x h.mem h.1
  have e : x.C = y.C := by omega
  have := h.2.1
  rw [e, k.2.1] at this
  exact (Option.some.inj this).symm
theorem Best.step {p : Int} {l : List Vx} {acc : Option Vx} (h : Best p l acc) (y : Vx) : Best p (l ++ [y]) (bstStep p acc y) := by
  unfold bstStep
  by_cases hy : y.P = p
  · rw [if_pos hy]
    cases acc with
    | none =>
      refine ⟨hy, ?_, ?_⟩
      · have : l.filter (inK Vx.P Vx.C p y.C) = [] := by
          rw [List.filter_eq_nil_iff]
          intro z hz hk
          have := h z hz
          simp [inK] at hk; exact this hk.1
        rw [List.filter_append, this]
        simp [inK, hy]
      · intro z hz hzp
        rcases List.mem_append.1 hz with hz | hz
        · exact absurd hzp (h z hz)
        · simp at hz; subst hz; omega
    | some x =>
      obtain ⟨h1, h2, h3⟩ := h
      by_cases hc : x.C < y.C
      · simp only [hc, if_true]
        refine ⟨hy, ?_, ?_⟩
        · have : l.filter (inK Vx.P Vx.C p y.C) = [] := by
            rw [List.filter_eq_nil_iff]
            intro z hz hk
            simp [inK] at hk
            have := h3 z hz hk.1
            omega
          rw [List.filter_append, this]
          simp [inK, hy]
        · intro z hz hzp
          rcases List.mem_append.1 hz with hz | hz
          · have := h3 z hz hzp; omega
          · simp at hz; subst hz; omega
      · simp only [hc, if_false]
        refine ⟨h1, ?_, ?_⟩
        · rw [List.filter_append, List.head?_append, h2]; rfl
        · intro z hz hzp
          rcases List.mem_append.1 hz with hz | hz
          · exact h3 z hz hzp
          · simp at hz; subst hz; omega
  · rw [if_neg hy]
    cases acc with
    | none =>
      intro z hz
      rcases List.mem_append.1 hz with hz | hz
      · exact h z hz
      · simp at hz; subst hz; exact hy
    | some x =>
      obtain ⟨h1, h2, h3⟩ := h
      refine ⟨h1, ?_, ?_⟩
      · rw [List.filter_append, List.head?_append, h2]; rfl
      · intro z hz hzp
        rcases List.mem_append.1 hz with hz | hz
        · exact h3 z hz hzp
        · simp at hz; subst hz; exact absurd hzp hy
theorem Best.fold (p : Int) : ∀ (l q : List Vx) (acc : Option Vx), Best p q acc → Best p (q ++ l) (l.foldl (bstStep p) acc)
  | [], q, acc, h => by simpa using h
  | y :: r, q, acc, h => by
    have := Best.fold p r (q ++ [y]) _ (h.step y)
    simpa using this
theorem bst_best (p : Int) (l : List Vx) : Best p l (bstL p l) := by
  have := Best.fold p l [] none (fun y hy => by simp at hy)
  rw [List.nil_append] at this
  exact this
theorem bst_iff (p : Int) (l : List Vx) (x : Vx) : bstL p l = some x ↔ isBest l p x := by
  have h := bst_best p l
  constructor
  · intro e; rw [e] at h; exact h
  · intro k
    cases e : bstL p l with
    | none => rw [e] at h; exact absurd k.1 (h x k.mem)
    | some y => rw [e] at h; rw [isBest.uniq h k]
def syncOf (l : List Vx) : List Vx := (List.range 64).filterMap fun p => bstL (p : Nat) l
theorem syncOf_mem (l : List Vx) (x : Vx) : x ∈ syncOf l ↔ (0 ≤ x.P ∧ x.P < 64 ∧ isBest l x.P x) := by
  unfold syncOf
  rw [List.mem_filterMap]
  constructor
  · rintro ⟨p, hp, e⟩
    rw [bst_iff] at e
    have hp' := List.mem_range.1 hp
    have := e.1
    refine ⟨by omega, by omega, ?_⟩
    rw [this]; exact e
  · rintro ⟨h1, h2, h3⟩
    refine ⟨x.P.toNat, List.mem_range.2 (by omega), ?_⟩
    rw [bst_iff, show ((x.P.toNat : Nat) : Int) = x.P by omega]
    exact h3
/-- peers strictly upwards -/
def Ups (l : List Vx) : Prop := l.Pairwise fun x y => x.P < y.P
theorem syncOf_ups (l : List Vx) : Ups (syncOf l) := by
  unfold syncOf Ups
  rw [List.pairwise_filterMap]
  refine List.Pairwise.imp ?_ List.pairwise_lt_range
  intro a b hab x hx y hy
  have h1 := (bst_iff _ _ _).1 hx
  have h2 := (bst_iff _ _ _).1 hy
  rw [h1.1, h2.1]; omega
theorem ups_eq : ∀ (a b : List Vx), Ups a → Ups b → (∀ x, x ∈ a ↔ x ∈ b) → a = b
  | [], [], _, _, _ => rfl
  | [], y :: b, _, _, h => by have := (h y).2 (by simp); simp at this
  | x :: a, [], _, _, h => by have := (h x).1 (by simp); simp at this
  | x :: a, y :: b, ha, hb, h => by
    have hxa := List.pairwise_cons.1 ha
    have hyb := List.pairwise_cons.1 hb
    have hxy : x = y := by
      rcases List.mem_cons.1 ((h x).1 (by simp)) with e | h1
      · exact e
      · rcases List.mem_cons.1 ((h y).2 (by simp)) with e | h2
        · exact e.symm
        · have := hyb.1 x h1; have := hxa.1 y h2; omega
    subst hxy
    rw [ups_eq a b hxa.2 hyb.2 (fun z => by
      have hz := h z
      simp only [List.mem_cons] at hz
      constructor
      · intro k
        rcases hz.1 (Or.inr k) with e | k'
        · subst e; have := hxa.1 z k; omega
        · exact k'
      · intro k
        rcases hz.2 (Or.inr k) with e | k'
        · subst e; have := hyb.1 z k; omega
        · exact k')]
/-- what is left when of each run of one peer only the first is kept -/
def cgo (prev : Vx) : List Vx → List Vx
  | [] => []
  | y :: r => if y.P = prev.P then cgo y r else y :: cgo y r
def cmpV : List Vx → List Vx
  | [] => []
  | x :: r => x :: cgo x r
abbrev SrtV (l : List Vx) : Prop := Srt Vx.P Vx.C l
theorem srt_P {l : List Vx} {x y : Vx} (h : SrtV (x :: l)) (hy : y ∈ l) : x.P ≤ y.P ∧ (x.P = y.P → y.C ≤ x.C) := by
  have := (List.pairwise_cons.1 h).1 y hy
  unfold ltk at this
  simp only [decide_eq_false_iff_not] at this
  omega
theorem cgo_mem : ∀ (l : List Vx) (prev x : Vx), SrtV (prev :: l) → (x ∈ cgo prev l ↔ x.P ≠ prev.P ∧ l.find? (fun y => decide (y.P = x.P)) = some x)
  | [], prev, x, _ => by simp [cgo]
  | y :: r, prev, x, h => by
    have hr : SrtV (y :: r) := (List.pairwise_cons.1 h).2
    have hpy := (srt_P h (y := y) (by simp)).1
    have ih := cgo_mem r y x hr
    unfold cgo
    by_cases e : y.P = prev.P
    · rw [if_pos e, ih, List.find?_cons]
      by_cases e2 : y.P = x.P
      · simp only [e2, decide_true]
        constructor
        · rintro ⟨h1, _⟩; exact absurd rfl h1
        · rintro ⟨h1, _⟩; exact absurd (e2.symm.trans e) h1
      · simp only [decide_eq_false e2]
        constructor
        · rintro ⟨h1, h2⟩; exact ⟨by rw [← e]; exact h1, h2⟩
        · rintro ⟨h1, h2⟩; exact ⟨by rw [e]; exact h1, h2⟩
    · rw [if_neg e, List.mem_cons, ih, List.find?_cons]
      by_cases e2 : y.P = x.P
      · simp only [e2, decide_true, Option.some.injEq]
        constructor
        · rintro (h1 | ⟨h1, _⟩)
          · subst h1; exact ⟨e, rfl⟩
          · exact absurd rfl h1
        · rintro ⟨_, h2⟩; exact Or.inl h2.symm
      · simp only [decide_eq_false e2]
        constructor
        · rintro (h1 | ⟨h1, h2⟩)
          · subst h1; exact absurd rfl e2
          · have hx := List.mem_of_find?_eq_some h2
            have := (srt_P hr hx).1
            exact ⟨by omega, h2⟩
        · rintro ⟨_, h2⟩; exact Or.inr ⟨fun k => e2 k.symm, h2⟩
theorem cgo_ups : ∀ (l : List Vx) (prev : Vx), SrtV (prev :: l) → Ups (cgo prev l) ∧ ∀ x ∈ cgo prev l, prev.P < x.P
  | [], prev, _ => ⟨List.Pairwise.nil, fun x h => by simp [cgo] at h⟩
  | y :: r, prev, h => by
    have hr : SrtV (y :: r) := (List.pairwise_cons.1 h).2
    have hpy := (srt_P h (y := y) (by simp)).1
    obtain ⟨h1, h2⟩ := cgo_ups r y hr
    unfold cgo
    by_cases e : y.P = prev.P
    · rw [if_pos e]; exact ⟨h1, fun x hx => by have := h2 x hx; omega⟩
    · rw [if_neg e]
      refine ⟨List.pairwise_cons.2 ⟨h2, h1⟩, fun x hx => ?_⟩
      rcases List.mem_cons.1 hx with rfl | hx
      · omega
      · have := h2 x hx; omega
theorem cmpV_ups {l : List Vx} (h : SrtV l) : Ups (cmpV l) := by
  cases l with
  | nil => exact List.Pairwise.nil
  | cons x r => exact List.pairwise_cons.2 ⟨(cgo_ups r x h).2, (cgo_ups r x h).1⟩
theorem cmpV_mem {l : List Vx} (h : SrtV l) (x : Vx) : x ∈ cmpV l ↔ l.find? (fun y => decide (y.P = x.P)) = some x := by
  cases l with
  | nil => simp [cmpV]
  | cons y r =>
    show x ∈ y :: cgo y r ↔ _
    rw [List.mem_cons, cgo_mem r y x h, List.find?_cons]
    by_cases e2 : y.P = x.P
    · simp only [e2, decide_true, Option.some.injEq]
      constructor
      · rintro (h1 | ⟨h1, _⟩)
        · exact h1.symm
        · exact absurd rfl h1
      · intro h2; exact Or.inl h2.symm
    · simp only [decide_eq_false e2]
      constructor
      · rintro (h1 | ⟨_, h2⟩)
        · subst h1; exact absurd rfl e2
        · exact h2
      · intro h2; exact Or.inr ⟨fun k => e2 k.symm, h2⟩
theorem srt_find : ∀ (l : List Vx) (x : Vx), SrtV l → (l.find? (fun y => decide (y.P = x.P)) = some x ↔ isBest l x.P x)
  | [], x, _ => by simp [isBest]
  | y :: r, x, h => by
    have hr : SrtV r := (List.pairwise_cons.1 h).2
    have ih := srt_find r x hr
    rw [List.find?_cons]
    by_cases e : y.P = x.P
    · simp only [e, decide_true, Option.some.injEq]
      constructor
      · rintro rfl
        refine ⟨rfl, by simp [inK], fun z hz hzp => ?_⟩
        rcases List.mem_cons.1 hz with rfl | hz
        · omega
        · exact (srt_P h hz).2 hzp.symm
      · intro k
        by_cases ec : y.C = x.C
        · have := k.2.1
          simp [inK, e, ec] at this
          exact this
        · have h1 := k.2.2 y (by simp) e
          have hx : x ∈ r := by
            rcases List.mem_cons.1 k.mem with rfl | hx
            · exact absurd rfl ec
            · exact hx
          have := (srt_P h hx).2 e
          omega
    · simp only [decide_eq_false e]
      rw [ih]
      constructor
      · rintro ⟨h1, h2, h3⟩
        refine ⟨h1, by simpa [inK, e] using h2, fun z hz hzp => ?_⟩
        rcases List.mem_cons.1 hz with rfl | hz
        · exact absurd hzp e
        · exact h3 z hz hzp
      · rintro ⟨h1, h2, h3⟩
        exact ⟨h1, by simpa [inK, e] using h2, fun z hz hzp => h3 z (List.mem_cons_of_mem _ hz) hzp⟩
theorem best_stb {r l : List Vx} (h : Stb Vx.P Vx.C r l) (x : Vx) : isBest r x.P x ↔ isBest l x.P x := by
  unfold isBest
  rw [h x.P x.C]
  constructor
  · rintro ⟨a, b, c⟩; exact ⟨a, b, fun y hy => c y (h.mem.2 hy)⟩
  · rintro ⟨a, b, c⟩; exact ⟨a, b, fun y hy => c y (h.mem.1 hy)⟩
theorem cmpV_sync {r l : List Vx} (h : Mrg Vx.P Vx.C r l) (hp : ∀ x ∈ l, 0 ≤ x.P ∧ x.P < 64) : cmpV r = syncOf l := by
  refine ups_eq _ _ (cmpV_ups h.srt) (syncOf_ups l) fun x => ?_
  rw [cmpV_mem h.srt, srt_find r x h.srt, best_stb h.stb, syncOf_mem]
  constructor
  · intro k; have := hp x k.mem; exact ⟨this.1, this.2, k⟩
  · rintro ⟨_, _, k⟩; exact k
end Go.Proofs.Ytfobnemocodomaa
set_option linter.unusedVariables false
set_option linter.unusedSimpArgs false
set_option maxHeartbeats 2000000
namespace Go.Proofs.Ytfobnemocodomaa
open Go.RowKit Go.Great

/-- the block gl holds these versions, and nothing that was there before has turned -/
structure RS (w0 : World) (gl : Nat) (xs : List Vx) (W : World) : Prop where
  gr : Gr w0 W
  base : w0.heap.size ≤ gl
  row : ∃ cap, OwnG 49 5 W gl (.slice (some ⟨gl, 0, none⟩) xs.length cap) xs.length (vCells xs)
theorem RS.next {w0 W W' : World} {gl : Nat} {xs : List Vx} (h : RS w0 gl xs W) (g : Gr W W') : RS w0 gl xs W' := by
  obtain ⟨c, h1⟩ := h.row
  exact ⟨h.gr.tr g, h.base, c, h1.gr g⟩
theorem add_mid' (b o j : Nat) : (⟨b, o, none⟩ : Addr).add j = ⟨b, o + j, none⟩ := by unfold Addr.add; split <;> simp_all
theorem RS.ld {w0 W : World} {gl : Nat} {xs : List Vx} (h : RS w0 gl xs W) {ad : Addr} (had : ad = ⟨gl, 0, none⟩) {i : Nat} {x : Vx} (hx : xs[i]? = some x) : ∀ j v, x.cells.toList[j]? = some v → W.cell? ((ad.add (i * 5)).add j) = some v := by
  intro j v hj
  obtain ⟨c, h1⟩ := h.row
  obtain ⟨hi, rfl⟩ := List.getElem?_eq_some_iff.1 hx
  subst had
  rw [add_mid', add_mid', Nat.zero_add]
  exact (h1.cell _ v (vCells_at xs i j hi v (by simpa using hj))).1
theorem vCells_set : ∀ (xs : List Vx) (i : Nat) (x : Vx), i < xs.length → vCells (xs.set i x) = (vCells xs).take (i * 5) ++ x.cells.toList ++ (vCells xs).drop (i * 5 + 5)
  | [], i, x, h => by simp at h
  | y :: r, 0, x, _ => by
    have e : ∀ z : Vx, vCells (z :: r) = z.cells.toList ++ vCells r := fun z => by simp [vCells]
    have hl : y.cells.toList.length = 5 := rfl
    rw [List.set_cons_zero, e, e, Nat.zero_mul, List.take_zero, List.nil_append, Nat.zero_add, ← hl, List.drop_left]
  | y :: r, i + 1, x, h => by
    have e : ∀ (z : Vx) (s : List Vx), vCells (z :: s) = z.cells.toList ++ vCells s := fun z s => by simp [vCells]
    have hl : y.cells.toList.length = 5 := rfl
    have ih := vCells_set r i x (by simpa using h)
    rw [List.set_cons_succ, e, e, ih, List.append_assoc, List.append_assoc]
    have e1 : (i + 1) * 5 = y.cells.toList.length + i * 5 := by rw [hl]; omega
    have e2 : (i + 1) * 5 + 5 = y.cells.toList.length + (i * 5 + 5) := by rw [hl]; omega
    rw [e2, e1, List.take_length_add_append, List.drop_length_add_append]
    simp only [List.append_assoc]
theorem gr_kcells {a w : World} (h : Gr a w) {b : Nat} (hb : a.heap.size ≤ b) (o : Nat) (vs : List Value) : Gr a (w.setCells b o vs) :=
  ⟨(rg_os vs o w).1.trans h.os, (rg_os vs o w).2.1.trans h.tape, (rg_os vs o w).2.2.trans h.output, by rw [rg_size]; exact h.size, fun k hk => (rg_other (by omega) vs o w).trans (h.block k hk)⟩
theorem RS.put {w0 W : World} {gl : Nat} {xs : List Vx} (h : RS w0 gl xs W) {i : Nat} (x : Vx) (hi : i < xs.length) : RS w0 gl (xs.set i x) (W.setCells gl (i * 5) x.cells.toList) := by
  obtain ⟨c, h1⟩ := h.row
  have hp := h1.put (i * 5) x.cells.toList (by have e : x.cells.toList.length = 5 := rfl; rw [e]; omega)
  have e5 : x.cells.toList.length = 5 := rfl
  rw [e5, ← vCells_set xs i x hi] at hp
  refine ⟨gr_kcells h.gr h.base (i * 5) x.cells.toList, h.base, c, ?_⟩
  rw [List.length_set]
  exact hp
theorem setCells_sg (w : World) (g o : Nat) (vs : List Value) : Sg g w (w.setCells g o vs) :=
  ⟨(rg_os vs o w).1, (rg_os vs o w).2.1, (rg_os vs o w).2.2, rg_size _ _ _, fun k hk => rg_other hk _ _ _⟩
theorem storeR {w0 : World} {gl : Nat} {xs : List Vx} {ops : Array Oper} {rest : List Oper} {o : Oper} {a : Act} {w : World} {Q : Exit → Act → World → Prop} (x : Vx) (ad : Addr) (i : Nat) (had : ad = ⟨gl, 0, none⟩) (hg : o.guard = none) (xo yo : Operand) (ho : o.op = .store 49 xo yo) (hd : o.dst = none)
    (hx : a.eval xo = .pointer (some (ad.add (i * 5)))) (hy : a.eval yo = .agg x.cells) (hR : RS w0 gl xs w) (hi : i < xs.length)
    (h : ∀ wt : World, RS w0 gl (xs.set i x) wt → Sg gl w wt → wpList Try.prog ops Q rest a wt) : wpList Try.prog ops Q (o :: rest) a w := by
  subst had
  rw [add_mid', Nat.zero_add] at hx
  refine wpList_store_mid hg 49 xo yo ho gl (i * 5) x.cells hx hy (fun j hj => ?_) (by kernel_rfl) (vOne x) ?_
  · obtain ⟨c, h1⟩ := hR.row
    have hj5 : j < 5 := hj
    have hv := List.getElem?_eq_getElem (l := vCells xs) (i := i * 5 + j) (by rw [vCells_len]; omega)
    have := h1.cell (i * 5 + j) _ hv
    exact ⟨by rw [this.1]; rfl, this.2⟩
  · rw [hd]
    exact h _ (hR.put x hi) (setCells_sg _ _ _ _)
theorem wpOp_storeR {w0 : World} {gl : Nat} {xs : List Vx} {ops : Array Oper} {j : Nat} {o : Oper} {a : Act} {w : World} {K : Act → World → Prop} {Q : Exit → Act → World → Prop} (x : Vx) (ad : Addr) (i : Nat) (had : ad = ⟨gl, 0, none⟩) (hj : ops[j]? = some o) (hg : o.guard = none) (xo yo : Operand) (ho : o.op = .store 49 xo yo) (hd : o.dst = none)
    (hx : a.eval xo = .pointer (some (ad.add (i * 5)))) (hy : a.eval yo = .agg x.cells) (hR : RS w0 gl xs w) (hi : i < xs.length)
    (h : ∀ wt : World, RS w0 gl (xs.set i x) wt → Sg gl w wt → K a wt) : wpOp Try.prog ops Q j K a w := by
  subst had
  rw [add_mid', Nat.zero_add] at hx
  unfold wpOp
  have hw : Region.wanted o (yielded ops a.tmps) = true := by simp [Region.wanted, hg]
  simp only [hj, hw, if_true]
  left
  refine wp_store_mid 49 xo yo ho gl (i * 5) x.cells hx hy (fun j hj => ?_) (by kernel_rfl) (vOne x) ?_
  · obtain ⟨c, h1⟩ := hR.row
    have hj5 : j < 5 := hj
    have hv := List.getElem?_eq_getElem (l := vCells xs) (i := i * 5 + j) (by rw [vCells_len]; omega)
    have := h1.cell (i * 5 + j) _ hv
    exact ⟨by rw [this.1]; rfl, this.2⟩
  · rw [hd]
    exact h _ (hR.put x hi) (setCells_sg _ _ _ _)
theorem wrap_small (z : Int) (h0 : 0 ≤ z) (h1 : z ≤ 9000000000) : wrap64 z = z := by unfold wrap64; omega
theorem wrap_nat2 (a b : Nat) (h : a + b ≤ 1000000000) : wrap64 ((a : Int) + (b : Int)) = ((a + b : Nat) : Int) := by rw [wrap_small _ (by omega) (by omega)]; omega
theorem wrapk (z : Int) (m : Nat) (h : z = m) (hm : m ≤ 1000000000) : IntKind.i64.wrap z = m := by rw [IntKind.wrap_i64]; omega
theorem absurd' {b : Bool} {C : Prop} (h : b = false) (k : b = true) : C := by rw [h] at k; cases k
theorem sw_idx {p0 k na nm x y : Nat} (hlt : k < na) (l1 : x = p0 + k) (l2 : y = na - 1 + nm) : p0 + na + nm + k = x + 1 + y := by omega
/-- the exchange of two places -/
theorem set_swap (x y z : List Vx) (p q : Vx) : ((x ++ p :: (y ++ q :: z)).set x.length q).set (x.length + 1 + y.length) p = x ++ q :: (y ++ p :: z) := by
  rw [set_mid]
  have e : x ++ q :: (y ++ q :: z) = (x ++ q :: y) ++ q :: z := by simp
  have h : (x ++ q :: y).length = x.length + 1 + y.length := by simp; omega
  rw [e, ← h, set_mid]; simp
theorem get_mid (x z : List Vx) (p : Vx) : (x ++ p :: z)[x.length]? = some p := by simp
theorem get_mid2 (x y z : List Vx) (p q : Vx) : (x ++ p :: (y ++ q :: z))[x.length + 1 + y.length]? = some q := by
  have e : x ++ p :: (y ++ q :: z) = (x ++ p :: y) ++ q :: z := by simp
  have h : (x ++ p :: y).length = x.length + 1 + y.length := by simp; omega
  rw [e, ← h, get_mid]
/-- the comparison that sorts -/
abbrev synF : Value := .func (.func 107) #[] #[]
set_option maxRecDepth 100000 in
theorem swapR_any (gl n cap : Nat) (pre A mid B post : List Vx) (w0 w : World) (hR : RS w0 gl (pre ++ (A ++ (mid ++ (B ++ post)))) w) (hAB : A.length = B.length) (hn : n = (pre ++ (A ++ (mid ++ (B ++ post)))).length) (hlb : n ≤ 1000000) (fv : Value) :
    Calls Try.prog 220 #[.slice (some ⟨gl, 0, none⟩) n cap, .int .i64 pre.length, .int .i64 (pre.length + A.length + mid.length : Nat), .int .i64 A.length, fv] w fun r w' => r = .returned (.tuple #[]) ∧ RS w0 gl (pre ++ (B ++ (mid ++ (A ++ post)))) w' := by
  obtain ⟨ad, had⟩ : ∃ ad, (⟨gl, 0, none⟩ : Addr) = ad := ⟨_, rfl⟩
  have HAD : Hid (ad = ⟨gl, 0, none⟩) := Lib.hid had.symm
  rw [had]
  clear had
  have R0 := Lib.hid hR
  clear hR
  have hlen : (pre ++ (A ++ (mid ++ (B ++ post)))).length = pre.length + (A.length + (mid.length + (B.length + post.length))) := by simp
  rw [hlen] at hn
  obtain ⟨p0, hp0⟩ : ∃ k, pre.length = k := ⟨_, rfl⟩
  obtain ⟨na, hna⟩ : ∃ k, A.length = k := ⟨_, rfl⟩
  obtain ⟨nm, hnm⟩ : ∃ k, mid.length = k := ⟨_, rfl⟩
  rw [hp0, hna, hnm] at hn ⊢
  rw [hna] at hAB
  have HP := Lib.hid hp0
  have HA := Lib.hid hna
  have HM := Lib.hid hnm
  have HB := Lib.hid hAB.symm
  rw [← hAB] at hn
  have hna6 : na ≤ 1000000 := by omega
  have HNN := Lib.hid hn
  clear hp0 hna hnm hAB hlen hn
  go_enter Try.func220, Try.ntmps220
  go_wp2
  go_loopw [10] (fun i wr => ∃ k : Nat, k ≤ na ∧ i = .int .i64 k ∧ Hid (RS w0 gl (pre ++ (B.take k ++ (A.drop k ++ (mid ++ (A.take k ++ (B.drop k ++ post)))))) wr)) (fun i _ => na - (intOf i).toNat)
  case atStart => exact ⟨0, Nat.zero_le _, rfl, by simpa using R0⟩
  case round =>
    clear R0
    obtain ⟨k, hk, rfl, HR⟩ := hrel
    by_cases hlt : k < na
    · have hki : (k : Int) < na := by omega
      have hka : k < A.length := by rw [HA.out]; exact hlt
      have hkb : k < B.length := by rw [HB.out]; exact hlt
      obtain ⟨x, hx⟩ : ∃ x, A[k] = x := ⟨_, rfl⟩
      obtain ⟨y, hy⟩ : ∃ y, B[k] = y := ⟨_, rfl⟩
      have ea : A.drop k = x :: A.drop (k + 1) := by rw [List.drop_eq_getElem_cons hka, hx]
      have eb : B.drop k = y :: B.drop (k + 1) := by rw [List.drop_eq_getElem_cons hkb, hy]
      have ta : A.take (k + 1) = A.take k ++ [x] := by rw [List.take_succ_eq_append_getElem hka, hx]
      have tb : B.take (k + 1) = B.take k ++ [y] := by rw [List.take_succ_eq_append_getElem hkb, hy]
      have hform : pre ++ (B.take k ++ (A.drop k ++ (mid ++ (A.take k ++ (B.drop k ++ post))))) = (pre ++ B.take k) ++ x :: ((A.drop (k + 1) ++ (mid ++ A.take k)) ++ y :: (B.drop (k + 1) ++ post)) := by rw [ea, eb]; simp
      have hfin : pre ++ (B.take (k + 1) ++ (A.drop (k + 1) ++ (mid ++ (A.take (k + 1) ++ (B.drop (k + 1) ++ post))))) = (pre ++ B.take k) ++ y :: ((A.drop (k + 1) ++ (mid ++ A.take k)) ++ x :: (B.drop (k + 1) ++ post)) := by rw [ta, tb]; simp
      have hr := HR.out
      rw [hform] at hr
      have l1 : (pre ++ B.take k).length = p0 + k := by rw [List.length_append, HP.out, List.length_take, HB.out]; omega
      have l2 : (A.drop (k + 1) ++ (mid ++ A.take k)).length = na - 1 + nm := by simp only [List.length_append, List.length_drop, List.length_take, HA.out, HM.out]; omega
      obtain ⟨X, hX⟩ : ∃ X, pre ++ B.take k = X := ⟨_, rfl⟩
      obtain ⟨Y, hY⟩ : ∃ Y, A.drop (k + 1) ++ (mid ++ A.take k) = Y := ⟨_, rfl⟩
      rw [hX, hY] at hr hfin
      rw [hX] at l1
      rw [hY] at l2
      have hXl : (X ++ x :: (Y ++ y :: (B.drop (k + 1) ++ post))).length = n := by
        have h1 : (X ++ x :: (Y ++ y :: (B.drop (k + 1) ++ post))).length = X.length + (Y.length + (B.drop (k + 1) ++ post).length + 2) := by simp; omega
        have h2 : (B.drop (k + 1) ++ post).length = na - (k + 1) + post.length := by rw [List.length_append, List.length_drop, HB.out]
        have hn := HNN.out; rw [h1, l1, l2, h2, hn]; omega
      have i1 : p0 + k < n := by have := HNN.out; omega
      have i2 : p0 + na + nm + k < n := by have := HNN.out; omega
      obtain ⟨I, hI⟩ : ∃ I, p0 + k = I := ⟨_, rfl⟩
      obtain ⟨J, hJ⟩ : ∃ J, p0 + na + nm + k = J := ⟨_, rfl⟩
      have w1 : IntKind.i64.wrap ((p0 : Int) + (k : Int)) = (I : Int) := wrapk _ _ (by rw [← hI]; simp) (by rw [← hI]; exact Nat.le_trans (Nat.le_of_lt i1) (Nat.le_trans hlb (by decide)))
      have w2 : IntKind.i64.wrap ((p0 : Int) + (na : Int) + (nm : Int) + (k : Int)) = (J : Int) := wrapk _ _ (by rw [← hJ]; simp) (by rw [← hJ]; exact Nat.le_trans (Nat.le_of_lt i2) (Nat.le_trans hlb (by decide)))
      have hix := sw_idx hlt l1 l2
      rw [hI] at l1 i1
      rw [hJ] at i2 hix
      have z1 : (0 : Int) ≤ I := Int.natCast_nonneg _
      have z2 : (0 : Int) ≤ J := Int.natCast_nonneg _
      have z3 : (I : Int) < n := Int.ofNat_lt.2 i1
      have z4 : (J : Int) < n := Int.ofNat_lt.2 i2
      clear hI hJ
      have HIX := Lib.hid hix
      have HR1 := Lib.hid hr
      have HF := Lib.hid hfin
      have HXL := Lib.hid hXl
      have gx : (X ++ x :: (Y ++ y :: (B.drop (k + 1) ++ post)))[I]? = some x := by rw [← l1]; exact get_mid _ _ _
      have gy : (X ++ x :: (Y ++ y :: (B.drop (k + 1) ++ post)))[J]? = some y := by rw [hix]; exact get_mid2 _ _ _ _ _
      have HSW : Hid (((X ++ x :: (Y ++ y :: (B.drop (k + 1) ++ post))).set (I) y).set (J) x = X ++ y :: (Y ++ x :: (B.drop (k + 1) ++ post))) := Lib.hid (by rw [← l1, hix]; exact set_swap _ _ _ _ _)
      have LX : Hid (∀ j v, x.cells.toList[j]? = some v → wr.drew.cell? ((ad.add ((I) * 5)).add j) = some v) := Lib.hid (fun j v hj => hr.ld HAD.out gx j v hj)
      have LY : Hid (∀ j v, y.cells.toList[j]? = some v → wr.drew.cell? ((ad.add ((J) * 5)).add j) = some v) := Lib.hid (fun j v hj => hr.ld HAD.out gy j v hj)
      clear hix hform hfin hr gx gy hx hy ea eb ta tb hX hY l1 l2 hXl HR
      go_upto_region 3 with (fail)
      obtain ⟨wq, hwq⟩ : ∃ wq, wr.drew = wq := ⟨_, rfl⟩
      have HQ := Lib.hid (HR1.out.next (hwq ▸ (Gr.rfl' wr).dr))
      rw [hwq] at LX LY
      refine region_F [21, 23] (fun w' => w' = wq) (by kernel_rfl) ?_
      rw [hwq]
      clear hwq HR1
      have hSS : wq = wq := rfl
      refine anyF_take (i := 0) (v := ?_) (some 16) rfl rfl (by kernel_rfl) (fun _ _ _ h => h) (Or.inl ⟨by rfl, ?_⟩) (fun _ => hSS) ?_
      rotate_left
      · intro w' _; go_simp; (try with_reducible rfl)
      simp only [Act.put, List.setIfInBounds_toArray, List.set_cons_zero, List.set_cons_succ]
      refine anyF_take (i := 1) (v := ?_) (some 17) rfl rfl (by kernel_rfl) (fun _ _ _ h => h) (Or.inl ⟨by rfl, ?_⟩) (fun _ => hSS) ?_
      rotate_left
      · intro w' _; go_simp; (try with_reducible rfl)
      simp only [Act.put, List.setIfInBounds_toArray, List.set_cons_zero, List.set_cons_succ]
      refine anyF_take (i := 2) (v := ?_) (some 18) rfl rfl (by kernel_rfl) (fun _ _ _ h => h) (Or.inl ⟨by rfl, ?_⟩) (fun _ => hSS) ?_
      rotate_left
      · intro w' _; go_simp; (try with_reducible rfl)
      simp only [Act.put, List.setIfInBounds_toArray, List.set_cons_zero, List.set_cons_succ]
      refine anyF_take (i := 3) (v := ?_) (some 19) rfl rfl (by kernel_rfl) (fun _ _ _ h => h) (Or.inl ⟨by rfl, ?_⟩) (fun _ => hSS) ?_
      rotate_left
      · intro w' _; go_simp; (try with_reducible rfl)
      simp only [Act.put, List.setIfInBounds_toArray, List.set_cons_zero, List.set_cons_succ]
      refine anyF_take (i := 4) (v := ?_) (some 20) rfl rfl (by kernel_rfl) (fun _ _ _ h => h) (Or.inl ⟨by rfl, ?_⟩) (fun _ => hSS) ?_
      rotate_left
      · intro w' _; go_simp; (try with_reducible rfl)
      simp only [Act.put, List.setIfInBounds_toArray, List.set_cons_zero, List.set_cons_succ]
      refine anyF_take (i := 5) (v := ?_) (some 21) rfl rfl (by kernel_rfl) (fun _ _ _ h => h) (Or.inl ⟨by rfl, ?_⟩) (fun _ => hSS) ?_
      rotate_left
      · intro w' _; go_simp; (try with_reducible rfl)
      simp only [Act.put, List.setIfInBounds_toArray, List.set_cons_zero, List.set_cons_succ]
      refine anyF_take (i := 6) (v := ?_) (some 22) rfl rfl (by kernel_rfl) (fun _ _ _ h => h) (Or.inl ⟨by rfl, ?_⟩) (fun _ => hSS) ?_
      rotate_left
      · intro w' _; go_simp; (try with_reducible rfl)
      simp only [Act.put, List.setIfInBounds_toArray, List.set_cons_zero, List.set_cons_succ]
      refine anyF_take (i := 7) (v := ?_) (some 23) rfl rfl (by kernel_rfl) (fun _ _ _ h => h) (Or.inl ⟨by rfl, ?_⟩) (fun _ => hSS) ?_
      rotate_left
      · intro w' _; go_simp; (try with_reducible rfl)
      simp only [Act.put, List.setIfInBounds_toArray, List.set_cons_zero, List.set_cons_succ]
      refine anyF_take (i := 8) (v := ?_) (some 24) rfl rfl (by kernel_rfl) (fun _ _ _ h => h) (Or.inl ⟨by rfl, ?_⟩) (fun _ => hSS) ?_
      rotate_left
      · intro w' _; go_simp; (try with_reducible rfl)
      simp only [Act.put, List.setIfInBounds_toArray, List.set_cons_zero, List.set_cons_succ]
      refine anyF_take (i := 9) (v := ?_) (some 25) rfl rfl (by kernel_rfl) (fun _ _ _ h => h) (Or.inl ⟨by rfl, ?_⟩) (fun _ => hSS) ?_
      rotate_left
      · intro w' _; go_simp; (try with_reducible rfl)
      simp only [Act.put, List.setIfInBounds_toArray, List.set_cons_zero, List.set_cons_succ]
      refine anyF_take (i := 10) (v := ?_) (some 26) rfl rfl (by kernel_rfl) (fun _ _ _ h => h) (Or.inl ⟨by rfl, ?_⟩) (fun _ => hSS) ?_
      rotate_left
      · intro w' _; go_simp; (try with_reducible rfl)
      simp only [Act.put, List.setIfInBounds_toArray, List.set_cons_zero, List.set_cons_succ]
      refine anyF_take (i := 11) (v := ?_) (some 27) rfl rfl (by kernel_rfl) (fun _ _ _ h => h) (Or.inl ⟨by rfl, ?_⟩) (fun _ => hSS) ?_
      rotate_left
      · intro w' _; go_simp; (try with_reducible rfl)
      simp only [Act.put, List.setIfInBounds_toArray, List.set_cons_zero, List.set_cons_succ]
      refine anyF_take (i := 12) (v := ?_) (some 28) rfl rfl (by kernel_rfl) (fun _ _ _ h => h) (Or.inl ⟨by rfl, ?_⟩) (fun _ => hSS) ?_
      rotate_left
      · intro w' _; go_simp; (try with_reducible rfl)
      simp only [Act.put, List.setIfInBounds_toArray, List.set_cons_zero, List.set_cons_succ]
      refine anyF_read (i := 13) (some 29) rfl rfl (by kernel_rfl) (by kernel_rfl) (fun _ _ _ h => h) (yieldsIf_ld (by rfl) 49 (.tmp 28) rfl (ad.add ((J) * 5)) rfl y.cells.toList _ (fun w' hSw => by rw [hSw]; exact LY.out) Try.underlying49 rfl (by kernel_rfl)) hSS ?_
      simp only [Act.put, List.setIfInBounds_toArray, List.set_cons_zero, List.set_cons_succ]
      refine anyF_take (i := 14) (v := ?_) (some 30) rfl rfl (by kernel_rfl) (fun _ _ _ h => h) (Or.inl ⟨by rfl, ?_⟩) (fun _ => hSS) ?_
      rotate_left
      · intro w' _; go_simp; (try with_reducible rfl)
      simp only [Act.put, List.setIfInBounds_toArray, List.set_cons_zero, List.set_cons_succ]
      refine anyF_take (i := 15) (v := ?_) (some 31) rfl rfl (by kernel_rfl) (fun _ _ _ h => h) (Or.inl ⟨by rfl, ?_⟩) (fun _ => hSS) ?_
      rotate_left
      · intro w' _; go_simp; (try with_reducible rfl)
      simp only [Act.put, List.setIfInBounds_toArray, List.set_cons_zero, List.set_cons_succ]
      refine anyF_take (i := 16) (v := ?_) (some 32) rfl rfl (by kernel_rfl) (fun _ _ _ h => h) (Or.inl ⟨by rfl, ?_⟩) (fun _ => hSS) ?_
      rotate_left
      · intro w' _; go_simp; (try with_reducible rfl)
      simp only [Act.put, List.setIfInBounds_toArray, List.set_cons_zero, List.set_cons_succ]
      refine anyF_take (i := 17) (v := ?_) (some 33) rfl rfl (by kernel_rfl) (fun _ _ _ h => h) (Or.inl ⟨by rfl, ?_⟩) (fun _ => hSS) ?_
      rotate_left
      · intro w' _; go_simp; (try with_reducible rfl)
      simp only [Act.put, List.setIfInBounds_toArray, List.set_cons_zero, List.set_cons_succ]
      refine anyF_take (i := 18) (v := ?_) (some 34) rfl rfl (by kernel_rfl) (fun _ _ _ h => h) (Or.inl ⟨by rfl, ?_⟩) (fun _ => hSS) ?_
      rotate_left
      · intro w' _; go_simp; (try with_reducible rfl)
      simp only [Act.put, List.setIfInBounds_toArray, List.set_cons_zero, List.set_cons_succ]
      refine anyF_read (i := 19) (some 35) rfl rfl (by kernel_rfl) (by kernel_rfl) (fun _ _ _ h => h) (yieldsIf_ld (by rfl) 49 (.tmp 34) rfl (ad.add ((I) * 5)) rfl x.cells.toList _ (fun w' hSw => by rw [hSw]; exact LX.out) Try.underlying49 rfl (by kernel_rfl)) hSS ?_
      simp only [Act.put, List.setIfInBounds_toArray, List.set_cons_zero, List.set_cons_succ]
      refine anyF_take (i := 20) (v := ?_) (some 36) rfl rfl (by kernel_rfl) (fun _ _ _ h => h) (Or.inl ⟨by rfl, ?_⟩) (fun _ => hSS) ?_
      rotate_left
      · intro w' _; go_simp; (try with_reducible rfl)
      simp only [Act.put, List.setIfInBounds_toArray, List.set_cons_zero, List.set_cons_succ]
      refine anyF_its (i := 21) (by kernel_rfl) ?_
      refine wpOp_storeR y ad (I) HAD.out rfl rfl (.tmp 36) (.tmp 29) rfl rfl rfl rfl HQ.out (by rw [HXL.out]; exact i1) ?_
      intro w2 hR2 _
      refine ⟨fun hn => absurd' (by kernel_rfl) hn, ?_⟩
      have HR2 := Lib.hid hR2
      clear hR2 hSS HQ LX LY
      refine anyF_take (i := 22) (v := ?_) (some 37) rfl rfl (by kernel_rfl) (fun _ _ _ h => h) (Or.inl ⟨by rfl, ?_⟩) (fun hn => absurd' (by kernel_rfl) hn) ?_
      rotate_left
      · intro w' _; go_simp; (try with_reducible rfl)
      simp only [Act.put, List.setIfInBounds_toArray, List.set_cons_zero, List.set_cons_succ]
      refine anyF_its (i := 23) (by kernel_rfl) ?_
      refine wpOp_storeR x ad J HAD.out rfl rfl (.tmp 37) (.tmp 35) rfl rfl rfl rfl HR2.out (by rw [List.length_set, HXL.out]; exact i2) ?_
      intro w3 hR3 _
      refine ⟨fun hn => absurd' (by kernel_rfl) hn, ?_⟩
      rw [HSW.out, ← HF.out] at hR3
      have HR3 := Lib.hid hR3
      clear hR3 HR2 HSW HF HXL z1 z2 z3 z4 i1 i2 HIX
      refine anyF_done (by kernel_rfl) ?_ _
      go_wp2
      go_roundw
      case rel => exact ⟨k + 1, by omega, by go_num, HR3⟩
      case measure => simp [intOf]; omega
    · have hki : ¬ (k : Int) < na := by omega
      have hkk : k = na := by omega
      have hr := HR.out
      rw [hkk, List.take_of_length_le (by rw [HB.out]; exact Nat.le_refl _), List.drop_of_length_le (by rw [HA.out]; exact Nat.le_refl _), List.take_of_length_le (by rw [HA.out]; exact Nat.le_refl _), List.drop_of_length_le (by rw [HB.out]; exact Nat.le_refl _), List.nil_append, List.nil_append] at hr
      have HE := Lib.hid hr
      clear hr HR hkk
      go_wp2
      go_end0
      exact ⟨rfl, HE.out⟩
end Go.Proofs.Ytfobnemocodomaa
set_option linter.unusedVariables false
set_option linter.unusedSimpArgs false
set_option maxHeartbeats 2000000
namespace Go.Proofs.Ytfobnemocodomaa
open Go.RowKit Go.Great

theorem RS.vers {w0 W : World} {gl : Nat} {xs : List Vx} (h : RS w0 gl xs W) (ho : vsOk W xs) (hl : xs.length ≤ 9223372036854775807) : Vers W (some ⟨gl, 0, none⟩) xs := by
  refine ⟨hl, fun i hi => ⟨_, rfl, ho _ (List.getElem_mem hi), fun j v hj => ?_⟩⟩
  exact h.ld rfl (List.getElem?_eq_getElem hi) j v (by simpa using hj)
theorem vCells_take : ∀ (xs : List Vx) (i : Nat), vCells (xs.take i) = (vCells xs).take (i * 5)
  | [], i => by simp [vCells]
  | x :: r, 0 => by simp [vCells]
  | x :: r, i + 1 => by
    have e : ∀ (z : Vx) (s : List Vx), vCells (z :: s) = z.cells.toList ++ vCells s := fun z s => by simp [vCells]
    have hl : x.cells.toList.length = 5 := rfl
    rw [List.take_succ_cons, e, e, vCells_take r i, show (i + 1) * 5 = x.cells.toList.length + i * 5 by rw [hl]; omega, List.take_length_add_append]
theorem RS.cut {w0 W : World} {gl : Nat} {xs : List Vx} (h : RS w0 gl xs W) {i : Nat} (hi : i ≤ xs.length) : RS w0 gl (xs.take i) W := by
  obtain ⟨c, cap, cur, hv, h1, h2, h3, h4, h5, h6⟩ := h.row
  cases hv
  have hl : (xs.take i).length = i := by rw [List.length_take]; omega
  refine ⟨h.gr, h.base, c, c, cur, rfl, h1, by omega, h3, h4, by rw [hl, vCells_len, hl], ?_⟩
  rw [hl, vCells_take, ← h6, List.take_take]
  congr 1
  omega
theorem RS.fill {w0 W : World} {gl : Nat} {xs : List Vx} (h : RS w0 gl xs W) {i : Nat} (vs : List Value) (hi : i * 5 + vs.length = xs.length * 5) : RS w0 gl (xs.take i) (W.setCells gl (i * 5) vs) := by
  have hxi : i ≤ xs.length := by omega
  have hk := h.cut hxi
  obtain ⟨c, h1⟩ := h.row
  have hp := h1.put (i * 5) vs (by omega)
  obtain ⟨cap, cur, hv, k1, k2, k3, k4, k5, k6⟩ := hp
  cases hv
  have hl : (xs.take i).length = i := by rw [List.length_take]; omega
  refine ⟨gr_kcells h.gr h.base _ _, h.base, c, c, cur, rfl, k1, by omega, k3, k4, by rw [hl, vCells_len, hl], ?_⟩
  rw [hl, vCells_take]
  have e : cur.toList.take (i * 5) = (cur.toList.take (xs.length * 5)).take (i * 5) := by rw [List.take_take]; congr 1; omega
  rw [e, k6, List.append_assoc, List.take_append_of_le_length (by rw [List.length_take, vCells_len]; omega), List.take_take]
  congr 1
  omega
theorem zc_one (n : Nat) : ∀ v ∈ (Builtin.zeroCells (Value.agg Z5).cells n).toList, v.oneCell' = true := by
  intro v hv
  unfold Builtin.zeroCells at hv
  simp only [Array.toList_map, List.mem_map] at hv
  obtain ⟨k, _, rfl⟩ := hv
  have h5 : (Value.agg Z5).cells.size = 5 := rfl
  rw [h5]
  have : k % 5 < 5 := by omega
  rcases (by omega : k % 5 = 0 ∨ k % 5 = 1 ∨ k % 5 = 2 ∨ k % 5 = 3 ∨ k % 5 = 4) with h | h | h | h | h <;> rw [h] <;> rfl
theorem run_clearV (w : World) (ty : TypeId) (gl i m c : Nat) (hm : 0 < m) (h1 : ∀ j, j < m * 5 → (w.cell? ⟨gl, i * 5 + j, none⟩).isSome = true ∧ w.frozen? ⟨gl, i * 5 + j, none⟩ = false) :
    (Builtin.clear_ #[22] ty #[.slice (some ⟨gl, i * 5, none⟩) m c]).run Try.prog w = .ok (.tuple #[]) (w.setCells gl (i * 5) (Builtin.zeroCells (Value.agg Z5).cells m).toList) := by
  obtain ⟨i0, hi, hz0, hzs, hz2⟩ := info_parts infoV
  have hlen : (Builtin.zeroCells (Value.agg Z5).cells m).toList.length = m * 5 := by rw [Array.length_toList, zero_size]; rfl
  have hs := run_storeCells_cells (P := Try.prog) gl (i * 5) (Builtin.zeroCells (Value.agg Z5).cells m).toList 0 w (fun j hj => (h1 j (by omega)).1) (fun j hj => (h1 j (by omega)).2) (zc_one m)
  rw [Nat.add_zero] at hs
  have hm0 : m ≠ 0 := by omega
  cases m with
  | zero => omega
  | succ m => simp [Builtin.clear_, run_underlying Try.underlying22, zeroValue, typeInfo, hi, hz0, hs]
theorem clearR {w0 : World} {gl : Nat} {xs : List Vx} {ops : Array Oper} {rest : List Oper} {o : Oper} {a : Act} {w : World} {Q : Exit → Act → World → Prop} (i m c : Nat) (hg : o.guard = none) (x : Operand) (ho : o.op = .call { callee := .builtin .clear, args := #[x], argTypes := #[22] }) (hd : o.dst = none)
    (hx : a.eval x = .slice (some ⟨gl, i * 5, none⟩) m c) (hR : RS w0 gl xs w) (hm : 0 < m) (hi : i + m = xs.length)
    (h : ∀ wt : World, RS w0 gl (xs.take i) wt → Sg gl w wt → wpList Try.prog ops Q rest a wt) : wpList Try.prog ops Q (o :: rest) a w := by
  have hlen : (Builtin.zeroCells (Value.agg Z5).cells m).toList.length = m * 5 := by rw [Array.length_toList, zero_size]; rfl
  have hrun := run_clearV w o.type gl i m c hm (fun j hj => by
    obtain ⟨cc, h1⟩ := hR.row
    have hv := List.getElem?_eq_getElem (l := vCells xs) (i := i * 5 + j) (by rw [vCells_len]; omega)
    have := h1.cell (i * 5 + j) _ hv
    exact ⟨by rw [this.1]; rfl, this.2⟩)
  refine wpList_plain hg fun K hK => ?_
  unfold Oper.wp execOp
  simp only [ho, resolve, invoke, builtin, Sem.run_bind, Sem.run_pure, Result.andThen_ok, List.map_toArray, List.map_cons, List.map_nil, hx, hrun]
  refine hK _ _ ?_
  rw [hd]
  exact h _ (hR.fill _ (by rw [hlen]; omega)) (setCells_sg _ _ _ _)
/-- what is left when those that m covers are deleted -/
def unc (m l : List Vx) : List Vx := l.filter fun x => !covB m x.P x.C
theorem cvIdx_cases (m : List Vx) : ∀ (l : List Vx) (b : Int), (cvIdx m b l = -1 ∧ unc m l = l ∧ (0 ≤ b ∨ True)) ∨ ∃ k : Nat, ∃ h : k < l.length, cvIdx m b l = b + k ∧ unc m (l.take k) = l.take k ∧ covB m l[k].P l[k].C = true
  | [], b => Or.inl ⟨rfl, rfl, Or.inr trivial⟩
  | x :: r, b => by
    unfold cvIdx
    by_cases hx : covB m x.P x.C = true
    · rw [if_pos hx]
      exact Or.inr ⟨0, by simp, by simp, rfl, hx⟩
    · rw [if_neg hx]
      have hxf : covB m x.P x.C = false := by simpa using hx
      rcases cvIdx_cases m r (b + 1) with ⟨h1, h2, _⟩ | ⟨k, hk, h1, h2, h3⟩
      · left
        refine ⟨h1, ?_, Or.inr trivial⟩
        unfold unc at *
        rw [List.filter_cons, hxf, h2]; rfl
      · right
        refine ⟨k + 1, by simpa using hk, by rw [h1]; simp; omega, ?_, by simpa using h3⟩
        unfold unc at *
        rw [List.take_succ_cons, List.filter_cons, hxf, h2]; rfl
theorem unc_take {m l : List Vx} {j : Nat} (h : j < l.length) : unc m (l.take (j + 1)) = unc m (l.take j) ++ (if covB m l[j].P l[j].C = true then [] else [l[j]]) := by
  unfold unc
  rw [List.take_succ_eq_append_getElem h, List.filter_append]
  congr 1
  cases hc : covB m l[j].P l[j].C <;> simp [hc]
end Go.Proofs.Ytfobnemocodomaa
set_option maxHeartbeats 200000
set_option linter.unusedVariables false
set_option linter.unusedSimpArgs false
namespace Go.Proofs.Ytfobnemocodomaa

theorem ver_parts {x : Vx} (h : verChk x = 0) : (0 ≤ x.P ∧ x.P < 64 ∧ 1 ≤ x.C ∧ x.C ≤ 1048576) ∧ chk x.pl = 0 ∧ hasV x.pl x.P x.C = false ∧ x.T.size ≤ 48 ∧ ¬ (x.D = true ∧ x.T ≠ ⟨#[]⟩) := by
  unfold verChk at h
  by_cases h0 : dotChk x.P x.C = 0
  · rw [if_neg (by simpa using h0)] at h
    by_cases h1 : chk x.pl = 0
    · rw [if_neg (by simpa using h1)] at h
      by_cases h2 : hasV x.pl x.P x.C = true
      · rw [if_pos h2] at h; omega
      · rw [if_neg h2] at h
        by_cases h3 : 48 < x.T.size
        · rw [if_pos h3] at h; omega
        · rw [if_neg h3] at h
          by_cases h4 : x.D = true ∧ x.T ≠ ⟨#[]⟩
          · rw [if_pos h4] at h; omega
          · refine ⟨?_, h1, by simpa using h2, by omega, h4⟩
            unfold dotChk at h0
            split at h0
            · omega
            · split at h0 <;> omega
    · rw [if_pos h1] at h; exact absurd h h1
  · rw [if_pos h0] at h; exact absurd h h0
theorem ver_of {x : Vx} (h0 : 0 ≤ x.P ∧ x.P < 64 ∧ 1 ≤ x.C ∧ x.C ≤ 1048576) (h1 : chk x.pl = 0) (h2 : hasV x.pl x.P x.C = false) (h3 : x.T.size ≤ 48) (h4 : ¬ (x.D = true ∧ x.T ≠ ⟨#[]⟩)) : verChk x = 0 := by
  have hd : dotChk x.P x.C = 0 := by unfold dotChk; rw [if_neg (by omega), if_neg (by omega)]
  unfold verChk
  rw [if_neg (by simpa using hd), if_neg (by simpa using h1), if_neg (by simp [h2]), if_neg (by omega), if_neg h4]
theorem verGo_zero : ∀ (l : List Vx) (la : Int), verGo la l = 0 ↔ (∀ x ∈ l, verChk x = 0 ∧ la < x.P) ∧ Ups l
  | [], la => by simp [verGo, Ups]
  | x :: r, la => by
    have ih := verGo_zero r x.P
    unfold verGo
    by_cases h : verChk x = 0
    · rw [if_neg (by simpa using h)]
      by_cases h2 : x.P ≤ la
      · rw [if_pos h2]
        constructor
        · intro e; omega
        · rintro ⟨k, _⟩; have := (k x (by simp)).2; omega
      · rw [if_neg h2, ih]
        constructor
        · rintro ⟨a, b⟩
          refine ⟨fun y hy => ?_, List.pairwise_cons.2 ⟨fun y hy => (a y hy).2, b⟩⟩
          rcases List.mem_cons.1 hy with rfl | hy
          · exact ⟨h, by omega⟩
          · have := a y hy; exact ⟨this.1, by omega⟩
        · rintro ⟨a, b⟩
          have b' := List.pairwise_cons.1 b
          exact ⟨fun y hy => ⟨(a y (List.mem_cons_of_mem _ hy)).1, b'.1 y hy⟩, b'.2⟩
    · rw [if_pos h]
      constructor
      · intro e; exact absurd e h
      · rintro ⟨k, _⟩; exact absurd (k x (by simp)).1 h
theorem ups_len : ∀ (l : List Vx) (lo : Int), Ups l → (∀ x ∈ l, lo ≤ x.P ∧ x.P < 64) → lo ≤ 64 → (l.length : Int) ≤ 64 - lo
  | [], lo, _, _, h => by simp; omega
  | x :: r, lo, h, k, hl => by
    have hx := k x (by simp)
    have h' := List.pairwise_cons.1 h
    have := ups_len r (x.P + 1) h'.2 (fun y hy => ⟨by have := h'.1 y hy; omega, (k y (List.mem_cons_of_mem _ hy)).2⟩) (by omega)
    simp only [List.length_cons]; omega
theorem covB_iff (l : List Vx) (p c : Int) : covB l p c = true ↔ ∃ y ∈ l, hasV y.pl p c = true := by unfold covB; rw [List.any_eq_true]
theorem covAny_iff (l m : List Vx) : covAny l m = true ↔ ∃ x ∈ m, covB l x.P x.C = true := by unfold covAny; rw [List.any_eq_true]
theorem leaf_zero (l : List Vx) : leafChk l = 0 ↔ (∀ x ∈ l, verChk x = 0) ∧ Ups l ∧ ∀ x ∈ l, covB l x.P x.C = false := by
  unfold leafChk
  by_cases h64 : 64 < l.length
  · rw [if_pos h64]
    constructor
    · intro e; omega
    · rintro ⟨a, b, _⟩
      have := ups_len l 0 b (fun x hx => by have := (ver_parts (a x hx)).1; omega) (by omega)
      omega
  · rw [if_neg h64]
    by_cases hg : verGo (-1) l = 0
    · rw [if_neg (by simpa using hg)]
      obtain ⟨a, b⟩ := (verGo_zero l (-1)).1 hg
      by_cases hc : covAny l l = true
      · rw [if_pos hc]
        constructor
        · intro e; omega
        · rintro ⟨_, _, c⟩
          obtain ⟨x, hx, k⟩ := (covAny_iff l l).1 hc
          rw [c x hx] at k; cases k
      · rw [if_neg hc]
        refine ⟨fun _ => ⟨fun x hx => (a x hx).1, b, fun x hx => ?_⟩, fun _ => rfl⟩
        cases e : covB l x.P x.C with
        | false => rfl
        | true => exact absurd ((covAny_iff l l).2 ⟨x, hx, e⟩) hc
    · rw [if_pos hg]
      constructor
      · intro e; exact absurd e hg
      · rintro ⟨a, b, _⟩
        refine absurd ((verGo_zero l (-1)).2 ⟨fun x hx => ⟨a x hx, ?_⟩, b⟩) hg
        have := (ver_parts (a x hx)).1; omega
end Go.Proofs.Ytfobnemocodomaa
