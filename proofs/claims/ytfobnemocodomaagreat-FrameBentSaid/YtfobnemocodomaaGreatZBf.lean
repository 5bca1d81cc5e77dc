/- Joined texts: SrtP SynP LeafP. -/
import Derived.Test.YtfobnemocodomaaGreatZBa
import Derived.Sort.Lot0
import Derived.Test.YtfobnemocodomaaGreatZBd
set_option maxHeartbeats 200000
set_option linter.unusedVariables false
set_option linter.unusedSimpArgs false
namespace Go.Proofs.YtfobnemocodomaaGreat
open Go.Sort

section
variable {α : Type}
theorem at_mid [Inhabited α] (x z : List α) (p : α) : (x ++ p :: z)[x.length]! = p := by
  simp [getElem!_def]
theorem at_mid2 [Inhabited α] (x y z : List α) (p q : α) : (x ++ p :: (y ++ q :: z))[x.length + 1 + y.length]! = q := by
  have e : x ++ p :: (y ++ q :: z) = (x ++ p :: y) ++ q :: z := by simp
  have h : (x ++ p :: y).length = x.length + 1 + y.length := by simp; omega
  rw [e, ← h, at_mid]
theorem set_mid (x z : List α) (p q : α) : (x ++ p :: z).set x.length q = x ++ q :: z := by
  rw [List.set_append_right _ _ (Nat.le_refl _)]; simp
theorem arr_at [Inhabited α] (l : List α) (i : Nat) : l.toArray[i]! = l[i]! := by simp [getElem!_def]
theorem swp_list [Inhabited α] (x y z : List α) (p q : α) : swp (x ++ p :: (y ++ q :: z)).toArray x.length (x.length + 1 + y.length) = (x ++ q :: (y ++ p :: z)).toArray := by
  unfold swp
  rw [arr_at, arr_at, at_mid, at_mid2]
  simp only [List.setIfInBounds_toArray]
  rw [set_mid]
  have e : x ++ q :: (y ++ q :: z) = (x ++ q :: y) ++ q :: z := by simp
  have h : (x ++ q :: y).length = x.length + 1 + y.length := by simp; omega
  rw [e, ← h, set_mid]; simp
theorem swp_list' [Inhabited α] (x y z : List α) (p q : α) : swp (x ++ p :: (y ++ q :: z)).toArray (x.length + 1 + y.length) x.length = (x ++ q :: (y ++ p :: z)).toArray := by
  unfold swp
  rw [arr_at, arr_at, at_mid, at_mid2]
  have e : x ++ p :: (y ++ q :: z) = (x ++ p :: y) ++ q :: z := by simp
  have h : (x ++ p :: y).length = x.length + 1 + y.length := by simp; omega
  simp only [List.setIfInBounds_toArray]
  rw [e, ← h, set_mid]
  rw [show x ++ p :: y ++ p :: z = x ++ p :: (y ++ p :: z) by simp, set_mid]
theorem at_seg [Inhabited α] (x u z : List α) (i : Nat) (h : i < u.length) : (x ++ (u ++ z))[x.length + i]! = u[i]! := by
  simp [getElem!_def, List.getElem?_append_right, List.getElem?_append_left, h]

variable (P C : α → Int)
/-- peers upwards, counts downwards -/
def ltk (x y : α) : Bool := decide (P x < P y ∨ (P x = P y ∧ C y < C x))
def Srt (l : List α) : Prop := l.Pairwise fun x y => ltk P C y x = false
def inK (a b : Int) (y : α) : Bool := decide (P y = a ∧ C y = b)
/-- the same, class by class -/
def Stb (r l : List α) : Prop := ∀ a b : Int, r.filter (inK P C a b) = l.filter (inK P C a b)
/-- sorted, and stable -/
structure Mrg (r l : List α) : Prop where
  len : r.length = l.length
  srt : Srt P C r
  stb : Stb P C r l
variable {P C}
theorem ltk_trans1 {x y z : α} (h : ltk P C y x = false) (k : ltk P C z y = false) : ltk P C z x = false := by
  unfold ltk at *; simp only [decide_eq_false_iff_not] at *; omega
theorem ltk_trans2 {x y z : α} (h : ltk P C x y = true) (k : ltk P C z y = false) : ltk P C x z = true := by
  unfold ltk at *; simp only [decide_eq_false_iff_not, decide_eq_true_eq] at *; omega
theorem ltk_trans3 {x y z : α} (h : ltk P C y x = false) (k : ltk P C y z = true) : ltk P C x z = true := by
  unfold ltk at *; simp only [decide_eq_false_iff_not, decide_eq_true_eq] at *; omega
theorem ltk_not {x y : α} (h : ltk P C x y = true) : ltk P C y x = false := by
  unfold ltk at *; simp only [decide_eq_false_iff_not, decide_eq_true_eq] at *; omega
theorem ltk_refl (x : α) : ltk P C x x = false := by unfold ltk; simp
theorem Stb.refl (l : List α) : Stb P C l l := fun _ _ => rfl
theorem Stb.trans {a b c : List α} (h : Stb P C a b) (k : Stb P C b c) : Stb P C a c := fun x y => (h x y).trans (k x y)
theorem Stb.symm {a b : List α} (h : Stb P C a b) : Stb P C b a := fun x y => (h x y).symm
theorem Stb.app {a b c d : List α} (h : Stb P C a b) (k : Stb P C c d) : Stb P C (a ++ c) (b ++ d) := fun x y => by
  rw [List.filter_append, List.filter_append, h x y, k x y]
theorem Stb.swap {u v : List α} (h : ∀ x ∈ u, ∀ y ∈ v, ltk P C y x = true) : Stb P C (v ++ u) (u ++ v) := fun a b => by
  rw [List.filter_append, List.filter_append]
  cases hu : u.filter (inK P C a b) with
  | nil => simp
  | cons x r =>
    have hx : x ∈ u.filter (inK P C a b) := by rw [hu]; simp
    obtain ⟨hx1, hx2⟩ := List.mem_filter.1 hx
    have hv : v.filter (inK P C a b) = [] := by
      rw [List.filter_eq_nil_iff]
      intro y hy hk
      have := h x hx1 y hy
      unfold inK at *; unfold ltk at this
      simp only [decide_eq_true_eq] at *
      omega
    rw [hv]; simp
theorem Stb.mem {r l : List α} (h : Stb P C r l) {x : α} : x ∈ r ↔ x ∈ l := by
  have e := h (P x) (C x)
  have k : inK P C (P x) (C x) x = true := by simp [inK]
  constructor
  · intro hx
    have : x ∈ r.filter (inK P C (P x) (C x)) := List.mem_filter.2 ⟨hx, k⟩
    rw [e] at this; exact (List.mem_filter.1 this).1
  · intro hx
    have : x ∈ l.filter (inK P C (P x) (C x)) := List.mem_filter.2 ⟨hx, k⟩
    rw [← e] at this; exact (List.mem_filter.1 this).1
theorem Mrg.refl {l : List α} (h : Srt P C l) : Mrg P C l l := ⟨rfl, h, Stb.refl _⟩
theorem Srt.app {a b : List α} (ha : Srt P C a) (hb : Srt P C b) (h : ∀ x ∈ a, ∀ y ∈ b, ltk P C y x = false) : Srt P C (a ++ b) := List.pairwise_append.2 ⟨ha, hb, h⟩
theorem Srt.left {a b : List α} (h : Srt P C (a ++ b)) : Srt P C a := (List.pairwise_append.1 h).1
theorem Srt.right {a b : List α} (h : Srt P C (a ++ b)) : Srt P C b := (List.pairwise_append.1 h).2.1
theorem Srt.cross {a b : List α} (h : Srt P C (a ++ b)) : ∀ x ∈ a, ∀ y ∈ b, ltk P C y x = false := (List.pairwise_append.1 h).2.2
/-- two merged halves are a whole that is merged -/
theorem Mrg.join {u1 u2 v1 v2 r1 r2 : List α} (hu : Srt P C (u1 ++ u2)) (hv : Srt P C (v1 ++ v2)) (c1 : ∀ x ∈ u1, ∀ y ∈ v2, ltk P C y x = false) (c2 : ∀ x ∈ u2, ∀ y ∈ v1, ltk P C y x = true)
    (h1 : Mrg P C r1 (u1 ++ v1)) (h2 : Mrg P C r2 (u2 ++ v2)) : Mrg P C (r1 ++ r2) ((u1 ++ u2) ++ (v1 ++ v2)) := by
  refine ⟨?_, h1.srt.app h2.srt fun x hx y hy => ?_, ?_⟩
  · have a := h1.len; have b := h2.len
    simp only [List.length_append] at *; omega
  · rcases List.mem_append.1 (h1.stb.mem.1 hx) with hx | hx <;> rcases List.mem_append.1 (h2.stb.mem.1 hy) with hy | hy
    · exact hu.cross x hx y hy
    · exact c1 x hx y hy
    · exact ltk_not (c2 y hy x hx)
    · exact hv.cross x hx y hy
  · have e1 : Stb P C (r1 ++ r2) ((u1 ++ v1) ++ (u2 ++ v2)) := h1.stb.app h2.stb
    refine e1.trans ?_
    have e2 : (u1 ++ v1) ++ (u2 ++ v2) = u1 ++ ((v1 ++ u2) ++ v2) := by simp
    have e3 : (u1 ++ u2) ++ (v1 ++ v2) = u1 ++ ((u2 ++ v1) ++ v2) := by simp
    rw [e2, e3]
    exact (Stb.refl _).app ((Stb.swap c2).app (Stb.refl _))
theorem srt_le {u : List α} (h : Srt P C u) {i j : Nat} (hij : i ≤ j) (hj : j < u.length) : ltk P C u[j] (u[i]'(by omega)) = false := by
  rcases Nat.lt_or_ge i j with h' | h'
  · exact (List.pairwise_iff_getElem.1 h) i j (by omega) hj h'
  · obtain rfl : i = j := by omega
    exact ltk_refl _
theorem bang [Inhabited α] {u : List α} {i : Nat} (h : i < u.length) : u[i]! = u[i] := by simp [getElem!_def, h]
theorem cut1 [Inhabited α] {u v : List α} (hu : Srt P C u) (hv : Srt P C v) {i j : Nat} (hi : i ≤ u.length) (h : i = 0 ∨ j = v.length ∨ (j < v.length ∧ ltk P C v[j]! u[i - 1]! = false)) : ∀ x ∈ u.take i, ∀ y ∈ v.drop j, ltk P C y x = false := by
  intro x hx y hy
  obtain ⟨a, ha, rfl⟩ := List.getElem_of_mem hx
  obtain ⟨b, hb, rfl⟩ := List.getElem_of_mem hy
  simp only [List.length_take, List.length_drop] at ha hb
  rw [List.getElem_take, List.getElem_drop]
  rcases h with h | h | ⟨h1, h⟩
  · omega
  · omega
  · rw [bang h1, bang (by omega)] at h
    exact ltk_trans1 (srt_le hu (show a ≤ i - 1 by omega) (by omega)) (ltk_trans1 h (srt_le hv (show j ≤ j + b by omega) (by omega)))
theorem cut2 [Inhabited α] {u v : List α} (hu : Srt P C u) (hv : Srt P C v) {i j : Nat} (hj : j ≤ v.length) (h : i = u.length ∨ j = 0 ∨ (i < u.length ∧ ltk P C v[j - 1]! u[i]! = true)) : ∀ x ∈ u.drop i, ∀ y ∈ v.take j, ltk P C y x = true := by
  intro x hx y hy
  obtain ⟨a, ha, rfl⟩ := List.getElem_of_mem hx
  obtain ⟨b, hb, rfl⟩ := List.getElem_of_mem hy
  simp only [List.length_take, List.length_drop] at ha hb
  rw [List.getElem_take, List.getElem_drop]
  rcases h with h | h | ⟨h1, h⟩
  · omega
  · omega
  · rw [bang h1, bang (by omega)] at h
    exact ltk_trans2 (ltk_trans3 (srt_le hv (show b ≤ j - 1 by omega) (by omega)) h) (srt_le hu (show i ≤ i + a by omega) (by omega))
/-- one that is set into a sorted row, at its place -/
theorem Mrg.ins1 {u : α} {v : List α} (hv : Srt P C v) {j : Nat} (hj : j ≤ v.length) (h1 : ∀ y ∈ v.take j, ltk P C y u = true) (h2 : ∀ y ∈ v.drop j, ltk P C y u = false) : Mrg P C (v.take j ++ u :: v.drop j) (u :: v) := by
  have hv' := hv
  rw [← List.take_append_drop j v] at hv'
  have := Mrg.join (u1 := []) (u2 := [u]) (v1 := v.take j) (v2 := v.drop j) (r1 := v.take j) (r2 := u :: v.drop j) (by simp [Srt]) hv' (by simp) (by simpa using h1) (by simpa using Mrg.refl hv'.left)
    (by simpa using Mrg.refl (show Srt P C ([u] ++ v.drop j) from Srt.app (by simp [Srt]) hv'.right (by simpa using h2)))
  simpa using this
theorem Mrg.ins2 {v : α} {u : List α} (hu : Srt P C u) {i : Nat} (hi : i ≤ u.length) (h1 : ∀ x ∈ u.take i, ltk P C v x = false) (h2 : ∀ x ∈ u.drop i, ltk P C v x = true) : Mrg P C (u.take i ++ v :: u.drop i) (u ++ [v]) := by
  have hu' := hu
  rw [← List.take_append_drop i u] at hu'
  have := Mrg.join (u1 := u.take i) (u2 := u.drop i) (v1 := [v]) (v2 := []) (r1 := u.take i ++ [v]) (r2 := u.drop i) hu' (by simp [Srt]) (by simp) (by simpa using h2)
    (Mrg.refl (hu'.left.app (by simp [Srt]) (by simpa using h1))) (by simpa using Mrg.refl hu'.right)
  simpa using this
end
end Go.Proofs.YtfobnemocodomaaGreat
set_option maxHeartbeats 200000
set_option linter.unusedVariables false
set_option linter.unusedSimpArgs false
namespace Go.Proofs.YtfobnemocodomaaGreat

instance : Inhabited Vx := ⟨⟨0, 0, none, [], 0, false, ⟨#[]⟩⟩⟩
/-- the best of a peer: the first of the greatest count -/
def bstStep (p : Int) (acc : Option Vx) (x : Vx) : Option Vx := if x.P = p then (match acc with | none => some x | some y => if y.C < x.C then some x else some y) else acc
def bstL (p : Int) (l : List Vx) : Option Vx := l.foldl (bstStep p) none
def isBest (l : List Vx) (p : Int) (x : Vx) : Prop := x.P = p ∧ (l.filter (inK Vx.P Vx.C p x.C)).head? = some x ∧ ∀ y ∈ l, y.P = p → y.C ≤ x.C
def Best (p : Int) (l : List Vx) : Option Vx → Prop
  | none => ∀ y ∈ l, y.P ≠ p
  | some x => isBest l p x
theorem isBest.mem {l : List Vx} {p : Int} {x : Vx} (h : isBest l p x) : x ∈ l := by
  have := List.mem_of_mem_head? (Option.mem_def.2 h.2.1)
  exact (List.mem_filter.1 this).1
theorem isBest.uniq {l : List Vx} {p : Int} {x y : Vx} (h : isBest l p x) (k : isBest l p y) : x = y := by
  have h1 := h.2.2 y k.mem k.1
  have h2 := k.2.2 x h.mem h.1
  have e : x.C = y.C := by omega
  have := h.2.1
  rw [e, k.2.1] at this
  exact (Option.some.inj this).symm
theorem Best.step {p : Int} {l : List Vx} {acc : Option Vx} (h : Best p l acc) (y : Vx) : Best p (l ++ [y]) (bstStep p acc y) := by
  unfold bstStep
  by_cases hy : y.P = p
  · rw [if_pos hy]
    cases acc with
    | none =>
      refine ⟨hy, ?_, ?_⟩
      · have : l.filter (inK Vx.P Vx.C p y.C) = [] := by
          rw [List.filter_eq_nil_iff]
          intro z hz hk
          have := h z hz
          simp [inK] at hk; exact this hk.1
        rw [List.filter_append, this]
        simp [inK, hy]
      · intro z hz hzp
        rcases List.mem_append.1 hz with hz | hz
        · exact absurd hzp (h z hz)
        · simp at hz; subst hz; omega
    | some x =>
      obtain ⟨h1, h2, h3⟩ := h
      by_cases hc : x.C < y.C
      · simp only [hc, if_true]
        refine ⟨hy, ?_, ?_⟩
        · have : l.filter (inK Vx.P Vx.C p y.C) = [] := by
            rw [List.filter_eq_nil_iff]
            intro z hz hk
            simp [inK] at hk
            have := h3 z hz hk.1
            omega
          rw [List.filter_append, this]
          simp [inK, hy]
        · intro z hz hzp
          rcases List.mem_append.1 hz with hz | hz
          · have := h3 z hz hzp; omega
          · simp at hz; subst hz; omega
      · simp only [hc, if_false]
        refine ⟨h1, ?_, ?_⟩
        · rw [List.filter_append, List.head?_append, h2]; rfl
        · intro z hz hzp
          rcases List.mem_append.1 hz with hz | hz
          · exact h3 z hz hzp
          · simp at hz; subst hz; omega
  · rw [if_neg hy]
    cases acc with
    | none =>
      intro z hz
      rcases List.mem_append.1 hz with hz | hz
      · exact h z hz
      · simp at hz; subst hz; exact hy
    | some x =>
      obtain ⟨h1, h2, h3⟩ := h
      refine ⟨h1, ?_, ?_⟩
      · rw [List.filter_append, List.head?_append, h2]; rfl
      · intro z hz hzp
        rcases List.mem_append.1 hz with hz | hz
        · exact h3 z hz hzp
        · simp at hz; subst hz; exact absurd hzp hy
theorem Best.fold (p : Int) : ∀ (l q : List Vx) (acc : Option Vx), Best p q acc → Best p (q ++ l) (l.foldl (bstStep p) acc)
  | [], q, acc, h => by simpa using h
  | y :: r, q, acc, h => by
    have := Best.fold p r (q ++ [y]) _ (h.step y)
    simpa using this
theorem bst_best (p : Int) (l : List Vx) : Best p l (bstL p l) := by
  have := Best.fold p l [] none (fun y hy => by simp at hy)
  rw [List.nil_append] at this
  exact this
theorem bst_iff (p : Int) (l : List Vx) (x : Vx) : bstL p l = some x ↔ isBest l p x := by
  have h := bst_best p l
  constructor
  · intro e; rw [e] at h; exact h
  · intro k
    cases e : bstL p l with
    | none => rw [e] at h; exact absurd k.1 (h x k.mem)
    | some y => rw [e] at h; rw [isBest.uniq h k]
def syncOf (l : List Vx) : List Vx := (List.range 64).filterMap fun p => bstL (p : Nat) l
theorem syncOf_mem (l : List Vx) (x : Vx) : x ∈ syncOf l ↔ (0 ≤ x.P ∧ x.P < 64 ∧ isBest l x.P x) := by
  unfold syncOf
  rw [List.mem_filterMap]
  constructor
  · rintro ⟨p, hp, e⟩
    rw [bst_iff] at e
    have hp' := List.mem_range.1 hp
    have := e.1
    refine ⟨by omega, by omega, ?_⟩
    rw [this]; exact e
  · rintro ⟨h1, h2, h3⟩
    refine ⟨x.P.toNat, List.mem_range.2 (by omega), ?_⟩
    rw [bst_iff, show ((x.P.toNat : Nat) : Int) = x.P by omega]
    exact h3
/-- peers strictly upwards -/
def Ups (l : List Vx) : Prop := l.Pairwise fun x y => x.P < y.P
theorem syncOf_ups (l : List Vx) : Ups (syncOf l) := by
  unfold syncOf Ups
  rw [List.pairwise_filterMap]
  refine List.Pairwise.imp ?_ List.pairwise_lt_range
  intro a b hab x hx y hy
  have h1 := (bst_iff _ _ _).1 hx
  have h2 := (bst_iff _ _ _).1 hy
  rw [h1.1, h2.1]; omega
theorem ups_eq : ∀ (a b : List Vx), Ups a → Ups b → (∀ x, x ∈ a ↔ x ∈ b) → a = b
  | [], [], _, _, _ => rfl
  | [], y :: b, _, _, h => by have := (h y).2 (by simp); simp at this
  | x :: a, [], _, _, h => by have := (h x).1 (by simp); simp at this
  | x :: a, y :: b, ha, hb, h => by
    have hxa := List.pairwise_cons.1 ha
    have hyb := List.pairwise_cons.1 hb
    have hxy : x = y := by
      rcases List.mem_cons.1 ((h x).1 (by simp)) with e | h1
      · exact e
      · rcases List.mem_cons.1 ((h y).2 (by simp)) with e | h2
        · exact e.symm
        · have := hyb.1 x h1; have := hxa.1 y h2; omega
    subst hxy
    rw [ups_eq a b hxa.2 hyb.2 (fun z => by
      have hz := h z
      simp only [List.mem_cons] at hz
      constructor
      · intro k
        rcases hz.1 (Or.inr k) with e | k'
        · subst e; have := hxa.1 z k; omega
        · exact k'
      · intro k
        rcases hz.2 (Or.inr k) with e | k'
        · subst e; have := hyb.1 z k; omega
        · exact k')]
/-- what is left when of each run of one peer only the first is kept -/
def cgo (prev : Vx) : List Vx → List Vx
  | [] => []
  | y :: r => if y.P = prev.P then cgo y r else y :: cgo y r
def cmpV : List Vx → List Vx
  | [] => []
  | x :: r => x :: cgo x r
abbrev SrtV (l : List Vx) : Prop := Srt Vx.P Vx.C l
theorem srt_P {l : List Vx} {x y : Vx} (h : SrtV (x :: l)) (hy : y ∈ l) : x.P ≤ y.P ∧ (x.P = y.P → y.C ≤ x.C) := by
  have := (List.pairwise_cons.1 h).1 y hy
  unfold ltk at this
  simp only [decide_eq_false_iff_not] at this
  omega
theorem cgo_mem : ∀ (l : List Vx) (prev x : Vx), SrtV (prev :: l) → (x ∈ cgo prev l ↔ x.P ≠ prev.P ∧ l.find? (fun y => decide (y.P = x.P)) = some x)
  | [], prev, x, _ => by simp [cgo]
  | y :: r, prev, x, h => by
    have hr : SrtV (y :: r) := (List.pairwise_cons.1 h).2
    have hpy := (srt_P h (y := y) (by simp)).1
    have ih := cgo_mem r y x hr
    unfold cgo
    by_cases e : y.P = prev.P
    · rw [if_pos e, ih, List.find?_cons]
      by_cases e2 : y.P = x.P
      · simp only [e2, decide_true]
        constructor
        · rintro ⟨h1, _⟩; exact absurd rfl h1
        · rintro ⟨h1, _⟩; exact absurd (e2.symm.trans e) h1
      · simp only [decide_eq_false e2]
        constructor
        · rintro ⟨h1, h2⟩; exact ⟨by rw [← e]; exact h1, h2⟩
        · rintro ⟨h1, h2⟩; exact ⟨by rw [e]; exact h1, h2⟩
    · rw [if_neg e, List.mem_cons, ih, List.find?_cons]
      by_cases e2 : y.P = x.P
      · simp only [e2, decide_true, Option.some.injEq]
        constructor
        · rintro (h1 | ⟨h1, _⟩)
          · subst h1; exact ⟨e, rfl⟩
          · exact absurd rfl h1
        · rintro ⟨_, h2⟩; exact Or.inl h2.symm
      · simp only [decide_eq_false e2]
        constructor
        · rintro (h1 | ⟨h1, h2⟩)
          · subst h1; exact absurd rfl e2
          · have hx := List.mem_of_find?_eq_some h2
            have := (srt_P hr hx).1
            exact ⟨by omega, h2⟩
        · rintro ⟨_, h2⟩; exact Or.inr ⟨fun k => e2 k.symm, h2⟩
theorem cgo_ups : ∀ (l : List Vx) (prev : Vx), SrtV (prev :: l) → Ups (cgo prev l) ∧ ∀ x ∈ cgo prev l, prev.P < x.P
  | [], prev, _ => ⟨List.Pairwise.nil, fun x h => by simp [cgo] at h⟩
  | y :: r, prev, h => by
    have hr : SrtV (y :: r) := (List.pairwise_cons.1 h).2
    have hpy := (srt_P h (y := y) (by simp)).1
    obtain ⟨h1, h2⟩ := cgo_ups r y hr
    unfold cgo
    by_cases e : y.P = prev.P
    · rw [if_pos e]; exact ⟨h1, fun x hx => by have := h2 x hx; omega⟩
    · rw [if_neg e]
      refine ⟨List.pairwise_cons.2 ⟨h2, h1⟩, fun x hx => ?_⟩
      rcases List.mem_cons.1 hx with rfl | hx
      · omega
      · have := h2 x hx; omega
theorem cmpV_ups {l : List Vx} (h : SrtV l) : Ups (cmpV l) := by
  cases l with
  | nil => exact List.Pairwise.nil
  | cons x r => exact List.pairwise_cons.2 ⟨(cgo_ups r x h).2, (cgo_ups r x h).1⟩
theorem cmpV_mem {l : List Vx} (h : SrtV l) (x : Vx) : x ∈ cmpV l ↔ l.find? (fun y => decide (y.P = x.P)) = some x := by
  cases l with
  | nil => simp [cmpV]
  | cons y r =>
    show x ∈ y :: cgo y r ↔ _
    rw [List.mem_cons, cgo_mem r y x h, List.find?_cons]
    by_cases e2 : y.P = x.P
    · simp only [e2, decide_true, Option.some.injEq]
      constructor
      · rintro (h1 | ⟨h1, _⟩)
        · exact h1.symm
        · exact absurd rfl h1
      · intro h2; exact Or.inl h2.symm
    · simp only [decide_eq_false e2]
      constructor
      · rintro (h1 | ⟨_, h2⟩)
        · subst h1; exact absurd rfl e2
        · exact h2
      · intro h2; exact Or.inr ⟨fun k => e2 k.symm, h2⟩
theorem srt_find : ∀ (l : List Vx) (x : Vx), SrtV l → (l.find? (fun y => decide (y.P = x.P)) = some x ↔ isBest l x.P x)
  | [], x, _ => by simp [isBest]
  | y :: r, x, h => by
    have hr : SrtV r := (List.pairwise_cons.1 h).2
    have ih := srt_find r x hr
    rw [List.find?_cons]
    by_cases e : y.P = x.P
    · simp only [e, decide_true, Option.some.injEq]
      constructor
      · rintro rfl
        refine ⟨rfl, by simp [inK], fun z hz hzp => ?_⟩
        rcases List.mem_cons.1 hz with rfl | hz
        · omega
        · exact (srt_P h hz).2 hzp.symm
      · intro k
        by_cases ec : y.C = x.C
        · have := k.2.1
          simp [inK, e, ec] at this
          exact this
        · have h1 := k.2.2 y (by simp) e
          have hx : x ∈ r := by
            rcases List.mem_cons.1 k.mem with rfl | hx
            · exact absurd rfl ec
            · exact hx
          have := (srt_P h hx).2 e
          omega
    · simp only [decide_eq_false e]
      rw [ih]
      constructor
      · rintro ⟨h1, h2, h3⟩
        refine ⟨h1, by simpa [inK, e] using h2, fun z hz hzp => ?_⟩
        rcases List.mem_cons.1 hz with rfl | hz
        · exact absurd hzp e
        · exact h3 z hz hzp
      · rintro ⟨h1, h2, h3⟩
        exact ⟨h1, by simpa [inK, e] using h2, fun z hz hzp => h3 z (List.mem_cons_of_mem _ hz) hzp⟩
theorem best_stb {r l : List Vx} (h : Stb Vx.P Vx.C r l) (x : Vx) : isBest r x.P x ↔ isBest l x.P x := by
  unfold isBest
  rw [h x.P x.C]
  constructor
  · rintro ⟨a, b, c⟩; exact ⟨a, b, fun y hy => c y (h.mem.2 hy)⟩
  · rintro ⟨a, b, c⟩; exact ⟨a, b, fun y hy => c y (h.mem.1 hy)⟩
theorem cmpV_sync {r l : List Vx} (h : Mrg Vx.P Vx.C r l) (hp : ∀ x ∈ l, 0 ≤ x.P ∧ x.P < 64) : cmpV r = syncOf l := by
  refine ups_eq _ _ (cmpV_ups h.srt) (syncOf_ups l) fun x => ?_
  rw [cmpV_mem h.srt, srt_find r x h.srt, best_stb h.stb, syncOf_mem]
  constructor
  · intro k; have := hp x k.mem; exact ⟨this.1, this.2, k⟩
  · rintro ⟨_, _, k⟩; exact k
end Go.Proofs.YtfobnemocodomaaGreat
set_option maxHeartbeats 200000
set_option linter.unusedVariables false
set_option linter.unusedSimpArgs false
namespace Go.Proofs.YtfobnemocodomaaGreat

theorem ver_parts {x : Vx} (h : verChk x = 0) : (0 ≤ x.P ∧ x.P < 64 ∧ 1 ≤ x.C ∧ x.C ≤ 1048576) ∧ chk x.pl = 0 ∧ hasV x.pl x.P x.C = false ∧ x.T.size ≤ 48 ∧ ¬ (x.D = true ∧ x.T ≠ ⟨#[]⟩) := by
  unfold verChk at h
  by_cases h0 : dotChk x.P x.C = 0
  · rw [if_neg (by simpa using h0)] at h
    by_cases h1 : chk x.pl = 0
    · rw [if_neg (by simpa using h1)] at h
      by_cases h2 : hasV x.pl x.P x.C = true
      · rw [if_pos h2] at h; omega
      · rw [if_neg h2] at h
        by_cases h3 : 48 < x.T.size
        · rw [if_pos h3] at h; omega
        · rw [if_neg h3] at h
          by_cases h4 : x.D = true ∧ x.T ≠ ⟨#[]⟩
          · rw [if_pos h4] at h; omega
          · refine ⟨?_, h1, by simpa using h2, by omega, h4⟩
            unfold dotChk at h0
            split at h0
            · omega
            · split at h0 <;> omega
    · rw [if_pos h1] at h; exact absurd h h1
  · rw [if_pos h0] at h; exact absurd h h0
theorem ver_of {x : Vx} (h0 : 0 ≤ x.P ∧ x.P < 64 ∧ 1 ≤ x.C ∧ x.C ≤ 1048576) (h1 : chk x.pl = 0) (h2 : hasV x.pl x.P x.C = false) (h3 : x.T.size ≤ 48) (h4 : ¬ (x.D = true ∧ x.T ≠ ⟨#[]⟩)) : verChk x = 0 := by
  have hd : dotChk x.P x.C = 0 := by unfold dotChk; rw [if_neg (by omega), if_neg (by omega)]
  unfold verChk
  rw [if_neg (by simpa using hd), if_neg (by simpa using h1), if_neg (by simp [h2]), if_neg (by omega), if_neg h4]
theorem verGo_zero : ∀ (l : List Vx) (la : Int), verGo la l = 0 ↔ (∀ x ∈ l, verChk x = 0 ∧ la < x.P) ∧ Ups l
  | [], la => by simp [verGo, Ups]
  | x :: r, la => by
    have ih := verGo_zero r x.P
    unfold verGo
    by_cases h : verChk x = 0
    · rw [if_neg (by simpa using h)]
      by_cases h2 : x.P ≤ la
      · rw [if_pos h2]
        constructor
        · intro e; omega
        · rintro ⟨k, _⟩; have := (k x (by simp)).2; omega
      · rw [if_neg h2, ih]
        constructor
        · rintro ⟨a, b⟩
          refine ⟨fun y hy => ?_, List.pairwise_cons.2 ⟨fun y hy => (a y hy).2, b⟩⟩
          rcases List.mem_cons.1 hy with rfl | hy
          · exact ⟨h, by omega⟩
          · have := a y hy; exact ⟨this.1, by omega⟩
        · rintro ⟨a, b⟩
          have b' := List.pairwise_cons.1 b
          exact ⟨fun y hy => ⟨(a y (List.mem_cons_of_mem _ hy)).1, b'.1 y hy⟩, b'.2⟩
    · rw [if_pos h]
      constructor
      · intro e; exact absurd e h
      · rintro ⟨k, _⟩; exact absurd (k x (by simp)).1 h
theorem ups_len : ∀ (l : List Vx) (lo : Int), Ups l → (∀ x ∈ l, lo ≤ x.P ∧ x.P < 64) → lo ≤ 64 → (l.length : Int) ≤ 64 - lo
  | [], lo, _, _, h => by simp; omega
  | x :: r, lo, h, k, hl => by
    have hx := k x (by simp)
    have h' := List.pairwise_cons.1 h
    have := ups_len r (x.P + 1) h'.2 (fun y hy => ⟨by have := h'.1 y hy; omega, (k y (List.mem_cons_of_mem _ hy)).2⟩) (by omega)
    simp only [List.length_cons]; omega
theorem covB_iff (l : List Vx) (p c : Int) : covB l p c = true ↔ ∃ y ∈ l, hasV y.pl p c = true := by unfold covB; rw [List.any_eq_true]
theorem covAny_iff (l m : List Vx) : covAny l m = true ↔ ∃ x ∈ m, covB l x.P x.C = true := by unfold covAny; rw [List.any_eq_true]
theorem leaf_zero (l : List Vx) : leafChk l = 0 ↔ (∀ x ∈ l, verChk x = 0) ∧ Ups l ∧ ∀ x ∈ l, covB l x.P x.C = false := by
  unfold leafChk
  by_cases h64 : 64 < l.length
  · rw [if_pos h64]
    constructor
    · intro e; omega
    · rintro ⟨a, b, _⟩
      have := ups_len l 0 b (fun x hx => by have := (ver_parts (a x hx)).1; omega) (by omega)
      omega
  · rw [if_neg h64]
    by_cases hg : verGo (-1) l = 0
    · rw [if_neg (by simpa using hg)]
      obtain ⟨a, b⟩ := (verGo_zero l (-1)).1 hg
      by_cases hc : covAny l l = true
      · rw [if_pos hc]
        constructor
        · intro e; omega
        · rintro ⟨_, _, c⟩
          obtain ⟨x, hx, k⟩ := (covAny_iff l l).1 hc
          rw [c x hx] at k; cases k
      · rw [if_neg hc]
        refine ⟨fun _ => ⟨fun x hx => (a x hx).1, b, fun x hx => ?_⟩, fun _ => rfl⟩
        cases e : covB l x.P x.C with
        | false => rfl
        | true => exact absurd ((covAny_iff l l).2 ⟨x, hx, e⟩) hc
    · rw [if_pos hg]
      constructor
      · intro e; exact absurd e hg
      · rintro ⟨a, b, _⟩
        refine absurd ((verGo_zero l (-1)).2 ⟨fun x hx => ⟨a x hx, ?_⟩, b⟩) hg
        have := (ver_parts (a x hx)).1; omega
end Go.Proofs.YtfobnemocodomaaGreat
