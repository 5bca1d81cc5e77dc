/- What two leaves come to together: in plain words. -/
import Derived.Test.YtfobnemocodomaaSrtP
import Derived.Test.YtfobnemocodomaaSibI
set_option linter.unusedVariables false
set_option linter.unusedSimpArgs false
namespace Go.Proofs.Ytfobnemocodomaa

instance : Inhabited Vx := ⟨⟨0, 0, none, [], 0, false, ⟨#[]⟩⟩⟩
/-- the best of a peer: the first of the greatest count -/
def bstStep (p : Int) (acc : Option Vx) (x : Vx) : Option Vx := if x.P = p then (match acc with | none => some x | some y => if y.C < x.C then some x else some y) else acc
def bstL (p : Int) (l : List Vx) : Option Vx := l.foldl (bstStep p) none
def isBest (l : List Vx) (p : Int) (x : Vx) : Prop := x.P = p ∧ (l.filter (inK Vx.P Vx.C p x.C)).head? = some x ∧ ∀ y ∈ l, y.P = p → y.C ≤ x.C
def Best (p : Int) (l : List Vx) : Option Vx → Prop
  | none => ∀ y ∈ l, y.P ≠ p
  | some x => isBest l p x
theorem isBest.mem {l : List Vx} {p : Int} {x : Vx} (h : isBest l p x) : x ∈ l := by
  have := List.mem_of_mem_head? (Option.mem_def.2 h.2.1)
  exact (List.mem_filter.1 this).1
theorem isBest.uniq {l : List Vx} {p : Int} {x y : Vx} (h : isBest l p x) (k : isBest l p y) : x = y := by
  have h1 := h.2.2 y k.mem k.1
  have h2 := k.2.2 x h.mem h.1
  have e : x.C = y.C := by omega
  have := h.2.1
  rw [e, k.2.1] at this
  exact (Option.some.inj this).symm
theorem Best.step {p : Int} {l : List Vx} {acc : Option Vx} (h : Best p l acc) (y : Vx) : Best p (l ++ [y]) (bstStep p acc y) := by
  unfold bstStep
  by_cases hy : y.P = p
  · rw [if_pos hy]
    cases acc with
    | none =>
      refine ⟨hy, ?_, ?_⟩
      · have : l.filter (inK Vx.P Vx.C p y.C) = [] := by
          rw [List.filter_eq_nil_iff]
          intro z hz hk
          have := h z hz
          simp [inK] at hk; exact this hk.1
        rw [List.filter_append, this]
        simp [inK, hy]
      · intro z hz hzp
        rcases List.mem_append.1 hz with hz | hz
        · exact absurd hzp (h z hz)
        · simp at hz; subst hz; omega
    | some x =>
      obtain ⟨h1, h2, h3⟩ := h
      by_cases hc : x.C < y.C
      · simp only [hc, if_true]
        refine ⟨hy, ?_, ?_⟩
        · have : l.filter (inK Vx.P Vx.C p y.C) = [] := by
            rw [List.filter_eq_nil_iff]
            intro z hz hk
            simp [inK] at hk
            have := h3 z hz hk.1
            omega
          rw [List.filter_append, this]
          simp [inK, hy]
        · intro z hz hzp
          rcases List.mem_append.1 hz with hz | hz
          · have := h3 z hz hzp; omega
          · simp at hz; subst hz; omega
      · simp only [hc, if_false]
        refine ⟨h1, ?_, ?_⟩
        · rw [List.filter_append, List.head?_append, h2]; rfl
        · intro z hz hzp
          rcases List.mem_append.1 hz with hz | hz
          · exact h3 z hz hzp
          · simp at hz; subst hz; omega
  · rw [if_neg hy]
    cases acc with
    | none =>
      intro z hz
      rcases List.mem_append.1 hz with hz | hz
      · exact h z hz
      · simp at hz; subst hz; exact hy
    | some x =>
      obtain ⟨h1, h2, h3⟩ := h
      refine ⟨h1, ?_, ?_⟩
      · rw [List.filter_append, List.head?_append, h2]; rfl
      · intro z hz hzp
        rcases List.mem_append.1 hz with hz | hz
        · exact h3 z hz hzp
        · simp at hz; subst hz; exact absurd hzp hy
theorem Best.fold (p : Int) : ∀ (l q : List Vx) (acc : Option Vx), Best p q acc → Best p (q ++ l) (l.foldl (bstStep p) acc)
  | [], q, acc, h => by simpa using h
  | y :: r, q, acc, h => by
    have := Best.fold p r (q ++ [y]) _ (h.step y)
    simpa using this
theorem bst_best (p : Int) (l : List Vx) : Best p l (bstL p l) := by
  have := Best.fold p l [] none (fun y hy => by simp at hy)
  rw [List.nil_append] at this
  exact this
theorem bst_iff (p : Int) (l : List Vx) (x : Vx) : bstL p l = some x ↔ isBest l p x := by
  have h := bst_best p l
  constructor
  · intro e; rw [e] at h; exact h
  · intro k
    cases e : bstL p l with
    | none => rw [e] at h; exact absurd k.1 (h x k.mem)
    | some y => rw [e] at h; rw [isBest.uniq h k]
def syncOf (l : List Vx) : List Vx := (List.range 64).filterMap fun p => bstL (p : Nat) l
theorem syncOf_mem (l : List Vx) (x : Vx) : x ∈ syncOf l ↔ (0 ≤ x.P ∧ x.P < 64 ∧ isBest l x.P x) := by
  unfold syncOf
  rw [List.mem_filterMap]
  constructor
  · rintro ⟨p, hp, e⟩
    rw [bst_iff] at e
    have hp' := List.mem_range.1 hp
    have := e.1
    refine ⟨by omega, by omega, ?_⟩
    rw [this]; exact e
  · rintro ⟨h1, h2, h3⟩
    refine ⟨x.P.toNat, List.mem_range.2 (by omega), ?_⟩
    rw [bst_iff, show ((x.P.toNat : Nat) : Int) = x.P by omega]
    exact h3
/-- peers strictly upwards -/
def Ups (l : List Vx) : Prop := l.Pairwise fun x y => x.P < y.P
theorem syncOf_ups (l : List Vx) : Ups (syncOf l) := by
  unfold syncOf Ups
  rw [List.pairwise_filterMap]
  refine List.Pairwise.imp ?_ List.pairwise_lt_range
  intro a b hab x hx y hy
  have h1 := (bst_iff _ _ _).1 hx
  have h2 := (bst_iff _ _ _).1 hy
  rw [h1.1, h2.1]; omega
theorem ups_eq : ∀ (a b : List Vx), Ups a → Ups b → (∀ x, x ∈ a ↔ x ∈ b) → a = b
  | [], [], _, _, _ => rfl
  | [], y :: b, _, _, h => by have := (h y).2 (by simp); simp at this
  | x :: a, [], _, _, h => by have := (h x).1 (by simp); simp at this
  | x :: a, y :: b, ha, hb, h => by
    have hxa := List.pairwise_cons.1 ha
    have hyb := List.pairwise_cons.1 hb
    have hxy : x = y := by
      rcases List.mem_cons.1 ((h x).1 (by simp)) with e | h1
      · exact e
      · rcases List.mem_cons.1 ((h y).2 (by simp)) with e | h2
        · exact e.symm
        · have := hyb.1 x h1; have := hxa.1 y h2; omega
    subst hxy
    rw [ups_eq a b hxa.2 hyb.2 (fun z => by
      have hz := h z
      simp only [List.mem_cons] at hz
      constructor
      · intro k
        rcases hz.1 (Or.inr k) with e | k'
        · subst e; have := hxa.1 z k; omega
        · exact k'
      · intro k
        rcases hz.2 (Or.inr k) with e | k'
        · subst e; have := hyb.1 z k; omega
        · exact k')]
/-- what is left when of each run of one peer only the first is kept -/
def cgo (prev : Vx) : List Vx → List Vx
  | [] => []
  | y :: r => if y.P = prev.P then cgo y r else y :: cgo y r
def cmpV : List Vx → List Vx
  | [] => []
  | x :: r => x :: cgo x r
abbrev SrtV (l : List Vx) : Prop := Srt Vx.P Vx.C l
theorem srt_P {l : List Vx} {x y : Vx} (h : SrtV (x :: l)) (hy : y ∈ l) : x.P ≤ y.P ∧ (x.P = y.P → y.C ≤ x.C) := by
  have := (List.pairwise_cons.1 h).1 y hy
  unfold ltk at this
  simp only [decide_eq_false_iff_not] at this
  omega
theorem cgo_mem : ∀ (l : List Vx) (prev x : Vx), SrtV (prev :: l) → (x ∈ cgo prev l ↔ x.P ≠ prev.P ∧ l.find? (fun y => decide (y.P = x.P)) = some x)
  | [], prev, x, _ => by simp [cgo]
  | y :: r, prev, x, h => by
    have hr : SrtV (y :: r) := (List.pairwise_cons.1 h).2
    have hpy := (srt_P h (y := y) (by simp)).1
    have ih := cgo_mem r y x hr
    unfold cgo
    by_cases e : y.P = prev.P
    · rw [if_pos e, ih, List.find?_cons]
      by_cases e2 : y.P = x.P
      · simp only [e2, decide_true]
        constructor
        · rintro ⟨h1, _⟩; exact absurd rfl h1
        · rintro ⟨h1, _⟩; exact absurd (e2.symm.trans e) h1
      · simp only [decide_eq_false e2]
        constructor
        · rintro ⟨h1, h2⟩; exact ⟨by rw [← e]; exact h1, h2⟩
        · rintro ⟨h1, h2⟩; exact ⟨by rw [e]; exact h1, h2⟩
    · rw [if_neg e, List.mem_cons, ih, List.find?_cons]
      by_cases e2 : y.P = x.P
      · simp only [e2, decide_true, Option.some.injEq]
        constructor
        · rintro (h1 | ⟨h1, _⟩)
          · subst h1; exact ⟨e, rfl⟩
          · exact absurd rfl h1
        · rintro ⟨_, h2⟩; exact Or.inl h2.symm
      · simp only [decide_eq_false e2]
        constructor
        · rintro (h1 | ⟨h1, h2⟩)
          · subst h1; exact absurd rfl e2
          · have hx := List.mem_of_find?_eq_some h2
            have := (srt_P hr hx).1
            exact ⟨by omega, h2⟩
        · rintro ⟨_, h2⟩; exact Or.inr ⟨fun k => e2 k.symm, h2⟩
theorem cgo_ups : ∀ (l : List Vx) (prev : Vx), SrtV (prev :: l) → Ups (cgo prev l) ∧ ∀ x ∈ cgo prev l, prev.P < x.P
  | [], prev, _ => ⟨List.Pairwise.nil, fun x h => by simp [cgo] at h⟩
  | y :: r, prev, h => by
    have hr : SrtV (y :: r) := (List.pairwise_cons.1 h).2
    have hpy := (srt_P h (y := y) (by simp)).1
    obtain ⟨h1, h2⟩ := cgo_ups r y hr
    unfold cgo
    by_cases e : y.P = prev.P
    · rw [if_pos e]; exact ⟨h1, fun x hx => by have := h2 x hx; omega⟩
    · rw [if_neg e]
      refine ⟨List.pairwise_cons.2 ⟨h2, h1⟩, fun x hx => ?_⟩
      rcases List.mem_cons.1 hx with rfl | hx
      · omega
      · have := h2 x hx; omega
theorem cmpV_ups {l : List Vx} (h : SrtV l) : Ups (cmpV l) := by
  cases l with
  | nil => exact List.Pairwise.nil
  | cons x r => exact List.pairwise_cons.2 ⟨(cgo_ups r x h).2, (cgo_ups r x h).1⟩
theorem cmpV_mem {l : List Vx} (h : SrtV l) (x : Vx) : x ∈ cmpV l ↔ l.find? (fun y => decide (y.P = x.P)) = some x := by
  cases l with
  | nil => simp [cmpV]
  | cons y r =>
    show x ∈ y :: cgo y r ↔ _
    rw [List.mem_cons, cgo_mem r y x h, List.find?_cons]
    by_cases e2 : y.P = x.P
    · simp only [e2, decide_true, Option.some.injEq]
      constructor
      · rintro (h1 | ⟨h1, _⟩)
        · exact h1.symm
        · exact absurd rfl h1
      · intro h2; exact Or.inl h2.symm
    · simp only [decide_eq_false e2]
      constructor
      · rintro (h1 | ⟨_, h2⟩)
        · subst h1; exact absurd rfl e2
        · exact h2
      · intro h2; exact Or.inr ⟨fun k => e2 k.symm, h2⟩
theorem srt_find : ∀ (l : List Vx) (x : Vx), SrtV l → (l.find? (fun y => decide (y.P = x.P)) = some x ↔ isBest l x.P x)
  | [], x, _ => by simp [isBest]
  | y :: r, x, h => by
    have hr : SrtV r := (List.pairwise_cons.1 h).2
    have ih := srt_find r x hr
    rw [List.find?_cons]
    by_cases e : y.P = x.P
    · simp only [e, decide_true, Option.some.injEq]
      constructor
      · rintro rfl
        refine ⟨rfl, by simp [inK], fun z hz hzp => ?_⟩
        rcases List.mem_cons.1 hz with rfl | hz
        · omega
        · exact (srt_P h hz).2 hzp.symm
      · intro k
        by_cases ec : y.C = x.C
        · have := k.2.1
          simp [inK, e, ec] at this
          exact this
        · have h1 := k.2.2 y (by simp) e
          have hx : x ∈ r := by
            rcases List.mem_cons.1 k.mem with rfl | hx
            · exact absurd rfl ec
            · exact hx
          have := (srt_P h hx).2 e
          omega
    · simp only [decide_eq_false e]
      rw [ih]
      constructor
      · rintro ⟨h1, h2, h3⟩
        refine ⟨h1, by simpa [inK, e] using h2, fun z hz hzp => ?_⟩
        rcases List.mem_cons.1 hz with rfl | hz
        · exact absurd hzp e
        · exact h3 z hz hzp
      · rintro ⟨h1, h2, h3⟩
        exact ⟨h1, by simpa [inK, e] using h2, fun z hz hzp => h3 z (List.mem_cons_of_mem _ hz) hzp⟩
theorem best_stb {r l : List Vx} (h : Stb Vx.P Vx.C r l) (x : Vx) : isBest r x.P x ↔ isBest l x.P x := by
  unfold isBest
  rw [h x.P x.C]
  constructor
  · rintro ⟨a, b, c⟩; exact ⟨a, b, fun y hy => c y (h.mem.2 hy)⟩
  · rintro ⟨a, b, c⟩; exact ⟨a, b, fun y hy => c y (h.mem.1 hy)⟩
theorem cmpV_sync {r l : List Vx} (h : Mrg Vx.P Vx.C r l) (hp : ∀ x ∈ l, 0 ≤ x.P ∧ x.P < 64) : cmpV r = syncOf l := by
  refine ups_eq _ _ (cmpV_ups h.srt) (syncOf_ups l) fun x => ?_
  rw [cmpV_mem h.srt, srt_find r x h.srt, best_stb h.stb, syncOf_mem]
  constructor
  · intro k; have := hp x k.mem; exact ⟨this.1, this.2, k⟩
  · rintro ⟨_, _, k⟩; exact k
end Go.Proofs.Ytfobnemocodomaa
