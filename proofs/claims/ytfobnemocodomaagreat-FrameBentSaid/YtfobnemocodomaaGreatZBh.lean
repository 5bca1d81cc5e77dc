/- Joined texts: Made Within VecP VecE VecF. -/
import Derived.Test.YtfobnemocodomaaGreatZBg
import Derived.Maps.AppendAt
import Derived.Test.YtfobnemocodomaaGreatZBb
set_option linter.unusedVariables false
set_option linter.unusedSimpArgs false
set_option maxHeartbeats 400000
namespace Go.Proofs.YtfobnemocodomaaGreat
open Go.RowKit Go.Shelf
attribute [local go_sem] Oper.semAt_some

/-- the dots that a function of two counts leaves -/
def madeL (f : Int → Int → Int) (xs : List (Int × Int × Int)) : List Dot := xs.filterMap fun x => if 0 < f x.2.1 x.2.2 then some (x.1, f x.2.1 x.2.2) else none
def dotCells (l : List Dot) : List Value := l.flatMap fun d => [.int .i64 d.1, .int .i64 d.2]
theorem dotCells_length (l : List Dot) : (dotCells l).length = l.length * 2 := by
  induction l with
  | nil => rfl
  | cons d l ih => simp [dotCells] at ih ⊢; omega
theorem dotCells_append (l m : List Dot) : dotCells (l ++ m) = dotCells l ++ dotCells m := by simp [dotCells]
theorem dotCells_at : ∀ (l : List Dot) (i : Nat) (h : i < l.length), (dotCells l)[i * 2]? = some (.int .i64 l[i].1) ∧ (dotCells l)[i * 2 + 1]? = some (.int .i64 l[i].2)
  | d :: l, 0, _ => by simp [dotCells]
  | d :: l, i + 1, h => by
    have ih := dotCells_at l i (by simpa using h)
    have e : dotCells (d :: l) = [.int .i64 d.1, .int .i64 d.2] ++ dotCells l := rfl
    rw [e, List.getElem?_append_right (by simp; omega), List.getElem?_append_right (by simp; omega)]
    have h1 : (i + 1) * 2 - 2 = i * 2 := by omega
    have h2 : (i + 1) * 2 + 1 - 2 = i * 2 + 1 := by omega
    simpa [h1, h2] using ih

/-- a row of dots of the call's own -/
def OwnDots (w : World) (base : Nat) (v : Value) (l : List Dot) : Prop := w.ownsRow base 112 2 v l.length (dotCells l)
theorem OwnDots.dots {w : World} {base : Nat} {v : Value} {l : List Dot} (h : OwnDots w base v l) : ∃ A c, v = .slice A l.length c ∧ l.length ≤ c ∧ Dots w A l := by
  rcases h.2 with ⟨rfl, h0⟩ | ⟨g, cap, cur, rfl, hg, hh, hle, hm, _⟩
  · have : l = [] := List.eq_nil_of_length_eq_zero h0
    subst this
    exact ⟨none, 0, rfl, Nat.le_refl _, Dots.nil _ _⟩
  · refine ⟨_, cap, rfl, hle, by simp only [maxLen] at hm; omega, fun i hi => ⟨_, rfl, ?_, ?_⟩⟩
    · exact h.cells (g := g) rfl _ _ (dotCells_at l i hi).1
    · have := h.cells (g := g) rfl _ _ (dotCells_at l i hi).2
      by_cases h0 : i = 0
      · subst h0; simpa [Addr.add] using this
      · simp only [Addr.add] at this ⊢
        rw [if_neg (by omega)] at this ⊢
        simpa [Nat.add_assoc] using this

def maxI (x y : Int) : Int := if x < y then y else x
def minI (x y : Int) : Int := if y < x then y else x
theorem Okv.len {l : List Dot} (h : Okv l) : l.length ≤ 64 := by
  rcases Nat.lt_or_ge 64 l.length with c | c
  · have key : ∀ i (hi : i < l.length), (i : Int) ≤ l[i].1 := by
      intro i
      induction i with
      | zero => intro hi; have := h.at 0 hi; omega
      | succ i ih => intro hi; have := ih (by omega); have := h.sorted i (i + 1) hi (by omega); omega
    have := key 64 c
    have := h.at 64 c
    omega
  · exact c
theorem mrg_length (a b : List Dot) : (mrg a b).length ≤ a.length + b.length := by
  fun_induction mrg a b <;> simp_all <;> omega
theorem madeL_append (f : Int → Int → Int) (xs ys : List (Int × Int × Int)) : madeL f (xs ++ ys) = madeL f xs ++ madeL f ys := by simp [madeL]
theorem madeL_length (f : Int → Int → Int) (xs : List (Int × Int × Int)) : (madeL f xs).length ≤ xs.length := List.length_filterMap_le _ _

theorem DRows.two {w : World} {A B : Option Addr} {c d : Nat} {l m : List Dot} (h : Dots w A l) (k : Dots w B m) (t : TypeId) :
    DRows (w.alloc (.cells #[.slice A l.length c, .slice B m.length d] t)) (some ⟨w.heap.size, 0, none⟩) [⟨A, c, l⟩, ⟨B, d, m⟩] := by
  refine ⟨by simp, fun i hi => ?_⟩
  have : i = 0 ∨ i = 1 := by simp at hi; omega
  rcases this with rfl | rfl
  · exact ⟨_, rfl, by simp [Addr.add], h.gr ((Gr.rfl' w).al _)⟩
  · exact ⟨_, rfl, by simp [Addr.add], k.gr ((Gr.rfl' w).al _)⟩


/-- cells that have just been laid -/
theorem cells_new (w : World) (cs : List Value) (t : TypeId) : ∀ j u, cs[j]? = some u → (w.alloc (.cells cs.toArray t)).cell? ((⟨w.heap.size, 0, none⟩ : Addr).add j) = some u := by
  intro j u h
  have hb := World.alloc_heap_new w (.cells cs.toArray t)
  have e : ((⟨w.heap.size, 0, none⟩ : Addr).add j) = ⟨w.heap.size, j, none⟩ := by unfold Addr.add; split <;> simp_all
  rw [e]
  simp only [World.cell?, hb]
  simpa using h

theorem OwnDots.nil (w : World) (base : Nat) : OwnDots w base (.slice none 0 0) [] := World.ownsRow_nil _ _ _ _
theorem OwnDots.lower {w : World} {b b' : Nat} {v : Value} {l : List Dot} (h : OwnDots w b v l) (hb : b' ≤ b) : OwnDots w b' v l := by
  obtain ⟨h1, h2⟩ := h
  refine ⟨h1, ?_⟩
  rcases h2 with h2 | ⟨g, cap, cur, rfl, hg, r⟩
  · exact .inl h2
  · exact .inr ⟨g, cap, cur, rfl, Nat.le_trans hb hg, r⟩
theorem OwnDots.ge {w : World} {b : Nat} {v : Value} {l : List Dot} (h : OwnDots w b v l) : ∀ k, v.ownBlock = some k → b ≤ k := fun k hk => (World.ownsRow.lt h k hk).1
theorem OwnDots.isCells {w : World} {b : Nat} {v : Value} {l : List Dot} (h : OwnDots w b v l) : ∀ (j : Nat) (o : Obj), v.ownBlock = some j → w.heap[j]? = some o → o.isCells = true := by
  intro j o ej hj
  rcases h.2 with ⟨rfl, _⟩ | ⟨g, cap, cur, rfl, _, hgb, _⟩
  · simp [Value.ownBlock] at ej
  · obtain rfl : g = j := by simpa [Value.ownBlock] using ej
    rw [hgb] at hj; cases hj; rfl

theorem box_grown {W w1 : World} {o : Obj} {b : Nat} {t : TypeId} {u v : Value} (hgrow : (W.alloc o).grownBy w1 v.ownBlock) (hb : Boxed W b t u) (hne : ∀ j, v.ownBlock = some j → b ≠ j) : Boxed w1 b t u :=
  (hgrow.block b (by have := hb.lt; simp; omega) (fun e => hne b e.symm rfl)).trans ((Below.heap_alloc _ _ _ hb.lt).trans hb)
theorem cel_grown {W w1 : World} {o : Obj} {b : Nat} {t : TypeId} {u v : Value} (hgrow : (W.alloc o).grownBy w1 v.ownBlock) (hb : Boxed W b t u) (hne : ∀ j, v.ownBlock = some j → b ≠ j) : w1.cell? ⟨b, 0, none⟩ = some u := (box_grown hgrow hb hne).cell
theorem frz_grown {W w1 : World} {o : Obj} {b : Nat} {t : TypeId} {u v : Value} (hgrow : (W.alloc o).grownBy w1 v.ownBlock) (hb : Boxed W b t u) (hne : ∀ j, v.ownBlock = some j → b ≠ j) : w1.frozen? ⟨b, 0, none⟩ = false := free_of_one (box_grown hgrow hb hne)
theorem Gr.putObj {a b : World} (h : Gr a b) {l : Nat} (hl : a.heap.size ≤ l) (o : Obj) : Gr a (b.putObj l o) :=
  h.trans ⟨rfl, rfl, rfl, by simp, fun k hk => World.putObj_heap_other (by omega)⟩
theorem infoDot : (Tryz.prog.info? 112).map (fun i => (i.zero, i.size, i.bytes)) = some (some (.agg #[.int .i64 0, .int .i64 0]), 2, 16) := by kernel_rfl

def joinL (a b : List Dot) : List Dot := if chk a = 0 ∧ chk b = 0 then madeL maxI (mrg a b) else []
def meetL (a b : List Dot) : List Dot := if chk a = 0 ∧ chk b = 0 then madeL minI (mrg a b) else []

theorem Dots.one {w : World} (p c : Int) (t : TypeId) : Dots (w.alloc (.cells #[.int .i64 p, .int .i64 c] t)) (some ⟨w.heap.size, 0, none⟩) [(p, c)] := by
  refine ⟨by simp, fun i hi => ?_⟩
  have : i = 0 := by simpa using hi
  subst this
  exact ⟨_, rfl, by simp [Addr.add], by simp [Addr.add]⟩
end Go.Proofs.YtfobnemocodomaaGreat
set_option linter.unusedVariables false
set_option linter.unusedSimpArgs false
set_option maxHeartbeats 400000
namespace Go.Proofs.YtfobnemocodomaaGreat
open Go.RowKit Go.Shelf
attribute [local go_sem] Oper.semAt_some

def leB (l : List (Int × Int × Int)) : Bool := l.all fun x => decide (x.2.1 ≤ x.2.2)
theorem leB_snoc (l : List (Int × Int × Int)) (p x y : Int) : leB (l ++ [(p, x, y)]) = (leB l && decide (x ≤ y)) := by simp [leB]
theorem leB_pre {l m : List (Int × Int × Int)} (h : l <+: m) (hl : leB l = false) : leB m = false := by
  obtain ⟨t, rfl⟩ := h
  simp only [leB, List.all_append] at hl ⊢
  simp [hl]
def withinB (a b : List Dot) : Bool := decide (chk a = 0) && decide (chk b = 0) && leB (mrg a b)

def cmpI (a b : List Dot) : Int := if withinB a b = true then (if withinB b a = true then 0 else 1) else (if withinB b a = true then 2 else 3)
end Go.Proofs.YtfobnemocodomaaGreat
set_option maxHeartbeats 200000
set_option linter.unusedVariables false
set_option linter.unusedSimpArgs false
namespace Go.Proofs.YtfobnemocodomaaGreat
open Go.RowKit

theorem Okv.nil : Okv [] := ⟨by simp, List.Pairwise.nil⟩
theorem Okv.cons_iff {x : Dot} {a : List Dot} : Okv (x :: a) ↔ (0 ≤ x.1 ∧ x.1 < 64 ∧ 1 ≤ x.2 ∧ x.2 ≤ 1048576) ∧ (∀ d ∈ a, x.1 < d.1) ∧ Okv a := by
  unfold Okv
  rw [List.pairwise_cons]
  simp only [List.mem_cons, forall_eq_or_imp]
  constructor
  · rintro ⟨⟨h1, h2⟩, h3, h4⟩; exact ⟨h1, h3, h2, h4⟩
  · rintro ⟨h1, h3, h2, h4⟩; exact ⟨⟨h1, h2⟩, h3, h4⟩
theorem cnt_mem {l : List Dot} (h : Okv l) {d : Dot} (hd : d ∈ l) : cnt l d.1 = d.2 := by
  obtain ⟨i, hi, rfl⟩ := List.getElem_of_mem hd
  exact cnt_at l h i hi
theorem cnt_gt {l : List Dot} {p : Int} (h : ∀ d ∈ l, p < d.1) : cnt l p = 0 := cnt_none l p fun d hd e => by have := h d hd; omega
theorem cnt_cons (x : Dot) (l : List Dot) (p : Int) : cnt (x :: l) p = if x.1 = p then x.2 else cnt l p := rfl
theorem cnt_nonneg {l : List Dot} (h : Okv l) (p : Int) : 0 ≤ cnt l p ∧ cnt l p ≤ 1048576 := by
  by_cases c : ∃ d ∈ l, d.1 = p
  · obtain ⟨d, hd, rfl⟩ := c
    rw [cnt_mem h hd]; have := h.1 d hd; omega
  · rw [cnt_none l p fun d hd e => c ⟨d, hd, e⟩]; omega
theorem cnt_pos {l : List Dot} (h : Okv l) {p : Int} (hp : 0 < cnt l p) : ∃ d ∈ l, d.1 = p ∧ d.2 = cnt l p := by
  by_cases c : ∃ d ∈ l, d.1 = p
  · obtain ⟨d, hd, rfl⟩ := c
    exact ⟨d, hd, rfl, (cnt_mem h hd).symm⟩
  · rw [cnt_none l p fun d hd e => c ⟨d, hd, e⟩] at hp; omega

structure MSpec (a b : List Dot) (M : List (Int × Int × Int)) : Prop where
  sorted : M.Pairwise fun x y => x.1 < y.1
  ofm : ∀ x ∈ M, x.2.1 = cnt a x.1 ∧ x.2.2 = cnt b x.1 ∧ ((∃ d ∈ a, d.1 = x.1) ∨ (∃ d ∈ b, d.1 = x.1))
  ina : ∀ d ∈ a, (d.1, cnt a d.1, cnt b d.1) ∈ M
  inb : ∀ d ∈ b, (d.1, cnt a d.1, cnt b d.1) ∈ M

theorem MSpec.gt {a b : List Dot} {M : List (Int × Int × Int)} (h : MSpec a b M) {p : Int} (ha : ∀ d ∈ a, p < d.1) (hb : ∀ d ∈ b, p < d.1) : ∀ x ∈ M, p < x.1 := by
  intro x hx
  rcases (h.ofm x hx).2.2 with ⟨d, hd, e⟩ | ⟨d, hd, e⟩
  · have := ha d hd; omega
  · have := hb d hd; omega

theorem MSpec.stepA {x : Dot} {a b : List Dot} {M : List (Int × Int × Int)} (ha : Okv (x :: a)) (hb : ∀ d ∈ b, x.1 < d.1) (h : MSpec a b M) : MSpec (x :: a) b ((x.1, x.2, 0) :: M) := by
  obtain ⟨_, hax, _⟩ := Okv.cons_iff.1 ha
  have hg := h.gt hax hb
  refine ⟨List.pairwise_cons.2 ⟨hg, h.sorted⟩, ?_, ?_, ?_⟩
  · intro z hz
    rcases List.mem_cons.1 hz with rfl | hz
    · exact ⟨by simp [cnt_cons], (cnt_gt hb).symm, .inl ⟨x, by simp, rfl⟩⟩
    · obtain ⟨h1, h2, h3⟩ := h.ofm z hz
      have := hg z hz
      exact ⟨by rw [cnt_cons, if_neg (by omega)]; exact h1, h2, h3.imp (fun ⟨d, hd, e⟩ => ⟨d, by simp [hd], e⟩) id⟩
  · intro d hd
    rcases List.mem_cons.1 hd with rfl | hd
    · rw [cnt_cons, if_pos rfl, cnt_gt hb]; simp
    · have := hax d hd
      rw [cnt_cons, if_neg (by omega)]
      exact List.mem_cons_of_mem _ (h.ina d hd)
  · intro d hd
    have := hb d hd
    rw [cnt_cons, if_neg (by omega)]
    exact List.mem_cons_of_mem _ (h.inb d hd)
theorem MSpec.stepB {y : Dot} {a b : List Dot} {M : List (Int × Int × Int)} (hb : Okv (y :: b)) (ha : ∀ d ∈ a, y.1 < d.1) (h : MSpec a b M) : MSpec a (y :: b) ((y.1, 0, y.2) :: M) := by
  obtain ⟨_, hbx, _⟩ := Okv.cons_iff.1 hb
  have hg := h.gt ha hbx
  refine ⟨List.pairwise_cons.2 ⟨hg, h.sorted⟩, ?_, ?_, ?_⟩
  · intro z hz
    rcases List.mem_cons.1 hz with rfl | hz
    · exact ⟨(cnt_gt ha).symm, by simp [cnt_cons], .inr ⟨y, by simp, rfl⟩⟩
    · obtain ⟨h1, h2, h3⟩ := h.ofm z hz
      have := hg z hz
      exact ⟨h1, by rw [cnt_cons, if_neg (by omega)]; exact h2, h3.imp id (fun ⟨d, hd, e⟩ => ⟨d, by simp [hd], e⟩)⟩
  · intro d hd
    have := ha d hd
    rw [cnt_cons y, if_neg (by omega)]
    exact List.mem_cons_of_mem _ (h.ina d hd)
  · intro d hd
    rcases List.mem_cons.1 hd with rfl | hd
    · rw [cnt_cons, if_pos rfl, cnt_gt ha]; simp
    · have := hbx d hd
      rw [cnt_cons y, if_neg (by omega)]
      exact List.mem_cons_of_mem _ (h.inb d hd)
theorem MSpec.stepC {x y : Dot} {a b : List Dot} {M : List (Int × Int × Int)} (ha : Okv (x :: a)) (hb : Okv (y :: b)) (e : x.1 = y.1) (h : MSpec a b M) : MSpec (x :: a) (y :: b) ((x.1, x.2, y.2) :: M) := by
  obtain ⟨_, hax, _⟩ := Okv.cons_iff.1 ha
  obtain ⟨_, hbx, _⟩ := Okv.cons_iff.1 hb
  have hg := h.gt hax (fun d hd => by have := hbx d hd; omega)
  refine ⟨List.pairwise_cons.2 ⟨hg, h.sorted⟩, ?_, ?_, ?_⟩
  · intro z hz
    rcases List.mem_cons.1 hz with rfl | hz
    · exact ⟨by simp [cnt_cons], by simp [cnt_cons, e], .inl ⟨x, by simp, rfl⟩⟩
    · obtain ⟨h1, h2, h3⟩ := h.ofm z hz
      have := hg z hz
      exact ⟨by rw [cnt_cons, if_neg (by omega)]; exact h1, by rw [cnt_cons, if_neg (by omega)]; exact h2, h3.imp (fun ⟨d, hd, e⟩ => ⟨d, by simp [hd], e⟩) (fun ⟨d, hd, e⟩ => ⟨d, by simp [hd], e⟩)⟩
  · intro d hd
    rcases List.mem_cons.1 hd with rfl | hd
    · rw [cnt_cons, if_pos rfl, cnt_cons, if_pos e.symm]; simp
    · have := hax d hd
      rw [cnt_cons, if_neg (by omega), cnt_cons, if_neg (by omega)]
      exact List.mem_cons_of_mem _ (h.ina d hd)
  · intro d hd
    rcases List.mem_cons.1 hd with rfl | hd
    · rw [cnt_cons, if_pos e, cnt_cons, if_pos rfl, e]; simp
    · have := hbx d hd
      rw [cnt_cons, if_neg (by omega), cnt_cons, if_neg (by omega)]
      exact List.mem_cons_of_mem _ (h.inb d hd)

theorem mrg_spec (a b : List Dot) (ha : Okv a) (hb : Okv b) : MSpec a b (mrg a b) := by
  fun_induction mrg a b with
  | case1 b =>
    induction b with
    | nil => exact ⟨List.Pairwise.nil, by simp, by simp, by simp⟩
    | cons y b ih => exact MSpec.stepB hb (by simp) (ih (Okv.cons_iff.1 hb).2.2)
  | case2 x a ih => exact MSpec.stepA ha (by simp) (ih (Okv.cons_iff.1 ha).2.2 hb)
  | case3 x a y b h ih =>
    obtain ⟨_, h1, h2⟩ := Okv.cons_iff.1 ha
    obtain ⟨_, h3, h4⟩ := Okv.cons_iff.1 hb
    exact MSpec.stepA ha (fun d hd => by rcases List.mem_cons.1 hd with rfl | hd; exact h; have := h3 d hd; omega) (ih h2 hb)
  | case4 x a y b h h' ih =>
    obtain ⟨_, h1, h2⟩ := Okv.cons_iff.1 ha
    obtain ⟨_, h3, h4⟩ := Okv.cons_iff.1 hb
    exact MSpec.stepB hb (fun d hd => by rcases List.mem_cons.1 hd with rfl | hd; exact h'; have := h1 d hd; omega) (ih ha h4)
  | case5 x a y b h h' ih =>
    obtain ⟨_, h1, h2⟩ := Okv.cons_iff.1 ha
    obtain ⟨_, h3, h4⟩ := Okv.cons_iff.1 hb
    exact MSpec.stepC ha hb (by omega) (ih h2 h4)

theorem leB_iff {a b : List Dot} (ha : Okv a) (hb : Okv b) : leB (mrg a b) = true ↔ ∀ p, cnt a p ≤ cnt b p := by
  have h := mrg_spec a b ha hb
  unfold leB
  rw [List.all_eq_true]
  simp only [decide_eq_true_eq]
  constructor
  · intro hl p
    by_cases c : 0 < cnt a p
    · obtain ⟨d, hd, rfl, _⟩ := cnt_pos ha c
      exact hl _ (h.ina d hd)
    · have := cnt_nonneg hb p; omega
  · intro hl x hx
    obtain ⟨h1, h2, _⟩ := h.ofm x hx
    rw [h1, h2]; exact hl _
theorem inB_iff {a b : List Dot} (ha : Okv a) (hb : Okv b) : inB a b = true ↔ ∀ p, cnt a p ≤ cnt b p := by
  have hcb := (chk_ok b).2 hb
  unfold inB hasV
  simp only [List.all_eq_true, Bool.and_eq_true, decide_eq_true_eq, getV_eq, hcb, if_true]
  constructor
  · intro hl p
    by_cases c : 0 < cnt a p
    · obtain ⟨d, hd, rfl, e⟩ := cnt_pos ha c
      have := (hl d hd).2; omega
    · have := cnt_nonneg hb p; omega
  · intro hl d hd
    have := ha.1 d hd
    have := hl d.1
    rw [cnt_mem ha hd] at this
    exact ⟨by omega, this⟩
theorem within_eq (a b : List Dot) : withinB a b = refWithinB a b := by
  unfold withinB refWithinB
  by_cases ha : chk a = 0
  · by_cases hb : chk b = 0
    · have : leB (mrg a b) = inB a b := by
        rw [Bool.eq_iff_iff, leB_iff ((chk_ok a).1 ha) ((chk_ok b).1 hb), inB_iff ((chk_ok a).1 ha) ((chk_ok b).1 hb)]
      rw [this]
    · simp [hb]
  · simp [ha]
theorem cmp_eq (a b : List Dot) : cmpI a b = refCmpI a b := by unfold cmpI refCmpI; rw [within_eq, within_eq]

theorem withinB_iff (a b : List Dot) : withinB a b = true ↔ Okv a ∧ Okv b ∧ ∀ p, cnt a p ≤ cnt b p := by
  unfold withinB
  by_cases ha : chk a = 0
  · by_cases hb : chk b = 0
    · simp only [ha, hb, decide_true, Bool.true_and, leB_iff ((chk_ok a).1 ha) ((chk_ok b).1 hb)]
      exact ⟨fun h => ⟨(chk_ok a).1 ha, (chk_ok b).1 hb, h⟩, fun h => h.2.2⟩
    · simp only [hb, decide_false, Bool.and_false, Bool.false_and, Bool.false_eq_true, false_iff]
      exact fun h => hb ((chk_ok b).2 h.2.1)
  · simp only [ha, decide_false, Bool.false_and, Bool.false_eq_true, false_iff]
    exact fun h => ha ((chk_ok a).2 h.1)

/-- two vectors of the same counts are one -/
theorem Okv.ext : ∀ {a b : List Dot}, Okv a → Okv b → (∀ p, cnt a p = cnt b p) → a = b
  | [], [], _, _, _ => rfl
  | [], y :: b, _, hb, h => by have e := h y.1; have := (Okv.cons_iff.1 hb).1; rw [cnt_cons, if_pos rfl] at e; simp only [cnt] at e; omega
  | x :: a, [], ha, _, h => by have e := h x.1; have := (Okv.cons_iff.1 ha).1; rw [cnt_cons, if_pos rfl] at e; simp only [cnt] at e; omega
  | x :: a, y :: b, ha, hb, h => by
    obtain ⟨hx, h1, h2⟩ := Okv.cons_iff.1 ha
    obtain ⟨hy, h3, h4⟩ := Okv.cons_iff.1 hb
    have hxy : x.1 = y.1 := by
      rcases Int.lt_trichotomy x.1 y.1 with c | c | c
      · have e := h x.1
        rw [cnt_cons, if_pos rfl, cnt_gt (l := y :: b) (fun d hd => by rcases List.mem_cons.1 hd with rfl | hd; exact c; have := h3 d hd; omega)] at e
        omega
      · exact c
      · have e := h y.1
        rw [cnt_cons y, if_pos rfl, cnt_gt (l := x :: a) (fun d hd => by rcases List.mem_cons.1 hd with rfl | hd; exact c; have := h1 d hd; omega)] at e
        omega
    have hx2 : x.2 = y.2 := by
      have e := h x.1
      rwa [cnt_cons, if_pos rfl, cnt_cons, if_pos hxy.symm] at e
    have : a = b := Okv.ext h2 h4 fun p => by
      have e := h p
      rw [cnt_cons, cnt_cons] at e
      by_cases c : x.1 = p
      · rw [cnt_gt (p := p) (fun d hd => by have := h1 d hd; omega), cnt_gt (p := p) (fun d hd => by have := h3 d hd; omega)]
      · rwa [if_neg c, if_neg (by omega)] at e
    rw [this, Prod.ext hxy hx2]
end Go.Proofs.YtfobnemocodomaaGreat
set_option linter.unusedVariables false
set_option linter.unusedSimpArgs false
set_option maxHeartbeats 400000
namespace Go.Proofs.YtfobnemocodomaaGreat
open Go.RowKit

def sumL : List Dot → Int
  | [] => 0
  | d :: r => d.2 + sumL r
def sumG (l : List Dot) : Nat → Int
  | 0 => 0
  | k + 1 => sumG l k + getV l k
def sizeV (l : List Dot) : Int := if chk l = 0 then sumL l else 0
theorem sumL_snoc (l : List Dot) (d : Dot) : sumL (l ++ [d]) = sumL l + d.2 := by
  induction l with
  | nil => simp [sumL]
  | cons x l ih => simp only [List.cons_append, sumL, ih]; omega
theorem sumL_le : ∀ {l : List Dot}, (∀ d ∈ l, 1 ≤ d.2 ∧ d.2 ≤ 1048576) → 0 ≤ sumL l ∧ sumL l ≤ 1048576 * l.length
  | [], _ => by simp [sumL]
  | d :: r, h => by
    have h1 := h d (by simp)
    have h2 := sumL_le (l := r) fun x hx => h x (by simp [hx])
    simp only [sumL, List.length_cons]; omega
theorem getV_nonneg (l : List Dot) (q : Int) : 0 ≤ getV l q ∧ getV l q ≤ 1048576 := by
  rw [getV_eq]
  by_cases h : chk l = 0
  · rw [if_pos h]; exact cnt_nonneg ((chk_ok l).1 h) q
  · rw [if_neg h]; omega
theorem sumG_le (l : List Dot) : ∀ k : Nat, 0 ≤ sumG l k ∧ sumG l k ≤ 1048576 * k
  | 0 => by simp [sumG]
  | k + 1 => by have := sumG_le l k; have := getV_nonneg l k; simp only [sumG]; omega
theorem sumG_bad {l : List Dot} (h : chk l ≠ 0) : ∀ k, sumG l k = 0
  | 0 => rfl
  | k + 1 => by simp only [sumG, sumG_bad h k, getV_eq, if_neg h]; rfl
def sumC (l : List Dot) : Nat → Int
  | 0 => 0
  | k + 1 => sumC l k + cnt l k
theorem sumC_cons {x : Dot} {l : List Dot} (h : ∀ d ∈ l, x.1 < d.1) (h0 : 0 ≤ x.1) : ∀ k : Nat, sumC (x :: l) k = sumC l k + if x.1 < k then x.2 else 0
  | 0 => by rw [if_neg (by simp; exact h0)]; simp [sumC]
  | k + 1 => by
    have hcast : ((k + 1 : Nat) : Int) = k + 1 := rfl
    simp only [sumC, sumC_cons h h0 k, cnt_cons, hcast]
    by_cases e : x.1 = k
    · rw [if_pos e, if_neg (by omega), if_pos (by omega), cnt_gt (l := l) (fun d hd => by rw [← e]; exact h d hd)]
    · rw [if_neg e]
      by_cases c : x.1 < k
      · rw [if_pos c, if_pos (by omega)]; omega
      · rw [if_neg c, if_neg (by omega)]; omega
theorem sumC_eq : ∀ {l : List Dot}, Okv l → sumC l 64 = sumL l
  | [], _ => by decide
  | x :: l, h => by
    obtain ⟨h1, h2, h3⟩ := Okv.cons_iff.1 h
    rw [sumC_cons h2 h1.1, sumC_eq h3, if_pos (show x.1 < ((64 : Nat) : Int) from h1.2.1)]
    simp only [sumL]; omega
theorem sumG_sumC {l : List Dot} (h : chk l = 0) : ∀ k, sumG l k = sumC l k
  | 0 => rfl
  | k + 1 => by simp only [sumG, sumC, sumG_sumC h k, getV_eq, if_pos h]
theorem size_eq (l : List Dot) : sizeV l = sumG l 64 := by
  unfold sizeV
  by_cases h : chk l = 0
  · rw [if_pos h, sumG_sumC h, sumC_eq ((chk_ok l).1 h)]
  · rw [if_neg h, sumG_bad h]

/-- the dot that comes next: its peer, its count, the error -/
def nextV (l : List Dot) (p : Int) : Int × Int × Int :=
  if chk l ≠ 0 then (0, 0, chk l) else if p < 0 ∨ 64 ≤ p then (0, 0, 11) else if cnt l p = 1048576 then (0, 0, 12) else (p, cnt l p + 1, 0)
theorem box2 {W : World} {b : Nat} {x y : Value} {t : TypeId} (h : W.heap[b]? = some (.cells #[x, y] t (0, 0))) :
    W.cell? ⟨b, 0, none⟩ = some x ∧ W.cell? ⟨b, 1, none⟩ = some y ∧ W.frozen? ⟨b, 0, none⟩ = false ∧ W.frozen? ⟨b, 1, none⟩ = false :=
  ⟨by simp [World.cell?, h], by simp [World.cell?, h], by simp [World.frozen?, h], by simp [World.frozen?, h]⟩
theorem box2_gr {W W' : World} {b : Nat} {x y : Value} {t : TypeId} (g : Gr W W') (h : W.heap[b]? = some (.cells #[x, y] t (0, 0))) : W'.heap[b]? = some (.cells #[x, y] t (0, 0)) := by
  have hb : b < W.heap.size := by
    rcases Nat.lt_or_ge b W.heap.size with c | c
    · exact c
    · rw [Array.getElem?_eq_none c] at h; cases h
  rw [g.block b hb]; exact h
theorem box2_set {W : World} {b : Nat} {x y : Value} {t : TypeId} (h : W.heap[b]? = some (.cells #[x, y] t (0, 0))) (u v : Value) : ((W.setCell ⟨b, 0, none⟩ u).setCell ⟨b, 1, none⟩ v).cell? ⟨b, 0, none⟩ = some u ∧ ((W.setCell ⟨b, 0, none⟩ u).setCell ⟨b, 1, none⟩ v).cell? ⟨b, 1, none⟩ = some v := by
  have h1 := heap_set_same h (o := 0) u
  have h2 := heap_set_same h1 (o := 1) v
  constructor
  · simp [World.cell?, h2]
  · simp [World.cell?, h2]
def nextE (l : List Dot) (q : Int) : Ending := .returned (.tuple #[.agg #[.int .i64 (nextV l q).1, .int .i64 (nextV l q).2.1], .int .i64 (nextV l q).2.2])
theorem nextE_of {l : List Dot} {q a b c : Int} (h : nextV l q = (a, b, c)) : nextE l q = .returned (.tuple #[.agg #[.int .i64 a, .int .i64 b], .int .i64 c]) := by unfold nextE; rw [h]

theorem dotChk_next {l : List Dot} {q : Int} (h : chk l = 0) : dotChk q (getV l q + 1) = (nextV l q).2.2 ∧ ((nextV l q).2.2 = 0 → nextV l q = (q, getV l q + 1, 0)) ∧ ((nextV l q).2.2 ≠ 0 → nextV l q = (0, 0, (nextV l q).2.2)) := by
  unfold nextV
  rw [if_neg (by simpa using h), getV_eq, if_pos h]
  have hc := cnt_nonneg ((chk_ok l).1 h) q
  unfold dotChk
  by_cases h1 : q < 0 ∨ 64 ≤ q
  · rw [if_pos h1, if_pos h1]; simp
  · rw [if_neg h1, if_neg h1]
    by_cases h2 : cnt l q = 1048576
    · rw [if_pos h2, if_pos (by omega)]; simp
    · rw [if_neg h2, if_neg (by omega)]; simp

end Go.Proofs.YtfobnemocodomaaGreat
set_option linter.unusedVariables false
set_option linter.unusedSimpArgs false
set_option maxHeartbeats 800000
namespace Go.Proofs.YtfobnemocodomaaGreat
open Go.RowKit

def ofL (f : Nat → Int) : Nat → List Dot
  | 0 => []
  | k + 1 => ofL f k ++ if 0 < f k then [((k : Int), f k)] else []
theorem ofL_length (f : Nat → Int) : ∀ k, (ofL f k).length ≤ k
  | 0 => by simp [ofL]
  | k + 1 => by have := ofL_length f k; unfold ofL; by_cases h : 0 < f k <;> simp [h] <;> omega

theorem own_add {w0 W w1 : World} {B0 : Nat} {v v' : Value} {l : List Dot} {p k : Int} (hw : w0.heap.size ≤ B0) (hg : Gr w0 W) (ho : OwnDots W B0 v l)
    (hown : w1.ownsRow B0 112 2 v' (l.length + 1) (dotCells l ++ [.int .i64 p, .int .i64 k])) (hgrow : (W.alloc (.cells #[.int .i64 p, .int .i64 k] 112)).grownBy w1 v.ownBlock) :
    OwnDots w1 B0 v' (l ++ [(p, k)]) ∧ Gr w0 w1 := by
  refine ⟨?_, (hg.al _).grown hgrow (by have := hg.size; simp; omega) (fun j e => by have := ho.ge j e; omega)⟩
  have e : dotCells (l ++ [(p, k)]) = dotCells l ++ [.int .i64 p, .int .i64 k] := by rw [dotCells_append]; rfl
  unfold OwnDots
  rw [e]
  simpa using hown

end Go.Proofs.YtfobnemocodomaaGreat
