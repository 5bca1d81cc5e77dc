/- Joined texts: Made Within VecP VecE VecF VecG VecH WldP GrwP. -/
import Derived.Test.YtfobnemocodomaaZBg
import Derived.Maps.AppendAt
import Derived.Test.YtfobnemocodomaaZBb
import Derived.Deep.WholeRow
import Derived.Great.Walk
import Derived.Test.YtfobnemocodomaaZBf
set_option linter.unusedVariables false
set_option linter.unusedSimpArgs false
set_option maxHeartbeats 400000
namespace Go.Proofs.Ytfobnemocodomaa
open Go.RowKit Go.Shelf
attribute [local go_sem] Oper.semAt_some

/-- the dots that a function of two counts leaves -/
def madeL (f : Int → Int → Int) (xs : List (Int × Int × Int)) : List Dot := xs.filterMap fun x => if 0 < f x.2.1 x.2.2 then some (x.1, f x.2.1 x.2.2) else none
def dotCells (l : List Dot) : List Value := l.flatMap fun d => [.int .i64 d.1, .int .i64 d.2]
theorem dotCells_length (l : List Dot) : (dotCells l).length = l.length * 2 := by
  induction l with
  | nil => rfl
  | cons d l ih => simp [dotCells] at ih ⊢; omega
theorem dotCells_append (l m : List Dot) : dotCells (l ++ m) = dotCells l ++ dotCells m := by simp [dotCells]
theorem dotCells_at : ∀ (l : List Dot) (i : Nat) (h : i < l.length), (dotCells l)[i * 2]? = some (.int .i64 l[i].1) ∧ (dotCells l)[i * 2 + 1]? = some (.int .i64 l[i].2)
  | d :: l, 0, _ => by simp [dotCells]
  | d :: l, i + 1, h => by
    have ih := dotCells_at l i (by simpa using h)
    have e : dotCells (d :: l) = [.int .i64 d.1, .int .i64 d.2] ++ dotCells l := rfl
    rw [e, List.getElem?_append_right (by simp; omega), List.getElem?_append_right (by simp; omega)]
    have h1 : (i + 1) * 2 - 2 = i * 2 := by omega
    have h2 : (i + 1) * 2 + 1 - 2 = i * 2 + 1 := by omega
    simpa [h1, h2] using ih

/-- a row of dots of the call's own -/
def OwnDots (w : World) (base : Nat) (v : Value) (l : List Dot) : Prop := w.ownsRow base 47 2 v l.length (dotCells l)
theorem OwnDots.dots {w : World} {base : Nat} {v : Value} {l : List Dot} (h : OwnDots w base v l) : ∃ A c, v = .slice A l.length c ∧ l.length ≤ c ∧ Dots w A l := by
  rcases h.2 with ⟨rfl, h0⟩ | ⟨g, cap, cur, rfl, hg, hh, hle, hm, _⟩
  · have : l = [] := List.eq_nil_of_length_eq_zero h0
    subst this
    exact ⟨none, 0, rfl, Nat.le_refl _, Dots.nil _ _⟩
  · refine ⟨_, cap, rfl, hle, by simp only [maxLen] at hm; omega, fun i hi => ⟨_, rfl, ?_, ?_⟩⟩
    · exact h.cells (g := g) rfl _ _ (dotCells_at l i hi).1
    · have := h.cells (g := g) rfl _ _ (dotCells_at l i hi).2
      by_cases h0 : i = 0
      · subst h0; simpa [Addr.add] using this
      · simp only [Addr.add] at this ⊢
        rw [if_neg (by omega)] at this ⊢
        simpa [Nat.add_assoc] using this

theorem pairs_any (A1 A2 : Option Addr) (l1 l2 c1 c2 : Nat) (w : World) :
    Calls Try.prog 197 #[.slice A1 l1 c1, .slice A2 l2 c2] w fun e w' => e = .returned (.func (.func 213) #[] #[.pointer (some ⟨w.heap.size, 0, none⟩), .pointer (some ⟨w.heap.size + 1, 0, none⟩)]) ∧
      w' = (w.alloc (.cells #[.slice A1 l1 c1] 36)).alloc (.cells #[.slice A2 l2 c2] 36) := by
  go_enter Try.func197, Try.ntmps197
  go_wp2
  go_ret
  exact ⟨rfl, rfl⟩

def maxI (x y : Int) : Int := if x < y then y else x
def minI (x y : Int) : Int := if y < x then y else x
theorem Join1_any (x y : Int) (w : World) : Calls Try.prog 166 #[.int .i64 x, .int .i64 y] w fun e w' => e = .returned (.int .i64 (maxI x y)) ∧ w' = w := by
  go_enter Try.func166, Try.ntmps166
  go_wp2
  all_goals
    go_ret
    exact ⟨ret_int (by (first | unfold maxI | unfold minI); first | rw [if_pos (by omega)] | rw [if_neg (by omega)]), rfl⟩
theorem Okv.len {l : List Dot} (h : Okv l) : l.length ≤ 64 := by
  rcases Nat.lt_or_ge 64 l.length with c | c
  · have key : ∀ i (hi : i < l.length), (i : Int) ≤ l[i].1 := by
      intro i
      induction i with
      | zero => intro hi; have := h.at 0 hi; omega
      | succ i ih => intro hi; have := ih (by omega); have := h.sorted i (i + 1) hi (by omega); omega
    have := key 64 c
    have := h.at 64 c
    omega
  · exact c
theorem mrg_length (a b : List Dot) : (mrg a b).length ≤ a.length + b.length := by
  fun_induction mrg a b <;> simp_all <;> omega
theorem madeL_append (f : Int → Int → Int) (xs ys : List (Int × Int × Int)) : madeL f (xs ++ ys) = madeL f xs ++ madeL f ys := by simp [madeL]
theorem madeL_length (f : Int → Int → Int) (xs : List (Int × Int × Int)) : (madeL f xs).length ≤ xs.length := List.length_filterMap_le _ _

/-- the iterator's contract, in the law's form -/
theorem pairs_iter (n : Nat) (w0 w : World) (ba bb : Nat) (hba : w0.heap.size ≤ ba) (hbb : w0.heap.size ≤ bb) (hne : ba ≠ bb) (a b : List Dot) (hP : PSt w0 ba bb a b w) :
    Iter (n + 1) Try.prog 213 #[.pointer (some ⟨ba, 0, none⟩), .pointer (some ⟨bb, 0, none⟩)] encP (mrg a b) (fun k => k = ba ∨ k = bb) w0.heap.size w := by
  intro l J Jx W hG hJ hJx hY h0
  refine callsIn_wide.2 (pairs1_any n l w0 ba bb _ hba hbb hne J Jx hJ hY a b rfl W ?_ h0)
  obtain ⟨⟨A1, c1, h1, h2, h3⟩, ⟨A2, c2, h4, h5, h6⟩, hg⟩ := hP
  exact ⟨⟨A1, c1, (hG.block _ h1.lt).trans h1, h2, h3⟩, ⟨A2, c2, (hG.block _ h4.lt).trans h4, h5, h6⟩, hg.tr hG⟩

theorem DRows.two {w : World} {A B : Option Addr} {c d : Nat} {l m : List Dot} (h : Dots w A l) (k : Dots w B m) (t : TypeId) :
    DRows (w.alloc (.cells #[.slice A l.length c, .slice B m.length d] t)) (some ⟨w.heap.size, 0, none⟩) [⟨A, c, l⟩, ⟨B, d, m⟩] := by
  refine ⟨by simp, fun i hi => ?_⟩
  have : i = 0 ∨ i = 1 := by simp at hi; omega
  rcases this with rfl | rfl
  · exact ⟨_, rfl, by simp [Addr.add], h.gr ((Gr.rfl' w).al _)⟩
  · exact ⟨_, rfl, by simp [Addr.add], k.gr ((Gr.rfl' w).al _)⟩


/-- cells that have just been laid -/
theorem cells_new (w : World) (cs : List Value) (t : TypeId) : ∀ j u, cs[j]? = some u → (w.alloc (.cells cs.toArray t)).cell? ((⟨w.heap.size, 0, none⟩ : Addr).add j) = some u := by
  intro j u h
  have hb := World.alloc_heap_new w (.cells cs.toArray t)
  have e : ((⟨w.heap.size, 0, none⟩ : Addr).add j) = ⟨w.heap.size, j, none⟩ := by unfold Addr.add; split <;> simp_all
  rw [e]
  simp only [World.cell?, hb]
  simpa using h

theorem OwnDots.nil (w : World) (base : Nat) : OwnDots w base (.slice none 0 0) [] := World.ownsRow_nil _ _ _ _
theorem OwnDots.lower {w : World} {b b' : Nat} {v : Value} {l : List Dot} (h : OwnDots w b v l) (hb : b' ≤ b) : OwnDots w b' v l := by
  obtain ⟨h1, h2⟩ := h
  refine ⟨h1, ?_⟩
  rcases h2 with h2 | ⟨g, cap, cur, rfl, hg, r⟩
  · exact .inl h2
  · exact .inr ⟨g, cap, cur, rfl, Nat.le_trans hb hg, r⟩
theorem OwnDots.ge {w : World} {b : Nat} {v : Value} {l : List Dot} (h : OwnDots w b v l) : ∀ k, v.ownBlock = some k → b ≤ k := fun k hk => (World.ownsRow.lt h k hk).1
theorem OwnDots.isCells {w : World} {b : Nat} {v : Value} {l : List Dot} (h : OwnDots w b v l) : ∀ (j : Nat) (o : Obj), v.ownBlock = some j → w.heap[j]? = some o → o.isCells = true := by
  intro j o ej hj
  rcases h.2 with ⟨rfl, _⟩ | ⟨g, cap, cur, rfl, _, hgb, _⟩
  · simp [Value.ownBlock] at ej
  · obtain rfl : g = j := by simpa [Value.ownBlock] using ej
    rw [hgb] at hj; cases hj; rfl

theorem box_grown {W w1 : World} {o : Obj} {b : Nat} {t : TypeId} {u v : Value} (hgrow : (W.alloc o).grownBy w1 v.ownBlock) (hb : Boxed W b t u) (hne : ∀ j, v.ownBlock = some j → b ≠ j) : Boxed w1 b t u :=
  (hgrow.block b (by have := hb.lt; simp; omega) (fun e => hne b e.symm rfl)).trans ((Below.heap_alloc _ _ _ hb.lt).trans hb)
theorem cel_grown {W w1 : World} {o : Obj} {b : Nat} {t : TypeId} {u v : Value} (hgrow : (W.alloc o).grownBy w1 v.ownBlock) (hb : Boxed W b t u) (hne : ∀ j, v.ownBlock = some j → b ≠ j) : w1.cell? ⟨b, 0, none⟩ = some u := (box_grown hgrow hb hne).cell
theorem frz_grown {W w1 : World} {o : Obj} {b : Nat} {t : TypeId} {u v : Value} (hgrow : (W.alloc o).grownBy w1 v.ownBlock) (hb : Boxed W b t u) (hne : ∀ j, v.ownBlock = some j → b ≠ j) : w1.frozen? ⟨b, 0, none⟩ = false := free_of_one (box_grown hgrow hb hne)
theorem Gr.putObj {a b : World} (h : Gr a b) {l : Nat} (hl : a.heap.size ≤ l) (o : Obj) : Gr a (b.putObj l o) :=
  h.trans ⟨rfl, rfl, rfl, by simp, fun k hk => World.putObj_heap_other (by omega)⟩
theorem infoDot : (Try.prog.info? 47).map (fun i => (i.zero, i.size, i.bytes)) = some (some (.agg #[.int .i64 0, .int .i64 0]), 2, 16) := by kernel_rfl

/-- made's own state between two rounds -/
structure MSt (w : World) (b5 b7 B0 : Nat) (fv : Value) (l : List Dot) (W : World) : Prop where
  out : ∃ v, Boxed W b7 36 v ∧ OwnDots W B0 v l
  fn : Boxed W b5 112 fv
  gr : Gr w W

theorem MSt.mv {w : World} {b5 b7 B0 ba bb : Nat} {fv : Value} {l : List Dot} {A W : World} (h : MSt w b5 b7 B0 fv l A) (m : Mv (fun k => k = ba ∨ k = bb) B0 A W) (h5 : ¬ (b5 = ba ∨ b5 = bb)) (h7 : ¬ (b7 = ba ∨ b7 = bb)) (hB : ba < B0 ∧ bb < B0) (hw : w.heap.size ≤ ba ∧ w.heap.size ≤ bb) : MSt w b5 b7 B0 fv l W := by
  obtain ⟨⟨v, h1, h2⟩, h3, h4⟩ := h
  exact ⟨⟨v, m.boxed h1 h7, m.ownsRow h2 (fun k hk e => by have := h2.ge k hk; omega)⟩, m.boxed h3 h5, m.below h4 (by omega) (Nat.le_refl _) (fun k hk => by rcases hk with rfl | rfl <;> omega)⟩

/-- one append, and the box written -/
theorem MSt.add {w : World} {b5 b7 B0 ba bb : Nat} {fv v v' : Value} {l : List Dot} {p k : Int} {W w1 : World} (h5 : b5 ≠ b7) (h5B : b5 < B0) (h7B : b7 < B0) (hB : B0 ≤ W.heap.size) (hw : w.heap.size ≤ b7) (hwB : w.heap.size ≤ B0) (hS : ba < B0 ∧ bb < B0) (hS7 : ¬ (b7 = ba ∨ b7 = bb))
    (hb : Boxed W b7 36 v) (ho : OwnDots W B0 v l) (hf : Boxed W b5 112 fv) (hg : Gr w W)
    (hown : w1.ownsRow B0 47 2 v' (l.length + 1) (dotCells l ++ [.int .i64 p, .int .i64 k])) (hgrow : (W.alloc (.cells #[.int .i64 p, .int .i64 k] 47)).grownBy w1 v.ownBlock) :
    MSt w b5 b7 B0 fv (l ++ [(p, k)]) (w1.setCell ⟨b7, 0, none⟩ v') ∧ KeepsFrom B0 W (w1.setCell ⟨b7, 0, none⟩ v') ∧ Kp (fun k => k = ba ∨ k = bb) w.heap.size W (w1.setCell ⟨b7, 0, none⟩ v') := by
  have hne : ∀ j, j < B0 → some j ≠ v.ownBlock := fun j hj e => by have := ho.ge j e.symm; omega
  have hb1 : Boxed w1 b7 36 v := (hgrow.block b7 (by simp; omega) (hne _ h7B)).trans ((Below.heap_alloc _ _ _ (by omega)).trans hb)
  have hf1 : Boxed w1 b5 112 fv := (hgrow.block b5 (by simp; omega) (hne _ h5B)).trans ((Below.heap_alloc _ _ _ (by omega)).trans hf)
  have hg1 : Gr w w1 := (hg.al _).grown hgrow (by have := hg.size; simp; omega) (fun j e => by have := ho.ge j e; omega)
  refine ⟨⟨⟨v', one_setCell hb1, ?_⟩, ?_, hg1.set hw _⟩, ?_, ?_⟩
  · have := ownsRow_setCell_below hown (a := ⟨b7, 0, none⟩) h7B v'
    have e : dotCells (l ++ [(p, k)]) = dotCells l ++ [.int .i64 p, .int .i64 k] := by rw [dotCells_append]; rfl
    unfold OwnDots
    rw [e]
    simpa using this
  · show _ = _
    rw [heap_set_other h5]; exact hf1
  · exact (((KeepsOthers.alloc W _).trans (KeepsOthers.of_grownBy hgrow fun j o ej hj => by
      have ha : OwnDots (W.alloc (.cells #[.int .i64 p, .int .i64 k] 47)) B0 v l := World.ownsRow.alloc ho _
      exact ha.isCells j o ej hj)).trans (KeepsOthers.setCell _ _ _)).from _
  · exact (((Kp.refl _ _ _).alloc _).grown hgrow (fun j e => ⟨by have := ho.ge j e; omega, fun e' => by have := ho.ge j e; rcases e' with rfl | rfl <;> omega⟩)).setCell ⟨hw, hS7⟩ _

set_option maxRecDepth 100000 in
theorem madeJoin_no (A1 A2 : Option Addr) (c1 c2 : Nat) (a b : List Dot) (w : World) (h1 : Dots w A1 a) (h2 : Dots w A2 b) (hv : ¬ (chk a = 0 ∧ chk b = 0)) :
    Calls Try.prog 165 #[.slice A1 a.length c1, .slice A2 b.length c2, .func (.func 166) #[] #[]] w fun e w' => e = .returned (.slice none 0 0) ∧ Gr w w' := by
  have hg0 : Gr w (w.alloc (.cells #[.func (.func 166) #[] #[]] 112)) := (Gr.rfl' w).al _
  have h3 := DRows.two (c := c1) (d := c2) (h1.gr hg0) (h2.gr hg0) 36
  rw [World.size_alloc] at h3
  have H3 := Lib.hid h3; clear h3
  have hr : rightB [⟨A1, c1, a⟩, ⟨A2, c2, b⟩] = false := by
    by_cases ha : chk a = 0
    · have hb : chk b ≠ 0 := fun h => hv ⟨ha, h⟩
      simp [rightB, ha, hb]
    · simp [rightB, ha]
  clear hv h1 h2
  go_enter Try.func165, Try.ntmps165
  go_wp2_with (first | (go_at_call 195; refine (right_any _ _ [⟨A1, c1, a⟩, ⟨A2, c2, b⟩] _ H3.out).mono ?_; rintro e w1 ⟨rfl, hg1⟩))
  go_ret
  exact ⟨rfl, (hg0.al _).tr hg1⟩

set_option maxRecDepth 100000 in
set_option maxHeartbeats 2000000 in
theorem madeJoin_any (A1 A2 : Option Addr) (c1 c2 : Nat) (a b : List Dot) (w : World) (h1 : Dots w A1 a) (h2 : Dots w A2 b) (hc1 : a.length ≤ c1) (hc2 : b.length ≤ c2) (hva : chk a = 0) (hvb : chk b = 0) :
    Calls Try.prog 165 #[.slice A1 a.length c1, .slice A2 b.length c2, .func (.func 166) #[] #[]] w fun e w' => ∃ v, e = .returned v ∧ OwnDots w' w.heap.size v (madeL maxI (mrg a b)) ∧ Gr w w' := by
  have hg0 : Gr w (w.alloc (.cells #[.func (.func 166) #[] #[]] 112)) := (Gr.rfl' w).al _
  have h3 := DRows.two (c := c1) (d := c2) (h1.gr hg0) (h2.gr hg0) 36
  rw [World.size_alloc] at h3
  have H3 := Lib.hid h3; clear h3
  have hr : rightB [⟨A1, c1, a⟩, ⟨A2, c2, b⟩] = true := by simp [rightB, hva, hvb]
  have HL : Hid (a.length + b.length ≤ 128) := by have := ((chk_ok a).1 hva).len; have := ((chk_ok b).1 hvb).len; show _ ≤ _; omega
  have H1 := Lib.hid h1
  have H2 := Lib.hid h2
  clear hva hvb h1 h2
  refine (callsIn_wide (n := 3)).1 (callsIn_of_wp_marks Try.func165 rfl trivial ?_)
  refine wpIn_wide.2 ?_
  simp only [Try.ntmps165, List.size_toArray, List.length_cons, List.length_nil, Nat.reduceAdd, Nat.reduceSub, Array.replicate_succ, Array.replicate_zero, List.push_toArray, List.append_toArray, List.nil_append, List.cons_append]
  go_wp2_with (first | (go_at_call 195; refine (right_any _ _ [⟨A1, c1, a⟩, ⟨A2, c2, b⟩] _ H3.out).mono ?_; rintro e w1 ⟨rfl, hg1⟩) | (go_at_call 197; refine (pairs_any _ _ _ _ _ _ _).mono ?_; rintro e w2 ⟨rfl, rfl⟩))
  obtain ⟨W0, hW0⟩ : ∃ W0, ((w1.alloc (.cells #[.slice none 0 0] 36)).alloc (.cells #[.slice A1 a.length c1] 36)).alloc (.cells #[.slice A2 b.length c2] 36) = W0 := ⟨_, rfl⟩
  rw [hW0]
  have hgw1 : Gr w w1 := ((hg0.al _).tr hg1)
  have hsz : w.heap.size + 2 ≤ w1.heap.size := by have := hg1.size; simp at this; omega
  have hsz0 : W0.heap.size = w1.heap.size + 3 := by rw [← hW0]; simp
  have hb5 : Boxed W0 w.heap.size 112 (.func (.func 166) #[] #[]) := by
    have h := World.alloc_heap_new w (.cells #[.func (.func 166) #[] #[]] 112)
    have h' := (hg1.block w.heap.size (by simp; omega)).trans ((Below.heap_alloc _ _ _ (by simp)).trans h)
    rw [← hW0]
    exact (Below.heap_alloc _ _ _ (by simp; omega)).trans ((Below.heap_alloc _ _ _ (by simp; omega)).trans ((Below.heap_alloc _ _ _ (by omega)).trans h'))
  have hb7 : Boxed W0 w1.heap.size 36 (.slice none 0 0) := by
    rw [← hW0]
    exact (Below.heap_alloc _ _ _ (by simp; omega)).trans ((Below.heap_alloc _ _ _ (by simp)).trans (World.alloc_heap_new w1 _))
  have hba : Boxed W0 (w1.heap.size + 1) 36 (.slice A1 a.length c1) := by
    have := World.alloc_heap_new (w1.alloc (.cells #[.slice none 0 0] 36)) (.cells #[.slice A1 a.length c1] 36)
    rw [World.size_alloc] at this
    rw [← hW0]
    exact (Below.heap_alloc _ _ _ (by simp)).trans this
  have hbb : Boxed W0 (w1.heap.size + 1 + 1) 36 (.slice A2 b.length c2) := by
    have := World.alloc_heap_new ((w1.alloc (.cells #[.slice none 0 0] 36)).alloc (.cells #[.slice A1 a.length c1] 36)) (.cells #[.slice A2 b.length c2] 36)
    rw [World.size_alloc, World.size_alloc] at this
    rw [← hW0]
    exact this
  have hgW0 : Gr w W0 := by rw [← hW0]; exact ((hgw1.al _).al _).al _
  have hP : PSt w (w1.heap.size + 1) (w1.heap.size + 1 + 1) a b W0 := ⟨⟨A1, c1, hba, hc1, H1.out⟩, ⟨A2, c2, hbb, hc2, H2.out⟩, hgW0⟩
  obtain ⟨i0, hi, hz0, hz1, hz2⟩ := info_parts infoDot
  clear hba hbb hW0 hg1 H3 hr hg0
  refine wpIn_wide.1 (wpIn_range (n := 3) (gf := 213) (lb := #[.pointer (some ⟨w1.heap.size + 1, 0, none⟩), .pointer (some ⟨w1.heap.size + 1 + 1, 0, none⟩)]) rfl (enters_of Try.func213 (by kernel_rfl) rfl)
    (pairs_iter 1 w W0 _ _ (by omega) (by omega) (by omega) a b hP) (fun k hk => by rcases hk with rfl | rfl <;> omega) (by omega) (fun _ => rfl)
    (fun pre W => MSt w w.heap.size w1.heap.size W0.heap.size (.func (.func 166) #[] #[]) (madeL maxI pre) W) (fun _ _ _ => False)
    (fun pre x a' W => W0.heap.size ≤ W.heap.size ∧ MSt w w.heap.size w1.heap.size W0.heap.size (.func (.func 166) #[] #[]) (madeL maxI pre) W ∧ ∃ bx, W0.heap.size ≤ bx ∧ W.heap[bx]? = some (.cells #[.int .i64 x.2.1, .int .i64 x.2.2] 217 (0, 0)) ∧
      a' = { tmps := #[.slice A1 a.length c1, .slice A2 b.length c2, .func (.func 166) #[] #[], undef, undef, .pointer (some ⟨w.heap.size, 0, none⟩), .slice none 0 0, .pointer (some ⟨w1.heap.size, 0, none⟩), .int .i64 x.1, .pointer (some ⟨bx, 0, none⟩), undef,
        .slice A1 a.length c1, .slice A2 b.length c2, .slice (some ⟨w.heap.size + 1, 0, none⟩) 2 2, .bool true, .bool false, .slice A1 a.length c1, .slice A2 b.length c2, .func (.func 213) #[] #[.pointer (some ⟨w1.heap.size + 1, 0, none⟩), .pointer (some ⟨w1.heap.size + 1 + 1, 0, none⟩)],
        .int .i64 x.1, .agg #[.int .i64 x.2.1, .int .i64 x.2.2], undef, undef, undef, undef, undef, undef, undef, undef, undef, undef, undef, undef, undef, undef, undef], defers := [] })
    ?hI (fun _ _ _ _ h _ => h) ?hAx ?h0 ?assign ?body ?done (fun _ _ _ _ _ _ h => h.elim))
  case hI => intro pre A B h m; exact h.mv m (by omega) (by omega) (by omega) (by omega)
  case hAx =>
    rintro pre x a' A B ⟨hs, h, bx, hbx, hb, rfl⟩ m
    exact ⟨Nat.le_trans hs m.size, h.mv m (by omega) (by omega) (by omega) (by omega), bx, hbx, m.same hb rfl (by omega), rfl⟩
  case h0 => exact ⟨⟨_, hb7, OwnDots.nil _ _⟩, hb5, hgW0⟩
  case assign =>
    intro l pre x W K hI hpre hl hlt hK
    obtain ⟨p, x, y⟩ := x
    simp only [encP]
    have hg := hI.gr
    have hKK := Lib.hid hK; clear hK
    gi_wp2
    refine hKK.out _ _ ((KeepsOthers.alloc _ _).from _) ((Kp.refl _ _ _).alloc _) ⟨by simp; omega, ?_, W.heap.size, by omega, World.alloc_heap_new _ _, rfl⟩
    obtain ⟨⟨v, h1, h2⟩, h3, h4⟩ := hI
    exact ⟨⟨v, (Below.heap_alloc _ _ _ h1.lt).trans h1, World.ownsRow.alloc h2 _⟩, (Below.heap_alloc _ _ _ h3.lt).trans h3, h4.al _⟩
  case body =>
    rintro l pre ⟨p, x, y⟩ a' W hl ⟨r, hr⟩ hpre ⟨hs, ⟨⟨v, hbv, hov⟩, hbf, hg⟩, bx, hbx, hb, rfl⟩
    have hlen : (madeL maxI pre).length + 1 ≤ 129 := by
      have h1 := madeL_length maxI pre
      have h2 : pre.length ≤ (mrg a b).length := by have := hpre.length_le; simp at this; omega
      have h3 := mrg_length a b
      have h4 := HL.out
      omega
    have hadd : madeL maxI (pre ++ [(p, x, y)]) = if 0 < maxI x y then madeL maxI pre ++ [(p, maxI x y)] else madeL maxI pre := by
      rw [madeL_append]; by_cases h : 0 < maxI x y <;> simp [madeL, h]
    have HADD := Lib.hid hadd; clear hadd
    have HPRE := Lib.hid hpre; clear hpre
    have hf0 := hbf.cell
    have hv0 := hbv.cell
    have hvf := free_of_one hbv
    have hx0 : W.cell? ⟨bx, 0, none⟩ = some (.int .i64 x) := by simp [World.cell?, hb]
    have hx1 : W.cell? ⟨bx, 1, none⟩ = some (.int .i64 y) := by simp [World.cell?, hb]
    have HB := Lib.hid hb; clear hb
    have HR := Lib.hid hr; clear hr
    have HBV := Lib.hid hbv; clear hbv
    have HBF := Lib.hid hbf; clear hbf
    by_cases hk : 0 < maxI x y
    · have hkb : decide (0 < maxI x y) = true := decide_eq_true hk
      gi_wp2_with (first | (refine ⟨trivial, ?_⟩; gi_at_call 166; refine (CallsIn.inRound l (callsIn_wide.2 (Join1_any x y _))).mono ?_; rintro e w' ⟨rfl, rfl⟩) | (gi_at_builtin; go_loud (refine wpListIn_append_own _ rfl _ _ 36 rfl W0.heap.size 47 i0 (.agg #[.int .i64 0, .int .i64 0]) 2 16 Try.underlying36 hi hz0 hz1 hz2 rfl (by decide) v _ _ rfl (World.ownsRow.alloc hov _) ⟨_, 0, none⟩ 1 1 [.int .i64 p, .int .i64 (maxI x y)] rfl rfl (cells_new _ _ _) (by simp [Value.oneCell']) (by simp only [maxLen]; omega) (by omega) (by simp; omega) ?_); intro v' w2 hown' hgrow _; obtain ⟨g', cap', rfl⟩ := ownsRow_succ hown'; have hbv1 : w2.cell? ⟨w1.heap.size, 0, none⟩ = some v := cel_grown hgrow HBV.out (fun j e => by have := hov.ge _ e; omega); have hbf1 : w2.frozen? ⟨w1.heap.size, 0, none⟩ = false := frz_grown hgrow HBV.out (fun j e => by have := hov.ge _ e; omega)))
      obtain ⟨hS, hKF, hKP⟩ := MSt.add (p := p) (k := maxI x y) (ba := w1.heap.size + 1) (bb := w1.heap.size + 1 + 1) (by omega) (by omega) (by omega) (by omega) (by omega) (by omega) (by omega) (by omega) HBV.out hov HBF.out hg hown' hgrow
      show _ ∧ _ ∧ _
      exact ⟨hKF, hKP, by show MSt _ _ _ _ _ _ _; rw [HADD.out, if_pos hk]; exact hS⟩
    · have hkb : decide (0 < maxI x y) = false := decide_eq_false hk
      gi_wp2_with (first | (refine ⟨trivial, ?_⟩; gi_at_call 166; refine (CallsIn.inRound l (callsIn_wide.2 (Join1_any x y _))).mono ?_; rintro e w' ⟨rfl, rfl⟩))
      show _ ∧ _ ∧ _
      exact ⟨KeepsFrom.refl _ _, Kp.refl _ _ _, by show MSt _ _ _ _ _ _ _; rw [HADD.out, if_neg (by omega)]; exact ⟨⟨v, HBV.out, hov⟩, HBF.out, hg⟩⟩
  case done =>
    intro D W hD hI hK
    obtain ⟨⟨v, hbv, hov⟩, hbf, hg⟩ := hI
    have hv0 := hbv.cell
    go_wp2
    refine ⟨by simp, .inl ⟨_, _, rfl, run_takeDeferred hK, ?_⟩⟩
    exact ⟨_, results_tmp rfl _ _ _, v, rfl, OwnDots.lower (ownsRow_putObj hov _ hK rfl) (by omega), hg.putObj (by omega) _⟩

def joinL (a b : List Dot) : List Dot := if chk a = 0 ∧ chk b = 0 then madeL maxI (mrg a b) else []
def meetL (a b : List Dot) : List Dot := if chk a = 0 ∧ chk b = 0 then madeL minI (mrg a b) else []

theorem Join_any (A1 A2 : Option Addr) (c1 c2 : Nat) (a b : List Dot) (w : World) (h1 : Dots w A1 a) (h2 : Dots w A2 b) (hc1 : a.length ≤ c1) (hc2 : b.length ≤ c2) :
    Calls Try.prog 96 #[.slice A1 a.length c1, .slice A2 b.length c2] w fun e w' => ∃ v, e = .returned v ∧ OwnDots w' w.heap.size v (joinL a b) ∧ Gr w w' := by
  have H1 := Lib.hid h1; clear h1
  have H2 := Lib.hid h2; clear h2
  by_cases hv : chk a = 0 ∧ chk b = 0
  · have hj : joinL a b = madeL maxI (mrg a b) := if_pos hv
    have HV := Lib.hid hv; clear hv
    have HJ := Lib.hid hj; clear hj
    go_enter Try.func96, Try.ntmps96
    go_wp2_with (go_at_call 165; refine (madeJoin_any A1 A2 c1 c2 a b _ H1.out H2.out hc1 hc2 HV.out.1 HV.out.2).mono ?_; rintro e w1 ⟨v, rfl, ho, hg⟩)
    go_ret
    exact ⟨_, rfl, by rw [HJ.out]; exact ho, hg⟩
  · have hj : joinL a b = [] := if_neg hv
    have HV := Lib.hid hv; clear hv
    have HJ := Lib.hid hj; clear hj
    go_enter Try.func96, Try.ntmps96
    go_wp2_with (go_at_call 165; refine (madeJoin_no A1 A2 c1 c2 a b _ H1.out H2.out HV.out).mono ?_; rintro e w1 ⟨rfl, hg⟩)
    go_ret
    exact ⟨_, rfl, by rw [HJ.out]; exact OwnDots.nil _ _, hg⟩

theorem Dots.one {w : World} (p c : Int) (t : TypeId) : Dots (w.alloc (.cells #[.int .i64 p, .int .i64 c] t)) (some ⟨w.heap.size, 0, none⟩) [(p, c)] := by
  refine ⟨by simp, fun i hi => ?_⟩
  have : i = 0 := by simpa using hi
  subst this
  exact ⟨_, rfl, by simp [Addr.add], by simp [Addr.add]⟩
theorem With_any (A1 : Option Addr) (c1 : Nat) (a : List Dot) (p c : Int) (w : World) (h1 : Dots w A1 a) (hc1 : a.length ≤ c1) :
    Calls Try.prog 95 #[.slice A1 a.length c1, .agg #[.int .i64 p, .int .i64 c]] w fun e w' => ∃ v, e = .returned v ∧ OwnDots w' w.heap.size v (joinL a [(p, c)]) ∧ Gr w w' := by
  have hg0 : Gr w (w.alloc (.cells #[.int .i64 p, .int .i64 c] 47)) := (Gr.rfl' w).al _
  have h2 := Dots.one (w := w.alloc (.cells #[.int .i64 p, .int .i64 c] 47)) p c 47
  rw [World.size_alloc] at h2
  have H1 := Lib.hid ((h1.gr hg0).gr ((Gr.rfl' _).al (.cells #[.int .i64 p, .int .i64 c] 47))); clear h1
  have H2 := Lib.hid h2; clear h2
  go_enter Try.func95, Try.ntmps95
  go_wp2_with (go_at_call 96; refine (Join_any A1 _ c1 1 a [(p, c)] _ H1.out H2.out hc1 (by simp)).mono ?_; rintro e w1 ⟨v, rfl, ho, hg⟩)
  go_ret
  exact ⟨_, rfl, OwnDots.lower ho (by simp; omega), (hg0.al _).tr hg⟩

end Go.Proofs.Ytfobnemocodomaa
set_option linter.unusedVariables false
set_option linter.unusedSimpArgs false
set_option maxHeartbeats 400000
namespace Go.Proofs.Ytfobnemocodomaa
open Go.RowKit Go.Shelf
attribute [local go_sem] Oper.semAt_some

def leB (l : List (Int × Int × Int)) : Bool := l.all fun x => decide (x.2.1 ≤ x.2.2)
theorem leB_snoc (l : List (Int × Int × Int)) (p x y : Int) : leB (l ++ [(p, x, y)]) = (leB l && decide (x ≤ y)) := by simp [leB]
theorem leB_pre {l m : List (Int × Int × Int)} (h : l <+: m) (hl : leB l = false) : leB m = false := by
  obtain ⟨t, rfl⟩ := h
  simp only [leB, List.all_append] at hl ⊢
  simp [hl]
def withinB (a b : List Dot) : Bool := decide (chk a = 0) && decide (chk b = 0) && leB (mrg a b)

def cmpI (a b : List Dot) : Int := if withinB a b = true then (if withinB b a = true then 0 else 1) else (if withinB b a = true then 2 else 3)
end Go.Proofs.Ytfobnemocodomaa
set_option maxHeartbeats 200000
set_option linter.unusedVariables false
set_option linter.unusedSimpArgs false
namespace Go.Proofs.Ytfobnemocodomaa
open Go.RowKit

theorem Okv.nil : Okv [] := ⟨by simp, List.Pairwise.nil⟩
theorem Okv.cons_iff {x : Dot} {a : List Dot} : Okv (x :: a) ↔ (0 ≤ x.1 ∧ x.1 < 64 ∧ 1 ≤ x.2 ∧ x.2 ≤ 1048576) ∧ (∀ d ∈ a, x.1 < d.1) ∧ Okv a := by
  unfold Okv
  rw [List.pairwise_cons]
  simp only [List.mem_cons, forall_eq_or_imp]
  constructor
  · rintro ⟨⟨h1, h2⟩, h3, h4⟩; exact ⟨h1, h3, h2, h4⟩
  · rintro ⟨h1, h3, h2, h4⟩; exact ⟨⟨h1, h2⟩, h3, h4⟩
theorem cnt_mem {l : List Dot} (h : Okv l) {d : Dot} (hd : d ∈ l) : cnt l d.1 = d.2 := by
  obtain ⟨i, hi, rfl⟩ := List.getElem_of_mem hd
  exact cnt_at l h i hi
theorem cnt_gt {l : List Dot} {p : Int} (h : ∀ d ∈ l, p < d.1) : cnt l p = 0 := cnt_none l p fun d hd e => by have := h d hd; omega
theorem cnt_cons (x : Dot) (l : List Dot) (p : Int) : cnt (x :: l) p = if x.1 = p then x.2 else cnt l p := rfl
theorem cnt_nonneg {l : List Dot} (h : Okv l) (p : Int) : 0 ≤ cnt l p ∧ cnt l p ≤ 1048576 := by
  by_cases c : ∃ d ∈ l, d.1 = p
  · obtain ⟨d, hd, rfl⟩ := c
    rw [cnt_mem h hd]; have := h.1 d hd; omega
  · rw [cnt_none l p fun d hd e => c ⟨d, hd, e⟩]; omega
theorem cnt_pos {l : List Dot} (h : Okv l) {p : Int} (hp : 0 < cnt l p) : ∃ d ∈ l, d.1 = p ∧ d.2 = cnt l p := by
  by_cases c : ∃ d ∈ l, d.1 = p
  · obtain ⟨d, hd, rfl⟩ := c
    exact ⟨d, hd, rfl, (cnt_mem h hd).symm⟩
  · rw [cnt_none l p fun d hd e => c ⟨d, hd, e⟩] at hp; omega

structure MSpec (a b : List Dot) (M : List (Int × Int × Int)) : Prop where
  sorted : M.Pairwise fun x y => x.1 < y.1
  ofm : ∀ x ∈ M, x.2.1 = cnt a x.1 ∧ x.2.2 = cnt b x.1 ∧ ((∃ d ∈ a, d.1 = x.1) ∨ (∃ d ∈ b, d.1 = x.1))
  ina : ∀ d ∈ a, (d.1, cnt a d.1, cnt b d.1) ∈ M
  inb : ∀ d ∈ b, (d.1, cnt a d.1, cnt b d.1) ∈ M

theorem MSpec.gt {a b : List Dot} {M : List (Int × Int × Int)} (h : MSpec a b M) {p : Int} (ha : ∀ d ∈ a, p < d.1) (hb : ∀ d ∈ b, p < d.1) : ∀ x ∈ M, p < x.1 := by
  intro x hx
  rcases (h.ofm x hx).2.2 with ⟨d, hd, e⟩ | ⟨d, hd, e⟩
  · have := ha d hd; omega
  · have := hb d hd; omega

theorem MSpec.stepA {x : Dot} {a b : List Dot} {M : List (Int × Int × Int)} (ha : Okv (x :: a)) (hb : ∀ d ∈ b, x.1 < d.1) (h : MSpec a b M) : MSpec (x :: a) b ((x.1, x.2, 0) :: M) := by
  obtain ⟨_, hax, _⟩ := Okv.cons_iff.1 ha
  have hg := h.gt hax hb
  refine ⟨List.pairwise_cons.2 ⟨hg, h.sorted⟩, ?_, ?_, ?_⟩
  · intro z hz
    rcases List.mem_cons.1 hz with rfl | hz
    · exact ⟨by simp [cnt_cons], (cnt_gt hb).symm, .inl ⟨x, by simp, rfl⟩⟩
    · obtain ⟨h1, h2, h3⟩ := h.ofm z hz
      have := hg z hz
      exact ⟨by rw [cnt_cons, if_neg (by omega)]; exact h1, h2, h3.imp (fun ⟨d, hd, e⟩ => ⟨d, by simp [hd], e⟩) id⟩
  · intro d hd
    rcases List.mem_cons.1 hd with rfl | hd
    · rw [cnt_cons, if_pos rfl, cnt_gt hb]; simp
    · have := hax d hd
      rw [cnt_cons, if_neg (by omega)]
      exact List.mem_cons_of_mem _ (h.ina d hd)
  · intro d hd
    have := hb d hd
    rw [cnt_cons, if_neg (by omega)]
    exact List.mem_cons_of_mem _ (h.inb d hd)
theorem MSpec.stepB {y : Dot} {a b : List Dot} {M : List (Int × Int × Int)} (hb : Okv (y :: b)) (ha : ∀ d ∈ a, y.1 < d.1) (h : MSpec a b M) : MSpec a (y :: b) ((y.1, 0, y.2) :: M) := by
  obtain ⟨_, hbx, _⟩ := Okv.cons_iff.1 hb
  have hg := h.gt ha hbx
  refine ⟨List.pairwise_cons.2 ⟨hg, h.sorted⟩, ?_, ?_, ?_⟩
  · intro z hz
    rcases List.mem_cons.1 hz with rfl | hz
    · exact ⟨(cnt_gt ha).symm, by simp [cnt_cons], .inr ⟨y, by simp, rfl⟩⟩
    · obtain ⟨h1, h2, h3⟩ := h.ofm z hz
      have := hg z hz
      exact ⟨h1, by rw [cnt_cons, if_neg (by omega)]; exact h2, h3.imp id (fun ⟨d, hd, e⟩ => ⟨d, by simp [hd], e⟩)⟩
  · intro d hd
    have := ha d hd
    rw [cnt_cons y, if_neg (by omega)]
    exact List.mem_cons_of_mem _ (h.ina d hd)
  · intro d hd
    rcases List.mem_cons.1 hd with rfl | hd
    · rw [cnt_cons, if_pos rfl, cnt_gt ha]; simp
    · have := hbx d hd
      rw [cnt_cons y, if_neg (by omega)]
      exact List.mem_cons_of_mem _ (h.inb d hd)
theorem MSpec.stepC {x y : Dot} {a b : List Dot} {M : List (Int × Int × Int)} (ha : Okv (x :: a)) (hb : Okv (y :: b)) (e : x.1 = y.1) (h : MSpec a b M) : MSpec (x :: a) (y :: b) ((x.1, x.2, y.2) :: M) := by
  obtain ⟨_, hax, _⟩ := Okv.cons_iff.1 ha
  obtain ⟨_, hbx, _⟩ := Okv.cons_iff.1 hb
  have hg := h.gt hax (fun d hd => by have := hbx d hd; omega)
  refine ⟨List.pairwise_cons.2 ⟨hg, h.sorted⟩, ?_, ?_, ?_⟩
  · intro z hz
    rcases List.mem_cons.1 hz with rfl | hz
    · exact ⟨by simp [cnt_cons], by simp [cnt_cons, e], .inl ⟨x, by simp, rfl⟩⟩
    · obtain ⟨h1, h2, h3⟩ := h.ofm z hz
      have := hg z hz
      exact ⟨by rw [cnt_cons, if_neg (by omega)]; exact h1, by rw [cnt_cons, if_neg (by omega)]; exact h2, h3.imp (fun ⟨d, hd, e⟩ => ⟨d, by simp [hd], e⟩) (fun ⟨d, hd, e⟩ => ⟨d, by simp [hd], e⟩)⟩
  · intro d hd
    rcases List.mem_cons.1 hd with rfl | hd
    · rw [cnt_cons, if_pos rfl, cnt_cons, if_pos e.symm]; simp
    · have := hax d hd
      rw [cnt_cons, if_neg (by omega), cnt_cons, if_neg (by omega)]
      exact List.mem_cons_of_mem _ (h.ina d hd)
  · intro d hd
    rcases List.mem_cons.1 hd with rfl | hd
    · rw [cnt_cons, if_pos e, cnt_cons, if_pos rfl, e]; simp
    · have := hbx d hd
      rw [cnt_cons, if_neg (by omega), cnt_cons, if_neg (by omega)]
      exact List.mem_cons_of_mem _ (h.inb d hd)

theorem mrg_spec (a b : List Dot) (ha : Okv a) (hb : Okv b) : MSpec a b (mrg a b) := by
  fun_induction mrg a b with
  | case1 b =>
    induction b with
    | nil => exact ⟨List.Pairwise.nil, by simp, by simp, by simp⟩
    | cons y b ih => exact MSpec.stepB hb (by simp) (ih (Okv.cons_iff.1 hb).2.2)
  | case2 x a ih => exact MSpec.stepA ha (by simp) (ih (Okv.cons_iff.1 ha).2.2 hb)
  | case3 x a y b h ih =>
    obtain ⟨_, h1, h2⟩ := Okv.cons_iff.1 ha
    obtain ⟨_, h3, h4⟩ := Okv.cons_iff.1 hb
    exact MSpec.stepA ha (fun d hd => by rcases List.mem_cons.1 hd with rfl | hd; exact h; have := h3 d hd; omega) (ih h2 hb)
  | case4 x a y b h h' ih =>
    obtain ⟨_, h1, h2⟩ := Okv.cons_iff.1 ha
    obtain ⟨_, h3, h4⟩ := Okv.cons_iff.1 hb
    exact MSpec.stepB hb (fun d hd => by rcases List.mem_cons.1 hd with rfl | hd; exact h'; have := h1 d hd; omega) (ih ha h4)
  | case5 x a y b h h' ih =>
    obtain ⟨_, h1, h2⟩ := Okv.cons_iff.1 ha
    obtain ⟨_, h3, h4⟩ := Okv.cons_iff.1 hb
    exact MSpec.stepC ha hb (by omega) (ih h2 h4)

theorem leB_iff {a b : List Dot} (ha : Okv a) (hb : Okv b) : leB (mrg a b) = true ↔ ∀ p, cnt a p ≤ cnt b p := by
  have h := mrg_spec a b ha hb
  unfold leB
  rw [List.all_eq_true]
  simp only [decide_eq_true_eq]
  constructor
  · intro hl p
    by_cases c : 0 < cnt a p
    · obtain ⟨d, hd, rfl, _⟩ := cnt_pos ha c
      exact hl _ (h.ina d hd)
    · have := cnt_nonneg hb p; omega
  · intro hl x hx
    obtain ⟨h1, h2, _⟩ := h.ofm x hx
    rw [h1, h2]; exact hl _
theorem inB_iff {a b : List Dot} (ha : Okv a) (hb : Okv b) : inB a b = true ↔ ∀ p, cnt a p ≤ cnt b p := by
  have hcb := (chk_ok b).2 hb
  unfold inB hasV
  simp only [List.all_eq_true, Bool.and_eq_true, decide_eq_true_eq, getV_eq, hcb, if_true]
  constructor
  · intro hl p
    by_cases c : 0 < cnt a p
    · obtain ⟨d, hd, rfl, e⟩ := cnt_pos ha c
      have := (hl d hd).2; omega
    · have := cnt_nonneg hb p; omega
  · intro hl d hd
    have := ha.1 d hd
    have := hl d.1
    rw [cnt_mem ha hd] at this
    exact ⟨by omega, this⟩
theorem within_eq (a b : List Dot) : withinB a b = refWithinB a b := by
  unfold withinB refWithinB
  by_cases ha : chk a = 0
  · by_cases hb : chk b = 0
    · have : leB (mrg a b) = inB a b := by
        rw [Bool.eq_iff_iff, leB_iff ((chk_ok a).1 ha) ((chk_ok b).1 hb), inB_iff ((chk_ok a).1 ha) ((chk_ok b).1 hb)]
      rw [this]
    · simp [hb]
  · simp [ha]
theorem cmp_eq (a b : List Dot) : cmpI a b = refCmpI a b := by unfold cmpI refCmpI; rw [within_eq, within_eq]

theorem withinB_iff (a b : List Dot) : withinB a b = true ↔ Okv a ∧ Okv b ∧ ∀ p, cnt a p ≤ cnt b p := by
  unfold withinB
  by_cases ha : chk a = 0
  · by_cases hb : chk b = 0
    · simp only [ha, hb, decide_true, Bool.true_and, leB_iff ((chk_ok a).1 ha) ((chk_ok b).1 hb)]
      exact ⟨fun h => ⟨(chk_ok a).1 ha, (chk_ok b).1 hb, h⟩, fun h => h.2.2⟩
    · simp only [hb, decide_false, Bool.and_false, Bool.false_and, Bool.false_eq_true, false_iff]
      exact fun h => hb ((chk_ok b).2 h.2.1)
  · simp only [ha, decide_false, Bool.false_and, Bool.false_eq_true, false_iff]
    exact fun h => ha ((chk_ok a).2 h.1)

/-- two vectors of the same counts are one -/
theorem Okv.ext : ∀ {a b : List Dot}, Okv a → Okv b → (∀ p, cnt a p = cnt b p) → a = b
  | [], [], _, _, _ => rfl
  | [], y :: b, _, hb, h => by have e := h y.1; have := (Okv.cons_iff.1 hb).1; rw [cnt_cons, if_pos rfl] at e; simp only [cnt] at e; omega
  | x :: a, [], ha, _, h => by have e := h x.1; have := (Okv.cons_iff.1 ha).1; rw [cnt_cons, if_pos rfl] at e; simp only [cnt] at e; omega
  | x :: a, y :: b, ha, hb, h => by
    obtain ⟨hx, h1, h2⟩ := Okv.cons_iff.1 ha
    obtain ⟨hy, h3, h4⟩ := Okv.cons_iff.1 hb
    have hxy : x.1 = y.1 := by
      rcases Int.lt_trichotomy x.1 y.1 with c | c | c
      · have e := h x.1
        rw [cnt_cons, if_pos rfl, cnt_gt (l := y :: b) (fun d hd => by rcases List.mem_cons.1 hd with rfl | hd; exact c; have := h3 d hd; omega)] at e
        omega
      · exact c
      · have e := h y.1
        rw [cnt_cons y, if_pos rfl, cnt_gt (l := x :: a) (fun d hd => by rcases List.mem_cons.1 hd with rfl | hd; exact c; have := h1 d hd; omega)] at e
        omega
    have hx2 : x.2 = y.2 := by
      have e := h x.1
      rwa [cnt_cons, if_pos rfl, cnt_cons, if_pos hxy.symm] at e
    have : a = b := Okv.ext h2 h4 fun p => by
      have e := h p
      rw [cnt_cons, cnt_cons] at e
      by_cases c : x.1 = p
      · rw [cnt_gt (p := p) (fun d hd => by have := h1 d hd; omega), cnt_gt (p := p) (fun d hd => by have := h3 d hd; omega)]
      · rwa [if_neg c, if_neg (by omega)] at e
    rw [this, Prod.ext hxy hx2]
end Go.Proofs.Ytfobnemocodomaa
set_option linter.unusedVariables false
set_option linter.unusedSimpArgs false
set_option maxHeartbeats 400000
namespace Go.Proofs.Ytfobnemocodomaa
open Go.RowKit

def sumL : List Dot → Int
  | [] => 0
  | d :: r => d.2 + sumL r
def sumG (l : List Dot) : Nat → Int
  | 0 => 0
  | k + 1 => sumG l k + getV l k
def sizeV (l : List Dot) : Int := if chk l = 0 then sumL l else 0
theorem sumL_snoc (l : List Dot) (d : Dot) : sumL (l ++ [d]) = sumL l + d.2 := by
  induction l with
  | nil => simp [sumL]
  | cons x l ih => simp only [List.cons_append, sumL, ih]; omega
theorem sumL_le : ∀ {l : List Dot}, (∀ d ∈ l, 1 ≤ d.2 ∧ d.2 ≤ 1048576) → 0 ≤ sumL l ∧ sumL l ≤ 1048576 * l.length
  | [], _ => by simp [sumL]
  | d :: r, h => by
    have h1 := h d (by simp)
    have h2 := sumL_le (l := r) fun x hx => h x (by simp [hx])
    simp only [sumL, List.length_cons]; omega
theorem getV_nonneg (l : List Dot) (q : Int) : 0 ≤ getV l q ∧ getV l q ≤ 1048576 := by
  rw [getV_eq]
  by_cases h : chk l = 0
  · rw [if_pos h]; exact cnt_nonneg ((chk_ok l).1 h) q
  · rw [if_neg h]; omega
theorem sumG_le (l : List Dot) : ∀ k : Nat, 0 ≤ sumG l k ∧ sumG l k ≤ 1048576 * k
  | 0 => by simp [sumG]
  | k + 1 => by have := sumG_le l k; have := getV_nonneg l k; simp only [sumG]; omega
theorem sumG_bad {l : List Dot} (h : chk l ≠ 0) : ∀ k, sumG l k = 0
  | 0 => rfl
  | k + 1 => by simp only [sumG, sumG_bad h k, getV_eq, if_neg h]; rfl
def sumC (l : List Dot) : Nat → Int
  | 0 => 0
  | k + 1 => sumC l k + cnt l k
theorem sumC_cons {x : Dot} {l : List Dot} (h : ∀ d ∈ l, x.1 < d.1) (h0 : 0 ≤ x.1) : ∀ k : Nat, sumC (x :: l) k = sumC l k + if x.1 < k then x.2 else 0
  | 0 => by rw [if_neg (by simp; exact h0)]; simp [sumC]
  | k + 1 => by
    have hcast : ((k + 1 : Nat) : Int) = k + 1 := rfl
    simp only [sumC, sumC_cons h h0 k, cnt_cons, hcast]
    by_cases e : x.1 = k
    · rw [if_pos e, if_neg (by omega), if_pos (by omega), cnt_gt (l := l) (fun d hd => by rw [← e]; exact h d hd)]
    · rw [if_neg e]
      by_cases c : x.1 < k
      · rw [if_pos c, if_pos (by omega)]; omega
      · rw [if_neg c, if_neg (by omega)]; omega
theorem sumC_eq : ∀ {l : List Dot}, Okv l → sumC l 64 = sumL l
  | [], _ => by decide
  | x :: l, h => by
    obtain ⟨h1, h2, h3⟩ := Okv.cons_iff.1 h
    rw [sumC_cons h2 h1.1, sumC_eq h3, if_pos (show x.1 < ((64 : Nat) : Int) from h1.2.1)]
    simp only [sumL]; omega
theorem sumG_sumC {l : List Dot} (h : chk l = 0) : ∀ k, sumG l k = sumC l k
  | 0 => rfl
  | k + 1 => by simp only [sumG, sumC, sumG_sumC h k, getV_eq, if_pos h]
theorem size_eq (l : List Dot) : sizeV l = sumG l 64 := by
  unfold sizeV
  by_cases h : chk l = 0
  · rw [if_pos h, sumG_sumC h, sumC_eq ((chk_ok l).1 h)]
  · rw [if_neg h, sumG_bad h]

/-- the dot that comes next: its peer, its count, the error -/
def nextV (l : List Dot) (p : Int) : Int × Int × Int :=
  if chk l ≠ 0 then (0, 0, chk l) else if p < 0 ∨ 64 ≤ p then (0, 0, 11) else if cnt l p = 1048576 then (0, 0, 12) else (p, cnt l p + 1, 0)
theorem box2 {W : World} {b : Nat} {x y : Value} {t : TypeId} (h : W.heap[b]? = some (.cells #[x, y] t (0, 0))) :
    W.cell? ⟨b, 0, none⟩ = some x ∧ W.cell? ⟨b, 1, none⟩ = some y ∧ W.frozen? ⟨b, 0, none⟩ = false ∧ W.frozen? ⟨b, 1, none⟩ = false :=
  ⟨by simp [World.cell?, h], by simp [World.cell?, h], by simp [World.frozen?, h], by simp [World.frozen?, h]⟩
theorem box2_gr {W W' : World} {b : Nat} {x y : Value} {t : TypeId} (g : Gr W W') (h : W.heap[b]? = some (.cells #[x, y] t (0, 0))) : W'.heap[b]? = some (.cells #[x, y] t (0, 0)) := by
  have hb : b < W.heap.size := by
    rcases Nat.lt_or_ge b W.heap.size with c | c
    · exact c
    · rw [Array.getElem?_eq_none c] at h; cases h
  rw [g.block b hb]; exact h
theorem box2_set {W : World} {b : Nat} {x y : Value} {t : TypeId} (h : W.heap[b]? = some (.cells #[x, y] t (0, 0))) (u v : Value) : ((W.setCell ⟨b, 0, none⟩ u).setCell ⟨b, 1, none⟩ v).cell? ⟨b, 0, none⟩ = some u ∧ ((W.setCell ⟨b, 0, none⟩ u).setCell ⟨b, 1, none⟩ v).cell? ⟨b, 1, none⟩ = some v := by
  have h1 := heap_set_same h (o := 0) u
  have h2 := heap_set_same h1 (o := 1) v
  constructor
  · simp [World.cell?, h2]
  · simp [World.cell?, h2]
def nextE (l : List Dot) (q : Int) : Ending := .returned (.tuple #[.agg #[.int .i64 (nextV l q).1, .int .i64 (nextV l q).2.1], .int .i64 (nextV l q).2.2])
theorem nextE_of {l : List Dot} {q a b c : Int} (h : nextV l q = (a, b, c)) : nextE l q = .returned (.tuple #[.agg #[.int .i64 a, .int .i64 b], .int .i64 c]) := by unfold nextE; rw [h]

theorem dotChk_next {l : List Dot} {q : Int} (h : chk l = 0) : dotChk q (getV l q + 1) = (nextV l q).2.2 ∧ ((nextV l q).2.2 = 0 → nextV l q = (q, getV l q + 1, 0)) ∧ ((nextV l q).2.2 ≠ 0 → nextV l q = (0, 0, (nextV l q).2.2)) := by
  unfold nextV
  rw [if_neg (by simpa using h), getV_eq, if_pos h]
  have hc := cnt_nonneg ((chk_ok l).1 h) q
  unfold dotChk
  by_cases h1 : q < 0 ∨ 64 ≤ q
  · rw [if_pos h1, if_pos h1]; simp
  · rw [if_neg h1, if_neg h1]
    by_cases h2 : cnt l q = 1048576
    · rw [if_pos h2, if_pos (by omega)]; simp
    · rw [if_neg h2, if_neg (by omega)]; simp

end Go.Proofs.Ytfobnemocodomaa
set_option linter.unusedVariables false
set_option linter.unusedSimpArgs false
set_option maxHeartbeats 800000
namespace Go.Proofs.Ytfobnemocodomaa
open Go.RowKit

def ofL (f : Nat → Int) : Nat → List Dot
  | 0 => []
  | k + 1 => ofL f k ++ if 0 < f k then [((k : Int), f k)] else []
theorem ofL_length (f : Nat → Int) : ∀ k, (ofL f k).length ≤ k
  | 0 => by simp [ofL]
  | k + 1 => by have := ofL_length f k; unfold ofL; by_cases h : 0 < f k <;> simp [h] <;> omega

theorem own_add {w0 W w1 : World} {B0 : Nat} {v v' : Value} {l : List Dot} {p k : Int} (hw : w0.heap.size ≤ B0) (hg : Gr w0 W) (ho : OwnDots W B0 v l)
    (hown : w1.ownsRow B0 47 2 v' (l.length + 1) (dotCells l ++ [.int .i64 p, .int .i64 k])) (hgrow : (W.alloc (.cells #[.int .i64 p, .int .i64 k] 47)).grownBy w1 v.ownBlock) :
    OwnDots w1 B0 v' (l ++ [(p, k)]) ∧ Gr w0 w1 := by
  refine ⟨?_, (hg.al _).grown hgrow (by have := hg.size; simp; omega) (fun j e => by have := ho.ge j e; omega)⟩
  have e : dotCells (l ++ [(p, k)]) = dotCells l ++ [.int .i64 p, .int .i64 k] := by rw [dotCells_append]; rfl
  unfold OwnDots
  rw [e]
  simpa using hown

set_option maxRecDepth 100000 in
theorem of_any (cs : Array Value) (f : Nat → Int) (hs : cs.size = 64) (hf : ∀ j, j < 64 → cs[j]? = some (.int .i64 (f j))) (w : World) :
    Calls Try.prog 167 #[.agg cs] w fun e w' => ∃ v, e = .returned v ∧ OwnDots w' w.heap.size v (ofL f 64) ∧ Gr w w' := by
  have HF := Lib.hid hf; clear hf
  have HS := Lib.hid hs; clear hs
  have HB := Lib.hid (World.alloc_heap_new w (.cells cs 175))
  have hg0 : Gr w (w.alloc (.cells cs 175)) := (Gr.rfl' w).al _
  go_enter Try.func167, Try.ntmps167
  go_wp2
  obtain ⟨W0, hW0⟩ : ∃ W0, w.alloc (.cells cs 175) = W0 := ⟨_, rfl⟩
  have hsz0 : W0.heap.size = w.heap.size + 1 := by rw [← hW0]; simp
  rw [hW0] at HB hg0
  rw [hW0]
  clear hW0
  obtain ⟨i0, hi, hz0, hz1, hz2⟩ := info_parts infoDot
  go_loopw [3,4] (fun s i wr => ∃ k : Nat, k ≤ 64 ∧ i = .int .i64 k ∧ Hid (OwnDots wr W0.heap.size s (ofL f k)) ∧ Gr W0 wr) (fun _ i _ => 64 - (intOf i).toNat)
  case atStart => exact ⟨0, Nat.zero_le _, rfl, Lib.hid (OwnDots.nil _ _), Below.refl _ _⟩
  case round =>
    obtain ⟨k, hk, rfl, hown, hg⟩ := hrel
    by_cases hlt : k < 64
    · have hx : wr.cell? ⟨w.heap.size, k, none⟩ = some (.int .i64 (f k)) := by
        have h1 := (hg.block w.heap.size (by omega)).trans HB.out
        simp only [World.cell?, h1]
        exact HF.out k hlt
      have hlt' : (k : Int) < 64 := by omega
      have hlen : (ofL f k).length ≤ 64 := Nat.le_trans (ofL_length f k) hk
      by_cases hp : 0 < f k
      · have hpb : decide (0 < f k) = true := decide_eq_true hp
        have HO : Hid (ofL f (k + 1) = ofL f k ++ [((k : Int), f k)]) := by show _ = _; simp [ofL, hp]
        clear hp
        have hgs := hg.size
        go_wp2_with (first | (at_builtin; go_loud (refine wpList_append_own _ rfl _ _ 36 rfl W0.heap.size 47 i0 (.agg #[.int .i64 0, .int .i64 0]) 2 16 Try.underlying36 hi hz0 hz1 hz2 rfl (by decide) _ _ _ rfl (World.ownsRow.alloc hown.out _) ⟨_, 0, none⟩ 1 1 [.int .i64 k, .int .i64 (f k)] rfl rfl (cells_new _ _ _) (by simp [Value.oneCell']) (by simp only [maxLen]; omega) (by omega) (by simp; omega) ?_); intro v' w2 hown' hgrow _; obtain ⟨g', cap', rfl⟩ := ownsRow_succ hown'))
        obtain ⟨h1, h2⟩ := own_add (Nat.le_refl _) hg hown.out hown' hgrow
        go_roundw
        case rel => exact ⟨k + 1, by omega, by go_num, Lib.hid (by rw [HO.out]; exact h1), h2⟩
        case measure => simp [intOf]; omega
      · have hpb : decide (0 < f k) = false := decide_eq_false hp
        have HO : Hid (ofL f (k + 1) = ofL f k) := by show _ = _; simp [ofL, hp]
        clear hp
        go_wp2
        go_roundw
        case rel => exact ⟨k + 1, by omega, by go_num, Lib.hid (by rw [HO.out]; exact hown.out), hg⟩
        case measure => simp [intOf]; omega
    · have hk' : k = 64 := by omega
      subst hk'
      go_wp2
      go_ret
      exact ⟨_, rfl, OwnDots.lower hown.out (by omega), hg0.tr hg⟩
end Go.Proofs.Ytfobnemocodomaa
set_option linter.unusedVariables false
set_option linter.unusedSimpArgs false
set_option maxHeartbeats 4000000
namespace Go.Proofs.Ytfobnemocodomaa
open Go.RowKit Go.Great

def Z64 : Array Value := Array.replicate 64 (.int .i64 0)
theorem Z64_at (j : Nat) (h : j < 64) : Z64[j]? = some (.int .i64 0) := by simp [Z64, h]
theorem Z64_size : Z64.size = 64 := by simp [Z64]
theorem Z64_info : (Try.prog.info? 175).map (fun i => (i.zero, i.size)) = some (some (.agg Z64), 64) := by kernel_rfl
theorem Z64_built : Try.prog.built 175 [] = some Z64 := by kernel_rfl
theorem Z64_one : Z64.all (·.oneCell') = true := by kernel_rfl
theorem build64 {ops : Array Oper} {rest : List Oper} {o : Oper} {a : Act} {w : World} {Q : Exit → Act → World → Prop} (hg : o.guard = none) (ho : o.op = .build 175 #[])
    (h : wpList Try.prog ops Q rest (a.put o.dst (.agg Z64)) w) : wpList Try.prog ops Q (o :: rest) a w := by
  have e : ((#[] : Array (Nat × Operand)).map fun (i, x) => (i, a.eval x)).toList = [] := by simp
  refine wpList_build hg 175 #[] ho (by rw [e, Z64_built]; rfl) ?_
  rw [e, Z64_built]; exact h
theorem alloc64 {ops : Array Oper} {rest : List Oper} {o : Oper} {a : Act} {w : World} {Q : Exit → Act → World → Prop} (hg : o.guard = none) (ho : o.op = .alloc 175)
    (h : wpList Try.prog ops Q rest (a.put o.dst (.pointer (some ⟨w.heap.size, 0, none⟩))) (w.alloc (.cells Z64 175))) : wpList Try.prog ops Q (o :: rest) a w := by
  refine wpList_allocTo hg o.dst rfl _ (.cells Z64 175) ?_ h
  have hz := (zero_of_info Z64_info).1
  unfold execOp
  simp [ho, Instr.alloc, hz, Value.cells, go_sem]
theorem store64 {ops : Array Oper} {rest : List Oper} {o : Oper} {a : Act} {w : World} {Q : Exit → Act → World → Prop} (hg : o.guard = none) (x y : Operand) (ho : o.op = .store 175 x y) (hd : o.dst = none)
    (hx : a.eval x = .pointer (some ⟨w.heap.size, 0, none⟩)) (hy : a.eval y = .agg Z64)
    (h : wpList Try.prog ops Q rest a (w.alloc (.cells Z64 175))) : wpList Try.prog ops Q (o :: rest) a (w.alloc (.cells Z64 175)) := by
  refine wpList_store_row hg 175 x y ho w.heap.size Z64 hx hy 175 Z64 (World.alloc_heap_new w _) (by rw [(zero_of_info Z64_info).2, Z64_size]) rfl Z64_one ?_
  rw [World.setRow_alloc_new, hd]
  exact h

/-- the first k of the array have their counts -/
def Arr (W : World) (b : Nat) (f : Nat → Int) (k : Nat) : Prop := ∃ cs : Array Value, W.heap[b]? = some (.cells cs 175 (0, 0)) ∧ cs.size = 64 ∧ ∀ j, j < 64 → cs[j]? = some (.int .i64 (if j < k then f j else 0))
theorem Arr.start (w : World) (f : Nat → Int) : Arr (w.alloc (.cells Z64 175)) w.heap.size f 0 := ⟨Z64, World.alloc_heap_new w _, Z64_size, fun j hj => by rw [Z64_at j hj]; rfl⟩
theorem Arr.lt {W : World} {b : Nat} {f : Nat → Int} {k : Nat} (h : Arr W b f k) : b < W.heap.size := by
  obtain ⟨cs, h, _⟩ := h
  rcases Nat.lt_or_ge b W.heap.size with c | c
  · exact c
  · rw [Array.getElem?_eq_none c] at h; cases h
theorem Arr.gr {W W' : World} {b : Nat} {f : Nat → Int} {k : Nat} (h : Arr W b f k) (g : Gr W W') : Arr W' b f k := by
  have hl := h.lt
  obtain ⟨cs, h1, h2, h3⟩ := h
  exact ⟨cs, (g.block b hl).trans h1, h2, h3⟩
theorem Arr.facts {W : World} {b : Nat} {f : Nat → Int} {k j : Nat} (h : Arr W b f k) (hj : j < 64) : W.cell? ⟨b, j, none⟩ = some (.int .i64 (if j < k then f j else 0)) ∧ W.frozen? ⟨b, j, none⟩ = false := by
  obtain ⟨cs, h1, h2, h3⟩ := h
  exact ⟨by simp only [World.cell?, h1]; exact h3 j hj, by simp [World.frozen?, h1]⟩
theorem Arr.set {W : World} {b : Nat} {f : Nat → Int} {k : Nat} (h : Arr W b f k) (hk : k < 64) {x : Int} (hx : f k = x) : Arr (W.setCell ⟨b, k, none⟩ (.int .i64 x)) b f (k + 1) := by
  obtain ⟨cs, h1, h2, h3⟩ := h
  refine ⟨_, heap_set_same h1 _, by simpa using h2, fun j hj => ?_⟩
  rw [Array.getElem?_setIfInBounds]
  by_cases e : k = j
  · subst e; rw [if_pos rfl, if_pos (by omega), if_pos (by omega), hx]
  · rw [if_neg e, h3 j hj]
    by_cases c : j < k
    · rw [if_pos c, if_pos (by omega)]
    · rw [if_neg c, if_neg (by omega)]

def refJoinL (a b : List Dot) : List Dot := if chk a = 0 ∧ chk b = 0 then ofL (fun p => maxI (getV a p) (getV b p)) 64 else []
def refMeetL (a b : List Dot) : List Dot := ofL (fun p => minI (getV a p) (getV b p)) 64
set_option maxRecDepth 100000 in
theorem refJoin_any (A1 A2 : Option Addr) (c1 c2 : Nat) (a b : List Dot) (w : World) (h1 : Dots w A1 a) (h2 : Dots w A2 b) :
    Calls Try.prog 97 #[.slice A1 a.length c1, .slice A2 b.length c2] w fun e w' => ∃ v, e = .returned v ∧ OwnDots w' w.heap.size v (refJoinL a b) ∧ Gr w w' := by
  have H1 := Lib.hid h1; clear h1
  have H2 := Lib.hid h2; clear h2
  have HA := Lib.hid (Arr.start w fun p => maxI (getV a p) (getV b p))
  have hg0 : Gr w (w.alloc (.cells Z64 175)) := (Gr.rfl' w).al _
  go_enter Try.func97, Try.ntmps97
  go_wp2_with (first | refine build64 rfl rfl ?_ | refine alloc64 rfl rfl ?_ | refine store64 rfl _ _ rfl rfl rfl rfl ?_)
  go_loopw [6] (fun i wr => ∃ k : Nat, k ≤ 64 ∧ i = .int .i64 k ∧ Hid (Arr wr w.heap.size (fun p => maxI (getV a p) (getV b p)) k) ∧ Gr w wr) (fun i _ => 64 - (intOf i).toNat)
  case atStart => exact ⟨0, Nat.zero_le _, rfl, HA, hg0⟩
  case round =>
    clear HA hg0
    obtain ⟨k, hk, rfl, HA, hg⟩ := hrel
    have hbs : w.heap.size < wr.heap.size := HA.out.lt
    by_cases hlt : k < 64
    · have hlt' : (k : Int) < 64 := by omega
      have HW1 := Lib.hid (H1.out.gr hg)
      have HW2 := Lib.hid (H2.out.gr hg)
      go_wp2_with fail
      refine (refGet_any A1 c1 a k _ HW1.out).mono ?_
      rintro e w1 ⟨rfl, hg1⟩
      go_wp2_with fail
      refine (refGet_any A2 c2 b k _ (HW2.out.gr hg1)).mono ?_
      rintro e w2 ⟨rfl, hg2⟩
      have HA2 := Lib.hid ((HA.out.gr hg1).gr hg2)
      obtain ⟨hcl, hfz⟩ := HA2.out.facts hlt
      go_wp2
      all_goals
        go_roundw
        case rel => exact ⟨k + 1, by omega, by go_num, Lib.hid (HA2.out.set hlt (by unfold maxI; split <;> omega)), ((hg.tr hg1).tr hg2).set (Nat.le_refl _) _⟩
        case measure => simp [intOf]; omega
    · have hk' : k = 64 := by omega
      subst hk'
      obtain ⟨cs, hcs, hsz, hat⟩ := HA.out
      have HAT : Hid (∀ j, j < 64 → cs[j]? = some (.int .i64 (maxI (getV a j) (getV b j)))) := by
        intro j hj
        have := hat j hj
        rwa [if_pos hj] at this
      clear hat
      by_cases ha : chk a = 0
      · have ha' : (chk a != 0) = false := by simp [ha]
        by_cases hb : chk b = 0
        · have hb' : (chk b != 0) = false := by simp [hb]
          have HR : Hid (refJoinL a b = ofL (fun p => maxI (getV a p) (getV b p)) 64) := if_pos ⟨ha, hb⟩
          clear ha hb
          go_wp2_with fail
          refine (refCheck_any A1 c1 a _ (H1.out.gr hg)).mono ?_
          rintro e w1 ⟨rfl, hg1⟩
          go_wp2_with fail
          refine (refCheck_any A2 c2 b _ (H2.out.gr (hg.tr hg1))).mono ?_
          rintro e w2 ⟨rfl, hg2⟩
          have hcs2 : w2.heap[w.heap.size]? = some (.cells cs 175 (0, 0)) := ((hg1.tr hg2).block _ hbs).trans hcs
          go_wp2_with (first | refine wpList_load_row rfl 175 _ rfl w.heap.size rfl 175 cs (0, 0) _ hcs2 Try.underlying175 rfl (by rw [hsz, (zero_of_info Z64_info).2]) ?_)
          refine (of_any cs (fun j => maxI (getV a j) (getV b j)) hsz HAT.out _).mono ?_
          rintro e w3 ⟨v, rfl, ho, hg3⟩
          have hgs := (hg1.tr hg2).size
          go_wp2
          go_ret
          exact ⟨v, rfl, by rw [HR.out]; exact ho.lower (by omega), (hg.tr (hg1.tr hg2)).tr hg3⟩
        · have hb' : (chk b != 0) = true := by simp [hb]
          have HR : Hid (refJoinL a b = []) := if_neg (fun h => hb h.2)
          clear ha hb
          go_wp2_with fail
          refine (refCheck_any A1 c1 a _ (H1.out.gr hg)).mono ?_
          rintro e w1 ⟨rfl, hg1⟩
          go_wp2_with fail
          refine (refCheck_any A2 c2 b _ (H2.out.gr (hg.tr hg1))).mono ?_
          rintro e w2 ⟨rfl, hg2⟩
          go_wp2
          go_ret
          exact ⟨_, rfl, by rw [HR.out]; exact OwnDots.nil _ _, hg.tr (hg1.tr hg2)⟩
      · have ha' : (chk a != 0) = true := by simp [ha]
        have HR : Hid (refJoinL a b = []) := if_neg (fun h => ha h.1)
        clear ha
        go_wp2_with fail
        refine (refCheck_any A1 c1 a _ (H1.out.gr hg)).mono ?_
        rintro e w1 ⟨rfl, hg1⟩
        go_wp2
        go_ret
        exact ⟨_, rfl, by rw [HR.out]; exact OwnDots.nil _ _, hg.tr hg1⟩

theorem refWith_any (A1 : Option Addr) (c1 : Nat) (a : List Dot) (p c : Int) (w : World) (h1 : Dots w A1 a) :
    Calls Try.prog 98 #[.slice A1 a.length c1, .agg #[.int .i64 p, .int .i64 c]] w fun e w' => ∃ v, e = .returned v ∧ OwnDots w' w.heap.size v (refJoinL a [(p, c)]) ∧ Gr w w' := by
  have hg0 : Gr w ((w.alloc (.cells #[.int .i64 p, .int .i64 c] 47)).alloc (.cells #[.int .i64 p, .int .i64 c] 47)) := ((Gr.rfl' w).al _).al _
  have hD := Dots.one (w := w.alloc (.cells #[.int .i64 p, .int .i64 c] 47)) p c 47
  rw [World.size_alloc] at hD
  have HD := Lib.hid hD; clear hD
  have H1 := Lib.hid (h1.gr hg0); clear h1
  go_enter Try.func98, Try.ntmps98
  go_wp2_with fail
  refine (refJoin_any A1 _ c1 1 a [(p, c)] _ H1.out HD.out).mono ?_
  rintro e w1 ⟨v, rfl, ho, hg1⟩
  go_wp2
  go_ret
  exact ⟨v, rfl, ho.lower hg0.size, hg0.tr hg1⟩
end Go.Proofs.Ytfobnemocodomaa
set_option maxHeartbeats 200000
set_option linter.unusedVariables false
set_option linter.unusedSimpArgs false
namespace Go.Proofs.Ytfobnemocodomaa
open Go.RowKit

theorem mem_madeL {f : Int → Int → Int} {M : List (Int × Int × Int)} {d : Dot} : d ∈ madeL f M ↔ ∃ x ∈ M, 0 < f x.2.1 x.2.2 ∧ d = (x.1, f x.2.1 x.2.2) := by
  unfold madeL
  rw [List.mem_filterMap]
  constructor
  · rintro ⟨x, hx, h⟩
    by_cases c : 0 < f x.2.1 x.2.2
    · rw [if_pos c] at h; exact ⟨x, hx, c, (Option.some.inj h).symm⟩
    · rw [if_neg c] at h; cases h
  · rintro ⟨x, hx, c, rfl⟩; exact ⟨x, hx, if_pos c⟩

theorem madeL_spec {a b : List Dot} {f : Int → Int → Int} (ha : Okv a) (hb : Okv b) (hf0 : f 0 0 = 0) (hf : ∀ x y, 0 ≤ x → x ≤ 1048576 → 0 ≤ y → y ≤ 1048576 → 0 ≤ f x y ∧ f x y ≤ 1048576) :
    Okv (madeL f (mrg a b)) ∧ ∀ p, cnt (madeL f (mrg a b)) p = f (cnt a p) (cnt b p) := by
  have hM := mrg_spec a b ha hb
  have hok : Okv (madeL f (mrg a b)) := by
    constructor
    · intro d hd
      obtain ⟨x, hx, h1, rfl⟩ := mem_madeL.1 hd
      obtain ⟨e1, e2, h3⟩ := hM.ofm x hx
      have hp : 0 ≤ x.1 ∧ x.1 < 64 := by
        rcases h3 with ⟨d, hd, e⟩ | ⟨d, hd, e⟩
        · have := ha.1 d hd; omega
        · have := hb.1 d hd; omega
      have n1 := cnt_nonneg ha x.1
      have n2 := cnt_nonneg hb x.1
      have := hf x.2.1 x.2.2 (by omega) (by omega) (by omega) (by omega)
      exact ⟨hp.1, hp.2, by show 1 ≤ f _ _; omega, this.2⟩
    · unfold madeL
      rw [List.pairwise_filterMap]
      refine hM.sorted.imp ?_
      intro x y hxy d hd e he
      by_cases c : 0 < f x.2.1 x.2.2
      · rw [if_pos c] at hd
        by_cases c' : 0 < f y.2.1 y.2.2
        · rw [if_pos c'] at he
          obtain rfl := Option.some.inj hd
          obtain rfl := Option.some.inj he
          exact hxy
        · rw [if_neg c'] at he; cases he
      · rw [if_neg c] at hd; cases hd
  refine ⟨hok, fun p => ?_⟩
  have n1 := cnt_nonneg ha p
  have n2 := cnt_nonneg hb p
  have nf := hf _ _ n1.1 n1.2 n2.1 n2.2
  by_cases c : 0 < f (cnt a p) (cnt b p)
  · have hin : (p, cnt a p, cnt b p) ∈ mrg a b := by
      by_cases ca : 0 < cnt a p
      · obtain ⟨d, hd, rfl, _⟩ := cnt_pos ha ca; exact hM.ina d hd
      · by_cases cb : 0 < cnt b p
        · obtain ⟨d, hd, rfl, _⟩ := cnt_pos hb cb; exact hM.inb d hd
        · rw [show cnt a p = 0 by omega, show cnt b p = 0 by omega, hf0] at c; omega
    have := cnt_mem hok (mem_madeL.2 ⟨_, hin, c, rfl⟩)
    exact this
  · rw [cnt_none _ p fun d hd e => ?_]
    · omega
    · obtain ⟨x, hx, h1, rfl⟩ := mem_madeL.1 hd
      obtain ⟨e1, e2, _⟩ := hM.ofm x hx
      dsimp only at e
      rw [e1, e2, e] at h1
      omega

theorem ofL_mem {f : Nat → Int} {d : Dot} : ∀ {k : Nat}, d ∈ ofL f k ↔ ∃ j < k, 0 < f j ∧ d = ((j : Int), f j)
  | 0 => by simp [ofL]
  | k + 1 => by
    rw [ofL, List.mem_append, ofL_mem (k := k)]
    constructor
    · rintro (⟨j, h1, h2, h3⟩ | h)
      · exact ⟨j, by omega, h2, h3⟩
      · by_cases c : 0 < f k
        · rw [if_pos c] at h; exact ⟨k, by omega, c, by simpa using h⟩
        · rw [if_neg c] at h; cases h
    · rintro ⟨j, h1, h2, h3⟩
      by_cases c : j < k
      · exact .inl ⟨j, c, h2, h3⟩
      · obtain rfl : j = k := by omega
        right; rw [if_pos h2]; simp [h3]
theorem ofL_spec {f : Nat → Int} (hf : ∀ j, 0 ≤ f j ∧ f j ≤ 1048576) : Okv (ofL f 64) ∧ ∀ p : Int, cnt (ofL f 64) p = if 0 ≤ p ∧ p < 64 then f p.toNat else 0 := by
  have hok : Okv (ofL f 64) := by
    constructor
    · intro d hd
      obtain ⟨j, h1, h2, rfl⟩ := ofL_mem.1 hd
      have := hf j
      exact ⟨by show (0 : Int) ≤ j; omega, by show (j : Int) < 64; omega, by show 1 ≤ f j; omega, this.2⟩
    · have : ∀ k, (ofL f k).Pairwise (fun a b => a.1 < b.1) := by
        intro k
        induction k with
        | zero => exact List.Pairwise.nil
        | succ k ih =>
          rw [ofL, List.pairwise_append]
          refine ⟨ih, ?_, ?_⟩
          · by_cases c : 0 < f k <;> simp [c]
          · intro x hx y hy
            obtain ⟨j, h1, h2, rfl⟩ := ofL_mem.1 hx
            by_cases c : 0 < f k
            · rw [if_pos c] at hy
              obtain rfl : y = ((k : Int), f k) := by simpa using hy
              show (j : Int) < k; omega
            · rw [if_neg c] at hy; cases hy
      exact this 64
  refine ⟨hok, fun p => ?_⟩
  by_cases c : 0 ≤ p ∧ p < 64
  · rw [if_pos c]
    have hf' := hf p.toNat
    by_cases c2 : 0 < f p.toNat
    · have hm : ((p.toNat : Int), f p.toNat) ∈ ofL f 64 := ofL_mem.2 ⟨p.toNat, by omega, c2, rfl⟩
      have := cnt_mem hok hm
      dsimp only at this
      rwa [show ((p.toNat : Nat) : Int) = p by omega] at this
    · rw [cnt_none _ p fun d hd e => ?_]
      · omega
      · obtain ⟨j, h1, h2, rfl⟩ := ofL_mem.1 hd
        dsimp only at e
        rw [← e] at c2
        simp at c2; omega
  · rw [if_neg c, cnt_none _ p fun d hd e => ?_]
    obtain ⟨j, h1, h2, rfl⟩ := ofL_mem.1 hd
    dsimp only at e
    omega

theorem maxI_bd (x y : Int) (h1 : 0 ≤ x) (h2 : x ≤ 1048576) (h3 : 0 ≤ y) (h4 : y ≤ 1048576) : 0 ≤ maxI x y ∧ maxI x y ≤ 1048576 := by unfold maxI; split <;> omega
theorem minI_bd (x y : Int) (h1 : 0 ≤ x) (h2 : x ≤ 1048576) (h3 : 0 ≤ y) (h4 : y ≤ 1048576) : 0 ≤ minI x y ∧ minI x y ≤ 1048576 := by unfold minI; split <;> omega
theorem join_spec {a b : List Dot} (ha : Okv a) (hb : Okv b) : Okv (joinL a b) ∧ ∀ p, cnt (joinL a b) p = maxI (cnt a p) (cnt b p) := by
  unfold joinL; rw [if_pos ⟨(chk_ok a).2 ha, (chk_ok b).2 hb⟩]
  exact madeL_spec ha hb (by decide) maxI_bd
theorem meet_spec {a b : List Dot} (ha : Okv a) (hb : Okv b) : Okv (meetL a b) ∧ ∀ p, cnt (meetL a b) p = minI (cnt a p) (cnt b p) := by
  unfold meetL; rw [if_pos ⟨(chk_ok a).2 ha, (chk_ok b).2 hb⟩]
  exact madeL_spec ha hb (by decide) minI_bd

theorem join_eq (a b : List Dot) : joinL a b = refJoinL a b := by
  by_cases h : chk a = 0 ∧ chk b = 0
  · have ha := (chk_ok a).1 h.1
    have hb := (chk_ok b).1 h.2
    obtain ⟨h1, h2⟩ := join_spec ha hb
    unfold refJoinL
    rw [if_pos h]
    obtain ⟨h3, h4⟩ := ofL_spec (f := fun p => maxI (getV a p) (getV b p)) fun j => maxI_bd _ _ (getV_nonneg a j).1 (getV_nonneg a j).2 (getV_nonneg b j).1 (getV_nonneg b j).2
    refine Okv.ext h1 h3 fun p => ?_
    rw [h2, h4]
    by_cases c : 0 ≤ p ∧ p < 64
    · rw [if_pos c, getV_eq, getV_eq, if_pos h.1, if_pos h.2, show ((p.toNat : Nat) : Int) = p by omega]
    · rw [if_neg c, cnt_out ha p c, cnt_out hb p c]; decide
  · unfold joinL refJoinL; rw [if_neg h, if_neg h]
theorem meet_eq (a b : List Dot) : meetL a b = refMeetL a b := by
  unfold refMeetL
  obtain ⟨h3, h4⟩ := ofL_spec (f := fun p => minI (getV a p) (getV b p)) fun j => minI_bd _ _ (getV_nonneg a j).1 (getV_nonneg a j).2 (getV_nonneg b j).1 (getV_nonneg b j).2
  by_cases h : chk a = 0 ∧ chk b = 0
  · have ha := (chk_ok a).1 h.1
    have hb := (chk_ok b).1 h.2
    obtain ⟨h1, h2⟩ := meet_spec ha hb
    refine Okv.ext h1 h3 fun p => ?_
    rw [h2, h4]
    by_cases c : 0 ≤ p ∧ p < 64
    · rw [if_pos c, getV_eq, getV_eq, if_pos h.1, if_pos h.2, show ((p.toNat : Nat) : Int) = p by omega]
    · rw [if_neg c, cnt_out ha p c, cnt_out hb p c]; decide
  · unfold meetL; rw [if_neg h]
    refine Okv.ext Okv.nil h3 fun p => ?_
    rw [h4]
    by_cases c : 0 ≤ p ∧ p < 64
    · rw [if_pos c]
      show 0 = minI _ _
      have n1 := getV_nonneg a p.toNat
      have n2 := getV_nonneg b p.toNat
      have : getV a p.toNat = 0 ∨ getV b p.toNat = 0 := by
        rcases Classical.not_and_iff_not_or_not.1 h with c | c
        · left; rw [getV_eq, if_neg c]
        · right; rw [getV_eq, if_neg c]
      unfold minI; split <;> omega
    · rw [if_neg c]; rfl

theorem within_join {a b : List Dot} (ha : Okv a) (hb : Okv b) : withinB a (joinL a b) = true ∧ withinB b (joinL a b) = true := by
  obtain ⟨h1, h2⟩ := join_spec ha hb
  constructor
  · rw [withinB_iff]; refine ⟨ha, h1, fun p => ?_⟩; rw [h2]; unfold maxI; split <;> omega
  · rw [withinB_iff]; refine ⟨hb, h1, fun p => ?_⟩; rw [h2]; unfold maxI; split <;> omega
theorem meet_within {a b : List Dot} (ha : Okv a) (hb : Okv b) : withinB (meetL a b) a = true ∧ withinB (meetL a b) b = true := by
  obtain ⟨h1, h2⟩ := meet_spec ha hb
  constructor
  · rw [withinB_iff]; refine ⟨h1, ha, fun p => ?_⟩; rw [h2]; unfold minI; split <;> omega
  · rw [withinB_iff]; refine ⟨h1, hb, fun p => ?_⟩; rw [h2]; unfold minI; split <;> omega
theorem join_least {a b c : List Dot} (ha : Okv a) (hb : Okv b) (hc : Okv c) : withinB (joinL a b) c = (withinB a c && withinB b c) := by
  obtain ⟨h1, h2⟩ := join_spec ha hb
  rw [Bool.eq_iff_iff, Bool.and_eq_true, withinB_iff, withinB_iff, withinB_iff]
  constructor
  · rintro ⟨_, _, h⟩
    refine ⟨⟨ha, hc, fun p => ?_⟩, hb, hc, fun p => ?_⟩ <;> (have := h p; rw [h2] at this; unfold maxI at this; split at this <;> omega)
  · rintro ⟨⟨_, _, h3⟩, _, _, h4⟩
    refine ⟨h1, hc, fun p => ?_⟩
    have := h3 p; have := h4 p
    rw [h2]; unfold maxI; split <;> omega
theorem meet_greatest {a b c : List Dot} (ha : Okv a) (hb : Okv b) (hc : Okv c) : withinB c (meetL a b) = (withinB c a && withinB c b) := by
  obtain ⟨h1, h2⟩ := meet_spec ha hb
  rw [Bool.eq_iff_iff, Bool.and_eq_true, withinB_iff, withinB_iff, withinB_iff]
  constructor
  · rintro ⟨_, _, h⟩
    refine ⟨⟨hc, ha, fun p => ?_⟩, hc, hb, fun p => ?_⟩ <;> (have := h p; rw [h2] at this; unfold minI at this; split at this <;> omega)
  · rintro ⟨⟨_, _, h3⟩, _, _, h4⟩
    refine ⟨hc, h1, fun p => ?_⟩
    have := h3 p; have := h4 p
    rw [h2]; unfold minI; split <;> omega

theorem join_self {a : List Dot} (ha : Okv a) : joinL a a = a := by
  obtain ⟨h1, h2⟩ := join_spec ha ha
  exact Okv.ext h1 ha fun p => by rw [h2]; unfold maxI; split <;> omega
theorem join_comm {a b : List Dot} (ha : Okv a) (hb : Okv b) : joinL a b = joinL b a := by
  obtain ⟨h1, h2⟩ := join_spec ha hb
  obtain ⟨h3, h4⟩ := join_spec hb ha
  exact Okv.ext h1 h3 fun p => by rw [h2, h4]; unfold maxI; split <;> split <;> omega
theorem join_assoc {a b c : List Dot} (ha : Okv a) (hb : Okv b) (hc : Okv c) : joinL (joinL a b) c = joinL a (joinL b c) := by
  obtain ⟨h1, h2⟩ := join_spec ha hb
  obtain ⟨h3, h4⟩ := join_spec hb hc
  obtain ⟨h5, h6⟩ := join_spec h1 hc
  obtain ⟨h7, h8⟩ := join_spec ha h3
  exact Okv.ext h5 h7 fun p => by rw [h6, h8, h2, h4]; unfold maxI; repeat' split <;> omega
theorem absorb {a b : List Dot} (ha : Okv a) (hb : Okv b) : meetL (joinL a b) a = a := by
  obtain ⟨h1, h2⟩ := join_spec ha hb
  obtain ⟨h3, h4⟩ := meet_spec h1 ha
  exact Okv.ext h3 ha fun p => by rw [h4, h2]; unfold maxI minI; repeat' split <;> omega
theorem sizes {a b : List Dot} (ha : Okv a) (hb : Okv b) : sizeV (joinL a b) + sizeV (meetL a b) = sizeV a + sizeV b := by
  obtain ⟨h1, h2⟩ := join_spec ha hb
  obtain ⟨h3, h4⟩ := meet_spec ha hb
  have h : ∀ k, sumC (joinL a b) k + sumC (meetL a b) k = sumC a k + sumC b k := by
    intro k
    induction k with
    | zero => rfl
    | succ k ih =>
      simp only [sumC, h2, h4]
      have : maxI (cnt a k) (cnt b k) + minI (cnt a k) (cnt b k) = cnt a k + cnt b k := by unfold maxI minI; split <;> split <;> omega
      omega
  have := h 64
  rw [sumC_eq h1, sumC_eq h3, sumC_eq ha, sumC_eq hb] at this
  unfold sizeV
  rwa [if_pos ((chk_ok _).2 h1), if_pos ((chk_ok _).2 h3), if_pos ((chk_ok _).2 ha), if_pos ((chk_ok _).2 hb)]
theorem sizeV_bd (l : List Dot) : 0 ≤ sizeV l ∧ sizeV l ≤ 67108864 := by rw [size_eq]; have := sumG_le l 64; omega

/-- the next dot is not there, and is there behind With -/
theorem next_with {l : List Dot} {q : Int} (h : (nextV l q).2.2 = 0) : hasV l (nextV l q).1 (nextV l q).2.1 = false ∧ hasV (joinL l [((nextV l q).1, (nextV l q).2.1)]) (nextV l q).1 (nextV l q).2.1 = true := by
  unfold nextV at h ⊢
  by_cases hv : chk l = 0
  · rw [if_neg (by simpa using hv)] at h ⊢
    by_cases h1 : q < 0 ∨ 64 ≤ q
    · rw [if_pos h1] at h; simp at h
    · rw [if_neg h1] at h ⊢
      by_cases h2 : cnt l q = 1048576
      · rw [if_pos h2] at h; simp at h
      · rw [if_neg h2]
        have hl := (chk_ok l).1 hv
        have hc := cnt_nonneg hl q
        have ho : Okv [(q, cnt l q + 1)] := Okv.cons_iff.2 ⟨⟨by show 0 ≤ q; omega, by show q < 64; omega, by show 1 ≤ cnt l q + 1; omega, by show cnt l q + 1 ≤ 1048576; omega⟩, by simp, Okv.nil⟩
        obtain ⟨h3, h4⟩ := join_spec hl ho
        constructor
        · show (decide (1 ≤ cnt l q + 1) && decide (cnt l q + 1 ≤ getV l q)) = false
          rw [getV_eq, if_pos hv]; simp; omega
        · show (decide (1 ≤ cnt l q + 1) && decide (cnt l q + 1 ≤ getV (joinL l [(q, cnt l q + 1)]) q)) = true
          rw [getV_eq, if_pos ((chk_ok _).2 h3), h4, cnt_cons, if_pos rfl]
          simp only [Bool.and_eq_true, decide_eq_true_eq]
          unfold maxI; constructor
          · omega
          · split <;> omega
  · rw [if_pos (by simpa using hv)] at h
    exact absurd h hv
end Go.Proofs.Ytfobnemocodomaa
set_option maxHeartbeats 200000
set_option linter.unusedVariables false
set_option linter.unusedSimpArgs false
namespace Go.Proofs.Ytfobnemocodomaa

def covs (y x : Vx) : Bool := hasV y.pl x.P x.C
def filS (X : List Vx) : List Vx := X.filter fun x => !covB X x.P x.C
/-- what two leaves come to -/
def synL (a b : List Vx) : List Vx := if leafChk a = 0 ∧ leafChk b = 0 then syncOf (filS (a ++ b)) else []
/-- all that a leaf stands for -/
def covGo (o : List Dot) (l : List Vx) : List Dot := l.foldl (fun o v => joinL (joinL o v.pl) [(v.P, v.C)]) o
def covL (l : List Vx) : List Dot := if leafChk l = 0 then covGo [] l else []

theorem hasV_iff {l : List Dot} (h : chk l = 0) (p c : Int) : hasV l p c = true ↔ 1 ≤ c ∧ c ≤ cnt l p := by
  unfold hasV; rw [getV_eq, if_pos h]; simp
theorem filS_mem (X : List Vx) (x : Vx) : x ∈ filS X ↔ x ∈ X ∧ ∀ y ∈ X, covs y x = false := by
  unfold filS
  rw [List.mem_filter]
  constructor
  · rintro ⟨h, k⟩
    refine ⟨h, fun y hy => ?_⟩
    cases e : covs y x with
    | false => rfl
    | true =>
      have := (covB_iff X x.P x.C).2 ⟨y, hy, e⟩
      rw [this] at k; cases k
  · rintro ⟨h, k⟩
    refine ⟨h, ?_⟩
    cases e : covB X x.P x.C with
    | false => rfl
    | true =>
      obtain ⟨y, hy, e'⟩ := (covB_iff X x.P x.C).1 e
      have := k y hy
      unfold covs at this; rw [this] at e'; cases e'
/-- what comes of two leaves is a leaf -/
theorem synL_leaf (a b : List Vx) : leafChk (synL a b) = 0 := by
  unfold synL
  by_cases h : leafChk a = 0 ∧ leafChk b = 0
  · rw [if_pos h, leaf_zero]
    have ha := (leaf_zero a).1 h.1
    have hb := (leaf_zero b).1 h.2
    have hin : ∀ x ∈ syncOf (filS (a ++ b)), x ∈ filS (a ++ b) := fun x hx => ((syncOf_mem _ x).1 hx).2.2.mem
    refine ⟨fun x hx => ?_, syncOf_ups _, fun x hx => ?_⟩
    · rcases List.mem_append.1 ((filS_mem _ _).1 (hin x hx)).1 with k | k
      · exact ha.1 x k
      · exact hb.1 x k
    · cases e : covB (syncOf (filS (a ++ b))) x.P x.C with
      | false => rfl
      | true =>
        obtain ⟨y, hy, k⟩ := (covB_iff _ _ _).1 e
        have := ((filS_mem _ _).1 (hin x hx)).2 y ((filS_mem _ _).1 (hin y hy)).1
        unfold covs at this; rw [this] at k; cases k
  · rw [if_neg h]; decide

/-! ### versions that grew so -/
/-- of all versions that were ever written -/
structure Uni (all : List Vx) : Prop where
  chk : ∀ v ∈ all, verChk v = 0
  uniq : ∀ v ∈ all, ∀ u ∈ all, v.P = u.P → v.C = u.C → v = u
  clos : ∀ v ∈ all, ∀ u ∈ all, covs v u = true → ∀ p, cnt u.pl p ≤ cnt v.pl p
  ownp : ∀ v ∈ all, cnt v.pl v.P = v.C - 1
theorem Uni.cov_iff {all : List Vx} (U : Uni all) {v u : Vx} (hv : v ∈ all) (hu : u ∈ all) : covs v u = true ↔ u.C ≤ cnt v.pl u.P := by
  unfold covs
  rw [hasV_iff (ver_parts (U.chk v hv)).2.1]
  have := (ver_parts (U.chk u hu)).1
  omega
theorem Uni.cov_trans {all : List Vx} (U : Uni all) {v u t : Vx} (hv : v ∈ all) (hu : u ∈ all) (ht : t ∈ all) (h1 : covs v u = true) (h2 : covs u t = true) : covs v t = true := by
  have a := (U.cov_iff hu ht).1 h2
  have b := U.clos v hv u hu h1 t.P
  exact (U.cov_iff hv ht).2 (by omega)
/-- a measure: a version that covers another has more -/
def sumP (l : List Dot) : Nat → Int
  | 0 => 0
  | k + 1 => sumP l k + cnt l k
theorem sumP_le {a b : List Dot} (h : ∀ p, cnt a p ≤ cnt b p) : ∀ k, sumP a k ≤ sumP b k
  | 0 => Int.le_refl _
  | k + 1 => by have := sumP_le h k; have := h k; unfold sumP; omega
theorem sumP_lt {a b : List Dot} (h : ∀ p, cnt a p ≤ cnt b p) {q : Nat} (hq : cnt a q < cnt b q) : ∀ k, q < k → sumP a k < sumP b k
  | 0, h0 => by omega
  | k + 1, h0 => by
    unfold sumP
    by_cases e : q = k
    · subst e; have := sumP_le h q; omega
    · have := sumP_lt h hq k (by omega); have := h k; omega
theorem Uni.more {all : List Vx} (U : Uni all) {v u : Vx} (hv : v ∈ all) (hu : u ∈ all) (h : covs v u = true) : sumP u.pl 64 < sumP v.pl 64 := by
  have a := U.clos v hv u hu h
  have b := (U.cov_iff hv hu).1 h
  have c := U.ownp u hu
  have d := (ver_parts (U.chk u hu)).1
  refine sumP_lt a (q := u.P.toNat) ?_ 64 (by omega)
  rw [show ((u.P.toNat : Nat) : Int) = u.P by omega]
  omega
theorem exMax (f : Vx → Int) (q : Vx → Prop) : ∀ (X : List Vx), (∃ y ∈ X, q y) → ∃ y ∈ X, q y ∧ ∀ z ∈ X, q z → f z ≤ f y
  | [], ⟨y, hy, _⟩ => by simp at hy
  | x :: r, ⟨y, hy, hq⟩ => by
    by_cases hr : ∃ y ∈ r, q y
    · obtain ⟨m, hm, hqm, hmax⟩ := exMax f q r hr
      by_cases hx : q x ∧ f m < f x
      · refine ⟨x, by simp, hx.1, fun z hz hqz => ?_⟩
        rcases List.mem_cons.1 hz with rfl | hz
        · exact Int.le_refl _
        · have := hmax z hz hqz; omega
      · refine ⟨m, List.mem_cons_of_mem _ hm, hqm, fun z hz hqz => ?_⟩
        rcases List.mem_cons.1 hz with rfl | hz
        · have : ¬ f m < f z := fun k => hx ⟨hqz, k⟩
          omega
        · exact hmax z hz hqz
    · rcases List.mem_cons.1 hy with rfl | hy
      · refine ⟨y, by simp, hq, fun z hz hqz => ?_⟩
        rcases List.mem_cons.1 hz with rfl | hz
        · exact Int.le_refl _
        · exact absurd ⟨z, hz, hqz⟩ hr
      · exact absurd ⟨y, hy, hq⟩ hr
/-- whatever is covered is covered by one that is not covered -/
theorem Uni.top {all X : List Vx} (U : Uni all) (hX : ∀ x ∈ X, x ∈ all) {x : Vx} (hx : x ∈ all) (h : ∃ y ∈ X, covs y x = true) : ∃ y ∈ filS X, covs y x = true := by
  obtain ⟨y, hy, hc, hm⟩ := exMax (fun v => sumP v.pl 64) (fun y => covs y x = true) X h
  refine ⟨y, (filS_mem _ _).2 ⟨hy, fun z hz => ?_⟩, hc⟩
  cases e : covs z y with
  | false => rfl
  | true =>
    have a := hm z hz (U.cov_trans (hX z hz) (hX y hy) hx e hc)
    have b := U.more (hX z hz) (hX y hy) e
    omega
/-- a leaf of these -/
structure Lfl (all l : List Vx) : Prop where
  sub : ∀ x ∈ l, x ∈ all
  ups : Ups l
  unc : ∀ x ∈ l, ∀ y ∈ l, covs y x = false
theorem Lfl.chk {all l : List Vx} (U : Uni all) (h : Lfl all l) : leafChk l = 0 := by
  rw [leaf_zero]
  refine ⟨fun x hx => U.chk x (h.sub x hx), h.ups, fun x hx => ?_⟩
  cases e : covB l x.P x.C with
  | false => rfl
  | true =>
    obtain ⟨y, hy, k⟩ := (covB_iff _ _ _).1 e
    have := h.unc x hx y hy
    unfold covs at this; rw [this] at k; cases k
theorem Lfl.nil (all : List Vx) : Lfl all [] := ⟨by simp, List.Pairwise.nil, by simp⟩
theorem head_same {x : Vx} : ∀ {l : List Vx}, x ∈ l → (∀ y ∈ l, y = x) → l.head? = some x
  | [], h, _ => by simp at h
  | y :: r, _, k => by rw [k y (by simp)]; rfl
theorem synL_mem {all a b : List Vx} (U : Uni all) (ha : Lfl all a) (hb : Lfl all b) (x : Vx) : x ∈ synL a b ↔ x ∈ filS (a ++ b) := by
  unfold synL
  rw [if_pos ⟨ha.chk U, hb.chk U⟩, syncOf_mem]
  have hall : ∀ y ∈ filS (a ++ b), y ∈ all := fun y hy => by
    rcases List.mem_append.1 ((filS_mem _ _).1 hy).1 with k | k
    · exact ha.sub y k
    · exact hb.sub y k
  constructor
  · rintro ⟨_, _, h⟩; exact h.mem
  · intro h
    have hx := ver_parts (U.chk x (hall x h))
    have key : ∀ y ∈ filS (a ++ b), y.P = x.P → y.C = x.C := fun y hy e => by
      have hyp := ver_parts (U.chk y (hall y hy))
      have o1 := U.ownp x (hall x h)
      have o2 := U.ownp y (hall y hy)
      have c1 := ((filS_mem _ _).1 h).2 y ((filS_mem _ _).1 hy).1
      have c2 := ((filS_mem _ _).1 hy).2 x ((filS_mem _ _).1 h).1
      have d1 : ¬ x.C ≤ cnt y.pl x.P := fun k => by rw [(U.cov_iff (hall y hy) (hall x h)).2 k] at c1; cases c1
      have d2 : ¬ y.C ≤ cnt x.pl y.P := fun k => by rw [(U.cov_iff (hall x h) (hall y hy)).2 k] at c2; cases c2
      rw [e] at o2 d2
      omega
    refine ⟨hx.1.1, hx.1.2.1, rfl, head_same (List.mem_filter.2 ⟨h, by simp [inK]⟩) (fun y hy => ?_), fun y hy e => by rw [key y hy e]; exact Int.le_refl _⟩
    obtain ⟨h1, h2⟩ := List.mem_filter.1 hy
    simp only [inK, decide_eq_true_eq] at h2
    exact U.uniq y (hall y h1) x (hall x h) h2.1 h2.2
theorem synL_ups (a b : List Vx) : Ups (synL a b) := by
  unfold synL
  split
  · exact syncOf_ups _
  · exact List.Pairwise.nil
theorem synL_lf {all a b : List Vx} (U : Uni all) (ha : Lfl all a) (hb : Lfl all b) : Lfl all (synL a b) := by
  have hin := synL_mem U ha hb
  refine ⟨fun x hx => ?_, synL_ups a b, fun x hx y hy => ?_⟩
  · rcases List.mem_append.1 ((filS_mem _ _).1 ((hin x).1 hx)).1 with k | k
    · exact ha.sub x k
    · exact hb.sub x k
  · exact ((filS_mem _ _).1 ((hin x).1 hx)).2 y ((filS_mem _ _).1 ((hin y).1 hy)).1
/-- what is uncovered does not hang on whether one asks half of it first -/
theorem fil_half {all X Y Z : List Vx} (U : Uni all) (hX : ∀ x ∈ X, x ∈ all) (hY : ∀ x ∈ Y, x ∈ all) (hZ : ∀ x, x ∈ Z ↔ x ∈ filS X) (x : Vx) : x ∈ filS (Z ++ Y) ↔ x ∈ filS (X ++ Y) := by
  rw [filS_mem, filS_mem]
  constructor
  · rintro ⟨h, k⟩
    have hx : x ∈ X ++ Y := by
      rcases List.mem_append.1 h with h | h
      · exact List.mem_append.2 (Or.inl ((filS_mem _ _).1 ((hZ x).1 h)).1)
      · exact List.mem_append.2 (Or.inr h)
    have hxa : x ∈ all := by
      rcases List.mem_append.1 hx with h | h
      · exact hX x h
      · exact hY x h
    refine ⟨hx, fun y hy => ?_⟩
    rcases List.mem_append.1 hy with hy | hy
    · cases e : covs y x with
      | false => rfl
      | true =>
        obtain ⟨z, hz, e'⟩ := U.top hX hxa ⟨y, hy, e⟩
        have := k z (List.mem_append.2 (Or.inl ((hZ z).2 hz)))
        rw [this] at e'; cases e'
    · exact k y (List.mem_append.2 (Or.inr hy))
  · rintro ⟨h, k⟩
    refine ⟨?_, fun y hy => ?_⟩
    · rcases List.mem_append.1 h with h | h
      · exact List.mem_append.2 (Or.inl ((hZ x).2 ((filS_mem _ _).2 ⟨h, fun y hy => k y (List.mem_append.2 (Or.inl hy))⟩)))
      · exact List.mem_append.2 (Or.inr h)
    · rcases List.mem_append.1 hy with hy | hy
      · exact k y (List.mem_append.2 (Or.inl ((filS_mem _ _).1 ((hZ y).1 hy)).1))
      · exact k y (List.mem_append.2 (Or.inr hy))
theorem fil_comm (X Y : List Vx) (x : Vx) : x ∈ filS (X ++ Y) ↔ x ∈ filS (Y ++ X) := by
  rw [filS_mem, filS_mem]
  simp only [List.mem_append]
  constructor
  · rintro ⟨h, k⟩; exact ⟨h.symm, fun y hy => k y hy.symm⟩
  · rintro ⟨h, k⟩; exact ⟨h.symm, fun y hy => k y hy.symm⟩
theorem fil_same {X Y : List Vx} (h : ∀ x, x ∈ X ↔ x ∈ Y) (x : Vx) : x ∈ filS X ↔ x ∈ filS Y := by
  rw [filS_mem, filS_mem, h x]
  constructor
  · rintro ⟨a, k⟩; exact ⟨a, fun y hy => k y ((h y).2 hy)⟩
  · rintro ⟨a, k⟩; exact ⟨a, fun y hy => k y ((h y).1 hy)⟩
theorem Lfl.app {all a b : List Vx} (ha : Lfl all a) (hb : Lfl all b) : ∀ x ∈ a ++ b, x ∈ all := fun x hx => by
  rcases List.mem_append.1 hx with h | h
  · exact ha.sub x h
  · exact hb.sub x h
section
variable {all a b c : List Vx} (U : Uni all) (ha : Lfl all a) (hb : Lfl all b) (hc : Lfl all c)
include U ha hb hc
theorem syn3 (x : Vx) : x ∈ synL (synL a b) c ↔ x ∈ filS ((a ++ b) ++ c) := by
  rw [synL_mem U (synL_lf U ha hb) hc]
  exact fil_half U (ha.app hb) hc.sub (synL_mem U ha hb) x
theorem syn_assoc : synL (synL a b) c = synL a (synL b c) := by
  refine ups_eq _ _ (synL_ups _ _) (synL_ups _ _) fun x => ?_
  rw [syn3 U ha hb hc, synL_mem U ha (synL_lf U hb hc), fil_comm a (synL b c), fil_half U (hb.app hc) ha.sub (synL_mem U hb hc)]
  refine fil_same (fun y => ?_) x
  simp only [List.mem_append]
  constructor
  · rintro ((h | h) | h)
    · exact Or.inr h
    · exact Or.inl (Or.inl h)
    · exact Or.inl (Or.inr h)
  · rintro ((h | h) | h)
    · exact Or.inl (Or.inr h)
    · exact Or.inr h
    · exact Or.inl (Or.inl h)
theorem syn_turn : synL (synL a b) c = synL (synL c b) a := by
  refine ups_eq _ _ (synL_ups _ _) (synL_ups _ _) fun x => ?_
  rw [syn3 U ha hb hc, syn3 U hc hb ha]
  refine fil_same (fun y => ?_) x
  simp only [List.mem_append]
  constructor
  · rintro ((h | h) | h)
    · exact Or.inr h
    · exact Or.inl (Or.inr h)
    · exact Or.inl (Or.inl h)
  · rintro ((h | h) | h)
    · exact Or.inr h
    · exact Or.inl (Or.inr h)
    · exact Or.inl (Or.inl h)
theorem syn_again : synL (synL (synL a b) c) a = synL (synL a b) c := by
  have hab := synL_lf U ha hb
  refine ups_eq _ _ (synL_ups _ _) (synL_ups _ _) fun x => ?_
  rw [synL_mem U (synL_lf U hab hc) ha, fil_half U (X := (a ++ b) ++ c) (fun y hy => (List.mem_append.1 hy).elim (ha.app hb y) (hc.sub y)) ha.sub (syn3 U ha hb hc), syn3 U ha hb hc]
  refine fil_same (fun y => ?_) x
  simp only [List.mem_append]
  constructor
  · rintro (((h | h) | h) | h)
    · exact Or.inl (Or.inl h)
    · exact Or.inl (Or.inr h)
    · exact Or.inr h
    · exact Or.inl (Or.inl h)
  · intro h; exact Or.inl h
omit ha hc in
theorem syn_self : synL b b = b := by
  refine ups_eq _ _ (synL_ups _ _) hb.ups fun x => ?_
  rw [synL_mem U hb hb, filS_mem]
  simp only [List.mem_append, or_self]
  exact ⟨fun h => h.1, fun h => ⟨h, fun y hy => hb.unc x h y hy⟩⟩
end
end Go.Proofs.Ytfobnemocodomaa
set_option maxHeartbeats 200000
set_option linter.unusedVariables false
set_option linter.unusedSimpArgs false
namespace Go.Proofs.Ytfobnemocodomaa

theorem okv_one {p c : Int} (h : 0 ≤ p ∧ p < 64 ∧ 1 ≤ c ∧ c ≤ 1048576) : Okv [(p, c)] := Okv.cons_iff.2 ⟨h, by simp, Okv.nil⟩
theorem maxI_le (x y : Int) : x ≤ maxI x y ∧ y ≤ maxI x y ∧ (maxI x y = x ∨ maxI x y = y) := by unfold maxI; split <;> omega
theorem covGo_spec : ∀ (l : List Vx) (o : List Dot), Okv o → (∀ v ∈ l, verChk v = 0) →
    Okv (covGo o l) ∧ (∀ q, cnt o q ≤ cnt (covGo o l) q) ∧ (∀ v ∈ l, ∀ q, cnt v.pl q ≤ cnt (covGo o l) q ∧ (v.P = q → v.C ≤ cnt (covGo o l) q)) ∧
      ∀ q, cnt (covGo o l) q = cnt o q ∨ ∃ v ∈ l, cnt (covGo o l) q = cnt v.pl q ∨ (v.P = q ∧ cnt (covGo o l) q = v.C)
  | [], o, ho, _ => ⟨ho, fun _ => Int.le_refl _, fun v hv => by simp at hv, fun _ => Or.inl rfl⟩
  | x :: r, o, ho, h => by
    have hx := ver_parts (h x (by simp))
    have hpl := (chk_ok _).1 hx.2.1
    have h1 := okv_one hx.1
    obtain ⟨j1, c1⟩ := join_spec ho hpl
    obtain ⟨j2, c2⟩ := join_spec j1 h1
    obtain ⟨k1, k2, k3, k4⟩ := covGo_spec r _ j2 (fun v hv => h v (List.mem_cons_of_mem _ hv))
    have e : covGo o (x :: r) = covGo (joinL (joinL o x.pl) [(x.P, x.C)]) r := rfl
    have one : ∀ q, cnt [(x.P, x.C)] q = if x.P = q then x.C else 0 := fun q => rfl
    have step : ∀ q, cnt (joinL (joinL o x.pl) [(x.P, x.C)]) q = maxI (maxI (cnt o q) (cnt x.pl q)) (if x.P = q then x.C else 0) := fun q => by rw [c2, c1, one]
    rw [e]
    refine ⟨k1, fun q => ?_, fun v hv q => ?_, fun q => ?_⟩
    · have := k2 q; rw [step] at this
      have a := maxI_le (maxI (cnt o q) (cnt x.pl q)) (if x.P = q then x.C else 0)
      have b := maxI_le (cnt o q) (cnt x.pl q)
      omega
    · rcases List.mem_cons.1 hv with rfl | hv
      · have := k2 q; rw [step] at this
        have a := maxI_le (maxI (cnt o q) (cnt v.pl q)) (if v.P = q then v.C else 0)
        have b := maxI_le (cnt o q) (cnt v.pl q)
        refine ⟨by omega, fun e => ?_⟩
        rw [if_pos e] at a this; omega
      · exact k3 v hv q
    · rcases k4 q with k | ⟨v, hv, k⟩
      · rw [step] at k
        have a := maxI_le (maxI (cnt o q) (cnt x.pl q)) (if x.P = q then x.C else 0)
        have b := maxI_le (cnt o q) (cnt x.pl q)
        have n0 := (cnt_nonneg ho q).1
        by_cases e : x.P = q
        · rw [if_pos e] at a k
          rcases a.2.2 with a' | a'
          · rcases b.2.2 with b' | b'
            · left; omega
            · right; exact ⟨x, by simp, Or.inl (by omega)⟩
          · right; exact ⟨x, by simp, Or.inr ⟨e, by omega⟩⟩
        · rw [if_neg e] at a k
          rcases a.2.2 with a' | a'
          · rcases b.2.2 with b' | b'
            · left; omega
            · right; exact ⟨x, by simp, Or.inl (by omega)⟩
          · left; omega
      · right; exact ⟨v, List.mem_cons_of_mem _ hv, k⟩
theorem cnt_nil (q : Int) : cnt [] q = 0 := rfl
theorem covL_spec {all l : List Vx} (U : Uni all) (h : Lfl all l) : Okv (covL l) ∧ (∀ v ∈ l, ∀ q, cnt v.pl q ≤ cnt (covL l) q ∧ (v.P = q → v.C ≤ cnt (covL l) q)) ∧
      ∀ q, cnt (covL l) q = 0 ∨ ∃ v ∈ l, cnt (covL l) q = cnt v.pl q ∨ (v.P = q ∧ cnt (covL l) q = v.C) := by
  have e : covL l = covGo [] l := by unfold covL; rw [if_pos (h.chk U)]
  obtain ⟨a, _, b, c⟩ := covGo_spec l [] Okv.nil (fun v hv => U.chk v (h.sub v hv))
  rw [e]
  exact ⟨a, b, c⟩

def upd {α : Type} (f : Nat → α) (p : Nat) (x : α) : Nat → α := fun q => if q = p then x else f q
theorem upd_same {α : Type} (f : Nat → α) (p : Nat) (x : α) : upd f p x p = x := by simp [upd]
theorem upd_ne {α : Type} (f : Nat → α) {p q : Nat} (x : α) (h : q ≠ p) : upd f p x q = f q := by simp [upd, h]
structure Wld (lf : Nat → List Vx) (n : Nat → Int) (all : List Vx) : Prop where
  uni : Uni all
  lfs : ∀ p, p < 3 → Lfl all (lf p)
  nn : ∀ p, 0 ≤ n p
  dot : ∀ v ∈ all, 0 ≤ v.P ∧ v.P < 3 ∧ v.C ≤ n v.P.toNat
  past : ∀ v ∈ all, ∀ q : Nat, cnt v.pl q ≤ n q
  own : ∀ p : Nat, p < 3 → n p = 0 ∨ ∃ u ∈ lf p, n p ≤ cnt u.pl p ∨ (u.P = p ∧ n p ≤ u.C)
  kept : ∀ v ∈ all, ∃ p, p < 3 ∧ ∃ u ∈ lf p, u = v ∨ covs u v = true
theorem Wld.start : Wld (fun _ => []) (fun _ => 0) [] :=
  ⟨⟨by simp, by simp, by simp, by simp⟩, fun _ _ => Lfl.nil _, fun _ => Int.le_refl _, by simp, by simp, fun _ _ => Or.inl rfl, by simp⟩
section
variable {lf : Nat → List Vx} {n : Nat → Int} {all : List Vx}
theorem Wld.covN (h : Wld lf n all) {p : Nat} (hp : p < 3) : cnt (covL (lf p)) p = n p ∧ ∀ q : Nat, cnt (covL (lf p)) q ≤ n q := by
  obtain ⟨a, b, c⟩ := covL_spec h.uni (h.lfs p hp)
  have ub : ∀ q : Nat, cnt (covL (lf p)) q ≤ n q := fun q => by
    rcases c q with k | ⟨v, hv, k | ⟨k1, k⟩⟩
    · rw [k]; exact h.nn q
    · rw [k]; exact h.past v ((h.lfs p hp).sub v hv) q
    · rw [k]
      have := (h.dot v ((h.lfs p hp).sub v hv)).2.2
      rw [k1, Int.toNat_natCast] at this
      exact this
  refine ⟨?_, ub⟩
  have u := ub p
  rcases h.own p hp with k | ⟨v, hv, k⟩
  · have := (cnt_nonneg a p).1; omega
  · have := b v hv p
    rcases k with k | ⟨k1, k⟩
    · omega
    · have := this.2 k1; omega
theorem Wld.fresh (h : Wld lf n all) {p : Nat} (hp : p < 3) : hasV (covL (lf p)) p (n p + 1) = false := by
  have a := (covL_spec h.uni (h.lfs p hp)).1
  cases e : hasV (covL (lf p)) p (n p + 1) with
  | false => rfl
  | true =>
    have := (hasV_iff ((chk_ok _).2 a) _ _).1 e
    have := (h.covN hp).1
    omega
theorem Wld.write (h : Wld lf n all) {p : Nat} (hp : p < 3) {v : Vx} (h1 : v.P = p) (h2 : v.C = n p + 1) (h3 : v.pl = covL (lf p)) (h4 : v.T.size ≤ 48) (h5 : ¬ (v.D = true ∧ v.T ≠ ⟨#[]⟩)) (h6 : n p + 1 ≤ 1048576) :
    Wld (upd lf p [v]) (upd n p (n p + 1)) (all ++ [v]) := by
  obtain ⟨a, b, c⟩ := covL_spec h.uni (h.lfs p hp)
  have U := h.uni
  have hn := h.nn p
  obtain ⟨cn1, cn2⟩ := h.covN hp
  have hV : verChk v = 0 := ver_of (by omega) (by rw [h3]; exact (chk_ok _).2 a) (by rw [h1, h2, h3]; exact h.fresh hp) h4 h5
  have cov1 : ∀ u : Vx, 1 ≤ u.C → (covs v u = true ↔ u.C ≤ cnt (covL (lf p)) u.P) := fun u hu => by
    unfold covs; rw [hasV_iff (ver_parts hV).2.1, h3]; omega
  have vv : covs v v = false := (ver_parts hV).2.2.1
  have old : ∀ u ∈ all, covs u v = false := fun u hu => by
    cases e : covs u v with
    | false => rfl
    | true =>
      unfold covs at e
      have := ((hasV_iff (ver_parts (U.chk u hu)).2.1 _ _).1 e).2
      rw [h1, h2] at this
      have := h.past u hu p
      omega
  -- whoever the new one covers, it has all that that one has
  have clo : ∀ u ∈ all, covs v u = true → ∀ q, cnt u.pl q ≤ cnt v.pl q := fun u hu e q => by
    have hu1 := ver_parts (U.chk u hu)
    have e1 := (cov1 u (by omega)).1 e
    rw [h3]
    rcases c u.P with k | ⟨t, ht, k | ⟨k1, k⟩⟩
    · omega
    · have hta := (h.lfs p hp).sub t ht
      have e2 : covs t u = true := (U.cov_iff hta hu).2 (by omega)
      have := U.clos t hta u hu e2 q
      have := (b t ht q).1
      omega
    · have hta := (h.lfs p hp).sub t ht
      by_cases ec : t.C = u.C
      · have := U.uniq t hta u hu k1 ec
        subst this
        exact (b t ht q).1
      · have o := U.ownp t hta
        have e2 : covs t u = true := (U.cov_iff hta hu).2 (by rw [← k1]; omega)
        have := U.clos t hta u hu e2 q
        have := (b t ht q).1
        omega
  have U' : Uni (all ++ [v]) := by
    refine ⟨fun u hu => ?_, fun u hu t ht e1 e2 => ?_, fun u hu t ht e q => ?_, fun u hu => ?_⟩
    · rcases List.mem_append.1 hu with hu | hu
      · exact U.chk u hu
      · simp at hu; subst hu; exact hV
    · rcases List.mem_append.1 hu with hu2 | hu2 <;> rcases List.mem_append.1 ht with ht2 | ht2 <;> clear hu ht
      · exact U.uniq u hu2 t ht2 e1 e2
      · simp at ht2; subst ht2
        have := h.dot u hu2
        rw [e1, h1, Int.toNat_natCast] at this
        omega
      · simp at hu2; subst hu2
        have := h.dot t ht2
        rw [← e1, h1, Int.toNat_natCast] at this
        omega
      · simp at hu2 ht2; rw [hu2, ht2]
    · rcases List.mem_append.1 hu with hu2 | hu2 <;> rcases List.mem_append.1 ht with ht2 | ht2 <;> clear hu ht
      · exact U.clos u hu2 t ht2 e q
      · simp at ht2; subst ht2; rw [old u hu2] at e; cases e
      · simp at hu2; subst hu2; exact clo t ht2 e q
      · simp at hu2 ht2; subst hu2; subst ht2; exact Int.le_refl _
    · rcases List.mem_append.1 hu with hu | hu
      · exact U.ownp u hu
      · simp at hu; subst hu; rw [h1, h2, h3]; omega
  have nle : ∀ q, n q ≤ upd n p (n p + 1) q := fun q => by
    unfold upd; split
    · rename_i e; subst e; omega
    · exact Int.le_refl _
  refine ⟨U', fun q hq => ?_, fun q => ?_, fun u hu => ?_, fun u hu q => ?_, fun q hq => ?_, fun u hu => ?_⟩
  · by_cases e : q = p
    · subst e; rw [upd_same]
      exact ⟨fun x hx => by simp at hx; subst hx; simp, by simp [Ups], fun x hx y hy => by simp at hx hy; subst hx; subst hy; exact vv⟩
    · rw [upd_ne _ _ e]
      have l := h.lfs q hq
      exact ⟨fun x hx => List.mem_append.2 (Or.inl (l.sub x hx)), l.ups, l.unc⟩
  · have := nle q; have := h.nn q; omega
  · rcases List.mem_append.1 hu with hu | hu
    · have := h.dot u hu; have := nle u.P.toNat; omega
    · simp at hu; subst hu
      refine ⟨by omega, by omega, ?_⟩
      rw [h1, Int.toNat_natCast, upd_same]; omega
  · rcases List.mem_append.1 hu with hu | hu
    · have := h.past u hu q; have := nle q; omega
    · simp at hu; subst hu; rw [h3]; have := cn2 q; have := nle q; omega
  · by_cases e : q = p
    · subst e; rw [upd_same, upd_same]
      exact Or.inr ⟨v, by simp, Or.inr ⟨h1, by omega⟩⟩
    · rw [upd_ne _ _ e, upd_ne _ _ e]; exact h.own q hq
  · rcases List.mem_append.1 hu with hu | hu
    · obtain ⟨q, hq, t, ht, k⟩ := h.kept u hu
      by_cases e : q = p
      · subst e
        refine ⟨q, hq, v, by rw [upd_same]; simp, Or.inr ?_⟩
        have hu1 := ver_parts (U.chk u hu)
        rw [cov1 u (by omega)]
        rcases k with k | k
        · subst k; exact (b t ht t.P).2 rfl
        · have := (U.cov_iff ((h.lfs q hq).sub t ht) hu).1 k
          have := (b t ht u.P).1
          omega
      · exact ⟨q, hq, t, by rw [upd_ne _ _ e]; exact ht, k⟩
    · simp at hu; subst hu
      exact ⟨p, hp, u, by rw [upd_same]; simp, Or.inl rfl⟩
/-- whoever stood, or covered one that stood, is there or covered when two are synced -/
theorem syn_keeps {a b : List Vx} (U : Uni all) (ha : Lfl all a) (hb : Lfl all b) {u : Vx} (hu : u ∈ a ++ b) : ∃ t ∈ synL a b, t = u ∨ covs t u = true := by
  by_cases h : ∃ y ∈ a ++ b, covs y u = true
  · obtain ⟨t, ht, k⟩ := U.top (ha.app hb) (ha.app hb u hu) h
    exact ⟨t, (synL_mem U ha hb t).2 ht, Or.inr k⟩
  · refine ⟨u, (synL_mem U ha hb u).2 ((filS_mem _ _).2 ⟨hu, fun y hy => ?_⟩), Or.inl rfl⟩
    cases e : covs y u with
    | false => rfl
    | true => exact absurd ⟨y, hy, e⟩ h
theorem syn_keeps2 {a b : List Vx} (U : Uni all) (ha : Lfl all a) (hb : Lfl all b) {u v : Vx} (hv : v ∈ all) (hu : u ∈ a ++ b) (k : u = v ∨ covs u v = true) : ∃ t ∈ synL a b, t = v ∨ covs t v = true := by
  obtain ⟨t, ht, e⟩ := syn_keeps U ha hb hu
  have hta := (synL_lf U ha hb).sub t ht
  have hua := ha.app hb u hu
  refine ⟨t, ht, ?_⟩
  rcases k with k | k
  · subst k; exact e
  · rcases e with e | e
    · subst e; exact Or.inr k
    · exact Or.inr (U.cov_trans hta hua hv e k)
theorem Wld.sync (h : Wld lf n all) {p q : Nat} (hp : p < 3) (hq : q < 3) : Wld (upd lf p (synL (lf p) (lf q))) n all := by
  have U := h.uni
  have ha := h.lfs p hp
  have hb := h.lfs q hq
  refine ⟨U, fun r hr => ?_, h.nn, h.dot, h.past, fun r hr => ?_, fun v hv => ?_⟩
  · by_cases e : r = p
    · subst e; rw [upd_same]; exact synL_lf U ha hb
    · rw [upd_ne _ _ e]; exact h.lfs r hr
  · by_cases e : r = p
    · subst e
      rw [upd_same]
      rcases h.own r hr with k | ⟨u, hu, k⟩
      · exact Or.inl k
      · have hua := ha.sub u hu
        obtain ⟨t, ht, e⟩ := syn_keeps U ha hb (List.mem_append.2 (Or.inl hu))
        have hta := (synL_lf U ha hb).sub t ht
        refine Or.inr ⟨t, ht, ?_⟩
        rcases e with e | e
        · subst e; exact k
        · left
          rcases k with k | ⟨k1, k⟩
          · have := U.clos t hta u hua e r; omega
          · have := (U.cov_iff hta hua).1 e
            rw [k1] at this; omega
    · rw [upd_ne _ _ e]; exact h.own r hr
  · obtain ⟨r, hr, u, hu, k⟩ := h.kept v hv
    by_cases e : r = p
    · subst e
      obtain ⟨t, ht, e⟩ := syn_keeps2 U ha hb hv (List.mem_append.2 (Or.inl hu)) k
      exact ⟨r, hr, t, by rw [upd_same]; exact ht, e⟩
    · exact ⟨r, hr, u, by rw [upd_ne _ _ e]; exact hu, k⟩
theorem Wld.all3 (h : Wld lf n all) {v : Vx} (hv : v ∈ all) : ∃ t ∈ synL (synL (lf 0) (lf 1)) (lf 2), t = v ∨ covs t v = true := by
  have U := h.uni
  have h0 := h.lfs 0 (by omega)
  have h1 := h.lfs 1 (by omega)
  have h2 := h.lfs 2 (by omega)
  obtain ⟨p, hp, u, hu, k⟩ := h.kept v hv
  rcases (by omega : p = 0 ∨ p = 1 ∨ p = 2) with rfl | rfl | rfl
  · obtain ⟨t, ht, e⟩ := syn_keeps2 U h0 h1 hv (List.mem_append.2 (Or.inl hu)) k
    exact syn_keeps2 U (synL_lf U h0 h1) h2 hv (List.mem_append.2 (Or.inl ht)) e
  · obtain ⟨t, ht, e⟩ := syn_keeps2 U h0 h1 hv (List.mem_append.2 (Or.inr hu)) k
    exact syn_keeps2 U (synL_lf U h0 h1) h2 hv (List.mem_append.2 (Or.inl ht)) e
  · exact syn_keeps2 U (synL_lf U h0 h1) h2 hv (List.mem_append.2 (Or.inr hu)) k
end
end Go.Proofs.Ytfobnemocodomaa
