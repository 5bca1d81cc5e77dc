/- Joined texts: Made Within VecP VecE VecF. -/
import Derived.Test.YtfobnemocodomaaZBg
import Derived.Maps.AppendAt
import Derived.Test.YtfobnemocodomaaZBb
set_option linter.unusedVariables false
set_option linter.unusedSimpArgs false
set_option maxHeartbeats 400000
namespace Go.Proofs.Ytfobnemocodomaa
open Go.RowKit Go.Shelf
attribute [local go_sem] Oper.semAt_some

/-- the dots that a function of two counts leaves -/
def madeL (f : Int → Int → Int) (xs : List (Int × Int × Int)) : List Dot := xs.filterMap fun x => if 0 < f x.2.1 x.2.2 then some (x.1, f x.2.1 x.2.2) else none
def dotCells (l : List Dot) : List Value := l.flatMap fun d => [.int .i64 d.1, .int .i64 d.2]
theorem dotCells_length (l : List Dot) : (dotCells l).length = l.length * 2 := by
  induction l with
  | nil => rfl
  | cons d l ih => simp [dotCells] at ih ⊢; omega
theorem dotCells_append (l m : List Dot) : dotCells (l ++ m) = dotCells l ++ dotCells m := by simp [dotCells]
theorem dotCells_at : ∀ (l : List Dot) (i : Nat) (h : i < l.length), (dotCells l)[i * 2]? = some (.int .i64 l[i].1) ∧ (dotCells l)[i * 2 + 1]? = some (.int .i64 l[i].2)
  | d :: l, 0, _ => by simp [dotCells]
  | d :: l, i + 1, h => by
    have ih := dotCells_at l i (by simpa using h)
    have e : dotCells (d :: l) = [.int .i64 d.1, .int .i64 d.2] ++ dotCells l := rfl
    rw [e, List.getElem?_append_right (by simp; omega), List.getElem?_append_right (by simp; omega)]
    have h1 : (i + 1) * 2 - 2 = i * 2 := by omega
    have h2 : (i + 1) * 2 + 1 - 2 = i * 2 + 1 := by omega
    simpa [h1, h2] using ih

/-- a row of dots of the call's own -/
def OwnDots (w : World) (base : Nat) (v : Value) (l : List Dot) : Prop := w.ownsRow base 47 2 v l.length (dotCells l)
theorem OwnDots.dots {w : World} {base : Nat} {v : Value} {l : List Dot} (h : OwnDots w base v l) : ∃ A c, v = .slice A l.length c ∧ l.length ≤ c ∧ Dots w A l := by
  rcases h.2 with ⟨rfl, h0⟩ | ⟨g, cap, cur, rfl, hg, hh, hle, hm, _⟩
  · have : l = [] := List.eq_nil_of_length_eq_zero h0
    subst this
    exact ⟨none, 0, rfl, Nat.le_refl _, Dots.nil _ _⟩
  · refine ⟨_, cap, rfl, hle, by simp only [maxLen] at hm; omega, fun i hi => ⟨_, rfl, ?_, ?_⟩⟩
    · exact h.cells (g := g) rfl _ _ (dotCells_at l i hi).1
    · have := h.cells (g := g) rfl _ _ (dotCells_at l i hi).2
      by_cases h0 : i = 0
      · subst h0; simpa [Addr.add] using this
      · simp only [Addr.add] at this ⊢
        rw [if_neg (by omega)] at this ⊢
        simpa [Nat.add_assoc] using this

theorem pairs_any (A1 A2 : Option Addr) (l1 l2 c1 c2 : Nat) (w : World) :
    Calls Try.prog 197 #[.slice A1 l1 c1, .slice A2 l2 c2] w fun e w' => e = .returned (.func (.func 213) #[] #[.pointer (some ⟨w.heap.size, 0, none⟩), .pointer (some ⟨w.heap.size + 1, 0, none⟩)]) ∧
      w' = (w.alloc (.cells #[.slice A1 l1 c1] 36)).alloc (.cells #[.slice A2 l2 c2] 36) := by
  go_enter Try.func197, Try.ntmps197
  go_wp2
  go_ret
  exact ⟨rfl, rfl⟩

def maxI (x y : Int) : Int := if x < y then y else x
def minI (x y : Int) : Int := if y < x then y else x
theorem Join1_any (x y : Int) (w : World) : Calls Try.prog 166 #[.int .i64 x, .int .i64 y] w fun e w' => e = .returned (.int .i64 (maxI x y)) ∧ w' = w := by
  go_enter Try.func166, Try.ntmps166
  go_wp2
  all_goals
    go_ret
    exact ⟨ret_int (by (first | unfold maxI | unfold minI); first | rw [if_pos (by omega)] | rw [if_neg (by omega)]), rfl⟩
theorem Okv.len {l : List Dot} (h : Okv l) : l.length ≤ 64 := by
  rcases Nat.lt_or_ge 64 l.length with c | c
  · have key : ∀ i (hi : i < l.length), (i : Int) ≤ l[i].1 := by
      intro i
      induction i with
      | zero => intro hi; have := h.at 0 hi; omega
      | succ i ih => intro hi; have := ih (by omega); have := h.sorted i (i + 1) hi (by omega); omega
    have := key 64 c
    have := h.at 64 c
    omega
  · exact c
theorem mrg_length (a b : List Dot) : (mrg a b).length ≤ a.length + b.length := by
  fun_induction mrg a b <;> simp_all <;> omega
theorem madeL_append (f : Int → Int → Int) (xs ys : List (Int × Int × Int)) : madeL f (xs ++ ys) = madeL f xs ++ madeL f ys := by simp [madeL]
theorem madeL_length (f : Int → Int → Int) (xs : List (Int × Int × Int)) : (madeL f xs).length ≤ xs.length := List.length_filterMap_le _ _

/-- the iterator's contract, in the law's form -/
theorem pairs_iter (n : Nat) (w0 w : World) (ba bb : Nat) (hba : w0.heap.size ≤ ba) (hbb : w0.heap.size ≤ bb) (hne : ba ≠ bb) (a b : List Dot) (hP : PSt w0 ba bb a b w) :
    Iter (n + 1) Try.prog 213 #[.pointer (some ⟨ba, 0, none⟩), .pointer (some ⟨bb, 0, none⟩)] encP (mrg a b) (fun k => k = ba ∨ k = bb) w0.heap.size w := by
  intro l J Jx W hG hJ hJx hY h0
  refine callsIn_wide.2 (pairs1_any n l w0 ba bb _ hba hbb hne J Jx hJ hY a b rfl W ?_ h0)
  obtain ⟨⟨A1, c1, h1, h2, h3⟩, ⟨A2, c2, h4, h5, h6⟩, hg⟩ := hP
  exact ⟨⟨A1, c1, (hG.block _ h1.lt).trans h1, h2, h3⟩, ⟨A2, c2, (hG.block _ h4.lt).trans h4, h5, h6⟩, hg.tr hG⟩

theorem DRows.two {w : World} {A B : Option Addr} {c d : Nat} {l m : List Dot} (h : Dots w A l) (k : Dots w B m) (t : TypeId) :
    DRows (w.alloc (.cells #[.slice A l.length c, .slice B m.length d] t)) (some ⟨w.heap.size, 0, none⟩) [⟨A, c, l⟩, ⟨B, d, m⟩] := by
  refine ⟨by simp, fun i hi => ?_⟩
  have : i = 0 ∨ i = 1 := by simp at hi; omega
  rcases this with rfl | rfl
  · exact ⟨_, rfl, by simp [Addr.add], h.gr ((Gr.rfl' w).al _)⟩
  · exact ⟨_, rfl, by simp [Addr.add], k.gr ((Gr.rfl' w).al _)⟩


/-- cells that have just been laid -/
theorem cells_new (w : World) (cs : List Value) (t : TypeId) : ∀ j u, cs[j]? = some u → (w.alloc (.cells cs.toArray t)).cell? ((⟨w.heap.size, 0, none⟩ : Addr).add j) = some u := by
  intro j u h
  have hb := World.alloc_heap_new w (.cells cs.toArray t)
  have e : ((⟨w.heap.size, 0, none⟩ : Addr).add j) = ⟨w.heap.size, j, none⟩ := by unfold Addr.add; split <;> simp_all
  rw [e]
  simp only [World.cell?, hb]
  simpa using h

theorem OwnDots.nil (w : World) (base : Nat) : OwnDots w base (.slice none 0 0) [] := World.ownsRow_nil _ _ _ _
theorem OwnDots.lower {w : World} {b b' : Nat} {v : Value} {l : List Dot} (h : OwnDots w b v l) (hb : b' ≤ b) : OwnDots w b' v l := by
  obtain ⟨h1, h2⟩ := h
  refine ⟨h1, ?_⟩
  rcases h2 with h2 | ⟨g, cap, cur, rfl, hg, r⟩
  · exact .inl h2
  · exact .inr ⟨g, cap, cur, rfl, Nat.le_trans hb hg, r⟩
theorem OwnDots.ge {w : World} {b : Nat} {v : Value} {l : List Dot} (h : OwnDots w b v l) : ∀ k, v.ownBlock = some k → b ≤ k := fun k hk => (World.ownsRow.lt h k hk).1
theorem OwnDots.isCells {w : World} {b : Nat} {v : Value} {l : List Dot} (h : OwnDots w b v l) : ∀ (j : Nat) (o : Obj), v.ownBlock = some j → w.heap[j]? = some o → o.isCells = true := by
  intro j o ej hj
  rcases h.2 with ⟨rfl, _⟩ | ⟨g, cap, cur, rfl, _, hgb, _⟩
  · simp [Value.ownBlock] at ej
  · obtain rfl : g = j := by simpa [Value.ownBlock] using ej
    rw [hgb] at hj; cases hj; rfl

theorem box_grown {W w1 : World} {o : Obj} {b : Nat} {t : TypeId} {u v : Value} (hgrow : (W.alloc o).grownBy w1 v.ownBlock) (hb : Boxed W b t u) (hne : ∀ j, v.ownBlock = some j → b ≠ j) : Boxed w1 b t u :=
  (hgrow.block b (by have := hb.lt; simp; omega) (fun e => hne b e.symm rfl)).trans ((Below.heap_alloc _ _ _ hb.lt).trans hb)
theorem cel_grown {W w1 : World} {o : Obj} {b : Nat} {t : TypeId} {u v : Value} (hgrow : (W.alloc o).grownBy w1 v.ownBlock) (hb : Boxed W b t u) (hne : ∀ j, v.ownBlock = some j → b ≠ j) : w1.cell? ⟨b, 0, none⟩ = some u := (box_grown hgrow hb hne).cell
theorem frz_grown {W w1 : World} {o : Obj} {b : Nat} {t : TypeId} {u v : Value} (hgrow : (W.alloc o).grownBy w1 v.ownBlock) (hb : Boxed W b t u) (hne : ∀ j, v.ownBlock = some j → b ≠ j) : w1.frozen? ⟨b, 0, none⟩ = false := free_of_one (box_grown hgrow hb hne)
theorem Gr.putObj {a b : World} (h : Gr a b) {l : Nat} (hl : a.heap.size ≤ l) (o : Obj) : Gr a (b.putObj l o) :=
  h.trans ⟨rfl, rfl, rfl, by simp, fun k hk => World.putObj_heap_other (by omega)⟩
theorem infoDot : (Try.prog.info? 47).map (fun i => (i.zero, i.size, i.bytes)) = some (some (.agg #[.int .i64 0, .int .i64 0]), 2, 16) := by kernel_rfl

/-- made's own state between two rounds -/
structure MSt (w : World) (b5 b7 B0 : Nat) (fv : Value) (l : List Dot) (W : World) : Prop where
  out : ∃ v, Boxed W b7 36 v ∧ OwnDots W B0 v l
  fn : Boxed W b5 112 fv
  gr : Gr w W

theorem MSt.mv {w : World} {b5 b7 B0 ba bb : Nat} {fv : Value} {l : List Dot} {A W : World} (h : MSt w b5 b7 B0 fv l A) (m : Mv (fun k => k = ba ∨ k = bb) B0 A W) (h5 : ¬ (b5 = ba ∨ b5 = bb)) (h7 : ¬ (b7 = ba ∨ b7 = bb)) (hB : ba < B0 ∧ bb < B0) (hw : w.heap.size ≤ ba ∧ w.heap.size ≤ bb) : MSt w b5 b7 B0 fv l W := by
  obtain ⟨⟨v, h1, h2⟩, h3, h4⟩ := h
  exact ⟨⟨v, m.boxed h1 h7, m.ownsRow h2 (fun k hk e => by have := h2.ge k hk; omega)⟩, m.boxed h3 h5, m.below h4 (by omega) (Nat.le_refl _) (fun k hk => by rcases hk with rfl | rfl <;> omega)⟩

/-- one append, and the box written -/
theorem MSt.add {w : World} {b5 b7 B0 ba bb : Nat} {fv v v' : Value} {l : List Dot} {p k : Int} {W w1 : World} (h5 : b5 ≠ b7) (h5B : b5 < B0) (h7B : b7 < B0) (hB : B0 ≤ W.heap.size) (hw : w.heap.size ≤ b7) (hwB : w.heap.size ≤ B0) (hS : ba < B0 ∧ bb < B0) (hS7 : ¬ (b7 = ba ∨ b7 = bb))
    (hb : Boxed W b7 36 v) (ho : OwnDots W B0 v l) (hf : Boxed W b5 112 fv) (hg : Gr w W)
    (hown : w1.ownsRow B0 47 2 v' (l.length + 1) (dotCells l ++ [.int .i64 p, .int .i64 k])) (hgrow : (W.alloc (.cells #[.int .i64 p, .int .i64 k] 47)).grownBy w1 v.ownBlock) :
    MSt w b5 b7 B0 fv (l ++ [(p, k)]) (w1.setCell ⟨b7, 0, none⟩ v') ∧ KeepsFrom B0 W (w1.setCell ⟨b7, 0, none⟩ v') ∧ Kp (fun k => k = ba ∨ k = bb) w.heap.size W (w1.setCell ⟨b7, 0, none⟩ v') := by
  have hne : ∀ j, j < B0 → some j ≠ v.ownBlock := fun j hj e => by have := ho.ge j e.symm; omega
  have hb1 : Boxed w1 b7 36 v := (hgrow.block b7 (by simp; omega) (hne _ h7B)).trans ((Below.heap_alloc _ _ _ (by omega)).trans hb)
  have hf1 : Boxed w1 b5 112 fv := (hgrow.block b5 (by simp; omega) (hne _ h5B)).trans ((Below.heap_alloc _ _ _ (by omega)).trans hf)
  have hg1 : Gr w w1 := (hg.al _).grown hgrow (by have := hg.size; simp; omega) (fun j e => by have := ho.ge j e; omega)
  refine ⟨⟨⟨v', one_setCell hb1, ?_⟩, ?_, hg1.set hw _⟩, ?_, ?_⟩
  · have := ownsRow_setCell_below hown (a := ⟨b7, 0, none⟩) h7B v'
    have e : dotCells (l ++ [(p, k)]) = dotCells l ++ [.int .i64 p, .int .i64 k] := by rw [dotCells_append]; rfl
    unfold OwnDots
    rw [e]
    simpa using this
  · show _ = _
    rw [heap_set_other h5]; exact hf1
  · exact (((KeepsOthers.alloc W _).trans (KeepsOthers.of_grownBy hgrow fun j o ej hj => by
      have ha : OwnDots (W.alloc (.cells #[.int .i64 p, .int .i64 k] 47)) B0 v l := World.ownsRow.alloc ho _
      exact ha.isCells j o ej hj)).trans (KeepsOthers.setCell _ _ _)).from _
  · exact (((Kp.refl _ _ _).alloc _).grown hgrow (fun j e => ⟨by have := ho.ge j e; omega, fun e' => by have := ho.ge j e; rcases e' with rfl | rfl <;> omega⟩)).setCell ⟨hw, hS7⟩ _

set_option maxRecDepth 100000 in
theorem madeJoin_no (A1 A2 : Option Addr) (c1 c2 : Nat) (a b : List Dot) (w : World) (h1 : Dots w A1 a) (h2 : Dots w A2 b) (hv : ¬ (chk a = 0 ∧ chk b = 0)) :
    Calls Try.prog 165 #[.slice A1 a.length c1, .slice A2 b.length c2, .func (.func 166) #[] #[]] w fun e w' => e = .returned (.slice none 0 0) ∧ Gr w w' := by
  have hg0 : Gr w (w.alloc (.cells #[.func (.func 166) #[] #[]] 112)) := (Gr.rfl' w).al _
  have h3 := DRows.two (c := c1) (d := c2) (h1.gr hg0) (h2.gr hg0) 36
  rw [World.size_alloc] at h3
  have H3 := Lib.hid h3; clear h3
  have hr : rightB [⟨A1, c1, a⟩, ⟨A2, c2, b⟩] = false := by
    by_cases ha : chk a = 0
    · have hb : chk b ≠ 0 := fun h => hv ⟨ha, h⟩
      simp [rightB, ha, hb]
    · simp [rightB, ha]
  clear hv h1 h2
  go_enter Try.func165, Try.ntmps165
  go_wp2_with (first | (go_at_call 195; refine (right_any _ _ [⟨A1, c1, a⟩, ⟨A2, c2, b⟩] _ H3.out).mono ?_; rintro e w1 ⟨rfl, hg1⟩))
  go_ret
  exact ⟨rfl, (hg0.al _).tr hg1⟩

set_option maxRecDepth 100000 in
set_option maxHeartbeats 2000000 in
theorem madeJoin_any (A1 A2 : Option Addr) (c1 c2 : Nat) (a b : List Dot) (w : World) (h1 : Dots w A1 a) (h2 : Dots w A2 b) (hc1 : a.length ≤ c1) (hc2 : b.length ≤ c2) (hva : chk a = 0) (hvb : chk b = 0) :
    Calls Try.prog 165 #[.slice A1 a.length c1, .slice A2 b.length c2, .func (.func 166) #[] #[]] w fun e w' => ∃ v, e = .returned v ∧ OwnDots w' w.heap.size v (madeL maxI (mrg a b)) ∧ Gr w w' := by
  have hg0 : Gr w (w.alloc (.cells #[.func (.func 166) #[] #[]] 112)) := (Gr.rfl' w).al _
  have h3 := DRows.two (c := c1) (d := c2) (h1.gr hg0) (h2.gr hg0) 36
  rw [World.size_alloc] at h3
  have H3 := Lib.hid h3; clear h3
  have hr : rightB [⟨A1, c1, a⟩, ⟨A2, c2, b⟩] = true := by simp [rightB, hva, hvb]
  have HL : Hid (a.length + b.length ≤ 128) := by have := ((chk_ok a).1 hva).len; have := ((chk_ok b).1 hvb).len; show _ ≤ _; omega
  have H1 := Lib.hid h1
  have H2 := Lib.hid h2
  clear hva hvb h1 h2
  refine (callsIn_wide (n := 3)).1 (callsIn_of_wp_marks Try.func165 rfl trivial ?_)
  refine wpIn_wide.2 ?_
  simp only [Try.ntmps165, List.size_toArray, List.length_cons, List.length_nil, Nat.reduceAdd, Nat.reduceSub, Array.replicate_succ, Array.replicate_zero, List.push_toArray, List.append_toArray, List.nil_append, List.cons_append]
  go_wp2_with (first | (go_at_call 195; refine (right_any _ _ [⟨A1, c1, a⟩, ⟨A2, c2, b⟩] _ H3.out).mono ?_; rintro e w1 ⟨rfl, hg1⟩) | (go_at_call 197; refine (pairs_any _ _ _ _ _ _ _).mono ?_; rintro e w2 ⟨rfl, rfl⟩))
  obtain ⟨W0, hW0⟩ : ∃ W0, ((w1.alloc (.cells #[.slice none 0 0] 36)).alloc (.cells #[.slice A1 a.length c1] 36)).alloc (.cells #[.slice A2 b.length c2] 36) = W0 := ⟨_, rfl⟩
  rw [hW0]
  have hgw1 : Gr w w1 := ((hg0.al _).tr hg1)
  have hsz : w.heap.size + 2 ≤ w1.heap.size := by have := hg1.size; simp at this; omega
  have hsz0 : W0.heap.size = w1.heap.size + 3 := by rw [← hW0]; simp
  have hb5 : Boxed W0 w.heap.size 112 (.func (.func 166) #[] #[]) := by
    have h := World.alloc_heap_new w (.cells #[.func (.func 166) #[] #[]] 112)
    have h' := (hg1.block w.heap.size (by simp; omega)).trans ((Below.heap_alloc _ _ _ (by simp)).trans h)
    rw [← hW0]
    exact (Below.heap_alloc _ _ _ (by simp; omega)).trans ((Below.heap_alloc _ _ _ (by simp; omega)).trans ((Below.heap_alloc _ _ _ (by omega)).trans h'))
  have hb7 : Boxed W0 w1.heap.size 36 (.slice none 0 0) := by
    rw [← hW0]
    exact (Below.heap_alloc _ _ _ (by simp; omega)).trans ((Below.heap_alloc _ _ _ (by simp)).trans (World.alloc_heap_new w1 _))
  have hba : Boxed W0 (w1.heap.size + 1) 36 (.slice A1 a.length c1) := by
    have := World.alloc_heap_new (w1.alloc (.cells #[.slice none 0 0] 36)) (.cells #[.slice A1 a.length c1] 36)
    rw [World.size_alloc] at this
    rw [← hW0]
    exact (Below.heap_alloc _ _ _ (by simp)).trans this
  have hbb : Boxed W0 (w1.heap.size + 1 + 1) 36 (.slice A2 b.length c2) := by
    have := World.alloc_heap_new ((w1.alloc (.cells #[.slice none 0 0] 36)).alloc (.cells #[.slice A1 a.length c1] 36)) (.cells #[.slice A2 b.length c2] 36)
    rw [World.size_alloc, World.size_alloc] at this
    rw [← hW0]
    exact this
  have hgW0 : Gr w W0 := by rw [← hW0]; exact ((hgw1.al _).al _).al _
  have hP : PSt w (w1.heap.size + 1) (w1.heap.size + 1 + 1) a b W0 := ⟨⟨A1, c1, hba, hc1, H1.out⟩, ⟨A2, c2, hbb, hc2, H2.out⟩, hgW0⟩
  obtain ⟨i0, hi, hz0, hz1, hz2⟩ := info_parts infoDot
  clear hba hbb hW0 hg1 H3 hr hg0
  refine wpIn_wide.1 (wpIn_range (n := 3) (gf := 213) (lb := #[.pointer (some ⟨w1.heap.size + 1, 0, none⟩), .pointer (some ⟨w1.heap.size + 1 + 1, 0, none⟩)]) rfl (enters_of Try.func213 (by kernel_rfl) rfl)
    (pairs_iter 1 w W0 _ _ (by omega) (by omega) (by omega) a b hP) (fun k hk => by rcases hk with rfl | rfl <;> omega) (by omega) (fun _ => rfl)
    (fun pre W => MSt w w.heap.size w1.heap.size W0.heap.size (.func (.func 166) #[] #[]) (madeL maxI pre) W) (fun _ _ _ => False)
    (fun pre x a' W => W0.heap.size ≤ W.heap.size ∧ MSt w w.heap.size w1.heap.size W0.heap.size (.func (.func 166) #[] #[]) (madeL maxI pre) W ∧ ∃ bx, W0.heap.size ≤ bx ∧ W.heap[bx]? = some (.cells #[.int .i64 x.2.1, .int .i64 x.2.2] 217 (0, 0)) ∧
      a' = { tmps := #[.slice A1 a.length c1, .slice A2 b.length c2, .func (.func 166) #[] #[], undef, undef, .pointer (some ⟨w.heap.size, 0, none⟩), .slice none 0 0, .pointer (some ⟨w1.heap.size, 0, none⟩), .int .i64 x.1, .pointer (some ⟨bx, 0, none⟩), undef,
        .slice A1 a.length c1, .slice A2 b.length c2, .slice (some ⟨w.heap.size + 1, 0, none⟩) 2 2, .bool true, .bool false, .slice A1 a.length c1, .slice A2 b.length c2, .func (.func 213) #[] #[.pointer (some ⟨w1.heap.size + 1, 0, none⟩), .pointer (some ⟨w1.heap.size + 1 + 1, 0, none⟩)],
        .int .i64 x.1, .agg #[.int .i64 x.2.1, .int .i64 x.2.2], undef, undef, undef, undef, undef, undef, undef, undef, undef, undef, undef, undef, undef, undef, undef], defers := [] })
    ?hI (fun _ _ _ _ h _ => h) ?hAx ?h0 ?assign ?body ?done (fun _ _ _ _ _ _ h => h.elim))
  case hI => intro pre A B h m; exact h.mv m (by omega) (by omega) (by omega) (by omega)
  case hAx =>
    rintro pre x a' A B ⟨hs, h, bx, hbx, hb, rfl⟩ m
    exact ⟨Nat.le_trans hs m.size, h.mv m (by omega) (by omega) (by omega) (by omega), bx, hbx, m.same hb rfl (by omega), rfl⟩
  case h0 => exact ⟨⟨_, hb7, OwnDots.nil _ _⟩, hb5, hgW0⟩
  case assign =>
    intro l pre x W K hI hpre hl hlt hK
    obtain ⟨p, x, y⟩ := x
    simp only [encP]
    have hg := hI.gr
    have hKK := Lib.hid hK; clear hK
    gi_wp2
    refine hKK.out _ _ ((KeepsOthers.alloc _ _).from _) ((Kp.refl _ _ _).alloc _) ⟨by simp; omega, ?_, W.heap.size, by omega, World.alloc_heap_new _ _, rfl⟩
    obtain ⟨⟨v, h1, h2⟩, h3, h4⟩ := hI
    exact ⟨⟨v, (Below.heap_alloc _ _ _ h1.lt).trans h1, World.ownsRow.alloc h2 _⟩, (Below.heap_alloc _ _ _ h3.lt).trans h3, h4.al _⟩
  case body =>
    rintro l pre ⟨p, x, y⟩ a' W hl ⟨r, hr⟩ hpre ⟨hs, ⟨⟨v, hbv, hov⟩, hbf, hg⟩, bx, hbx, hb, rfl⟩
    have hlen : (madeL maxI pre).length + 1 ≤ 129 := by
      have h1 := madeL_length maxI pre
      have h2 : pre.length ≤ (mrg a b).length := by have := hpre.length_le; simp at this; omega
      have h3 := mrg_length a b
      have h4 := HL.out
      omega
    have hadd : madeL maxI (pre ++ [(p, x, y)]) = if 0 < maxI x y then madeL maxI pre ++ [(p, maxI x y)] else madeL maxI pre := by
      rw [madeL_append]; by_cases h : 0 < maxI x y <;> simp [madeL, h]
    have HADD := Lib.hid hadd; clear hadd
    have HPRE := Lib.hid hpre; clear hpre
    have hf0 := hbf.cell
    have hv0 := hbv.cell
    have hvf := free_of_one hbv
    have hx0 : W.cell? ⟨bx, 0, none⟩ = some (.int .i64 x) := by simp [World.cell?, hb]
    have hx1 : W.cell? ⟨bx, 1, none⟩ = some (.int .i64 y) := by simp [World.cell?, hb]
    have HB := Lib.hid hb; clear hb
    have HR := Lib.hid hr; clear hr
    have HBV := Lib.hid hbv; clear hbv
    have HBF := Lib.hid hbf; clear hbf
    by_cases hk : 0 < maxI x y
    · have hkb : decide (0 < maxI x y) = true := decide_eq_true hk
      gi_wp2_with (first | (refine ⟨trivial, ?_⟩; gi_at_call 166; refine (CallsIn.inRound l (callsIn_wide.2 (Join1_any x y _))).mono ?_; rintro e w' ⟨rfl, rfl⟩) | (gi_at_builtin; go_loud (refine wpListIn_append_own _ rfl _ _ 36 rfl W0.heap.size 47 i0 (.agg #[.int .i64 0, .int .i64 0]) 2 16 Try.underlying36 hi hz0 hz1 hz2 rfl (by decide) v _ _ rfl (World.ownsRow.alloc hov _) ⟨_, 0, none⟩ 1 1 [.int .i64 p, .int .i64 (maxI x y)] rfl rfl (cells_new _ _ _) (by simp [Value.oneCell']) (by simp only [maxLen]; omega) (by omega) (by simp; omega) ?_); intro v' w2 hown' hgrow _; obtain ⟨g', cap', rfl⟩ := ownsRow_succ hown'; have hbv1 : w2.cell? ⟨w1.heap.size, 0, none⟩ = some v := cel_grown hgrow HBV.out (fun j e => by have := hov.ge _ e; omega); have hbf1 : w2.frozen? ⟨w1.heap.size, 0, none⟩ = false := frz_grown hgrow HBV.out (fun j e => by have := hov.ge _ e; omega)))
      obtain ⟨hS, hKF, hKP⟩ := MSt.add (p := p) (k := maxI x y) (ba := w1.heap.size + 1) (bb := w1.heap.size + 1 + 1) (by omega) (by omega) (by omega) (by omega) (by omega) (by omega) (by omega) (by omega) HBV.out hov HBF.out hg hown' hgrow
      show _ ∧ _ ∧ _
      exact ⟨hKF, hKP, by show MSt _ _ _ _ _ _ _; rw [HADD.out, if_pos hk]; exact hS⟩
    · have hkb : decide (0 < maxI x y) = false := decide_eq_false hk
      gi_wp2_with (first | (refine ⟨trivial, ?_⟩; gi_at_call 166; refine (CallsIn.inRound l (callsIn_wide.2 (Join1_any x y _))).mono ?_; rintro e w' ⟨rfl, rfl⟩))
      show _ ∧ _ ∧ _
      exact ⟨KeepsFrom.refl _ _, Kp.refl _ _ _, by show MSt _ _ _ _ _ _ _; rw [HADD.out, if_neg (by omega)]; exact ⟨⟨v, HBV.out, hov⟩, HBF.out, hg⟩⟩
  case done =>
    intro D W hD hI hK
    obtain ⟨⟨v, hbv, hov⟩, hbf, hg⟩ := hI
    have hv0 := hbv.cell
    go_wp2
    refine ⟨by simp, .inl ⟨_, _, rfl, run_takeDeferred hK, ?_⟩⟩
    exact ⟨_, results_tmp rfl _ _ _, v, rfl, OwnDots.lower (ownsRow_putObj hov _ hK rfl) (by omega), hg.putObj (by omega) _⟩

def joinL (a b : List Dot) : List Dot := if chk a = 0 ∧ chk b = 0 then madeL maxI (mrg a b) else []
def meetL (a b : List Dot) : List Dot := if chk a = 0 ∧ chk b = 0 then madeL minI (mrg a b) else []

theorem Join_any (A1 A2 : Option Addr) (c1 c2 : Nat) (a b : List Dot) (w : World) (h1 : Dots w A1 a) (h2 : Dots w A2 b) (hc1 : a.length ≤ c1) (hc2 : b.length ≤ c2) :
    Calls Try.prog 96 #[.slice A1 a.length c1, .slice A2 b.length c2] w fun e w' => ∃ v, e = .returned v ∧ OwnDots w' w.heap.size v (joinL a b) ∧ Gr w w' := by
  have H1 := Lib.hid h1; clear h1
  have H2 := Lib.hid h2; clear h2
  by_cases hv : chk a = 0 ∧ chk b = 0
  · have hj : joinL a b = madeL maxI (mrg a b) := if_pos hv
    have HV := Lib.hid hv; clear hv
    have HJ := Lib.hid hj; clear hj
    go_enter Try.func96, Try.ntmps96
    go_wp2_with (go_at_call 165; refine (madeJoin_any A1 A2 c1 c2 a b _ H1.out H2.out hc1 hc2 HV.out.1 HV.out.2).mono ?_; rintro e w1 ⟨v, rfl, ho, hg⟩)
    go_ret
    exact ⟨_, rfl, by rw [HJ.out]; exact ho, hg⟩
  · have hj : joinL a b = [] := if_neg hv
    have HV := Lib.hid hv; clear hv
    have HJ := Lib.hid hj; clear hj
    go_enter Try.func96, Try.ntmps96
    go_wp2_with (go_at_call 165; refine (madeJoin_no A1 A2 c1 c2 a b _ H1.out H2.out HV.out).mono ?_; rintro e w1 ⟨rfl, hg⟩)
    go_ret
    exact ⟨_, rfl, by rw [HJ.out]; exact OwnDots.nil _ _, hg⟩

theorem Dots.one {w : World} (p c : Int) (t : TypeId) : Dots (w.alloc (.cells #[.int .i64 p, .int .i64 c] t)) (some ⟨w.heap.size, 0, none⟩) [(p, c)] := by
  refine ⟨by simp, fun i hi => ?_⟩
  have : i = 0 := by simpa using hi
  subst this
  exact ⟨_, rfl, by simp [Addr.add], by simp [Addr.add]⟩
theorem With_any (A1 : Option Addr) (c1 : Nat) (a : List Dot) (p c : Int) (w : World) (h1 : Dots w A1 a) (hc1 : a.length ≤ c1) :
    Calls Try.prog 95 #[.slice A1 a.length c1, .agg #[.int .i64 p, .int .i64 c]] w fun e w' => ∃ v, e = .returned v ∧ OwnDots w' w.heap.size v (joinL a [(p, c)]) ∧ Gr w w' := by
  have hg0 : Gr w (w.alloc (.cells #[.int .i64 p, .int .i64 c] 47)) := (Gr.rfl' w).al _
  have h2 := Dots.one (w := w.alloc (.cells #[.int .i64 p, .int .i64 c] 47)) p c 47
  rw [World.size_alloc] at h2
  have H1 := Lib.hid ((h1.gr hg0).gr ((Gr.rfl' _).al (.cells #[.int .i64 p, .int .i64 c] 47))); clear h1
  have H2 := Lib.hid h2; clear h2
  go_enter Try.func95, Try.ntmps95
  go_wp2_with (go_at_call 96; refine (Join_any A1 _ c1 1 a [(p, c)] _ H1.out H2.out hc1 (by simp)).mono ?_; rintro e w1 ⟨v, rfl, ho, hg⟩)
  go_ret
  exact ⟨_, rfl, OwnDots.lower ho (by simp; omega), (hg0.al _).tr hg⟩

end Go.Proofs.Ytfobnemocodomaa
set_option linter.unusedVariables false
set_option linter.unusedSimpArgs false
set_option maxHeartbeats 400000
namespace Go.Proofs.Ytfobnemocodomaa
open Go.RowKit Go.Shelf
attribute [local go_sem] Oper.semAt_some

def leB (l : List (Int × Int × Int)) : Bool := l.all fun x => decide (x.2.1 ≤ x.2.2)
theorem leB_snoc (l : List (Int × Int × Int)) (p x y : Int) : leB (l ++ [(p, x, y)]) = (leB l && decide (x ≤ y)) := by simp [leB]
theorem leB_pre {l m : List (Int × Int × Int)} (h : l <+: m) (hl : leB l = false) : leB m = false := by
  obtain ⟨t, rfl⟩ := h
  simp only [leB, List.all_append] at hl ⊢
  simp [hl]
def withinB (a b : List Dot) : Bool := decide (chk a = 0) && decide (chk b = 0) && leB (mrg a b)

def cmpI (a b : List Dot) : Int := if withinB a b = true then (if withinB b a = true then 0 else 1) else (if withinB b a = true then 2 else 3)
end Go.Proofs.Ytfobnemocodomaa
set_option maxHeartbeats 200000
set_option linter.unusedVariables false
set_option linter.unusedSimpArgs false
namespace Go.Proofs.Ytfobnemocodomaa
open Go.RowKit

theorem Okv.nil : Okv [] := ⟨by simp, List.Pairwise.nil⟩
theorem Okv.cons_iff {x : Dot} {a : List Dot} : Okv (x :: a) ↔ (0 ≤ x.1 ∧ x.1 < 64 ∧ 1 ≤ x.2 ∧ x.2 ≤ 1048576) ∧ (∀ d ∈ a, x.1 < d.1) ∧ Okv a := by
  unfold Okv
  rw [List.pairwise_cons]
  simp only [List.mem_cons, forall_eq_or_imp]
  constructor
  · rintro ⟨⟨h1, h2⟩, h3, h4⟩; exact ⟨h1, h3, h2, h4⟩
  · rintro ⟨h1, h3, h2, h4⟩; exact ⟨⟨h1, h2⟩, h3, h4⟩
theorem cnt_mem {l : List Dot} (h : Okv l) {d : Dot} (hd : d ∈ l) : cnt l d.1 = d.2 := by
  obtain ⟨i, hi, rfl⟩ := List.getElem_of_mem hd
  exact cnt_at l h i hi
theorem cnt_gt {l : List Dot} {p : Int} (h : ∀ d ∈ l, p < d.1) : cnt l p = 0 := cnt_none l p fun d hd e => by have := h d hd; omega
theorem cnt_cons (x : Dot) (l : List Dot) (p : Int) : cnt (x :: l) p = if x.1 = p then x.2 else cnt l p := rfl
theorem cnt_nonneg {l : List Dot} (h : Okv l) (p : Int) : 0 ≤ cnt l p ∧ cnt l p ≤ 1048576 := by
  by_cases c : ∃ d ∈ l, d.1 = p
  · obtain ⟨d, hd, rfl⟩ := c
    rw [cnt_mem h hd]; have := h.1 d hd; omega
  · rw [cnt_none l p fun d hd e => c ⟨d, hd, e⟩]; omega
theorem cnt_pos {l : List Dot} (h : Okv l) {p : Int} (hp : 0 < cnt l p) : ∃ d ∈ l, d.1 = p ∧ d.2 = cnt l p := by
  by_cases c : ∃ d ∈ l, d.1 = p
  · obtain ⟨d, hd, rfl⟩ := c
    exact ⟨d, hd, rfl, (cnt_mem h hd).symm⟩
  · rw [cnt_none l p fun d hd e => c ⟨d, hd, e⟩] at hp; omega

structure MSpec (a b : List Dot) (M : List (Int × Int × Int)) : Prop where
  sorted : M.Pairwise fun x y => x.1 < y.1
  ofm : ∀ x ∈ M, x.2.1 = cnt a x.1 ∧ x.2.2 = cnt b x.1 ∧ ((∃ d ∈ a, d.1 = x.1) ∨ (∃ d ∈ b, d.1 = x.1))
  ina : ∀ d ∈ a, (d.1, cnt a d.1, cnt b d.1) ∈ M
  inb : ∀ d ∈ b, (d.1, cnt a d.1, cnt b d.1) ∈ M

theorem MSpec.gt {a b : List Dot} {M : List (Int × Int × Int)} (h : MSpec a b M) {p : Int} (ha : ∀ d ∈ a, p < d.1) (hb : ∀ d ∈ b, p < d.1) : ∀ x ∈ M, p < x.1 := by
  intro x hx
  rcases (h.ofm x hx).2.2 with ⟨d, hd, e⟩ | ⟨d, hd, e⟩
  · have := ha d hd; omega
  · have := hb d hd; omega

theorem MSpec.stepA {x : Dot} {a b : List Dot} {M : List (Int × Int × Int)} (ha : Okv (x :: a)) (hb : ∀ d ∈ b, x.1 < d.1) (h : MSpec a b M) : MSpec (x :: a) b ((x.1, x.2, 0) :: M) := by
  obtain ⟨_, hax, _⟩ := Okv.cons_iff.1 ha
  have hg := h.gt hax hb
  refine ⟨List.pairwise_cons.2 ⟨hg, h.sorted⟩, ?_, ?_, ?_⟩
  · intro z hz
    rcases List.mem_cons.1 hz with rfl | hz
    · exact ⟨by simp [cnt_cons], (cnt_gt hb).symm, .inl ⟨x, by simp, rfl⟩⟩
    · obtain ⟨h1, h2, h3⟩ := h.ofm z hz
      have := hg z hz
      exact ⟨by rw [cnt_cons, if_neg (by omega)]; exact h1, h2, h3.imp (fun ⟨d, hd, e⟩ => ⟨d, by simp [hd], e⟩) id⟩
  · intro d hd
    rcases List.mem_cons.1 hd with rfl | hd
    · rw [cnt_cons, if_pos rfl, cnt_gt hb]; simp
    · have := hax d hd
      rw [cnt_cons, if_neg (by omega)]
      exact List.mem_cons_of_mem _ (h.ina d hd)
  · intro d hd
    have := hb d hd
    rw [cnt_cons, if_neg (by omega)]
    exact List.mem_cons_of_mem _ (h.inb d hd)
theorem MSpec.stepB {y : Dot} {a b : List Dot} {M : List (Int × Int × Int)} (hb : Okv (y :: b)) (ha : ∀ d ∈ a, y.1 < d.1) (h : MSpec a b M) : MSpec a (y :: b) ((y.1, 0, y.2) :: M) := by
  obtain ⟨_, hbx, _⟩ := Okv.cons_iff.1 hb
  have hg := h.gt ha hbx
  refine ⟨List.pairwise_cons.2 ⟨hg, h.sorted⟩, ?_, ?_, ?_⟩
  · intro z hz
    rcases List.mem_cons.1 hz with rfl | hz
    · exact ⟨(cnt_gt ha).symm, by simp [cnt_cons], .inr ⟨y, by simp, rfl⟩⟩
    · obtain ⟨h1, h2, h3⟩ := h.ofm z hz
      have := hg z hz
      exact ⟨h1, by rw [cnt_cons, if_neg (by omega)]; exact h2, h3.imp id (fun ⟨d, hd, e⟩ => ⟨d, by simp [hd], e⟩)⟩
  · intro d hd
    have := ha d hd
    rw [cnt_cons y, if_neg (by omega)]
    exact List.mem_cons_of_mem _ (h.ina d hd)
  · intro d hd
    rcases List.mem_cons.1 hd with rfl | hd
    · rw [cnt_cons, if_pos rfl, cnt_gt ha]; simp
    · have := hbx d hd
      rw [cnt_cons y, if_neg (by omega)]
      exact List.mem_cons_of_mem _ (h.inb d hd)
theorem MSpec.stepC {x y : Dot} {a b : List Dot} {M : List (Int × Int × Int)} (ha : Okv (x :: a)) (hb : Okv (y :: b)) (e : x.1 = y.1) (h : MSpec a b M) : MSpec (x :: a) (y :: b) ((x.1, x.2, y.2) :: M) := by
  obtain ⟨_, hax, _⟩ := Okv.cons_iff.1 ha
  obtain ⟨_, hbx, _⟩ := Okv.cons_iff.1 hb
  have hg := h.gt hax (fun d hd => by have := hbx d hd; omega)
  refine ⟨List.pairwise_cons.2 ⟨hg, h.sorted⟩, ?_, ?_, ?_⟩
  · intro z hz
    rcases List.mem_cons.1 hz with rfl | hz
    · exact ⟨by simp [cnt_cons], by simp [cnt_cons, e], .inl ⟨x, by simp, rfl⟩⟩
    · obtain ⟨h1, h2, h3⟩ := h.ofm z hz
      have := hg z hz
      exact ⟨by rw [cnt_cons, if_neg (by omega)]; exact h1, by rw [cnt_cons, if_neg (by omega)]; exact h2, h3.imp (fun ⟨d, hd, e⟩ => ⟨d, by simp [hd], e⟩) (fun ⟨d, hd, e⟩ => ⟨d, by simp [hd], e⟩)⟩
  · intro d hd
    rcases List.mem_cons.1 hd with rfl | hd
    · rw [cnt_cons, if_pos rfl, cnt_cons, if_pos e.symm]; simp
    · have := hax d hd
      rw [cnt_cons, if_neg (by omega), cnt_cons, if_neg (by omega)]
      exact List.mem_cons_of_mem _ (h.ina d hd)
  · intro d hd
    rcases List.mem_cons.1 hd with rfl | hd
    · rw [cnt_cons, if_pos e, cnt_cons, if_pos rfl, e]; simp
    · have := hbx d hd
      rw [cnt_cons, if_neg (by omega), cnt_cons, if_neg (by omega)]
      exact List.mem_cons_of_mem _ (h.inb d hd)

theorem mrg_spec (a b : List Dot) (ha : Okv a) (hb : Okv b) : MSpec a b (mrg a b) := by
  fun_induction mrg a b with
  | case1 b =>
    induction b with
    | nil => exact ⟨List.Pairwise.nil, by simp, by simp, by simp⟩
    | cons y b ih => exact MSpec.stepB hb (by simp) (ih (Okv.cons_iff.1 hb).2.2)
  | case2 x a ih => exact MSpec.stepA ha (by simp) (ih (Okv.cons_iff.1 ha).2.2 hb)
  | case3 x a y b h ih =>
    obtain ⟨_, h1, h2⟩ := Okv.cons_iff.1 ha
    obtain ⟨_, h3, h4⟩ := Okv.cons_iff.1 hb
    exact MSpec.stepA ha (fun d hd => by rcases List.mem_cons.1 hd with rfl | hd; exact h; have := h3 d hd; omega) (ih h2 hb)
  | case4 x a y b h h' ih =>
    obtain ⟨_, h1, h2⟩ := Okv.cons_iff.1 ha
    obtain ⟨_, h3, h4⟩ := Okv.cons_iff.1 hb
    exact MSpec.stepB hb (fun d hd => by rcases List.mem_cons.1 hd with rfl | hd; exact h'; have := h1 d hd; omega) (ih ha h4)
  | case5 x a y b h h' ih =>
    obtain ⟨_, h1, h2⟩ := Okv.cons_iff.1 ha
    obtain ⟨_, h3, h4⟩ := Okv.cons_iff.1 hb
    exact MSpec.stepC ha hb (by omega) (ih h2 h4)

theorem leB_iff {a b : List Dot} (ha : Okv a) (hb : Okv b) : leB (mrg a b) = true ↔ ∀ p, cnt a p ≤ cnt b p := by
  have h := mrg_spec a b ha hb
  unfold leB
  rw [List.all_eq_true]
  simp only [decide_eq_true_eq]
  constructor
  · intro hl p
    by_cases c : 0 < cnt a p
    · obtain ⟨d, hd, rfl, _⟩ := cnt_pos ha c
      exact hl _ (h.ina d hd)
    · have := cnt_nonneg hb p; omega
  · intro hl x hx
    obtain ⟨h1, h2, _⟩ := h.ofm x hx
    rw [h1, h2]; exact hl _
theorem inB_iff {a b : List Dot} (ha : Okv a) (hb : Okv b) : inB a b = true ↔ ∀ p, cnt a p ≤ cnt b p := by
  have hcb := (chk_ok b).2 hb
  unfold inB hasV
  simp only [List.all_eq_true, Bool.and_eq_true, decide_eq_true_eq, getV_eq, hcb, if_true]
  constructor
  · intro hl p
    by_cases c : 0 < cnt a p
    · obtain ⟨d, hd, rfl, e⟩ := cnt_pos ha c
      have := (hl d hd).2; omega
    · have := cnt_nonneg hb p; omega
  · intro hl d hd
    have := ha.1 d hd
    have := hl d.1
    rw [cnt_mem ha hd] at this
    exact ⟨by omega, this⟩
theorem within_eq (a b : List Dot) : withinB a b = refWithinB a b := by
  unfold withinB refWithinB
  by_cases ha : chk a = 0
  · by_cases hb : chk b = 0
    · have : leB (mrg a b) = inB a b := by
        rw [Bool.eq_iff_iff, leB_iff ((chk_ok a).1 ha) ((chk_ok b).1 hb), inB_iff ((chk_ok a).1 ha) ((chk_ok b).1 hb)]
      rw [this]
    · simp [hb]
  · simp [ha]
theorem cmp_eq (a b : List Dot) : cmpI a b = refCmpI a b := by unfold cmpI refCmpI; rw [within_eq, within_eq]

theorem withinB_iff (a b : List Dot) : withinB a b = true ↔ Okv a ∧ Okv b ∧ ∀ p, cnt a p ≤ cnt b p := by
  unfold withinB
  by_cases ha : chk a = 0
  · by_cases hb : chk b = 0
    · simp only [ha, hb, decide_true, Bool.true_and, leB_iff ((chk_ok a).1 ha) ((chk_ok b).1 hb)]
      exact ⟨fun h => ⟨(chk_ok a).1 ha, (chk_ok b).1 hb, h⟩, fun h => h.2.2⟩
    · simp only [hb, decide_false, Bool.and_false, Bool.false_and, Bool.false_eq_true, false_iff]
      exact fun h => hb ((chk_ok b).2 h.2.1)
  · simp only [ha, decide_false, Bool.false_and, Bool.false_eq_true, false_iff]
    exact fun h => ha ((chk_ok a).2 h.1)

/-- two vectors of the same counts are one -/
theorem Okv.ext : ∀ {a b : List Dot}, Okv a → Okv b → (∀ p, cnt a p = cnt b p) → a = b
  | [], [], _, _, _ => rfl
  | [], y :: b, _, hb, h => by have e := h y.1; have := (Okv.cons_iff.1 hb).1; rw [cnt_cons, if_pos rfl] at e; simp only [cnt] at e; omega
  | x :: a, [], ha, _, h => by have e := h x.1; have := (Okv.cons_iff.1 ha).1; rw [cnt_cons, if_pos rfl] at e; simp only [cnt] at e; omega
  | x :: a, y :: b, ha, hb, h => by
    obtain ⟨hx, h1, h2⟩ := Okv.cons_iff.1 ha
    obtain ⟨hy, h3, h4⟩ := Okv.cons_iff.1 hb
    have hxy : x.1 = y.1 := by
      rcases Int.lt_trichotomy x.1 y.1 with c | c | c
      · have e := h x.1
        rw [cnt_cons, if_pos rfl, cnt_gt (l := y :: b) (fun d hd => by rcases List.mem_cons.1 hd with rfl | hd; exact c; have := h3 d hd; omega)] at e
        omega
      · exact c
      · have e := h y.1
        rw [cnt_cons y, if_pos rfl, cnt_gt (l := x :: a) (fun d hd => by rcases List.mem_cons.1 hd with rfl | hd; exact c; have := h1 d hd; omega)] at e
        omega
    have hx2 : x.2 = y.2 := by
      have e := h x.1
      rwa [cnt_cons, if_pos rfl, cnt_cons, if_pos hxy.symm] at e
    have : a = b := Okv.ext h2 h4 fun p => by
      have e := h p
      rw [cnt_cons, cnt_cons] at e
      by_cases c : x.1 = p
      · rw [cnt_gt (p := p) (fun d hd => by have := h1 d hd; omega), cnt_gt (p := p) (fun d hd => by have := h3 d hd; omega)]
      · rwa [if_neg c, if_neg (by omega)] at e
    rw [this, Prod.ext hxy hx2]
end Go.Proofs.Ytfobnemocodomaa
set_option linter.unusedVariables false
set_option linter.unusedSimpArgs false
set_option maxHeartbeats 400000
namespace Go.Proofs.Ytfobnemocodomaa
open Go.RowKit

def sumL : List Dot → Int
  | [] => 0
  | d :: r => d.2 + sumL r
def sumG (l : List Dot) : Nat → Int
  | 0 => 0
  | k + 1 => sumG l k + getV l k
def sizeV (l : List Dot) : Int := if chk l = 0 then sumL l else 0
theorem sumL_snoc (l : List Dot) (d : Dot) : sumL (l ++ [d]) = sumL l + d.2 := by
  induction l with
  | nil => simp [sumL]
  | cons x l ih => simp only [List.cons_append, sumL, ih]; omega
theorem sumL_le : ∀ {l : List Dot}, (∀ d ∈ l, 1 ≤ d.2 ∧ d.2 ≤ 1048576) → 0 ≤ sumL l ∧ sumL l ≤ 1048576 * l.length
  | [], _ => by simp [sumL]
  | d :: r, h => by
    have h1 := h d (by simp)
    have h2 := sumL_le (l := r) fun x hx => h x (by simp [hx])
    simp only [sumL, List.length_cons]; omega
theorem getV_nonneg (l : List Dot) (q : Int) : 0 ≤ getV l q ∧ getV l q ≤ 1048576 := by
  rw [getV_eq]
  by_cases h : chk l = 0
  · rw [if_pos h]; exact cnt_nonneg ((chk_ok l).1 h) q
  · rw [if_neg h]; omega
theorem sumG_le (l : List Dot) : ∀ k : Nat, 0 ≤ sumG l k ∧ sumG l k ≤ 1048576 * k
  | 0 => by simp [sumG]
  | k + 1 => by have := sumG_le l k; have := getV_nonneg l k; simp only [sumG]; omega
theorem sumG_bad {l : List Dot} (h : chk l ≠ 0) : ∀ k, sumG l k = 0
  | 0 => rfl
  | k + 1 => by simp only [sumG, sumG_bad h k, getV_eq, if_neg h]; rfl
def sumC (l : List Dot) : Nat → Int
  | 0 => 0
  | k + 1 => sumC l k + cnt l k
theorem sumC_cons {x : Dot} {l : List Dot} (h : ∀ d ∈ l, x.1 < d.1) (h0 : 0 ≤ x.1) : ∀ k : Nat, sumC (x :: l) k = sumC l k + if x.1 < k then x.2 else 0
  | 0 => by rw [if_neg (by simp; exact h0)]; simp [sumC]
  | k + 1 => by
    have hcast : ((k + 1 : Nat) : Int) = k + 1 := rfl
    simp only [sumC, sumC_cons h h0 k, cnt_cons, hcast]
    by_cases e : x.1 = k
    · rw [if_pos e, if_neg (by omega), if_pos (by omega), cnt_gt (l := l) (fun d hd => by rw [← e]; exact h d hd)]
    · rw [if_neg e]
      by_cases c : x.1 < k
      · rw [if_pos c, if_pos (by omega)]; omega
      · rw [if_neg c, if_neg (by omega)]; omega
theorem sumC_eq : ∀ {l : List Dot}, Okv l → sumC l 64 = sumL l
  | [], _ => by decide
  | x :: l, h => by
    obtain ⟨h1, h2, h3⟩ := Okv.cons_iff.1 h
    rw [sumC_cons h2 h1.1, sumC_eq h3, if_pos (show x.1 < ((64 : Nat) : Int) from h1.2.1)]
    simp only [sumL]; omega
theorem sumG_sumC {l : List Dot} (h : chk l = 0) : ∀ k, sumG l k = sumC l k
  | 0 => rfl
  | k + 1 => by simp only [sumG, sumC, sumG_sumC h k, getV_eq, if_pos h]
theorem size_eq (l : List Dot) : sizeV l = sumG l 64 := by
  unfold sizeV
  by_cases h : chk l = 0
  · rw [if_pos h, sumG_sumC h, sumC_eq ((chk_ok l).1 h)]
  · rw [if_neg h, sumG_bad h]

/-- the dot that comes next: its peer, its count, the error -/
def nextV (l : List Dot) (p : Int) : Int × Int × Int :=
  if chk l ≠ 0 then (0, 0, chk l) else if p < 0 ∨ 64 ≤ p then (0, 0, 11) else if cnt l p = 1048576 then (0, 0, 12) else (p, cnt l p + 1, 0)
theorem box2 {W : World} {b : Nat} {x y : Value} {t : TypeId} (h : W.heap[b]? = some (.cells #[x, y] t (0, 0))) :
    W.cell? ⟨b, 0, none⟩ = some x ∧ W.cell? ⟨b, 1, none⟩ = some y ∧ W.frozen? ⟨b, 0, none⟩ = false ∧ W.frozen? ⟨b, 1, none⟩ = false :=
  ⟨by simp [World.cell?, h], by simp [World.cell?, h], by simp [World.frozen?, h], by simp [World.frozen?, h]⟩
theorem box2_gr {W W' : World} {b : Nat} {x y : Value} {t : TypeId} (g : Gr W W') (h : W.heap[b]? = some (.cells #[x, y] t (0, 0))) : W'.heap[b]? = some (.cells #[x, y] t (0, 0)) := by
  have hb : b < W.heap.size := by
    rcases Nat.lt_or_ge b W.heap.size with c | c
    · exact c
    · rw [Array.getElem?_eq_none c] at h; cases h
  rw [g.block b hb]; exact h
theorem box2_set {W : World} {b : Nat} {x y : Value} {t : TypeId} (h : W.heap[b]? = some (.cells #[x, y] t (0, 0))) (u v : Value) : ((W.setCell ⟨b, 0, none⟩ u).setCell ⟨b, 1, none⟩ v).cell? ⟨b, 0, none⟩ = some u ∧ ((W.setCell ⟨b, 0, none⟩ u).setCell ⟨b, 1, none⟩ v).cell? ⟨b, 1, none⟩ = some v := by
  have h1 := heap_set_same h (o := 0) u
  have h2 := heap_set_same h1 (o := 1) v
  constructor
  · simp [World.cell?, h2]
  · simp [World.cell?, h2]
def nextE (l : List Dot) (q : Int) : Ending := .returned (.tuple #[.agg #[.int .i64 (nextV l q).1, .int .i64 (nextV l q).2.1], .int .i64 (nextV l q).2.2])
theorem nextE_of {l : List Dot} {q a b c : Int} (h : nextV l q = (a, b, c)) : nextE l q = .returned (.tuple #[.agg #[.int .i64 a, .int .i64 b], .int .i64 c]) := by unfold nextE; rw [h]

theorem dotChk_next {l : List Dot} {q : Int} (h : chk l = 0) : dotChk q (getV l q + 1) = (nextV l q).2.2 ∧ ((nextV l q).2.2 = 0 → nextV l q = (q, getV l q + 1, 0)) ∧ ((nextV l q).2.2 ≠ 0 → nextV l q = (0, 0, (nextV l q).2.2)) := by
  unfold nextV
  rw [if_neg (by simpa using h), getV_eq, if_pos h]
  have hc := cnt_nonneg ((chk_ok l).1 h) q
  unfold dotChk
  by_cases h1 : q < 0 ∨ 64 ≤ q
  · rw [if_pos h1, if_pos h1]; simp
  · rw [if_neg h1, if_neg h1]
    by_cases h2 : cnt l q = 1048576
    · rw [if_pos h2, if_pos (by omega)]; simp
    · rw [if_neg h2, if_neg (by omega)]; simp

end Go.Proofs.Ytfobnemocodomaa
set_option linter.unusedVariables false
set_option linter.unusedSimpArgs false
set_option maxHeartbeats 800000
namespace Go.Proofs.Ytfobnemocodomaa
open Go.RowKit

def ofL (f : Nat → Int) : Nat → List Dot
  | 0 => []
  | k + 1 => ofL f k ++ if 0 < f k then [((k : Int), f k)] else []
theorem ofL_length (f : Nat → Int) : ∀ k, (ofL f k).length ≤ k
  | 0 => by simp [ofL]
  | k + 1 => by have := ofL_length f k; unfold ofL; by_cases h : 0 < f k <;> simp [h] <;> omega

theorem own_add {w0 W w1 : World} {B0 : Nat} {v v' : Value} {l : List Dot} {p k : Int} (hw : w0.heap.size ≤ B0) (hg : Gr w0 W) (ho : OwnDots W B0 v l)
    (hown : w1.ownsRow B0 47 2 v' (l.length + 1) (dotCells l ++ [.int .i64 p, .int .i64 k])) (hgrow : (W.alloc (.cells #[.int .i64 p, .int .i64 k] 47)).grownBy w1 v.ownBlock) :
    OwnDots w1 B0 v' (l ++ [(p, k)]) ∧ Gr w0 w1 := by
  refine ⟨?_, (hg.al _).grown hgrow (by have := hg.size; simp; omega) (fun j e => by have := ho.ge j e; omega)⟩
  have e : dotCells (l ++ [(p, k)]) = dotCells l ++ [.int .i64 p, .int .i64 k] := by rw [dotCells_append]; rfl
  unfold OwnDots
  rw [e]
  simpa using hown

set_option maxRecDepth 100000 in
theorem of_any (cs : Array Value) (f : Nat → Int) (hs : cs.size = 64) (hf : ∀ j, j < 64 → cs[j]? = some (.int .i64 (f j))) (w : World) :
    Calls Try.prog 167 #[.agg cs] w fun e w' => ∃ v, e = .returned v ∧ OwnDots w' w.heap.size v (ofL f 64) ∧ Gr w w' := by
  have HF := Lib.hid hf; clear hf
  have HS := Lib.hid hs; clear hs
  have HB := Lib.hid (World.alloc_heap_new w (.cells cs 175))
  have hg0 : Gr w (w.alloc (.cells cs 175)) := (Gr.rfl' w).al _
  go_enter Try.func167, Try.ntmps167
  go_wp2
  obtain ⟨W0, hW0⟩ : ∃ W0, w.alloc (.cells cs 175) = W0 := ⟨_, rfl⟩
  have hsz0 : W0.heap.size = w.heap.size + 1 := by rw [← hW0]; simp
  rw [hW0] at HB hg0
  rw [hW0]
  clear hW0
  obtain ⟨i0, hi, hz0, hz1, hz2⟩ := info_parts infoDot
  go_loopw [3,4] (fun s i wr => ∃ k : Nat, k ≤ 64 ∧ i = .int .i64 k ∧ Hid (OwnDots wr W0.heap.size s (ofL f k)) ∧ Gr W0 wr) (fun _ i _ => 64 - (intOf i).toNat)
  case atStart => exact ⟨0, Nat.zero_le _, rfl, Lib.hid (OwnDots.nil _ _), Below.refl _ _⟩
  case round =>
    obtain ⟨k, hk, rfl, hown, hg⟩ := hrel
    by_cases hlt : k < 64
    · have hx : wr.cell? ⟨w.heap.size, k, none⟩ = some (.int .i64 (f k)) := by
        have h1 := (hg.block w.heap.size (by omega)).trans HB.out
        simp only [World.cell?, h1]
        exact HF.out k hlt
      have hlt' : (k : Int) < 64 := by omega
      have hlen : (ofL f k).length ≤ 64 := Nat.le_trans (ofL_length f k) hk
      by_cases hp : 0 < f k
      · have hpb : decide (0 < f k) = true := decide_eq_true hp
        have HO : Hid (ofL f (k + 1) = ofL f k ++ [((k : Int), f k)]) := by show _ = _; simp [ofL, hp]
        clear hp
        have hgs := hg.size
        go_wp2_with (first | (at_builtin; go_loud (refine wpList_append_own _ rfl _ _ 36 rfl W0.heap.size 47 i0 (.agg #[.int .i64 0, .int .i64 0]) 2 16 Try.underlying36 hi hz0 hz1 hz2 rfl (by decide) _ _ _ rfl (World.ownsRow.alloc hown.out _) ⟨_, 0, none⟩ 1 1 [.int .i64 k, .int .i64 (f k)] rfl rfl (cells_new _ _ _) (by simp [Value.oneCell']) (by simp only [maxLen]; omega) (by omega) (by simp; omega) ?_); intro v' w2 hown' hgrow _; obtain ⟨g', cap', rfl⟩ := ownsRow_succ hown'))
        obtain ⟨h1, h2⟩ := own_add (Nat.le_refl _) hg hown.out hown' hgrow
        go_roundw
        case rel => exact ⟨k + 1, by omega, by go_num, Lib.hid (by rw [HO.out]; exact h1), h2⟩
        case measure => simp [intOf]; omega
      · have hpb : decide (0 < f k) = false := decide_eq_false hp
        have HO : Hid (ofL f (k + 1) = ofL f k) := by show _ = _; simp [ofL, hp]
        clear hp
        go_wp2
        go_roundw
        case rel => exact ⟨k + 1, by omega, by go_num, Lib.hid (by rw [HO.out]; exact hown.out), hg⟩
        case measure => simp [intOf]; omega
    · have hk' : k = 64 := by omega
      subst hk'
      go_wp2
      go_ret
      exact ⟨_, rfl, OwnDots.lower hown.out (by omega), hg0.tr hg⟩
end Go.Proofs.Ytfobnemocodomaa
