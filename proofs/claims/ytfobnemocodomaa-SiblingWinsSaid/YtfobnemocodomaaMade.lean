/- vec.made: two vectors put together peer by peer; Join, Meet, With. -/
import Derived.Test.YtfobnemocodomaaPairs
import Derived.Maps.AppendAt
set_option linter.unusedVariables false
set_option linter.unusedSimpArgs false
set_option maxHeartbeats 400000
namespace Go.Proofs.Ytfobnemocodomaa
open Go.RowKit Go.Shelf
attribute [local go_sem] Oper.semAt_some

/-- the dots that a function of two counts leaves -/
def madeL (f : Int → Int → Int) (xs : List (Int × Int × Int)) : List Dot := xs.filterMap fun x => if 0 < f x.2.1 x.2.2 then some (x.1, f x.2.1 x.2.2) else none
def dotCells (l : List Dot) : List Value := l.flatMap fun d => [.int .i64 d.1, .int .i64 d.2]
theorem dotCells_length (l : List Dot) : (dotCells l).length = l.length * 2 := by
  induction l with
  | nil => rfl
  | cons d l ih => simp [dotCells] at ih ⊢; omega
theorem dotCells_append (l m : List Dot) : dotCells (l ++ m) = dotCells l ++ dotCells m := by simp [dotCells]
theorem dotCells_at : ∀ (l : List Dot) (i : Nat) (h : i < l.length), (dotCells l)[i * 2]? = some (.int .i64 l[i].1) ∧ (dotCells l)[i * 2 + 1]? = some (.int .i64 l[i].2)
  | d :: l, 0, _ => by simp [dotCells]
  | d :: l, i + 1, h => by
    have ih := dotCells_at l i (by simpa using h)
    have e : dotCells (d :: l) = [.int .i64 d.1, .int .i64 d.2] ++ dotCells l := rfl
    rw [e, List.getElem?_append_right (by simp; omega), List.getElem?_append_right (by simp; omega)]
    have h1 : (i + 1) * 2 - 2 = i * 2 := by omega
    have h2 : (i + 1) * 2 + 1 - 2 = i * 2 + 1 := by omega
    simpa [h1, h2] using ih

/-- a row of dots of the call's own -/
def OwnDots (w : World) (base : Nat) (v : Value) (l : List Dot) : Prop := w.ownsRow base 47 2 v l.length (dotCells l)
theorem OwnDots.dots {w : World} {base : Nat} {v : Value} {l : List Dot} (h : OwnDots w base v l) : ∃ A c, v = .slice A l.length c ∧ l.length ≤ c ∧ Dots w A l := by
  rcases h.2 with ⟨rfl, h0⟩ | ⟨g, cap, cur, rfl, hg, hh, hle, hm, _⟩
  · have : l = [] := List.eq_nil_of_length_eq_zero h0
    subst this
    exact ⟨none, 0, rfl, Nat.le_refl _, Dots.nil _ _⟩
  · refine ⟨_, cap, rfl, hle, by simp only [maxLen] at hm; omega, fun i hi => ⟨_, rfl, ?_, ?_⟩⟩
    · exact h.cells (g := g) rfl _ _ (dotCells_at l i hi).1
    · have := h.cells (g := g) rfl _ _ (dotCells_at l i hi).2
      by_cases h0 : i = 0
      · subst h0; simpa [Addr.add] using this
      · simp only [Addr.add] at this ⊢
        rw [if_neg (by omega)] at this ⊢
        simpa [Nat.add_assoc] using this

theorem pairs_any (A1 A2 : Option Addr) (l1 l2 c1 c2 : Nat) (w : World) :
    Calls Try.prog 197 #[.slice A1 l1 c1, .slice A2 l2 c2] w fun e w' => e = .returned (.func (.func 213) #[] #[.pointer (some ⟨w.heap.size, 0, none⟩), .pointer (some ⟨w.heap.size + 1, 0, none⟩)]) ∧
      w' = (w.alloc (.cells #[.slice A1 l1 c1] 36)).alloc (.cells #[.slice A2 l2 c2] 36) := by
  go_enter Try.func197, Try.ntmps197
  go_wp2
  go_ret
  exact ⟨rfl, rfl⟩

def maxI (x y : Int) : Int := if x < y then y else x
def minI (x y : Int) : Int := if y < x then y else x
theorem Join1_any (x y : Int) (w : World) : Calls Try.prog 166 #[.int .i64 x, .int .i64 y] w fun e w' => e = .returned (.int .i64 (maxI x y)) ∧ w' = w := by
  go_enter Try.func166, Try.ntmps166
  go_wp2
  all_goals
    go_ret
    exact ⟨ret_int (by (first | unfold maxI | unfold minI); first | rw [if_pos (by omega)] | rw [if_neg (by omega)]), rfl⟩
theorem Okv.len {l : List Dot} (h : Okv l) : l.length ≤ 64 := by
  rcases Nat.lt_or_ge 64 l.length with c | c
  · have key : ∀ i (hi : i < l.length), (i : Int) ≤ l[i].1 := by
      intro i
      induction i with
      | zero => intro hi; have := h.at 0 hi; omega
      | succ i ih => intro hi; have := ih (by omega); have := h.sorted i (i + 1) hi (by omega); omega
    have := key 64 c
    have := h.at 64 c
    omega
  · exact c
theorem mrg_length (a b : List Dot) : (mrg a b).length ≤ a.length + b.length := by
  fun_induction mrg a b <;> simp_all <;> omega
theorem madeL_append (f : Int → Int → Int) (xs ys : List (Int × Int × Int)) : madeL f (xs ++ ys) = madeL f xs ++ madeL f ys := by simp [madeL]
theorem madeL_length (f : Int → Int → Int) (xs : List (Int × Int × Int)) : (madeL f xs).length ≤ xs.length := List.length_filterMap_le _ _

/-- the iterator's contract, in the law's form -/
theorem pairs_iter (n : Nat) (w0 w : World) (ba bb : Nat) (hba : w0.heap.size ≤ ba) (hbb : w0.heap.size ≤ bb) (hne : ba ≠ bb) (a b : List Dot) (hP : PSt w0 ba bb a b w) :
    Iter (n + 1) Try.prog 213 #[.pointer (some ⟨ba, 0, none⟩), .pointer (some ⟨bb, 0, none⟩)] encP (mrg a b) (fun k => k = ba ∨ k = bb) w0.heap.size w := by
  intro l J Jx W hG hJ hJx hY h0
  refine callsIn_wide.2 (pairs1_any n l w0 ba bb _ hba hbb hne J Jx hJ hY a b rfl W ?_ h0)
  obtain ⟨⟨A1, c1, h1, h2, h3⟩, ⟨A2, c2, h4, h5, h6⟩, hg⟩ := hP
  exact ⟨⟨A1, c1, (hG.block _ h1.lt).trans h1, h2, h3⟩, ⟨A2, c2, (hG.block _ h4.lt).trans h4, h5, h6⟩, hg.tr hG⟩

theorem DRows.two {w : World} {A B : Option Addr} {c d : Nat} {l m : List Dot} (h : Dots w A l) (k : Dots w B m) (t : TypeId) :
    DRows (w.alloc (.cells #[.slice A l.length c, .slice B m.length d] t)) (some ⟨w.heap.size, 0, none⟩) [⟨A, c, l⟩, ⟨B, d, m⟩] := by
  refine ⟨by simp, fun i hi => ?_⟩
  have : i = 0 ∨ i = 1 := by simp at hi; omega
  rcases this with rfl | rfl
  · exact ⟨_, rfl, by simp [Addr.add], h.gr ((Gr.rfl' w).al _)⟩
  · exact ⟨_, rfl, by simp [Addr.add], k.gr ((Gr.rfl' w).al _)⟩


/-- cells that have just been laid -/
theorem cells_new (w : World) (cs : List Value) (t : TypeId) : ∀ j u, cs[j]? = some u → (w.alloc (.cells cs.toArray t)).cell? ((⟨w.heap.size, 0, none⟩ : Addr).add j) = some u := by
  intro j u h
  have hb := World.alloc_heap_new w (.cells cs.toArray t)
  have e : ((⟨w.heap.size, 0, none⟩ : Addr).add j) = ⟨w.heap.size, j, none⟩ := by unfold Addr.add; split <;> simp_all
  rw [e]
  simp only [World.cell?, hb]
  simpa using h

theorem OwnDots.nil (w : World) (base : Nat) : OwnDots w base (.slice none 0 0) [] := World.ownsRow_nil _ _ _ _
theorem OwnDots.lower {w : World} {b b' : Nat} {v : Value} {l : List Dot} (h : OwnDots w b v l) (hb : b' ≤ b) : OwnDots w b' v l := by
  obtain ⟨h1, h2⟩ := h
  refine ⟨h1, ?_⟩
  rcases h2 with h2 | ⟨g, cap, cur, rfl, hg, r⟩
  · exact .inl h2
  · exact .inr ⟨g, cap, cur, rfl, Nat.le_trans hb hg, r⟩
theorem OwnDots.ge {w : World} {b : Nat} {v : Value} {l : List Dot} (h : OwnDots w b v l) : ∀ k, v.ownBlock = some k → b ≤ k := fun k hk => (World.ownsRow.lt h k hk).1
theorem OwnDots.isCells {w : World} {b : Nat} {v : Value} {l : List Dot} (h : OwnDots w b v l) : ∀ (j : Nat) (o : Obj), v.ownBlock = some j → w.heap[j]? = some o → o.isCells = true := by
  intro j o ej hj
  rcases h.2 with ⟨rfl, _⟩ | ⟨g, cap, cur, rfl, _, hgb, _⟩
  · simp [Value.ownBlock] at ej
  · obtain rfl : g = j := by simpa [Value.ownBlock] using ej
    rw [hgb] at hj; cases hj; rfl

theorem box_grown {W w1 : World} {o : Obj} {b : Nat} {t : TypeId} {u v : Value} (hgrow : (W.alloc o).grownBy w1 v.ownBlock) (hb : Boxed W b t u) (hne : ∀ j, v.ownBlock = some j → b ≠ j) : Boxed w1 b t u :=
  (hgrow.block b (by have := hb.lt; simp; omega) (fun e => hne b e.symm rfl)).trans ((Below.heap_alloc _ _ _ hb.lt).trans hb)
theorem cel_grown {W w1 : World} {o : Obj} {b : Nat} {t : TypeId} {u v : Value} (hgrow : (W.alloc o).grownBy w1 v.ownBlock) (hb : Boxed W b t u) (hne : ∀ j, v.ownBlock = some j → b ≠ j) : w1.cell? ⟨b, 0, none⟩ = some u := (box_grown hgrow hb hne).cell
theorem frz_grown {W w1 : World} {o : Obj} {b : Nat} {t : TypeId} {u v : Value} (hgrow : (W.alloc o).grownBy w1 v.ownBlock) (hb : Boxed W b t u) (hne : ∀ j, v.ownBlock = some j → b ≠ j) : w1.frozen? ⟨b, 0, none⟩ = false := free_of_one (box_grown hgrow hb hne)
theorem Gr.putObj {a b : World} (h : Gr a b) {l : Nat} (hl : a.heap.size ≤ l) (o : Obj) : Gr a (b.putObj l o) :=
  h.trans ⟨rfl, rfl, rfl, by simp, fun k hk => World.putObj_heap_other (by omega)⟩
theorem infoDot : (Try.prog.info? 47).map (fun i => (i.zero, i.size, i.bytes)) = some (some (.agg #[.int .i64 0, .int .i64 0]), 2, 16) := by kernel_rfl

/-- made's own state between two rounds -/
structure MSt (w : World) (b5 b7 B0 : Nat) (fv : Value) (l : List Dot) (W : World) : Prop where
  out : ∃ v, Boxed W b7 36 v ∧ OwnDots W B0 v l
  fn : Boxed W b5 112 fv
  gr : Gr w W

theorem MSt.mv {w : World} {b5 b7 B0 ba bb : Nat} {fv : Value} {l : List Dot} {A W : World} (h : MSt w b5 b7 B0 fv l A) (m : Mv (fun k => k = ba ∨ k = bb) B0 A W) (h5 : ¬ (b5 = ba ∨ b5 = bb)) (h7 : ¬ (b7 = ba ∨ b7 = bb)) (hB : ba < B0 ∧ bb < B0) (hw : w.heap.size ≤ ba ∧ w.heap.size ≤ bb) : MSt w b5 b7 B0 fv l W := by
  obtain ⟨⟨v, h1, h2⟩, h3, h4⟩ := h
  exact ⟨⟨v, m.boxed h1 h7, m.ownsRow h2 (fun k hk e => by have := h2.ge k hk; omega)⟩, m.boxed h3 h5, m.below h4 (by omega) (Nat.le_refl _) (fun k hk => by rcases hk with rfl | rfl <;> omega)⟩

/-- one append, and the box written -/
theorem MSt.add {w : World} {b5 b7 B0 ba bb : Nat} {fv v v' : Value} {l : List Dot} {p k : Int} {W w1 : World} (h5 : b5 ≠ b7) (h5B : b5 < B0) (h7B : b7 < B0) (hB : B0 ≤ W.heap.size) (hw : w.heap.size ≤ b7) (hwB : w.heap.size ≤ B0) (hS : ba < B0 ∧ bb < B0) (hS7 : ¬ (b7 = ba ∨ b7 = bb))
    (hb : Boxed W b7 36 v) (ho : OwnDots W B0 v l) (hf : Boxed W b5 112 fv) (hg : Gr w W)
    (hown : w1.ownsRow B0 47 2 v' (l.length + 1) (dotCells l ++ [.int .i64 p, .int .i64 k])) (hgrow : (W.alloc (.cells #[.int .i64 p, .int .i64 k] 47)).grownBy w1 v.ownBlock) :
    MSt w b5 b7 B0 fv (l ++ [(p, k)]) (w1.setCell ⟨b7, 0, none⟩ v') ∧ KeepsFrom B0 W (w1.setCell ⟨b7, 0, none⟩ v') ∧ Kp (fun k => k = ba ∨ k = bb) w.heap.size W (w1.setCell ⟨b7, 0, none⟩ v') := by
  have hne : ∀ j, j < B0 → some j ≠ v.ownBlock := fun j hj e => by have := ho.ge j e.symm; omega
  have hb1 : Boxed w1 b7 36 v := (hgrow.block b7 (by simp; omega) (hne _ h7B)).trans ((Below.heap_alloc _ _ _ (by omega)).trans hb)
  have hf1 : Boxed w1 b5 112 fv := (hgrow.block b5 (by simp; omega) (hne _ h5B)).trans ((Below.heap_alloc _ _ _ (by omega)).trans hf)
  have hg1 : Gr w w1 := (hg.al _).grown hgrow (by have := hg.size; simp; omega) (fun j e => by have := ho.ge j e; omega)
  refine ⟨⟨⟨v', one_setCell hb1, ?_⟩, ?_, hg1.set hw _⟩, ?_, ?_⟩
  · have := ownsRow_setCell_below hown (a := ⟨b7, 0, none⟩) h7B v'
    have e : dotCells (l ++ [(p, k)]) = dotCells l ++ [.int .i64 p, .int .i64 k] := by rw [dotCells_append]; rfl
    unfold OwnDots
    rw [e]
    simpa using this
  · show _ = _
    rw [heap_set_other h5]; exact hf1
  · exact (((KeepsOthers.alloc W _).trans (KeepsOthers.of_grownBy hgrow fun j o ej hj => by
      have ha : OwnDots (W.alloc (.cells #[.int .i64 p, .int .i64 k] 47)) B0 v l := World.ownsRow.alloc ho _
      exact ha.isCells j o ej hj)).trans (KeepsOthers.setCell _ _ _)).from _
  · exact (((Kp.refl _ _ _).alloc _).grown hgrow (fun j e => ⟨by have := ho.ge j e; omega, fun e' => by have := ho.ge j e; rcases e' with rfl | rfl <;> omega⟩)).setCell ⟨hw, hS7⟩ _

set_option maxRecDepth 100000 in
theorem madeJoin_no (A1 A2 : Option Addr) (c1 c2 : Nat) (a b : List Dot) (w : World) (h1 : Dots w A1 a) (h2 : Dots w A2 b) (hv : ¬ (chk a = 0 ∧ chk b = 0)) :
    Calls Try.prog 165 #[.slice A1 a.length c1, .slice A2 b.length c2, .func (.func 166) #[] #[]] w fun e w' => e = .returned (.slice none 0 0) ∧ Gr w w' := by
  have hg0 : Gr w (w.alloc (.cells #[.func (.func 166) #[] #[]] 112)) := (Gr.rfl' w).al _
  have h3 := DRows.two (c := c1) (d := c2) (h1.gr hg0) (h2.gr hg0) 36
  rw [World.size_alloc] at h3
  have H3 := Lib.hid h3; clear h3
  have hr : rightB [⟨A1, c1, a⟩, ⟨A2, c2, b⟩] = false := by
    by_cases ha : chk a = 0
    · have hb : chk b ≠ 0 := fun h => hv ⟨ha, h⟩
      simp [rightB, ha, hb]
    · simp [rightB, ha]
  clear hv h1 h2
  go_enter Try.func165, Try.ntmps165
  go_wp2_with (first | (go_at_call 195; refine (right_any _ _ [⟨A1, c1, a⟩, ⟨A2, c2, b⟩] _ H3.out).mono ?_; rintro e w1 ⟨rfl, hg1⟩))
  go_ret
  exact ⟨rfl, (hg0.al _).tr hg1⟩

set_option maxRecDepth 100000 in
set_option maxHeartbeats 2000000 in
theorem madeJoin_any (A1 A2 : Option Addr) (c1 c2 : Nat) (a b : List Dot) (w : World) (h1 : Dots w A1 a) (h2 : Dots w A2 b) (hc1 : a.length ≤ c1) (hc2 : b.length ≤ c2) (hva : chk a = 0) (hvb : chk b = 0) :
    Calls Try.prog 165 #[.slice A1 a.length c1, .slice A2 b.length c2, .func (.func 166) #[] #[]] w fun e w' => ∃ v, e = .returned v ∧ OwnDots w' w.heap.size v (madeL maxI (mrg a b)) ∧ Gr w w' := by
  have hg0 : Gr w (w.alloc (.cells #[.func (.func 166) #[] #[]] 112)) := (Gr.rfl' w).al _
  have h3 := DRows.two (c := c1) (d := c2) (h1.gr hg0) (h2.gr hg0) 36
  rw [World.size_alloc] at h3
  have H3 := Lib.hid h3; clear h3
  have hr : rightB [⟨A1, c1, a⟩, ⟨A2, c2, b⟩] = true := by simp [rightB, hva, hvb]
  have HL : Hid (a.length + b.length ≤ 128) := by have := ((chk_ok a).1 hva).len; have := ((chk_ok b).1 hvb).len; show _ ≤ _; omega
  have H1 := Lib.hid h1
  have H2 := Lib.hid h2
  clear hva hvb h1 h2
  refine (callsIn_wide (n := 3)).1 (callsIn_of_wp_marks Try.func165 rfl trivial ?_)
  refine wpIn_wide.2 ?_
  simp only [Try.ntmps165, List.size_toArray, List.length_cons, List.length_nil, Nat.reduceAdd, Nat.reduceSub, Array.replicate_succ, Array.replicate_zero, List.push_toArray, List.append_toArray, List.nil_append, List.cons_append]
  go_wp2_with (first | (go_at_call 195; refine (right_any _ _ [⟨A1, c1, a⟩, ⟨A2, c2, b⟩] _ H3.out).mono ?_; rintro e w1 ⟨rfl, hg1⟩) | (go_at_call 197; refine (pairs_any _ _ _ _ _ _ _).mono ?_; rintro e w2 ⟨rfl, rfl⟩))
  obtain ⟨W0, hW0⟩ : ∃ W0, ((w1.alloc (.cells #[.slice none 0 0] 36)).alloc (.cells #[.slice A1 a.length c1] 36)).alloc (.cells #[.slice A2 b.length c2] 36) = W0 := ⟨_, rfl⟩
  rw [hW0]
  have hgw1 : Gr w w1 := ((hg0.al _).tr hg1)
  have hsz : w.heap.size + 2 ≤ w1.heap.size := by have := hg1.size; simp at this; omega
  have hsz0 : W0.heap.size = w1.heap.size + 3 := by rw [← hW0]; simp
  have hb5 : Boxed W0 w.heap.size 112 (.func (.func 166) #[] #[]) := by
    have h := World.alloc_heap_new w (.cells #[.func (.func 166) #[] #[]] 112)
    have h' := (hg1.block w.heap.size (by simp; omega)).trans ((Below.heap_alloc _ _ _ (by simp)).trans h)
    rw [← hW0]
    exact (Below.heap_alloc _ _ _ (by simp; omega)).trans ((Below.heap_alloc _ _ _ (by simp; omega)).trans ((Below.heap_alloc _ _ _ (by omega)).trans h'))
  have hb7 : Boxed W0 w1.heap.size 36 (.slice none 0 0) := by
    rw [← hW0]
    exact (Below.heap_alloc _ _ _ (by simp; omega)).trans ((Below.heap_alloc _ _ _ (by simp)).trans (World.alloc_heap_new w1 _))
  have hba : Boxed W0 (w1.heap.size + 1) 36 (.slice A1 a.length c1) := by
    have := World.alloc_heap_new (w1.alloc (.cells #[.slice none 0 0] 36)) (.cells #[.slice A1 a.length c1] 36)
    rw [World.size_alloc] at this
    rw [← hW0]
    exact (Below.heap_alloc _ _ _ (by simp)).trans this
  have hbb : Boxed W0 (w1.heap.size + 1 + 1) 36 (.slice A2 b.length c2) := by
    have := World.alloc_heap_new ((w1.alloc (.cells #[.slice none 0 0] 36)).alloc (.cells #[.slice A1 a.length c1] 36)) (.cells #[.slice A2 b.length c2] 36)
    rw [World.size_alloc, World.size_alloc] at this
    rw [← hW0]
    exact this
  have hgW0 : Gr w W0 := by rw [← hW0]; exact ((hgw1.al _).al _).al _
  have hP : PSt w (w1.heap.size + 1) (w1.heap.size + 1 + 1) a b W0 := ⟨⟨A1, c1, hba, hc1, H1.out⟩, ⟨A2, c2, hbb, hc2, H2.out⟩, hgW0⟩
  obtain ⟨i0, hi, hz0, hz1, hz2⟩ := info_parts infoDot
  clear hba hbb hW0 hg1 H3 hr hg0
  refine wpIn_wide.1 (wpIn_range (n := 3) (gf := 213) (lb := #[.pointer (some ⟨w1.heap.size + 1, 0, none⟩), .pointer (some ⟨w1.heap.size + 1 + 1, 0, none⟩)]) rfl (enters_of Try.func213 (by kernel_rfl) rfl)
    (pairs_iter 1 w W0 _ _ (by omega) (by omega) (by omega) a b hP) (fun k hk => by rcases hk with rfl | rfl <;> omega) (by omega) (fun _ => rfl)
    (fun pre W => MSt w w.heap.size w1.heap.size W0.heap.size (.func (.func 166) #[] #[]) (madeL maxI pre) W) (fun _ _ _ => False)
    (fun pre x a' W => W0.heap.size ≤ W.heap.size ∧ MSt w w.heap.size w1.heap.size W0.heap.size (.func (.func 166) #[] #[]) (madeL maxI pre) W ∧ ∃ bx, W0.heap.size ≤ bx ∧ W.heap[bx]? = some (.cells #[.int .i64 x.2.1, .int .i64 x.2.2] 217 (0, 0)) ∧
      a' = { tmps := #[.slice A1 a.length c1, .slice A2 b.length c2, .func (.func 166) #[] #[], undef, undef, .pointer (some ⟨w.heap.size, 0, none⟩), .slice none 0 0, .pointer (some ⟨w1.heap.size, 0, none⟩), .int .i64 x.1, .pointer (some ⟨bx, 0, none⟩), undef,
        .slice A1 a.length c1, .slice A2 b.length c2, .slice (some ⟨w.heap.size + 1, 0, none⟩) 2 2, .bool true, .bool false, .slice A1 a.length c1, .slice A2 b.length c2, .func (.func 213) #[] #[.pointer (some ⟨w1.heap.size + 1, 0, none⟩), .pointer (some ⟨w1.heap.size + 1 + 1, 0, none⟩)],
        .int .i64 x.1, .agg #[.int .i64 x.2.1, .int .i64 x.2.2], undef, undef, undef, undef, undef, undef, undef, undef, undef, undef, undef, undef, undef, undef, undef], defers := [] })
    ?hI (fun _ _ _ _ h _ => h) ?hAx ?h0 ?assign ?body ?done (fun _ _ _ _ _ _ h => h.elim))
  case hI => intro pre A B h m; exact h.mv m (by omega) (by omega) (by omega) (by omega)
  case hAx =>
    rintro pre x a' A B ⟨hs, h, bx, hbx, hb, rfl⟩ m
    exact ⟨Nat.le_trans hs m.size, h.mv m (by omega) (by omega) (by omega) (by omega), bx, hbx, m.same hb rfl (by omega), rfl⟩
  case h0 => exact ⟨⟨_, hb7, OwnDots.nil _ _⟩, hb5, hgW0⟩
  case assign =>
    intro l pre x W K hI hpre hl hlt hK
    obtain ⟨p, x, y⟩ := x
    simp only [encP]
    have hg := hI.gr
    have hKK := Lib.hid hK; clear hK
    gi_wp2
    refine hKK.out _ _ ((KeepsOthers.alloc _ _).from _) ((Kp.refl _ _ _).alloc _) ⟨by simp; omega, ?_, W.heap.size, by omega, World.alloc_heap_new _ _, rfl⟩
    obtain ⟨⟨v, h1, h2⟩, h3, h4⟩ := hI
    exact ⟨⟨v, (Below.heap_alloc _ _ _ h1.lt).trans h1, World.ownsRow.alloc h2 _⟩, (Below.heap_alloc _ _ _ h3.lt).trans h3, h4.al _⟩
  case body =>
    rintro l pre ⟨p, x, y⟩ a' W hl ⟨r, hr⟩ hpre ⟨hs, ⟨⟨v, hbv, hov⟩, hbf, hg⟩, bx, hbx, hb, rfl⟩
    have hlen : (madeL maxI pre).length + 1 ≤ 129 := by
      have h1 := madeL_length maxI pre
      have h2 : pre.length ≤ (mrg a b).length := by have := hpre.length_le; simp at this; omega
      have h3 := mrg_length a b
      have h4 := HL.out
      omega
    have hadd : madeL maxI (pre ++ [(p, x, y)]) = if 0 < maxI x y then madeL maxI pre ++ [(p, maxI x y)] else madeL maxI pre := by
      rw [madeL_append]; by_cases h : 0 < maxI x y <;> simp [madeL, h]
    have HADD := Lib.hid hadd; clear hadd
    have HPRE := Lib.hid hpre; clear hpre
    have hf0 := hbf.cell
    have hv0 := hbv.cell
    have hvf := free_of_one hbv
    have hx0 : W.cell? ⟨bx, 0, none⟩ = some (.int .i64 x) := by simp [World.cell?, hb]
    have hx1 : W.cell? ⟨bx, 1, none⟩ = some (.int .i64 y) := by simp [World.cell?, hb]
    have HB := Lib.hid hb; clear hb
    have HR := Lib.hid hr; clear hr
    have HBV := Lib.hid hbv; clear hbv
    have HBF := Lib.hid hbf; clear hbf
    by_cases hk : 0 < maxI x y
    · have hkb : decide (0 < maxI x y) = true := decide_eq_true hk
      gi_wp2_with (first | (refine ⟨trivial, ?_⟩; gi_at_call 166; refine (CallsIn.inRound l (callsIn_wide.2 (Join1_any x y _))).mono ?_; rintro e w' ⟨rfl, rfl⟩) | (gi_at_builtin; go_loud (refine wpListIn_append_own _ rfl _ _ 36 rfl W0.heap.size 47 i0 (.agg #[.int .i64 0, .int .i64 0]) 2 16 Try.underlying36 hi hz0 hz1 hz2 rfl (by decide) v _ _ rfl (World.ownsRow.alloc hov _) ⟨_, 0, none⟩ 1 1 [.int .i64 p, .int .i64 (maxI x y)] rfl rfl (cells_new _ _ _) (by simp [Value.oneCell']) (by simp only [maxLen]; omega) (by omega) (by simp; omega) ?_); intro v' w2 hown' hgrow _; obtain ⟨g', cap', rfl⟩ := ownsRow_succ hown'; have hbv1 : w2.cell? ⟨w1.heap.size, 0, none⟩ = some v := cel_grown hgrow HBV.out (fun j e => by have := hov.ge _ e; omega); have hbf1 : w2.frozen? ⟨w1.heap.size, 0, none⟩ = false := frz_grown hgrow HBV.out (fun j e => by have := hov.ge _ e; omega)))
      obtain ⟨hS, hKF, hKP⟩ := MSt.add (p := p) (k := maxI x y) (ba := w1.heap.size + 1) (bb := w1.heap.size + 1 + 1) (by omega) (by omega) (by omega) (by omega) (by omega) (by omega) (by omega) (by omega) HBV.out hov HBF.out hg hown' hgrow
      show _ ∧ _ ∧ _
      exact ⟨hKF, hKP, by show MSt _ _ _ _ _ _ _; rw [HADD.out, if_pos hk]; exact hS⟩
    · have hkb : decide (0 < maxI x y) = false := decide_eq_false hk
      gi_wp2_with (first | (refine ⟨trivial, ?_⟩; gi_at_call 166; refine (CallsIn.inRound l (callsIn_wide.2 (Join1_any x y _))).mono ?_; rintro e w' ⟨rfl, rfl⟩))
      show _ ∧ _ ∧ _
      exact ⟨KeepsFrom.refl _ _, Kp.refl _ _ _, by show MSt _ _ _ _ _ _ _; rw [HADD.out, if_neg (by omega)]; exact ⟨⟨v, HBV.out, hov⟩, HBF.out, hg⟩⟩
  case done =>
    intro D W hD hI hK
    obtain ⟨⟨v, hbv, hov⟩, hbf, hg⟩ := hI
    have hv0 := hbv.cell
    go_wp2
    refine ⟨by simp, .inl ⟨_, _, rfl, run_takeDeferred hK, ?_⟩⟩
    exact ⟨_, results_tmp rfl _ _ _, v, rfl, OwnDots.lower (ownsRow_putObj hov _ hK rfl) (by omega), hg.putObj (by omega) _⟩

def joinL (a b : List Dot) : List Dot := if chk a = 0 ∧ chk b = 0 then madeL maxI (mrg a b) else []
def meetL (a b : List Dot) : List Dot := if chk a = 0 ∧ chk b = 0 then madeL minI (mrg a b) else []

theorem Join_any (A1 A2 : Option Addr) (c1 c2 : Nat) (a b : List Dot) (w : World) (h1 : Dots w A1 a) (h2 : Dots w A2 b) (hc1 : a.length ≤ c1) (hc2 : b.length ≤ c2) :
    Calls Try.prog 96 #[.slice A1 a.length c1, .slice A2 b.length c2] w fun e w' => ∃ v, e = .returned v ∧ OwnDots w' w.heap.size v (joinL a b) ∧ Gr w w' := by
  have H1 := Lib.hid h1; clear h1
  have H2 := Lib.hid h2; clear h2
  by_cases hv : chk a = 0 ∧ chk b = 0
  · have hj : joinL a b = madeL maxI (mrg a b) := if_pos hv
    have HV := Lib.hid hv; clear hv
    have HJ := Lib.hid hj; clear hj
    go_enter Try.func96, Try.ntmps96
    go_wp2_with (go_at_call 165; refine (madeJoin_any A1 A2 c1 c2 a b _ H1.out H2.out hc1 hc2 HV.out.1 HV.out.2).mono ?_; rintro e w1 ⟨v, rfl, ho, hg⟩)
    go_ret
    exact ⟨_, rfl, by rw [HJ.out]; exact ho, hg⟩
  · have hj : joinL a b = [] := if_neg hv
    have HV := Lib.hid hv; clear hv
    have HJ := Lib.hid hj; clear hj
    go_enter Try.func96, Try.ntmps96
    go_wp2_with (go_at_call 165; refine (madeJoin_no A1 A2 c1 c2 a b _ H1.out H2.out HV.out).mono ?_; rintro e w1 ⟨rfl, hg⟩)
    go_ret
    exact ⟨_, rfl, by rw [HJ.out]; exact OwnDots.nil _ _, hg⟩

theorem Dots.one {w : World} (p c : Int) (t : TypeId) : Dots (w.alloc (.cells #[.int .i64 p, .int .i64 c] t)) (some ⟨w.heap.size, 0, none⟩) [(p, c)] := by
  refine ⟨by simp, fun i hi => ?_⟩
  have : i = 0 := by simpa using hi
  subst this
  exact ⟨_, rfl, by simp [Addr.add], by simp [Addr.add]⟩
theorem With_any (A1 : Option Addr) (c1 : Nat) (a : List Dot) (p c : Int) (w : World) (h1 : Dots w A1 a) (hc1 : a.length ≤ c1) :
    Calls Try.prog 95 #[.slice A1 a.length c1, .agg #[.int .i64 p, .int .i64 c]] w fun e w' => ∃ v, e = .returned v ∧ OwnDots w' w.heap.size v (joinL a [(p, c)]) ∧ Gr w w' := by
  have hg0 : Gr w (w.alloc (.cells #[.int .i64 p, .int .i64 c] 47)) := (Gr.rfl' w).al _
  have h2 := Dots.one (w := w.alloc (.cells #[.int .i64 p, .int .i64 c] 47)) p c 47
  rw [World.size_alloc] at h2
  have H1 := Lib.hid ((h1.gr hg0).gr ((Gr.rfl' _).al (.cells #[.int .i64 p, .int .i64 c] 47))); clear h1
  have H2 := Lib.hid h2; clear h2
  go_enter Try.func95, Try.ntmps95
  go_wp2_with (go_at_call 96; refine (Join_any A1 _ c1 1 a [(p, c)] _ H1.out H2.out hc1 (by simp)).mono ?_; rintro e w1 ⟨v, rfl, ho, hg⟩)
  go_ret
  exact ⟨_, rfl, OwnDots.lower ho (by simp; omega), (hg0.al _).tr hg⟩

end Go.Proofs.Ytfobnemocodomaa
