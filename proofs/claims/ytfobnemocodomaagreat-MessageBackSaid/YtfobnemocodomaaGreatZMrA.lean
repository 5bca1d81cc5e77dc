/- A message in the making: rows of one's own, and the fields taken. -/
import Derived.Test.YtfobnemocodomaaGreatZMrP
import Derived.Test.YtfobnemocodomaaGreatZBr
set_option linter.unusedVariables false
set_option linter.unusedSimpArgs false
set_option maxHeartbeats 1000000
namespace Go.Proofs.YtfobnemocodomaaGreat
open Go.RowKit Go.Shelf Go.Great

theorem infoDotRow : (Tryz.prog.info? 34).map (fun i => (i.zero, i.size, i.bytes)) = some (some (.slice none 0 0), 1, 24) := by kernel_rfl
def rowVal (d : DRow) : Value := .slice d.A d.l.length d.cap
def OfD (g : Nat) (d : DRow) : Prop := d.l ≠ [] → ∀ D, d.A = some D → D.block ≠ g
theorem OfD.ofNew {W : World} {g : Nat} {d : DRow} (h : Dots W d.A d.l) (k : W.heap.size ≤ g) : OfD g d := fun hp D hD => by
  have h0 : 0 < d.l.length := List.length_pos_iff.2 hp
  obtain ⟨ad, e, a, _⟩ := h.2 0 h0
  rw [hD] at e; cases e
  have := World.block_lt_of_cell? W _ a
  rw [addR] at this
  omega
structure RowW (W : World) (B : Nat) (v : Value) (l : List DRow) : Prop where
  oks : ∀ d ∈ l, Dots W d.A d.l
  new : ∀ d ∈ l, d.l.length ≤ d.cap ∧ ∀ D, d.A = some D → B ≤ D.block
  own : (v = .slice none 0 0 ∧ l = []) ∨ ∃ g, B ≤ g ∧ OwnG 34 1 W g v l.length (l.map rowVal) ∧ ∀ d ∈ l, OfD g d
theorem RowW.nil (W : World) (B : Nat) : RowW W B (.slice none 0 0) [] := ⟨fun x hx => by simp at hx, fun x hx => by simp at hx, Or.inl ⟨rfl, rfl⟩⟩
theorem RowW.gr {W W' : World} {B : Nat} {v : Value} {l : List DRow} (h : RowW W B v l) (k : Gr W W') : RowW W' B v l := by
  refine ⟨fun d hd => (h.oks d hd).gr k, h.new, ?_⟩
  rcases h.own with o | ⟨g, o1, o2, o3⟩
  · exact Or.inl o
  · exact Or.inr ⟨g, o1, o2.gr k, o3⟩
theorem RowW.rm {W W' : World} {B b : Nat} {v : Value} {l : List DRow} (h : RowW W B v l) (m : Rm b W W') (hb : b < B) : RowW W' B v l := by
  refine ⟨fun d hd => (h.oks d hd).rmR m (fun D hD => by have := (h.new d hd).2 D hD; omega), h.new, ?_⟩
  rcases h.own with o | ⟨g, o1, o2, o3⟩
  · exact Or.inl o
  · exact Or.inr ⟨g, o1, o2.same (m.keep g o2.lt (by omega)), o3⟩
theorem RowW.rows {W : World} {B : Nat} {v : Value} {l : List DRow} (h : RowW W B v l) : ∃ A c, v = .slice A l.length c ∧ l.length ≤ c ∧ DRows W A l := by
  rcases h.own with ⟨rfl, rfl⟩ | ⟨g, o1, o2, o3⟩
  · exact ⟨none, 0, rfl, Nat.le_refl _, by simp, fun i hi => absurd hi (by simp)⟩
  · obtain ⟨c, rfl, h1, h2⟩ := o2.shape
    refine ⟨_, c, rfl, h1, by unfold maxLen at h2; omega, fun i hi => ⟨_, rfl, ?_, h.oks _ (List.getElem_mem hi)⟩⟩
    have e : (⟨g, 0, none⟩ : Addr).add i = ⟨g, i, none⟩ := by unfold Addr.add; split <;> simp_all
    rw [e]
    exact (o2.cell i _ (by rw [List.getElem?_map, List.getElem?_eq_getElem hi]; rfl)).1
/-- one row more -/
theorem RowW.push {W : World} {B : Nat} {v : Value} {l : List DRow} (h : RowW W B v l) {d : DRow} (hd : Dots W d.A d.l) (hdc : d.l.length ≤ d.cap) (hdn : ∀ D, d.A = some D → B ≤ D.block)
    (hoff : ∀ g c, v = .slice (some ⟨g, 0, none⟩) l.length c → OfD g d) (hB : B ≤ W.heap.size) (hl : l.length ≤ 1000000) (ty : TypeId) :
    ∃ (c : Option Addr × Nat) (w' : World) (g0 : Option Nat), (Builtin.append_ #[35, 35] ty #[v, .slice (some ⟨W.heap.size, 0, none⟩) 1 1]).run Tryz.prog (W.alloc (.cells #[rowVal d] 34)) = .ok (.slice c.1 (l ++ [d]).length c.2) w' ∧ RowW w' B (.slice c.1 (l ++ [d]).length c.2) (l ++ [d]) ∧
      (W.alloc (.cells #[rowVal d] 34)).grownBy w' g0 ∧ (∀ g, g0 = some g → B ≤ g ∧ g < W.heap.size ∧ (∃ cs, W.heap[g]? = some (.cells cs 34 (0, 0))) ∧ ∃ c0, v = .slice (some ⟨g, 0, none⟩) l.length c0) ∧
      ∃ g', c.1 = some ⟨g', 0, none⟩ ∧ (g0 = some g' ∨ W.heap.size ≤ g') := by
  obtain ⟨i0, hi, hz0, hzs, hz2⟩ := info_parts infoDotRow
  have hga : Gr W (W.alloc (.cells #[rowVal d] 34)) := (Gr.rfl' W).al _
  have hnew : ∀ (j : Nat) (u : Value), [rowVal d][j]? = some u → (W.alloc (.cells #[rowVal d] 34)).cell? ((⟨W.heap.size, 0, none⟩ : Addr).add j) = some u := fun j u hj => by
    have e : ((⟨W.heap.size, 0, none⟩ : Addr).add j) = ⟨W.heap.size, j, none⟩ := by unfold Addr.add; split <;> simp_all
    rw [e]
    have hb := World.alloc_heap_new W (.cells #[rowVal d] 34)
    simp only [World.cell?, hb]
    simpa using hj
  have h1 : ∀ u ∈ [rowVal d], u.oneCell' = true := fun u hu => by simp at hu; subst hu; rfl
  have kv : ∀ {w' : World} {g0 : Option Nat}, (W.alloc (.cells #[rowVal d] 34)).grownBy w' g0 → ∀ y : DRow, Dots W y.A y.l → (∀ g, g0 = some g → OfD g y) → Dots w' y.A y.l := fun k y hy ho => (hy.gr hga).gwR k (fun hp D hD e => ho D.block e.symm hp D hD rfl)
  rcases h.own with ⟨rfl, rfl⟩ | ⟨g, o1, o2, o3⟩
  · obtain ⟨v', w', hr, ho, hg, _⟩ := run_append_own (P := Tryz.prog) (w := W.alloc (.cells #[rowVal d] 34)) W.heap.size 35 ty 34 i0 (.slice none 0 0) 1 24 Tryz.underlying35 hi hz0 hzs hz2 rfl (by decide) (.slice none 0 0) 0 [] (World.ownsRow_nil _ _ _ _) ⟨W.heap.size, 0, none⟩ 1 1 [rowVal d] rfl hnew h1 (by decide) (by decide) (by simp)
    rw [Nat.zero_add, List.nil_append] at ho
    obtain ⟨g', hg', ho'⟩ := ownG_of _ ho (by decide)
    obtain ⟨c, rfl, _, _⟩ := ho'.shape
    refine ⟨(some ⟨g', 0, none⟩, c), w', none, hr, ⟨fun y hy => ?_, fun y hy => ?_, Or.inr ⟨g', by omega, ho', fun y hy => ?_⟩⟩, hg, (fun g e => by cases e), g', rfl, Or.inr (by have := hga.size; omega)⟩
    · simp at hy; subst hy; exact kv hg y hd (fun g e => by cases e)
    · simp at hy; subst hy; exact ⟨hdc, hdn⟩
    · simp at hy; subst hy; exact OfD.ofNew hd hg'
  · obtain ⟨c0, rfl, hc1, hc2⟩ := o2.shape
    obtain ⟨v', w', g', hr, ho', hg', hg⟩ := run_appendG (P := Tryz.prog) (W.alloc (.cells #[rowVal d] 34)) 35 ty 34 i0 (.slice none 0 0) 1 24 Tryz.underlying35 hi hz0 hzs hz2 rfl (by decide) g _ l.length (l.map rowVal) (o2.gr hga) ⟨W.heap.size, 0, none⟩ 1 1 [rowVal d] rfl hnew h1 (by unfold maxLen; omega) (by omega)
    obtain ⟨c, rfl, _, _⟩ := ho'.shape
    have hod := hoff g c0 rfl
    have hsz : (W.alloc (.cells #[rowVal d] 34)).heap.size = W.heap.size + 1 := by simp
    refine ⟨(some ⟨g', 0, none⟩, c), w', some g, by rw [List.length_append, List.length_singleton]; exact hr, ⟨fun y hy => ?_, fun y hy => ?_, Or.inr ⟨g', ?_, ?_, fun y hy => ?_⟩⟩, hg, fun g2 e => ?_, g', rfl, (by rcases hg' with e | e; exact Or.inl (by rw [e]); exact Or.inr (by omega))⟩
    · rcases List.mem_append.1 hy with hy | hy
      · exact kv hg y (h.oks y hy) (fun g2 e => by cases e; exact o3 y hy)
      · simp at hy; subst hy; exact kv hg y hd (fun g2 e => by cases e; exact hod)
    · rcases List.mem_append.1 hy with hy | hy
      · exact h.new y hy
      · simp at hy; subst hy; exact ⟨hdc, hdn⟩
    · rcases hg' with e | e <;> omega
    · rw [List.length_append, List.length_singleton, List.map_append, List.map_singleton]; exact ho'
    · rcases hg' with e | e
      · subst e
        rcases List.mem_append.1 hy with hy | hy
        · exact o3 y hy
        · simp at hy; subst hy; exact hod
      · rcases List.mem_append.1 hy with hy | hy
        · exact OfD.ofNew (h.oks y hy) (by omega)
        · simp at hy; subst hy; exact OfD.ofNew hd (by omega)
    · cases e
      refine ⟨o1, o2.lt, ?_, c0, rfl⟩
      obtain ⟨cap, cur, _, hh, _⟩ := o2
      exact ⟨cur, hh⟩
theorem OwnDots.newD {w : World} {base : Nat} {v : Value} {l : List Dot} (h : OwnDots w base v l) : ∃ A c, v = .slice A l.length c ∧ l.length ≤ c ∧ Dots w A l ∧ ∀ D, A = some D → base ≤ D.block := by
  obtain ⟨A, c, rfl, h1, h2⟩ := h.dots
  refine ⟨A, c, rfl, h1, h2, fun D hD => ?_⟩
  subst hD
  rcases h.2 with ⟨e, h0⟩ | ⟨g, cap, cur, e, hg, hh, hle, hm, _⟩
  · cases e
  · cases e; exact hg
/-- a message in the making in block g; what it points to lies from B on -/
structure MRd (W : World) (B g : Nat) (x : Mx) : Prop where
  lies : MAt W g x
  dig : x.R.length = 32
  pa : x.Pa.size ≤ 9223372036854775807
  tx : x.Tx.size ≤ 9223372036854775807
  ctx : Dots W x.cA x.cl
  cc : x.cl.length ≤ x.cc
  cnew : ∀ D, x.cA = some D → B ≤ D.block
  rows : RowW W B (.slice x.rA x.rs.length x.rc) x.rs
  off : ∀ D, x.rA = some D → OfD D.block ⟨x.cA, x.cc, x.cl⟩
theorem mat_rm {W W' : World} {g b : Nat} {x : Mx} (h : MAt W g x) (m : Rm b W W') (hgb : g ≠ b) : MAt W' g x := (m.keep g (Array.getElem?_eq_some_iff.1 h).1 hgb).trans h
theorem MRd.rm {W W' : World} {B g b : Nat} {x : Mx} (h : MRd W B g x) (m : Rm b W W') (hb : b < B) (hgb : g ≠ b) : MRd W' B g x :=
  ⟨mat_rm h.lies m hgb, h.dig, h.pa, h.tx, h.ctx.rmR m (fun D hD => by have := h.cnew D hD; omega), h.cc, h.cnew, h.rows.rm m hb, h.off⟩
theorem MRd.gr {W W' : World} {B g : Nat} {x : Mx} (h : MRd W B g x) (k : Gr W W') : MRd W' B g x :=
  ⟨mat_gr h.lies k, h.dig, h.pa, h.tx, h.ctx.gr k, h.cc, h.cnew, h.rows.gr k, h.off⟩
theorem MRd.ok {W : World} {B g : Nat} {x : Mx} (h : MRd W B g x) : MxOk W x := by
  refine ⟨h.dig, h.ctx, ?_, h.pa, h.tx⟩
  obtain ⟨A, c, e, _, k⟩ := h.rows.rows
  cases e
  exact k
theorem rm_set (g o : Nat) (u : Value) (W : World) : Rm g W (W.setCell ⟨g, o, none⟩ u) := (Rm.refl g W).setCell o u
/-- what has no address is turned -/
theorem MRd.turn {W W' : World} {B g : Nat} {x y : Mx} (h : MRd W B g x) (m : Rm g W W') (hg : g < B) (hy : MAt W' g y) (hd : y.R.length = 32) (hp : y.Pa.size ≤ 9223372036854775807) (ht : y.Tx.size ≤ 9223372036854775807)
    (h1 : y.cA = x.cA) (h2 : y.cl = x.cl) (h3 : y.cc = x.cc) (h4 : y.rA = x.rA) (h5 : y.rs = x.rs) (h6 : y.rc = x.rc) : MRd W' B g y :=
  ⟨hy, hd, hp, ht, by rw [h1, h2]; exact h.ctx.rmR m (fun D hD => by have := h.cnew D hD; omega), by rw [h2, h3]; exact h.cc, by rw [h1]; exact h.cnew, by rw [h4, h5, h6]; exact h.rows.rm m hg, by rw [h4, h1, h2, h3]; exact h.off⟩
end Go.Proofs.YtfobnemocodomaaGreat
