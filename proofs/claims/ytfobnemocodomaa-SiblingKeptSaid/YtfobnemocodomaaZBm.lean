/- Joined texts: WldW WldX OpenX. -/
import Derived.Test.YtfobnemocodomaaZBj
import Derived.Test.YtfobnemocodomaaZBp
import Derived.Test.YtfobnemocodomaaZBa
import Derived.Lib.ReflectliteSwap
import Derived.Test.YtfobnemocodomaaZBl
set_option linter.unusedVariables false
set_option linter.unusedSimpArgs false
set_option maxHeartbeats 1000000
namespace Go.Proofs.Ytfobnemocodomaa
open Go.RowKit Go.Great

/-- the last operation of a region, a store of one cell -/
theorem anyT_store1 {P : Program} {ops : Array Oper} {Q : Exit → Act → World → Prop} {md : Region.Mode} {S : World → Prop} {s : Nat} {o : Oper} {f : Nat} {listed : Array Bool} {a : Act} {w : World} (ty : TypeId) (ie : TypeInfo) (x y : Operand) (hr : Region.ready md ops listed = [s]) (hr' : Region.ready md ops (listed.setIfInBounds s true) = []) (ho : ops[s]? = some o) (hg : o.guard = none) (hd : o.dst = none)
    (hop : o.op = .store ty x y) (p : Addr) (v old : Value) (hx : a.eval x = .pointer (some p)) (hy : a.eval y = v) (hie : P.info? ty = some ie) (hs : ie.size = 1) (h1 : v.oneCell' = true) (hc : w.cell? p = some old) (hf : w.frozen? p = false)
    (h : Q .normal a (w.setCell p v)) : anyT P md ops Q s S (f + 1) listed a w := by
  refine anyT_one hr ho hg ?_
  unfold Oper.wp execOp
  simp only [hop, hx, hy, Instr.storeAt, Instr.sureAddr, Sem.run_bind, Sem.run_pure, Result.andThen_ok, Lib.rl_storeVar_one (P := P) ty ie hie hs p v old h1 w hc hf]
  have key : (s ≠ s → S (w.setCell p v)) ∧ anyT P md ops Q s S f (listed.setIfInBounds s true) (a.put o.dst undef) (w.setCell p v) := by
    rw [hd]
    exact ⟨fun h0 => absurd rfl h0, anyT_done hr' h f⟩
  exact key
theorem gr_grown {a b c : World} {g0 : Option Nat} (h : Gr a b) (k : b.grownBy c g0) (hg : ∀ g, g0 = some g → a.heap.size ≤ g) : Gr a c :=
  ⟨k.os.trans h.os, k.tape.trans h.tape, k.output.trans h.output, Nat.le_trans h.size k.size, fun b' hb => (k.block b' (by have := h.size; omega) (fun e => by have := hg b' e.symm; omega)).trans (h.block b' hb)⟩
theorem addB (a : Addr) (n : Nat) : (a.add n).block = a.block := by unfold Addr.add; split <;> rfl
theorem off_cell {W W' : World} {g : Nat} (k : W.grownBy W' (some g)) {p : Addr} (hp : p.block ≠ g) {v : Value} (h : W.cell? p = some v) : W'.cell? p = some v := by
  have hb := k.block p.block (World.block_lt_of_cell? W p h) (by intro e; exact hp (Option.some.inj e))
  rw [← h]; simp only [World.cell?, hb]
def OffX (g : Nat) (x : Vx) : Prop := x.pl ≠ [] → ∀ D, x.A = some D → D.block ≠ g
def OffR (g : Nat) (A : Option Addr) (l : List Vx) : Prop := (l ≠ [] → ∀ D, A = some D → D.block ≠ g) ∧ ∀ x ∈ l, OffX g x
theorem NewV.off {N g : Nat} {A : Option Addr} {l : List Vx} (h : NewV N A l) (k : g < N) : OffR g A l :=
  ⟨fun _ D hD => by have := h.1 D hD; omega, fun x hx _ D hD => by have := h.2 x hx D hD; omega⟩
theorem VxOk.by {W W' : World} {g : Nat} {x : Vx} (h : VxOk W x) (k : W.grownBy W' (some g)) (o : OffX g x) : VxOk W' x :=
  ⟨⟨h.1.1, fun i hi => by
    obtain ⟨ad, e, a, b⟩ := h.1.2 i hi
    have hne : ad.block ≠ g := o (by intro e0; rw [e0] at hi; simp at hi) ad e
    exact ⟨ad, e, off_cell k (by rw [addB]; exact hne) a, off_cell k (by show (ad.add (i * 2)).block ≠ g; rw [addB]; exact hne) b⟩⟩, h.2⟩
theorem Vers.by {W W' : World} {g : Nat} {A : Option Addr} {l : List Vx} (h : Vers W A l) (k : W.grownBy W' (some g)) (o : OffR g A l) : Vers W' A l :=
  ⟨h.1, fun i hi => by
    obtain ⟨ad, e, a, b⟩ := h.2 i hi
    have hne : ad.block ≠ g := o.1 (by intro e0; rw [e0] at hi; simp at hi) ad e
    exact ⟨ad, e, a.by k (o.2 _ (List.getElem_mem hi)), fun j v hj => off_cell k (by rw [addB, addB]; exact hne) (b j v hj)⟩⟩
theorem VxOk.offNew {W : World} {g : Nat} {x : Vx} (h : VxOk W x) (k : W.heap.size ≤ g) : OffX g x := fun hp D hD => by
  have h0 : 0 < x.pl.length := List.length_pos_iff.2 hp
  obtain ⟨ad, e, a, _⟩ := h.1.2 0 h0
  rw [hD] at e; cases e
  have := World.block_lt_of_cell? W _ a
  rw [addB] at this
  omega
theorem Vers.offNew {W : World} {g : Nat} {A : Option Addr} {l : List Vx} (h : Vers W A l) (k : W.heap.size ≤ g) : OffR g A l := by
  refine ⟨fun hl D hD => ?_, fun x hx => ?_⟩
  · have h0 : 0 < l.length := List.length_pos_iff.2 hl
    obtain ⟨ad, e, _, b⟩ := h.2 0 h0
    rw [hD] at e; cases e
    have := World.block_lt_of_cell? W _ (b 0 (.int .i64 l[0].P) rfl)
    rw [addB, addB] at this
    omega
  · obtain ⟨i, hi, rfl⟩ := List.getElem_of_mem hx
    obtain ⟨_, _, a, _⟩ := h.2 i hi
    exact a.offNew k
abbrev Z3s : Array Value := #[.slice none 0 0, .slice none 0 0, .slice none 0 0]
/-- the three leaves, the three counts, all that was written -/
structure WS (s : Nat) (lf : Nat → List Vx) (n : Nat → Int) (al : List Vx) (v : Value) (As : Nat → Option Addr) (cs : Nat → Nat) (W : World) : Prop where
  rb : W.heap[s]? = some (.cells Z3s 61 (0, 0))
  lb : ∃ Lc : Array Value, W.heap[s + 1]? = some (.cells Lc 61 (0, 0)) ∧ ∀ p, p < 3 → Lc[p]? = some (.slice (As p) (lf p).length (cs p))
  nb : ∃ Nc : Array Value, W.heap[s + 2]? = some (.cells Nc 116 (0, 0)) ∧ ∀ p, p < 3 → Nc[p]? = some (.int .i64 (n p))
  made : ∀ p, p < 3 → Made1 W (As p) (cs p) (lf p) ∧ NewV (s + 3) (As p) (lf p)
  alo : vsOk W al ∧ ∀ x ∈ al, x.pl.length ≤ x.pc ∧ ∀ D, x.A = some D → s + 3 ≤ D.block
  own : (v = .slice none 0 0 ∧ al = []) ∨ ∃ g, s + 3 ≤ g ∧ OwnG 49 5 W g v al.length (vCells al) ∧ (∀ p, p < 3 → OffR g (As p) (lf p)) ∧ ∀ x ∈ al, OffX g x
section
variable {s : Nat} {lf : Nat → List Vx} {n : Nat → Int} {al : List Vx} {v : Value} {As : Nat → Option Addr} {cs : Nat → Nat} {W W' : World}
theorem WS.lt (h : WS s lf n al v As cs W) : s + 2 < W.heap.size := by obtain ⟨_, e, _⟩ := h.nb; exact (Array.getElem?_eq_some_iff.1 e).1
theorem WS.gr (h : WS s lf n al v As cs W) (k : Gr W W') : WS s lf n al v As cs W' := by
  have hl := h.lt
  obtain ⟨Lc, e1, e2⟩ := h.lb
  obtain ⟨Nc, f1, f2⟩ := h.nb
  refine ⟨(k.block s (by omega)).trans h.rb, ⟨Lc, (k.block _ (by omega)).trans e1, e2⟩, ⟨Nc, (k.block _ (by omega)).trans f1, f2⟩, fun p hp => ⟨⟨(h.made p hp).1.1.gr k, (h.made p hp).1.2⟩, (h.made p hp).2⟩, ⟨h.alo.1.gr k, h.alo.2⟩, ?_⟩
  rcases h.own with o | ⟨g, o1, o2, o3⟩
  · exact Or.inl o
  · exact Or.inr ⟨g, o1, o2.gr k, o3⟩
theorem WS.leaf (h : WS s lf n al v As cs W) {p : Nat} (hp : p < 3) : W.cell? ⟨s + 1, p, none⟩ = some (.slice (As p) (lf p).length (cs p)) ∧ W.frozen? ⟨s + 1, p, none⟩ = false := by
  obtain ⟨Lc, e1, e2⟩ := h.lb
  exact ⟨by simp only [World.cell?, e1]; exact e2 p hp, by simp [World.frozen?, e1]⟩
theorem WS.num (h : WS s lf n al v As cs W) {p : Nat} (hp : p < 3) : W.cell? ⟨s + 2, p, none⟩ = some (.int .i64 (n p)) ∧ W.frozen? ⟨s + 2, p, none⟩ = false := by
  obtain ⟨Lc, e1, e2⟩ := h.nb
  exact ⟨by simp only [World.cell?, e1]; exact e2 p hp, by simp [World.frozen?, e1]⟩
theorem WS.glt (h : WS s lf n al v As cs W) {g m c : Nat} (e : v = .slice (some ⟨g, 0, none⟩) m c) : g < W.heap.size := by
  rcases h.own with ⟨o, _⟩ | ⟨g', _, o2, _⟩
  · rw [e] at o; cases o
  · obtain ⟨c', hv, _⟩ := o2.shape
    rw [e] at hv; cases hv
    exact o2.lt
theorem one_grown (W : World) (b o : Nat) (u : Value) : W.grownBy (W.setCell ⟨b, o, none⟩ u) (some b) := rg_grown b o [u] W
theorem upd_at {α : Type} (f : Nat → α) (p : Nat) (x : α) (q : Nat) : upd f p x q = if q = p then x else f q := rfl
theorem set_get {Lc : Array Value} {f : Nat → Value} (h : ∀ q, q < 3 → Lc[q]? = some (f q)) {p : Nat} (hp : p < 3) (u : Value) : ∀ q, q < 3 → (Lc.setIfInBounds p u)[q]? = some (if q = p then u else f q) := by
  intro q hq
  have hl : 2 < Lc.size := (Array.getElem?_eq_some_iff.1 (h 2 (by omega))).1
  rw [Array.getElem?_setIfInBounds]
  by_cases e : p = q
  · subst e; rw [if_pos rfl, if_pos (by omega), if_pos rfl]
  · rw [if_neg e, if_neg (by omega)]; exact h q hq
theorem WS.setN (h : WS s lf n al v As cs W) {p : Nat} (hp : p < 3) (x : Int) : WS s lf (upd n p x) al v As cs (W.setCell ⟨s + 2, p, none⟩ (.int .i64 x)) := by
  obtain ⟨Lc, e1, e2⟩ := h.lb
  obtain ⟨Nc, f1, f2⟩ := h.nb
  have k := one_grown W (s + 2) p (.int .i64 x)
  have hl := h.lt
  refine ⟨(k.block s (by omega) (by simp)).trans h.rb, ⟨Lc, (k.block _ (by omega) (by simp)).trans e1, e2⟩, ⟨_, rg_set_same f1 _, fun q hq => ?_⟩, fun q hq => ?_, ⟨fun x hx => (h.alo.1 x hx).by k (fun _ D hD => by have := (h.alo.2 x hx).2 D hD; omega), h.alo.2⟩, ?_⟩
  · rw [set_get f2 hp _ q hq, upd_at]; split <;> rfl
  · have m := h.made q hq
    exact ⟨⟨m.1.1.by k (m.2.off (by omega)), m.1.2⟩, m.2⟩
  · rcases h.own with o | ⟨g, o1, o2, o3⟩
    · exact Or.inl o
    · exact Or.inr ⟨g, o1, o2.by k (fun e => by have := Option.some.inj e; omega), o3⟩
/-- a leaf is another one: its row lies apart from that of all -/
theorem WS.setL (h : WS s lf n al v As cs W) {p : Nat} (hp : p < 3) {A : Option Addr} {c : Nat} {l : List Vx} (hm : Made1 W A c l) (hn : NewV (s + 3) A l)
    (ho : ∀ g, OwnG 49 5 W g v al.length (vCells al) → (∀ q, q < 3 → OffR g (As q) (lf q)) → OffR g A l) : WS s (upd lf p l) n al v (upd As p A) (upd cs p c) (W.setCell ⟨s + 1, p, none⟩ (.slice A l.length c)) := by
  obtain ⟨Lc, e1, e2⟩ := h.lb
  obtain ⟨Nc, f1, f2⟩ := h.nb
  have k := one_grown W (s + 1) p (.slice A l.length c)
  have hl := h.lt
  refine ⟨(k.block s (by omega) (by simp)).trans h.rb, ⟨_, rg_set_same e1 _, fun q hq => ?_⟩, ⟨Nc, (k.block _ (by omega) (by simp)).trans f1, f2⟩, fun q hq => ?_, ⟨fun x hx => (h.alo.1 x hx).by k (fun _ D hD => by have := (h.alo.2 x hx).2 D hD; omega), h.alo.2⟩, ?_⟩
  · rw [set_get (f := fun q => .slice (As q) (lf q).length (cs q)) e2 hp _ q hq, upd_at, upd_at, upd_at]; split <;> rfl
  · rw [upd_at, upd_at, upd_at]
    by_cases e : q = p
    · rw [if_pos e, if_pos e, if_pos e]
      exact ⟨⟨hm.1.by k (hn.off (by omega)), hm.2⟩, hn⟩
    · rw [if_neg e, if_neg e, if_neg e]
      have m := h.made q hq
      exact ⟨⟨m.1.1.by k (m.2.off (by omega)), m.1.2⟩, m.2⟩
  · rcases h.own with o | ⟨g, o1, o2, o3, o4⟩
    · exact Or.inl o
    · refine Or.inr ⟨g, o1, o2.by k (fun e => by have := Option.some.inj e; omega), fun q hq => ?_, o4⟩
      rw [upd_at, upd_at]
      by_cases e : q = p
      · rw [if_pos e, if_pos e]; exact ho g o2 o3
      · rw [if_neg e, if_neg e]; exact o3 q hq
/-- a version more was written -/
theorem WS.app (h : WS s lf n al v As cs W) {x : Vx} (hx : VxOk W x) (hxc : x.pl.length ≤ x.pc) (hxn : ∀ D, x.A = some D → s + 3 ≤ D.block) {g0 : Option Nat} {g' : Nat} {v' : Value}
    (k : W.grownBy W' g0) (hg0 : ∀ g, g0 = some g → s + 3 ≤ g ∧ OwnG 49 5 W g v al.length (vCells al) ∧ (∀ q, q < 3 → OffR g (As q) (lf q)) ∧ (∀ y ∈ al, OffX g y) ∧ OffX g x)
    (ho : OwnG 49 5 W' g' v' (al.length + 1) (vCells al ++ x.cells.toList)) (hg' : g0 = some g' ∨ W.heap.size ≤ g') : WS s lf n (al ++ [x]) v' As cs W' := by
  obtain ⟨Lc, e1, e2⟩ := h.lb
  obtain ⟨Nc, f1, f2⟩ := h.nb
  have hl := h.lt
  have hs' : s + 3 ≤ g' := by
    rcases hg' with e | e
    · exact (hg0 g' e).1
    · omega
  have kb : ∀ b, b < s + 3 → W'.heap[b]? = W.heap[b]? := fun b hb => k.block b (by omega) (fun e => by have := (hg0 b e.symm).1; omega)
  have kv : ∀ y, VxOk W y → (∀ g, g0 = some g → OffX g y) → VxOk W' y := fun y hy hoff => by
    cases g0 with
    | none => exact hy.gr ⟨k.os, k.tape, k.output, k.size, fun b hb => k.block b hb (by simp)⟩
    | some g => exact hy.by k (hoff g rfl)
  have kr : ∀ A l, Vers W A l → (∀ g, g0 = some g → OffR g A l) → Vers W' A l := fun A l hy hoff => by
    cases g0 with
    | none => exact hy.gr ⟨k.os, k.tape, k.output, k.size, fun b hb => k.block b hb (by simp)⟩
    | some g => exact hy.by k (hoff g rfl)
  refine ⟨(kb s (by omega)).trans h.rb, ⟨Lc, (kb _ (by omega)).trans e1, e2⟩, ⟨Nc, (kb _ (by omega)).trans f1, f2⟩, fun q hq => ?_, ⟨fun y hy => ?_, fun y hy => ?_⟩, Or.inr ⟨g', hs', ?_, fun q hq => ?_, fun y hy => ?_⟩⟩
  · have m := h.made q hq
    exact ⟨⟨kr _ _ m.1.1 (fun g e => (hg0 g e).2.2.1 q hq), m.1.2⟩, m.2⟩
  · rcases List.mem_append.1 hy with hy | hy
    · exact kv y (h.alo.1 y hy) (fun g e => (hg0 g e).2.2.2.1 y hy)
    · simp at hy; subst hy; exact kv y hx (fun g e => (hg0 g e).2.2.2.2)
  · rcases List.mem_append.1 hy with hy | hy
    · exact h.alo.2 y hy
    · simp at hy; subst hy; exact ⟨hxc, hxn⟩
  · rw [vCells_app, List.length_append, List.length_singleton]
    have : vCells [x] = x.cells.toList := by simp [vCells]
    rw [this]; exact ho
  · rcases hg' with e | e
    · exact (hg0 g' e).2.2.1 q hq
    · exact (h.made q hq).1.1.offNew e
  · rcases hg' with e | e
    · rcases List.mem_append.1 hy with hy | hy
      · exact (hg0 g' e).2.2.2.1 y hy
      · simp at hy; subst hy; exact (hg0 g' e).2.2.2.2
    · rcases List.mem_append.1 hy with hy | hy
      · exact (h.alo.1 y hy).offNew e
      · simp at hy; subst hy; exact hx.offNew e
/-- what is handed back -/
theorem WS.res (h : WS s lf n al v As cs W) (k : W.grownBy W' (some s)) : (∀ p, p < 3 → Made1 W' (As p) (cs p) (lf p)) ∧ ∃ B c, v = .slice B al.length c ∧ Vers W' B al := by
  refine ⟨fun p hp => ⟨(h.made p hp).1.1.by k ((h.made p hp).2.off (by omega)), (h.made p hp).1.2⟩, ?_⟩
  have ho : OwnV W' (s + 3) v al := by
    rcases h.own with o | ⟨g, o1, o2, _⟩
    · exact Or.inl o
    · exact Or.inr ⟨g, o1, o2.by k (fun e => by have := Option.some.inj e; omega)⟩
  obtain ⟨B, c, e, _, hv⟩ := ho.vers (fun x hx => (h.alo.1 x hx).by k (fun _ D hD => by have := (h.alo.2 x hx).2 D hD; omega))
  exact ⟨B, c, e, hv⟩
theorem ups_lenN : ∀ (l : List Vx) (lo hi : Int), Ups l → (∀ x ∈ l, lo ≤ x.P ∧ x.P < hi) → lo ≤ hi → (l.length : Int) ≤ hi - lo
  | [], lo, hi, _, _, h => by simp; omega
  | x :: r, lo, hi, hu, hb, h => by
    have hx := hb x (by simp)
    have hu' := List.pairwise_cons.1 hu
    have := ups_lenN r (x.P + 1) hi hu'.2 (fun y hy => ⟨by have := hu'.1 y hy; omega, (hb y (List.mem_cons_of_mem _ hy)).2⟩) (by omega)
    simp only [List.length_cons]; omega
end
theorem lfl_len {lf : Nat → List Vx} {n : Nat → Int} {al : List Vx} (h : Wld lf n al) {a : List Vx} (ha : Lfl al a) : a.length ≤ 3 := by
  have := ups_lenN a 0 3 ha.ups (fun x hx => by have := h.dot x (ha.sub x hx); omega) (by decide)
  omega
end Go.Proofs.Ytfobnemocodomaa
set_option linter.unusedVariables false
set_option linter.unusedSimpArgs false
set_option maxHeartbeats 2000000
namespace Go.Proofs.Ytfobnemocodomaa
open Go.RowKit Go.Great

structure Stp where
  K : Int
  P : Int
  Q : Int
  N : Int
/-- steps in a row -/
def Stps (w : World) (A : Option Addr) (l : List Stp) : Prop :=
  l.length ≤ 9223372036854775807 ∧ ∀ i (h : i < l.length), ∃ ad, A = some ad ∧ w.cell? (ad.add (i * 4)) = some (.int .i64 l[i].K) ∧
    w.cell? ⟨(ad.add (i * 4)).block, (ad.add (i * 4)).off + 1, none⟩ = some (.int .i64 l[i].P) ∧ w.cell? ⟨(ad.add (i * 4)).block, (ad.add (i * 4)).off + 2, none⟩ = some (.int .i64 l[i].Q) ∧ w.cell? ⟨(ad.add (i * 4)).block, (ad.add (i * 4)).off + 3, none⟩ = some (.int .i64 l[i].N)
theorem Stps.gr {w w' : World} {A : Option Addr} {l : List Stp} (h : Stps w A l) (g : Gr w w') : Stps w' A l :=
  ⟨h.1, fun i hi => let ⟨ad, e, a, b, c, d⟩ := h.2 i hi; ⟨ad, e, g.cell a, g.cell b, g.cell c, g.cell d⟩⟩
theorem mod8 (x : Int) : 0 ≤ (IntKind.u64.wrap x).tmod 8 ∧ (IntKind.u64.wrap x).tmod 8 ≤ 8 := by
  have h : 0 ≤ IntKind.u64.wrap x := by rw [IntKind.wrap_u64]; omega
  have h2 : (IntKind.u64.wrap x).tmod 8 < 8 := Int.tmod_lt_of_pos _ (by decide)
  exact ⟨Int.tmod_nonneg _ h, by omega⟩
abbrev abc8 : ByteArray := ⟨#[97, 98, 99, 100, 101, 102, 103, 104]⟩
theorem abc8_sz (a : Nat) : (abc8.extract a 8).size ≤ 48 := by
  rw [ByteArray.size_extract]
  have : abc8.size = 8 := rfl
  omega
theorem mod3 (x : Int) : ∃ p : Nat, p < 3 ∧ wrap64 ((IntKind.u64.wrap x).tmod 3) = p := by
  have h : 0 ≤ IntKind.u64.wrap x := by rw [IntKind.wrap_u64]; omega
  have h1 : 0 ≤ (IntKind.u64.wrap x).tmod 3 := Int.tmod_nonneg _ h
  have h2 : (IntKind.u64.wrap x).tmod 3 < 3 := Int.tmod_lt_of_pos _ (by decide)
  refine ⟨((IntKind.u64.wrap x).tmod 3).toNat, by omega, ?_⟩
  unfold wrap64; omega
theorem wr_zero {l : List Vx} {P C : Int} {T : ByteArray} {res : List Vx} (h : WrR l P C T 0 res) : ∃ A c, res = [⟨P, C, A, covL l, c, false, T⟩] := by
  rcases h with ⟨h1, h2, _⟩ | ⟨_, _, h2, _⟩ | ⟨_, _, h3⟩
  · exact absurd h2.symm h1
  · cases h2
  · rcases h3 with ⟨_, h5, _⟩ | ⟨_, _, A, c, h6, _⟩
    · cases h5
    · exact ⟨A, c, h6⟩
theorem er_zero {l : List Vx} {P C : Int} {res : List Vx} (h : ErR l P C 0 res) : ∃ A c, res = [⟨P, C, A, covL l, c, true, ⟨#[]⟩⟩] := by
  rcases h with ⟨h1, h2, _⟩ | ⟨_, _, h2, _⟩ | ⟨_, _, h3⟩
  · exact absurd h2.symm h1
  · cases h2
  · rcases h3 with ⟨_, h5, _⟩ | ⟨_, _, A, c, h6, _⟩
    · cases h5
    · exact ⟨A, c, h6⟩
theorem upd_le {n : Nat → Int} {k : Nat} (h : ∀ p, n p ≤ (k : Int)) (p : Nat) {x : Int} (hx : x ≤ (k : Int) + 1) : ∀ q, upd n p x q ≤ ((k + 1 : Nat) : Int) := fun q => by
  rw [upd_at]; split
  · omega
  · have := h q; omega
/-- what is behind a write or a deletion that went well -/
structure Wrote (l : List Vx) (P C : Int) (res : List Vx) (D : Bool) (T : ByteArray) : Prop where
  eq : ∃ A c, res = [⟨P, C, A, covL l, c, D, T⟩]
  sz : T.size ≤ 48
  dead : ¬ (D = true ∧ T ≠ ⟨#[]⟩)
abbrev Z3i : Array Value := #[.int .i64 0, .int .i64 0, .int .i64 0]
theorem WS.start (w : World) : WS w.heap.size (fun _ => []) (fun _ => 0) [] (.slice none 0 0) (fun _ => none) (fun _ => 0) (((w.alloc (.cells Z3s 61)).alloc (.cells Z3s 61)).alloc (.cells Z3i 116)) := by
  refine ⟨?_, ⟨Z3s, ?_, fun p hp => ?_⟩, ⟨Z3i, ?_, fun p hp => ?_⟩, fun p hp => ⟨made_nil _, NewV.nil _⟩, ⟨fun x hx => by simp at hx, fun x hx => by simp at hx⟩, Or.inl ⟨rfl, rfl⟩⟩
  · have h1 := World.alloc_heap_new w (.cells Z3s 61)
    have g1 : Gr (w.alloc (.cells Z3s 61)) (((w.alloc (.cells Z3s 61)).alloc (.cells Z3s 61)).alloc (.cells Z3i 116)) := ((Gr.rfl' _).al _).al _
    exact (g1.block _ (by simp)).trans h1
  · have h1 := World.alloc_heap_new (w.alloc (.cells Z3s 61)) (.cells Z3s 61)
    have g1 : Gr ((w.alloc (.cells Z3s 61)).alloc (.cells Z3s 61)) (((w.alloc (.cells Z3s 61)).alloc (.cells Z3s 61)).alloc (.cells Z3i 116)) := (Gr.rfl' _).al _
    have e : (w.alloc (.cells Z3s 61)).heap.size = w.heap.size + 1 := by simp
    rw [e] at h1
    exact (g1.block _ (by simp)).trans h1
  · rcases (by omega : p = 0 ∨ p = 1 ∨ p = 2) with rfl | rfl | rfl <;> rfl
  · have h1 := World.alloc_heap_new ((w.alloc (.cells Z3s 61)).alloc (.cells Z3s 61)) (.cells Z3i 116)
    have e : ((w.alloc (.cells Z3s 61)).alloc (.cells Z3s 61)).heap.size = w.heap.size + 2 := by simp
    rw [e] at h1
    exact h1
  · rcases (by omega : p = 0 ∨ p = 1 ∨ p = 2) with rfl | rfl | rfl <;> rfl
set_option maxRecDepth 100000 in
theorem world_any (A : Option Addr) (cap : Nat) (l : List Stp) (w : World) (h : Stps w A l) :
    Calls Try.prog 55 #[.slice A l.length cap] w fun r w' => (∃ (lf : Nat → List Vx) (n : Nat → Int) (al : List Vx) (As : Nat → Option Addr) (cs : Nat → Nat) (v : Value), r = .returned (.tuple #[.agg #[.slice (As 0) (lf 0).length (cs 0), .slice (As 1) (lf 1).length (cs 1), .slice (As 2) (lf 2).length (cs 2)], v]) ∧
      Wld lf n al ∧ (∀ p, p < 3 → Made1 w' (As p) (cs p) (lf p)) ∧ al.length ≤ 40 ∧ ∃ B c, v = .slice B al.length c ∧ Vers w' B al) ∧ Gr w w' := by
  have H := Lib.hid h; clear h
  have HW0 := Lib.hid (WS.start w)
  have HG0 : Hid (Gr w (((w.alloc (.cells Z3s 61)).alloc (.cells Z3s 61)).alloc (.cells Z3i 116))) := Lib.hid ((((Gr.rfl' w).al _).al _).al _)
  obtain ⟨i0, hi, hz0, hzs, hz2⟩ := info_parts infoV
  go_enter Try.func55, Try.ntmps55
  go_upto_region 5 with (fail)
  obtain ⟨s, hs⟩ : ∃ s, w.heap.size = s := ⟨_, rfl⟩
  rw [hs] at HW0 ⊢
  rw [show s + 1 + 1 = s + 2 from rfl]
  generalize (((w.alloc (.cells Z3s 61)).alloc (.cells Z3s 61)).alloc (.cells Z3i 116)) = W0 at HW0 HG0 ⊢
  have HSW := Lib.hid hs
  clear hs
  go_loopw [6, 7] (fun v i wr => ∃ (k : Nat) (lf : Nat → List Vx) (n : Nat → Int) (al : List Vx) (As : Nat → Option Addr) (cs : Nat → Nat), k ≤ l.length ∧ k ≤ 40 ∧ i = .int .i64 k ∧ Hid (WS s lf n al v As cs wr) ∧ Hid (Wld lf n al) ∧ Hid ((∀ p, n p ≤ k) ∧ al.length ≤ k) ∧ Hid (Gr w wr)) (fun _ i _ => l.length - (intOf i).toNat)
  case atStart => exact ⟨0, fun _ => [], fun _ => 0, [], fun _ => none, fun _ => 0, Nat.zero_le _, by omega, rfl, HW0, Lib.hid Wld.start, Lib.hid ⟨fun _ => Int.le_refl _, Nat.le_refl _⟩, HG0⟩
  case round =>
    clear HW0 HG0
    obtain ⟨k, lf, n, al, As, cs, hk, hk40, rfl, HW, HL, HN, HG⟩ := hrel
    by_cases hgo : k < l.length ∧ k < 40
    · obtain ⟨hlt, h40⟩ := hgo
      have hki : (k : Int) < l.length := by omega
      have hk4 : (k : Int) < 40 := by omega
      obtain ⟨ad, rfl, c0, c1, c2, c3⟩ := (H.out.gr HG.out).2 k hlt
      obtain ⟨x, hx⟩ : ∃ x, l[k] = x := ⟨_, rfl⟩
      rw [hx] at c0 c1 c2 c3
      clear hx
      obtain ⟨xK, xP, xQ, xN⟩ := x
      simp only at c0 c1 c2 c3
      go_upto_region 7 with (fail)
      refine wp_region_quiet_lit (by kernel_rfl) (by kernel_rfl) ?_
      repeat (first | go_big_quiet_step (fail) | quiet_step (fail))
      refine wpQuiet_nil ?_
      intro _ hw'
      obtain ⟨nq, hw''⟩ := hw'
      subst hw''
      obtain ⟨p, hp3, hpe⟩ := mod3 xP
      obtain ⟨q, hq3, hqe⟩ := mod3 xQ
      simp only [hpe, hqe]
      clear hpe hqe
      have GD : Hid (Gr wr (wr.drewN nq)) := Lib.hid ((Gr.rfl' wr).drN nq)
      have HW1 := Lib.hid (HW.out.gr GD.out)
      have HG1 := Lib.hid (HG.out.tr GD.out)
      generalize wr.drewN nq = w1 at HW1 HG1 GD ⊢
      have hcp := (HW1.out.num hp3).1
      have hn0 := HL.out.nn p
      have hn40 := HN.out.1 p
      obtain ⟨c, hc⟩ : ∃ c, n p = c := ⟨_, rfl⟩
      rw [hc] at hcp hn0 hn40
      have HC := Lib.hid hc
      have hpi : (p : Int) < 3 := by omega
      have hqi : (q : Int) < 3 := by omega
      have hc3' : w1.cell? { block := (ad.add (k * 4)).block, off := (ad.add (k * 4)).off + 3 } = some (Value.int IntKind.i64 xN) := GD.out.cell c3
      have hc0' : w1.cell? (ad.add (k * 4)) = some (Value.int IntKind.i64 xK) := GD.out.cell c0
      clear hc c0 c1 c2 c3
      have HNW := Lib.hid (World.alloc_heap_new w1 (.cells #[.int .i64 p, .int .i64 (c + 1)] 47))
      have GA : Hid (Gr w1 (w1.alloc (.cells #[.int .i64 p, .int .i64 (c + 1)] 47))) := Lib.hid ((Gr.rfl' w1).al _)
      go_upto_region 9 with (fail)
      obtain ⟨gd, hgd⟩ : ∃ g, w1.heap.size = g := ⟨_, rfl⟩
      rw [hgd] at HNW ⊢
      have HW2 := Lib.hid (HW1.out.gr GA.out)
      have HG2 := Lib.hid (HG1.out.tr GA.out)
      have c3 := GA.out.cell hc3'
      have c0 := GA.out.cell hc0'
      clear hc0' hc3' hcp HW1 HG1 HW HG GD hgd hn0 hn40
      generalize (w1.alloc (.cells #[.int .i64 p, .int .i64 (c + 1)] 47)) = w2 at HNW HW2 HG2 GA c0 c3 ⊢
      clear GA
      have hlp := (HW2.out.leaf hp3).1
      have hlq := (HW2.out.leaf hq3).1
      have hLX : ∀ w', Gr w2 w' → ∀ j v, (#[.int .i64 (p : Int), .int .i64 (c + 1)] : Array Value).toList[j]? = some v → w'.cell? ((⟨gd, 0, none⟩ : Addr).add j) = some v := fun w' g j v hj => by
        rw [add_mid', Nat.zero_add]
        refine g.cell ?_
        simp only [World.cell?, HNW.out]; simpa using hj
      have HLX := Lib.hid hLX
      clear hLX
      by_cases hK0 : xK = 0
      · have hKb : (xK == 0) = true := by simpa using hK0
        go_upto_region 14 with (fail)
        have hSS : Gr w2 w2.drew := (Gr.rfl' _).dr
        refine region_T 17 (fun w' => Gr w2 w') (by kernel_rfl) ?_
        refine anyT_take (i := 0) (v := ?_) (some 64) rfl rfl (by kernel_rfl) (fun _ _ _ h => h) (Or.inl ⟨by rfl, ?_⟩) hSS ?_
        rotate_left
        · intro w' hSw; go_simp; (try with_reducible rfl)
        simp only [Act.put, List.setIfInBounds_toArray, List.set_cons_zero, List.set_cons_succ]
        refine anyT_take (i := 1) (v := ?_) (some 65) rfl rfl (by kernel_rfl) (fun _ _ _ h => h) (Or.inl ⟨by rfl, ?_⟩) hSS ?_
        rotate_left
        · intro w' hSw; go_simp; (try with_reducible rfl)
        simp only [Act.put, List.setIfInBounds_toArray, List.set_cons_zero, List.set_cons_succ]
        refine anyT_take (i := 2) (v := ?_) (some 66) rfl rfl (by kernel_rfl) (fun _ _ _ h => h) (Or.inl ⟨by rfl, ?_⟩) hSS ?_
        rotate_left
        · intro w' hSw; have q0 := hSw.cell hlp; go_simp; (try with_reducible rfl)
        simp only [Act.put, List.setIfInBounds_toArray, List.set_cons_zero, List.set_cons_succ]
        refine anyT_take (i := 3) (some 67) rfl rfl (by kernel_rfl) (fun _ _ _ h => h) (yieldsIf_ld (by rfl) 47 (.tmp 10) rfl (⟨gd, 0, none⟩ : Addr) rfl (#[.int .i64 (p : Int), .int .i64 (c + 1)] : Array Value).toList _ (fun w' hSw => HLX.out w' hSw) Try.underlying47 rfl (by kernel_rfl)) hSS ?_
        simp only [Act.put, List.setIfInBounds_toArray, List.set_cons_zero, List.set_cons_succ]
        refine anyT_take (i := 4) (v := ?_) (some 68) rfl rfl (by kernel_rfl) (fun _ _ _ h => h) (Or.inl ⟨by rfl, ?_⟩) hSS ?_
        rotate_left
        · intro w' hSw; go_simp; (try with_reducible rfl)
        simp only [Act.put, List.setIfInBounds_toArray, List.set_cons_zero, List.set_cons_succ]
        refine anyT_take (i := 5) (v := ?_) (some 69) rfl rfl (by kernel_rfl) (fun _ _ _ h => h) (Or.inl ⟨by rfl, ?_⟩) hSS ?_
        rotate_left
        · intro w' hSw; go_simp; (try with_reducible rfl)
        simp only [Act.put, List.setIfInBounds_toArray, List.set_cons_zero, List.set_cons_succ]
        refine anyT_take (i := 6) (v := ?_) (some 70) rfl rfl (by kernel_rfl) (fun _ _ _ h => h) (Or.inl ⟨by rfl, ?_⟩) hSS ?_
        rotate_left
        · intro w' hSw; go_simp; (try with_reducible rfl)
        simp only [Act.put, List.setIfInBounds_toArray, List.set_cons_zero, List.set_cons_succ]
        refine anyT_take (i := 7) (v := ?_) (some 71) rfl rfl (by kernel_rfl) (fun _ _ _ h => h) (Or.inl ⟨by rfl, ?_⟩) hSS ?_
        rotate_left
        · intro w' hSw; go_simp; (try with_reducible rfl)
        simp only [Act.put, List.setIfInBounds_toArray, List.set_cons_zero, List.set_cons_succ]
        refine anyT_take (i := 8) (v := ?_) (some 72) rfl rfl (by kernel_rfl) (fun _ _ _ h => h) (Or.inl ⟨by rfl, ?_⟩) hSS ?_
        rotate_left
        · intro w' hSw; have q0 := hSw.cell c3; go_simp; (try with_reducible rfl)
        simp only [Act.put, List.setIfInBounds_toArray, List.set_cons_zero, List.set_cons_succ]
        refine anyT_take (i := 9) (v := ?_) (some 73) rfl rfl (by kernel_rfl) (fun _ _ _ h => h) (Or.inl ⟨by rfl, ?_⟩) hSS ?_
        rotate_left
        · intro w' hSw; go_simp; (try with_reducible rfl)
        simp only [Act.put, List.setIfInBounds_toArray, List.set_cons_zero, List.set_cons_succ]
        refine anyT_take (i := 10) (v := ?_) (some 74) rfl rfl (by kernel_rfl) (fun _ _ _ h => h) (Or.inl ⟨by rfl, ?_⟩) hSS ?_
        rotate_left
        · intro w' hSw; go_simp; (try with_reducible rfl)
        simp only [Act.put, List.setIfInBounds_toArray, List.set_cons_zero, List.set_cons_succ]
        have h8 := mod8 xN
        obtain ⟨T, hT⟩ : ∃ T, abc8.extract ((IntKind.u64.wrap xN).tmod 8).toNat 8 = T := ⟨_, rfl⟩
        have hTs : T.size ≤ 48 := by rw [← hT]; exact abc8_sz _
        refine anyT_take (i := 11) (v := .string T) (some 75) rfl rfl (by kernel_rfl) (fun _ _ _ h => h) (Or.inl ⟨by rfl, ?_⟩) hSS ?_
        · intro w' _
          go_simp
          try (first | rw [if_pos h8, hT] | rw [hT])
        simp only [Act.put, List.setIfInBounds_toArray, List.set_cons_zero, List.set_cons_succ]
        clear h8 hT
        refine anyT_callG (i := 12) (some 76) 51 #[.slice (As p) (lf p).length (cs p), .agg #[.int .i64 p, .int .i64 (c + 1)], .string T] (by kernel_rfl) rfl (by kernel_rfl) rfl (by kernel_rfl) ?_
        have hmd := (HW2.out.gr hSS).made p hp3
        refine (write1_fr (As p) (cs p) (lf p) p (c + 1) T _ hmd.1.1 hmd.1.2.2 (by omega)).mono ?_
        rintro r wd ⟨⟨e, res, B, cB, rfl, hwr, hmB, hnB⟩, hgd⟩
        have HWR := Lib.hid hwr
        have HMB := Lib.hid hmB
        have HNB := Lib.hid (hnB.lower hSS.size)
        replace hSS := hSS.tr hgd
        clear hwr hmB hnB hgd hmd
        refine ⟨_, rfl, fun _ => hSS, ?_⟩
        simp only [Act.put, List.setIfInBounds_toArray, List.set_cons_zero, List.set_cons_succ]
        refine anyT_take (i := 13) (v := ?_) (some 63) rfl rfl (by kernel_rfl) (fun _ _ _ h => h) (Or.inl ⟨by rfl, ?_⟩) hSS ?_
        rotate_left
        · intro w' hSw; go_simp; (try with_reducible rfl)
        simp only [Act.put, List.setIfInBounds_toArray, List.set_cons_zero, List.set_cons_succ]
        refine anyT_take (i := 14) (v := ?_) (some 77) rfl rfl (by kernel_rfl) (fun _ _ _ h => h) (Or.inl ⟨by rfl, ?_⟩) hSS ?_
        rotate_left
        · intro w' hSw; go_simp; (try with_reducible rfl)
        simp only [Act.put, List.setIfInBounds_toArray, List.set_cons_zero, List.set_cons_succ]
        refine anyT_take (i := 15) (v := ?_) (some 78) rfl rfl (by kernel_rfl) (fun _ _ _ h => h) (Or.inl ⟨by rfl, ?_⟩) hSS ?_
        rotate_left
        · intro w' hSw; go_simp; (try with_reducible rfl)
        simp only [Act.put, List.setIfInBounds_toArray, List.set_cons_zero, List.set_cons_succ]
        refine anyT_take (i := 16) (v := ?_) (some 11) rfl rfl (by kernel_rfl) (fun _ _ _ h => h) (Or.inl ⟨by rfl, ?_⟩) hSS ?_
        rotate_left
        · intro w' hSw; go_simp; (try with_reducible rfl)
        simp only [Act.put, List.setIfInBounds_toArray, List.set_cons_zero, List.set_cons_succ]
        refine anyT_last (some 12) (.int .i64 e) (by kernel_rfl) (by kernel_rfl) rfl (by kernel_rfl) rfl (by kernel_rfl) ?_
        simp only [Act.put, List.setIfInBounds_toArray, List.set_cons_zero, List.set_cons_succ]
        have HRES : Hid (e = 0 → ∃ D T', Wrote (lf p) p (c + 1) res D T') := Lib.hid (fun h0 => by
          subst h0
          exact ⟨false, T, wr_zero HWR.out, hTs, by simp⟩)
        clear HWR
        by_cases he : e = 0
        · subst he
          obtain ⟨D, T', hwro⟩ := HRES.out rfl
          obtain ⟨⟨A', c', rfl⟩, ht1, ht2⟩ := hwro
          obtain ⟨v, hv⟩ : ∃ v : Vx, (⟨p, c + 1, A', covL (lf p), c', D, T'⟩ : Vx) = v := ⟨_, rfl⟩
          have hv1 : v.P = (p : Int) := by rw [← hv]
          have hv2 : v.C = n p + 1 := by rw [← hv, HC.out]
          have hv3 : v.pl = covL (lf p) := by rw [← hv]
          have hv4 : v.T.size ≤ 48 := by rw [← hv]; exact ht1
          have hv5 : ¬ (v.D = true ∧ v.T ≠ ⟨#[]⟩) := by rw [← hv]; exact ht2
          have hcn := HC.out
          have hn40 := HN.out.1 p
          rw [hcn] at hn40
          have HLW := Lib.hid (HL.out.write hp3 hv1 hv2 hv3 hv4 hv5 (by omega))
          rw [hv] at HMB HNB ⊢
          rw [hcn] at HLW
          clear hv1 hv2 hv3 hv4 hv5 ht1 ht2 hv hcn HRES
          have HWD := Lib.hid (HW2.out.gr hSS)
          have HGD := Lib.hid (HG2.out.tr hSS)
          obtain ⟨d0, f0⟩ := HWD.out.num hp3
          rw [HC.out] at d0
          obtain ⟨adB, rfl, hvok, hvc⟩ := HMB.out.1.2 0 (by simp)
          have hn0 := HL.out.nn p
          rw [HC.out] at hn0
          clear hlp hlq c0 c3
          go_upto_region 19 with (fail)
          have HW3 := Lib.hid (HWD.out.setN hp3 (c + 1))
          have HG3 := Lib.hid (HGD.out.set (p := ⟨s + 2, p, none⟩) (by have := HSW.out; show w.heap.size ≤ s + 2; omega) (.int .i64 (c + 1)))
          have HGO : Hid (wd.grownBy (wd.setCell ⟨s + 2, p, none⟩ (.int .i64 (c + 1))) (some (s + 2))) := Lib.hid (one_grown _ _ _ _)
          have HSL := Lib.hid (HW2.out.lt)
          have HM3 : Hid (Made1 (wd.setCell ⟨s + 2, p, none⟩ (.int .i64 (c + 1))) (some adB) cB [v]) := Lib.hid ⟨HMB.out.1.by HGO.out (HNB.out.off HSL.out), HMB.out.2⟩
          generalize wd.setCell ⟨s + 2, p, none⟩ (.int .i64 (c + 1)) = W3 at HW3 HG3 HM3 HGO ⊢
          have HW4 := Lib.hid (HW3.out.setL hp3 (A := some adB) (c := cB) (l := [v]) HM3.out (HNB.out.lower (by have := HSL.out; omega)) (fun g o _ => by
            obtain ⟨cq, hq, _⟩ := o.shape
            exact HNB.out.off (HW2.out.glt hq)))
          obtain ⟨e0, g0⟩ := HW3.out.leaf hp3
          have HG4 := Lib.hid (HG3.out.set (p := ⟨s + 1, p, none⟩) (by have := HSW.out; show w.heap.size ≤ s + 1; omega) (.slice (some adB) 1 cB))
          have HGP : Hid (W3.grownBy (W3.setCell ⟨s + 1, p, none⟩ (.slice (some adB) 1 cB)) (some (s + 1))) := Lib.hid (one_grown _ _ _ _)
          have HM4 : Hid (Made1 (W3.setCell ⟨s + 1, p, none⟩ (.slice (some adB) 1 cB)) (some adB) cB [v]) := Lib.hid ⟨HM3.out.1.by HGP.out (HNB.out.off (by have := HSL.out; omega)), HM3.out.2⟩
          clear d0 f0 hvok hvc
          go_upto_region 20 with (fail)
          have HW4' : Hid (WS s (upd lf p [v]) (upd n p (c + 1)) al _ (upd As p (some adB)) (upd cs p cB) (W3.setCell ⟨s + 1, p, none⟩ (.slice (some adB) 1 cB))) := HW4
          clear HW4 e0 g0 HW3 HGP
          generalize W3.setCell ⟨s + 1, p, none⟩ (.slice (some adB) 1 cB) = W4 at HW4' HG4 HM4 ⊢
          obtain ⟨ad0, hade, hvok, hvc⟩ := HM4.out.1.2 0 (by simp)
          cases hade
          simp only [Nat.zero_mul, Addr.add_zero', List.getElem_cons_zero] at hvok hvc
          have HVOK := Lib.hid hvok
          have HNW4 : Hid (∀ j u, v.cells.toList[j]? = some u → W4.cell? (adB.add j) = some u) := Lib.hid (fun j u hj => hvc j u (by simpa using hj))
          have HO1 : Hid (∀ u ∈ v.cells.toList, u.oneCell' = true) := Lib.hid (fun u hu => by
            have := vOne v
            rw [Array.all_eq_true_iff_forall_mem] at this
            exact this u (by simpa using hu))
          have hxA : ∀ D, v.A = some D → s + 3 ≤ D.block := fun D hD => by have := HNB.out.2 v (by simp) D hD; have := HSL.out; omega
          have HXA := Lib.hid hxA
          have HXC := Lib.hid (HM4.out.2.2 v (by simp))
          have hall := HN.out.2
          clear hvok hvc hxA
          rcases HW4'.out.own with ⟨hvn, haln⟩ | ⟨g, hgs, hog, hoff, hofa⟩
          · cases hvn
            subst haln
            go_wp2_with (at_builtin; go_loud (refine wp_appendN rfl _ _ 22 rfl 49 i0 (.agg Z5) 5 64 Try.underlying22 hi hz0 hzs hz2 rfl (by decide) rfl adB 1 cB v.cells.toList rfl rfl HNW4.out HO1.out (by decide) (by decide) (by decide) ?_); intro v' w5 g' hown' hg' hgrow; have HW5 := Lib.hid (HW4'.out.app HVOK.out HXC.out HXA.out hgrow (fun g h => by cases h) hown' (Or.inr hg')); have HG5 := Lib.hid (gr_grown HG4.out hgrow (fun g h => by cases h)); clear hown' hg' hgrow)
            go_roundw
            case rel => exact ⟨k + 1, upd lf p [v], upd n p (c + 1), [] ++ [v], upd As p (some adB), upd cs p cB, by omega, by omega, by go_num, HW5, HLW, Lib.hid ⟨upd_le HN.out.1 p (by omega), by simp⟩, HG5⟩
            case measure => simp [intOf]; omega
          · obtain ⟨cq, rfl, hcq1, hcq2⟩ := hog.shape
            have HOG := Lib.hid hog
            have HOFF := Lib.hid hoff
            have HOFA := Lib.hid hofa
            have hgl : g < w2.heap.size := HW2.out.glt rfl
            have HOX : Hid (OffX g v) := Lib.hid (fun hp D hD => by have := HNB.out.2 v (by simp) D hD; omega)
            clear hog hoff hofa
            go_wp2_with (at_builtin; go_loud (refine wp_appendG rfl _ _ 22 rfl 49 i0 (.agg Z5) 5 64 Try.underlying22 hi hz0 hzs hz2 rfl (by decide) g _ al.length (vCells al) rfl HOG.out adB 1 cB v.cells.toList rfl rfl HNW4.out HO1.out (by unfold maxLen; omega) (by omega) ?_); intro v' w5 g' hown' hg' hgrow; have HW5 := Lib.hid (HW4'.out.app HVOK.out HXC.out HXA.out hgrow (fun g2 h => by cases h; exact ⟨hgs, HOG.out, HOFF.out, HOFA.out, HOX.out⟩) hown' (hg'.imp (fun h => by rw [h]) id)); have HG5 := Lib.hid (gr_grown HG4.out hgrow (fun g2 h => by cases h; have := HSW.out; omega)); clear hown' hg' hgrow)
            go_roundw
            case rel => exact ⟨k + 1, upd lf p [v], upd n p (c + 1), al ++ [v], upd As p (some adB), upd cs p cB, by omega, by omega, by go_num, HW5, HLW, Lib.hid ⟨upd_le HN.out.1 p (by omega), by simp; omega⟩, HG5⟩
            case measure => simp [intOf]; omega
        · have heb : (e == 0) = false := by simpa using he
          have HWD := Lib.hid (HW2.out.gr hSS)
          have HGD := Lib.hid (HG2.out.tr hSS)
          clear hlp hlq c0 c3 HRES
          go_wp2
          go_roundw
          case rel => exact ⟨k + 1, lf, n, al, As, cs, by omega, by omega, by go_num, HWD, HL, Lib.hid ⟨fun q => by have := HN.out.1 q; omega, by have := HN.out.2; omega⟩, HGD⟩
          case measure => simp [intOf]; omega
      · have hKb : (xK == 0) = false := by simpa using hK0
        by_cases hK1 : xK = 1
        · have hKb1 : (xK == 1) = true := by simpa using hK1
          go_upto_region 16 with (fail)
          have hSS : Gr w2 w2.drew := (Gr.rfl' _).dr
          refine region_T 9 (fun w' => Gr w2 w') (by kernel_rfl) ?_
          refine anyT_take (i := 0) (v := ?_) (some 82) rfl rfl (by kernel_rfl) (fun _ _ _ h => h) (Or.inl ⟨by rfl, ?_⟩) hSS ?_
          rotate_left
          · intro w' hSw; go_simp; (try with_reducible rfl)
          simp only [Act.put, List.setIfInBounds_toArray, List.set_cons_zero, List.set_cons_succ]
          refine anyT_take (i := 1) (v := ?_) (some 83) rfl rfl (by kernel_rfl) (fun _ _ _ h => h) (Or.inl ⟨by rfl, ?_⟩) hSS ?_
          rotate_left
          · intro w' hSw; go_simp; (try with_reducible rfl)
          simp only [Act.put, List.setIfInBounds_toArray, List.set_cons_zero, List.set_cons_succ]
          refine anyT_take (i := 2) (v := ?_) (some 84) rfl rfl (by kernel_rfl) (fun _ _ _ h => h) (Or.inl ⟨by rfl, ?_⟩) hSS ?_
          rotate_left
          · intro w' hSw; have q0 := hSw.cell hlp; go_simp; (try with_reducible rfl)
          simp only [Act.put, List.setIfInBounds_toArray, List.set_cons_zero, List.set_cons_succ]
          refine anyT_take (i := 3) (some 85) rfl rfl (by kernel_rfl) (fun _ _ _ h => h) (yieldsIf_ld (by rfl) 47 (.tmp 10) rfl (⟨gd, 0, none⟩ : Addr) rfl (#[.int .i64 (p : Int), .int .i64 (c + 1)] : Array Value).toList _ (fun w' hSw => HLX.out w' hSw) Try.underlying47 rfl (by kernel_rfl)) hSS ?_
          simp only [Act.put, List.setIfInBounds_toArray, List.set_cons_zero, List.set_cons_succ]
          refine anyT_callG (i := 4) (some 86) 53 #[.slice (As p) (lf p).length (cs p), .agg #[.int .i64 p, .int .i64 (c + 1)]] (by kernel_rfl) rfl (by kernel_rfl) rfl (by kernel_rfl) ?_
          have hmd := (HW2.out.gr hSS).made p hp3
          have hl3 := lfl_len HL.out (HL.out.lfs p hp3)
          refine (erase1_fr (As p) (cs p) (lf p) p (c + 1) _ hmd.1.1 hmd.1.2.2 (by omega)).mono ?_
          rintro r wd ⟨⟨e, res, B, cB, rfl, hwr, hmB, hnB⟩, hgd⟩
          have HWR := Lib.hid hwr
          have HMB := Lib.hid hmB
          have HNB := Lib.hid (hnB.lower hSS.size)
          replace hSS := hSS.tr hgd
          clear hwr hmB hnB hgd hmd hl3
          refine ⟨_, rfl, fun _ => hSS, ?_⟩
          simp only [Act.put, List.setIfInBounds_toArray, List.set_cons_zero, List.set_cons_succ]
          refine anyT_take (i := 5) (v := ?_) (some 81) rfl rfl (by kernel_rfl) (fun _ _ _ h => h) (Or.inl ⟨by rfl, ?_⟩) hSS ?_
          rotate_left
          · intro w' hSw; go_simp; (try with_reducible rfl)
          simp only [Act.put, List.setIfInBounds_toArray, List.set_cons_zero, List.set_cons_succ]
          refine anyT_take (i := 6) (v := ?_) (some 87) rfl rfl (by kernel_rfl) (fun _ _ _ h => h) (Or.inl ⟨by rfl, ?_⟩) hSS ?_
          rotate_left
          · intro w' hSw; go_simp; (try with_reducible rfl)
          simp only [Act.put, List.setIfInBounds_toArray, List.set_cons_zero, List.set_cons_succ]
          refine anyT_take (i := 7) (v := ?_) (some 88) rfl rfl (by kernel_rfl) (fun _ _ _ h => h) (Or.inl ⟨by rfl, ?_⟩) hSS ?_
          rotate_left
          · intro w' hSw; go_simp; (try with_reducible rfl)
          simp only [Act.put, List.setIfInBounds_toArray, List.set_cons_zero, List.set_cons_succ]
          refine anyT_take (i := 8) (v := ?_) (some 11) rfl rfl (by kernel_rfl) (fun _ _ _ h => h) (Or.inl ⟨by rfl, ?_⟩) hSS ?_
          rotate_left
          · intro w' hSw; go_simp; (try with_reducible rfl)
          simp only [Act.put, List.setIfInBounds_toArray, List.set_cons_zero, List.set_cons_succ]
          refine anyT_last (some 12) (.int .i64 e) (by kernel_rfl) (by kernel_rfl) rfl (by kernel_rfl) rfl (by kernel_rfl) ?_
          simp only [Act.put, List.setIfInBounds_toArray, List.set_cons_zero, List.set_cons_succ]
          have HRES : Hid (e = 0 → ∃ D T', Wrote (lf p) p (c + 1) res D T') := Lib.hid (fun h0 => by
            subst h0
            exact ⟨true, ⟨#[]⟩, er_zero HWR.out, by decide, by simp⟩)
          clear HWR
          by_cases he : e = 0
          · subst he
            obtain ⟨D, T', hwro⟩ := HRES.out rfl
            obtain ⟨⟨A', c', rfl⟩, ht1, ht2⟩ := hwro
            obtain ⟨v, hv⟩ : ∃ v : Vx, (⟨p, c + 1, A', covL (lf p), c', D, T'⟩ : Vx) = v := ⟨_, rfl⟩
            have hv1 : v.P = (p : Int) := by rw [← hv]
            have hv2 : v.C = n p + 1 := by rw [← hv, HC.out]
            have hv3 : v.pl = covL (lf p) := by rw [← hv]
            have hv4 : v.T.size ≤ 48 := by rw [← hv]; exact ht1
            have hv5 : ¬ (v.D = true ∧ v.T ≠ ⟨#[]⟩) := by rw [← hv]; exact ht2
            have hcn := HC.out
            have hn40 := HN.out.1 p
            rw [hcn] at hn40
            have HLW := Lib.hid (HL.out.write hp3 hv1 hv2 hv3 hv4 hv5 (by omega))
            rw [hv] at HMB HNB ⊢
            rw [hcn] at HLW
            clear hv1 hv2 hv3 hv4 hv5 ht1 ht2 hv hcn HRES
            have HWD := Lib.hid (HW2.out.gr hSS)
            have HGD := Lib.hid (HG2.out.tr hSS)
            obtain ⟨d0, f0⟩ := HWD.out.num hp3
            rw [HC.out] at d0
            obtain ⟨adB, rfl, hvok, hvc⟩ := HMB.out.1.2 0 (by simp)
            have hn0 := HL.out.nn p
            rw [HC.out] at hn0
            clear hlp hlq c0 c3
            go_upto_region 19 with (fail)
            have HW3 := Lib.hid (HWD.out.setN hp3 (c + 1))
            have HG3 := Lib.hid (HGD.out.set (p := ⟨s + 2, p, none⟩) (by have := HSW.out; show w.heap.size ≤ s + 2; omega) (.int .i64 (c + 1)))
            have HGO : Hid (wd.grownBy (wd.setCell ⟨s + 2, p, none⟩ (.int .i64 (c + 1))) (some (s + 2))) := Lib.hid (one_grown _ _ _ _)
            have HSL := Lib.hid (HW2.out.lt)
            have HM3 : Hid (Made1 (wd.setCell ⟨s + 2, p, none⟩ (.int .i64 (c + 1))) (some adB) cB [v]) := Lib.hid ⟨HMB.out.1.by HGO.out (HNB.out.off HSL.out), HMB.out.2⟩
            generalize wd.setCell ⟨s + 2, p, none⟩ (.int .i64 (c + 1)) = W3 at HW3 HG3 HM3 HGO ⊢
            have HW4 := Lib.hid (HW3.out.setL hp3 (A := some adB) (c := cB) (l := [v]) HM3.out (HNB.out.lower (by have := HSL.out; omega)) (fun g o _ => by
              obtain ⟨cq, hq, _⟩ := o.shape
              exact HNB.out.off (HW2.out.glt hq)))
            obtain ⟨e0, g0⟩ := HW3.out.leaf hp3
            have HG4 := Lib.hid (HG3.out.set (p := ⟨s + 1, p, none⟩) (by have := HSW.out; show w.heap.size ≤ s + 1; omega) (.slice (some adB) 1 cB))
            have HGP : Hid (W3.grownBy (W3.setCell ⟨s + 1, p, none⟩ (.slice (some adB) 1 cB)) (some (s + 1))) := Lib.hid (one_grown _ _ _ _)
            have HM4 : Hid (Made1 (W3.setCell ⟨s + 1, p, none⟩ (.slice (some adB) 1 cB)) (some adB) cB [v]) := Lib.hid ⟨HM3.out.1.by HGP.out (HNB.out.off (by have := HSL.out; omega)), HM3.out.2⟩
            clear d0 f0 hvok hvc
            go_upto_region 20 with (fail)
            have HW4' : Hid (WS s (upd lf p [v]) (upd n p (c + 1)) al _ (upd As p (some adB)) (upd cs p cB) (W3.setCell ⟨s + 1, p, none⟩ (.slice (some adB) 1 cB))) := HW4
            clear HW4 e0 g0 HW3 HGP
            generalize W3.setCell ⟨s + 1, p, none⟩ (.slice (some adB) 1 cB) = W4 at HW4' HG4 HM4 ⊢
            obtain ⟨ad0, hade, hvok, hvc⟩ := HM4.out.1.2 0 (by simp)
            cases hade
            simp only [Nat.zero_mul, Addr.add_zero', List.getElem_cons_zero] at hvok hvc
            have HVOK := Lib.hid hvok
            have HNW4 : Hid (∀ j u, v.cells.toList[j]? = some u → W4.cell? (adB.add j) = some u) := Lib.hid (fun j u hj => hvc j u (by simpa using hj))
            have HO1 : Hid (∀ u ∈ v.cells.toList, u.oneCell' = true) := Lib.hid (fun u hu => by
              have := vOne v
              rw [Array.all_eq_true_iff_forall_mem] at this
              exact this u (by simpa using hu))
            have hxA : ∀ D, v.A = some D → s + 3 ≤ D.block := fun D hD => by have := HNB.out.2 v (by simp) D hD; have := HSL.out; omega
            have HXA := Lib.hid hxA
            have HXC := Lib.hid (HM4.out.2.2 v (by simp))
            have hall := HN.out.2
            clear hvok hvc hxA
            rcases HW4'.out.own with ⟨hvn, haln⟩ | ⟨g, hgs, hog, hoff, hofa⟩
            · cases hvn
              subst haln
              go_wp2_with (at_builtin; go_loud (refine wp_appendN rfl _ _ 22 rfl 49 i0 (.agg Z5) 5 64 Try.underlying22 hi hz0 hzs hz2 rfl (by decide) rfl adB 1 cB v.cells.toList rfl rfl HNW4.out HO1.out (by decide) (by decide) (by decide) ?_); intro v' w5 g' hown' hg' hgrow; have HW5 := Lib.hid (HW4'.out.app HVOK.out HXC.out HXA.out hgrow (fun g h => by cases h) hown' (Or.inr hg')); have HG5 := Lib.hid (gr_grown HG4.out hgrow (fun g h => by cases h)); clear hown' hg' hgrow)
              go_roundw
              case rel => exact ⟨k + 1, upd lf p [v], upd n p (c + 1), [] ++ [v], upd As p (some adB), upd cs p cB, by omega, by omega, by go_num, HW5, HLW, Lib.hid ⟨upd_le HN.out.1 p (by omega), by simp⟩, HG5⟩
              case measure => simp [intOf]; omega
            · obtain ⟨cq, rfl, hcq1, hcq2⟩ := hog.shape
              have HOG := Lib.hid hog
              have HOFF := Lib.hid hoff
              have HOFA := Lib.hid hofa
              have hgl : g < w2.heap.size := HW2.out.glt rfl
              have HOX : Hid (OffX g v) := Lib.hid (fun hp D hD => by have := HNB.out.2 v (by simp) D hD; omega)
              clear hog hoff hofa
              go_wp2_with (at_builtin; go_loud (refine wp_appendG rfl _ _ 22 rfl 49 i0 (.agg Z5) 5 64 Try.underlying22 hi hz0 hzs hz2 rfl (by decide) g _ al.length (vCells al) rfl HOG.out adB 1 cB v.cells.toList rfl rfl HNW4.out HO1.out (by unfold maxLen; omega) (by omega) ?_); intro v' w5 g' hown' hg' hgrow; have HW5 := Lib.hid (HW4'.out.app HVOK.out HXC.out HXA.out hgrow (fun g2 h => by cases h; exact ⟨hgs, HOG.out, HOFF.out, HOFA.out, HOX.out⟩) hown' (hg'.imp (fun h => by rw [h]) id)); have HG5 := Lib.hid (gr_grown HG4.out hgrow (fun g2 h => by cases h; have := HSW.out; omega)); clear hown' hg' hgrow)
              go_roundw
              case rel => exact ⟨k + 1, upd lf p [v], upd n p (c + 1), al ++ [v], upd As p (some adB), upd cs p cB, by omega, by omega, by go_num, HW5, HLW, Lib.hid ⟨upd_le HN.out.1 p (by omega), by simp; omega⟩, HG5⟩
              case measure => simp [intOf]; omega
          · have heb : (e == 0) = false := by simpa using he
            have HWD := Lib.hid (HW2.out.gr hSS)
            have HGD := Lib.hid (HG2.out.tr hSS)
            clear hlp hlq c0 c3 HRES
            go_wp2
            go_roundw
            case rel => exact ⟨k + 1, lf, n, al, As, cs, by omega, by omega, by go_num, HWD, HL, Lib.hid ⟨fun q => by have := HN.out.1 q; omega, by have := HN.out.2; omega⟩, HGD⟩
            case measure => simp [intOf]; omega
        · have hKb1 : (xK == 1) = false := by simpa using hK1
          obtain ⟨i22, hi22, hs22⟩ : ∃ ie, Try.prog.info? 22 = some ie ∧ ie.size = 1 := by
            have : (Try.prog.info? 22).map (·.size) = some 1 := by kernel_rfl
            cases hq : Try.prog.info? 22 with
            | none => rw [hq] at this; cases this
            | some ie => rw [hq] at this; exact ⟨ie, rfl, by simpa using this⟩
          go_upto_region 12 with (fail)
          have hSS : Gr w2 w2.drew := (Gr.rfl' _).dr
          refine region_T 9 (fun w' => Gr w2 w') (by kernel_rfl) ?_
          refine anyT_take (i := 0) (v := ?_) (some 52) rfl rfl (by kernel_rfl) (fun _ _ _ h => h) (Or.inl ⟨by rfl, ?_⟩) hSS ?_
          rotate_left
          · intro w' hSw; go_simp; (try with_reducible rfl)
          simp only [Act.put, List.setIfInBounds_toArray, List.set_cons_zero, List.set_cons_succ]
          refine anyT_take (i := 1) (v := ?_) (some 53) rfl rfl (by kernel_rfl) (fun _ _ _ h => h) (Or.inl ⟨by rfl, ?_⟩) hSS ?_
          rotate_left
          · intro w' hSw; go_simp; (try with_reducible rfl)
          simp only [Act.put, List.setIfInBounds_toArray, List.set_cons_zero, List.set_cons_succ]
          refine anyT_take (i := 2) (v := ?_) (some 54) rfl rfl (by kernel_rfl) (fun _ _ _ h => h) (Or.inl ⟨by rfl, ?_⟩) hSS ?_
          rotate_left
          · intro w' hSw; go_simp; (try with_reducible rfl)
          simp only [Act.put, List.setIfInBounds_toArray, List.set_cons_zero, List.set_cons_succ]
          refine anyT_take (i := 3) (v := ?_) (some 55) rfl rfl (by kernel_rfl) (fun _ _ _ h => h) (Or.inl ⟨by rfl, ?_⟩) hSS ?_
          rotate_left
          · intro w' hSw; have q0 := hSw.cell hlp; go_simp; (try with_reducible rfl)
          simp only [Act.put, List.setIfInBounds_toArray, List.set_cons_zero, List.set_cons_succ]
          refine anyT_take (i := 4) (v := ?_) (some 56) rfl rfl (by kernel_rfl) (fun _ _ _ h => h) (Or.inl ⟨by rfl, ?_⟩) hSS ?_
          rotate_left
          · intro w' hSw; go_simp; (try with_reducible rfl)
          simp only [Act.put, List.setIfInBounds_toArray, List.set_cons_zero, List.set_cons_succ]
          refine anyT_take (i := 5) (v := ?_) (some 57) rfl rfl (by kernel_rfl) (fun _ _ _ h => h) (Or.inl ⟨by rfl, ?_⟩) hSS ?_
          rotate_left
          · intro w' hSw; go_simp; (try with_reducible rfl)
          simp only [Act.put, List.setIfInBounds_toArray, List.set_cons_zero, List.set_cons_succ]
          refine anyT_take (i := 6) (v := ?_) (some 58) rfl rfl (by kernel_rfl) (fun _ _ _ h => h) (Or.inl ⟨by rfl, ?_⟩) hSS ?_
          rotate_left
          · intro w' hSw; have q0 := hSw.cell hlq; go_simp; (try with_reducible rfl)
          simp only [Act.put, List.setIfInBounds_toArray, List.set_cons_zero, List.set_cons_succ]
          refine anyT_callG (i := 7) (some 59) 56 #[.slice (As p) (lf p).length (cs p), .slice (As q) (lf q).length (cs q)] (by kernel_rfl) rfl (by kernel_rfl) rfl (by kernel_rfl) ?_
          have hmp := (HW2.out.gr hSS).made p hp3
          have hmq := (HW2.out.gr hSS).made q hq3
          have hlp3 := lfl_len HL.out (HL.out.lfs p hp3)
          have hlq3 := lfl_len HL.out (HL.out.lfs q hq3)
          refine (sync1P_fr stableC19 (by decide) (As p) (As q) (cs p) (cs q) (lf p) (lf q) _ hmp.1.1 hmq.1.1 (by omega) hmp.1.2.2 hmq.1.2.2).mono ?_
          rintro r wd ⟨⟨B, cB, rfl, hmB, hnB⟩, hgd⟩
          have HMB := Lib.hid hmB
          have HNB : Hid (∀ D, B = some D → w2.heap.size ≤ D.block) := Lib.hid (fun D hD => Nat.le_trans hSS.size (hnB D hD))
          have HNP := Lib.hid hmp.2
          have HNQ := Lib.hid hmq.2
          have HLY := Lib.hid (HL.out.sync hp3 hq3)
          replace hSS := hSS.tr hgd
          clear hmB hnB hgd hmp hmq hlp3 hlq3
          refine ⟨_, rfl, fun _ => hSS, ?_⟩
          simp only [Act.put, List.setIfInBounds_toArray, List.set_cons_zero, List.set_cons_succ]
          refine anyT_take (i := 8) (v := ?_) (some 60) rfl rfl (by kernel_rfl) (fun _ _ _ h => h) (Or.inl ⟨by rfl, ?_⟩) hSS ?_
          rotate_left
          · intro w' hSw; go_simp; (try with_reducible rfl)
          simp only [Act.put, List.setIfInBounds_toArray, List.set_cons_zero, List.set_cons_succ]
          have HWD := Lib.hid (HW2.out.gr hSS)
          have HSL := Lib.hid (HW2.out.lt)
          obtain ⟨e0, g0⟩ := HWD.out.leaf hp3
          obtain ⟨sl, hsl⟩ : ∃ sl, synL (lf p) (lf q) = sl := ⟨_, rfl⟩
          have HIN : Hid (∀ x ∈ sl, x ∈ lf p ++ lf q) := Lib.hid (fun x hx => synL_in (by rw [hsl]; exact hx))
          rw [hsl] at HMB HLY ⊢
          clear hsl
          have HNV : Hid (NewV (s + 3) B sl) := Lib.hid ⟨fun D hD => by have := HNB.out D hD; have := HSL.out; omega, fun x hx D hD => by
            rcases List.mem_append.1 (HIN.out x hx) with h | h
            · exact HNP.out.2 x h D hD
            · exact HNQ.out.2 x h D hD⟩
          have HW3 := Lib.hid (HWD.out.setL hp3 (A := B) (c := cB) (l := sl) HMB.out HNV.out (fun g o off => by
            obtain ⟨cq, hq, _⟩ := o.shape
            have hgl := HW2.out.glt hq
            refine ⟨fun _ D hD => by have := HNB.out D hD; omega, fun x hx => ?_⟩
            rcases List.mem_append.1 (HIN.out x hx) with h | h
            · exact (off p hp3).2 x h
            · exact (off q hq3).2 x h))
          have HG3 := Lib.hid ((HG2.out.tr hSS).set (p := ⟨s + 1, p, none⟩) (by have := HSW.out; show w.heap.size ≤ s + 1; omega) (.slice B sl.length cB))
          refine anyT_store1 22 i22 _ _ (by kernel_rfl) (by kernel_rfl) rfl rfl rfl rfl ⟨s + 1, p, none⟩ (.slice B sl.length cB) _ rfl rfl hi22 hs22 rfl e0 g0 ?_
          clear hlp hlq c0 c3 e0 g0
          generalize wd.setCell ⟨s + 1, p, none⟩ (.slice B sl.length cB) = W3 at HW3 HG3 ⊢
          go_wp2
          go_roundw
          case rel => exact ⟨k + 1, upd lf p sl, n, al, upd As p B, upd cs p cB, by omega, by omega, by go_num, HW3, HLY, Lib.hid ⟨fun q => by have := HN.out.1 q; omega, by have := HN.out.2; omega⟩, HG3⟩
          case measure => simp [intOf]; omega
    · have hki : decide ((k : Int) < l.length) = false ∨ (decide ((k : Int) < l.length) = true ∧ decide ((k : Int) < 40) = false) := by
        by_cases h1 : k < l.length
        · right; exact ⟨decide_eq_true (by omega), decide_eq_false (by omega)⟩
        · left; exact decide_eq_false (by omega)
      have HEND : Hid (∀ W', wr.grownBy W' (some s) → (∀ p, p < 3 → Made1 W' (As p) (cs p) (lf p)) ∧ ∃ B c, u6 = .slice B al.length c ∧ Vers W' B al) := Lib.hid (fun W' k => HW.out.res k)
      obtain ⟨l0, _⟩ := HW.out.leaf (p := 0) (by omega)
      obtain ⟨l1, _⟩ := HW.out.leaf (p := 1) (by omega)
      obtain ⟨l2, _⟩ := HW.out.leaf (p := 2) (by omega)
      have hrb := HW.out.rb
      have r0 : wr.cell? ⟨s, 0, none⟩ = some (.slice none 0 0) := by simp only [World.cell?, hrb]; rfl
      have r1 : wr.cell? ⟨s, 1, none⟩ = some (.slice none 0 0) := by simp only [World.cell?, hrb]; rfl
      have r2 : wr.cell? ⟨s, 2, none⟩ = some (.slice none 0 0) := by simp only [World.cell?, hrb]; rfl
      have f0 : wr.frozen? ⟨s, 0, none⟩ = false := by simp [World.frozen?, hrb]
      have f1 : wr.frozen? ⟨s, 1, none⟩ = false := by simp [World.frozen?, hrb]
      have f2 : wr.frozen? ⟨s, 2, none⟩ = false := by simp [World.frozen?, hrb]
      have HRB := Lib.hid hrb
      clear hrb
      rcases hki with hki | ⟨hki, hki4⟩
      · skip
        go_wp2
        all_goals
          have hb3 : (((wr.setCell ⟨s, 0, none⟩ (.slice (As 0) (lf 0).length (cs 0))).setCell ⟨s, 1, none⟩ (.slice (As 1) (lf 1).length (cs 1))).setCell ⟨s, 2, none⟩ (.slice (As 2) (lf 2).length (cs 2))).heap[s]? = some (.cells #[.slice (As 0) (lf 0).length (cs 0), .slice (As 1) (lf 1).length (cs 1), .slice (As 2) (lf 2).length (cs 2)] 61 (0, 0)) := by
            rw [rg_set_same (rg_set_same (rg_set_same HRB.out _) _) _]; rfl
          have hk3 : wr.grownBy (((wr.setCell ⟨s, 0, none⟩ (.slice (As 0) (lf 0).length (cs 0))).setCell ⟨s, 1, none⟩ (.slice (As 1) (lf 1).length (cs 1))).setCell ⟨s, 2, none⟩ (.slice (As 2) (lf 2).length (cs 2))) (some s) := rg_grown s 0 [.slice (As 0) (lf 0).length (cs 0), .slice (As 1) (lf 1).length (cs 1), .slice (As 2) (lf 2).length (cs 2)] wr
          have hg3 : Gr w (((wr.setCell ⟨s, 0, none⟩ (.slice (As 0) (lf 0).length (cs 0))).setCell ⟨s, 1, none⟩ (.slice (As 1) (lf 1).length (cs 1))).setCell ⟨s, 2, none⟩ (.slice (As 2) (lf 2).length (cs 2))) := gr_grown HG.out hk3 (fun g e => by cases e; have := HSW.out; omega)
          generalize (((wr.setCell ⟨s, 0, none⟩ (.slice (As 0) (lf 0).length (cs 0))).setCell ⟨s, 1, none⟩ (.slice (As 1) (lf 1).length (cs 1))).setCell ⟨s, 2, none⟩ (.slice (As 2) (lf 2).length (cs 2))) = W9 at hb3 hk3 hg3 ⊢
          have k0 : W9.cell? ⟨s, 0, none⟩ = some (.slice (As 0) (lf 0).length (cs 0)) := by simp only [World.cell?, hb3]; rfl
          have k1 : W9.cell? ⟨s, 1, none⟩ = some (.slice (As 1) (lf 1).length (cs 1)) := by simp only [World.cell?, hb3]; rfl
          have k2 : W9.cell? ⟨s, 2, none⟩ = some (.slice (As 2) (lf 2).length (cs 2)) := by simp only [World.cell?, hb3]; rfl
          have hA : (asAddr (.pointer (some ⟨s, 0, none⟩))).run Try.prog W9 = .ok ⟨s, 0, none⟩ W9 := rfl
          have hres := HEND.out W9 hk3
          have HAL := HN.out.2
          refine bodyPost_ret (v := .tuple #[.agg #[.slice (As 0) (lf 0).length (cs 0), .slice (As 1) (lf 1).length (cs 1), .slice (As 2) (lf 2).length (cs 2)], u6]) (by simp [results, Try.results55, go_sem, hA, k0, k1, k2]) rfl ?_
          exact ⟨⟨lf, n, al, As, cs, u6, rfl, HL.out, hres.1, by omega, hres.2⟩, hg3⟩
      · skip
        go_wp2
        all_goals
          have hb3 : (((wr.setCell ⟨s, 0, none⟩ (.slice (As 0) (lf 0).length (cs 0))).setCell ⟨s, 1, none⟩ (.slice (As 1) (lf 1).length (cs 1))).setCell ⟨s, 2, none⟩ (.slice (As 2) (lf 2).length (cs 2))).heap[s]? = some (.cells #[.slice (As 0) (lf 0).length (cs 0), .slice (As 1) (lf 1).length (cs 1), .slice (As 2) (lf 2).length (cs 2)] 61 (0, 0)) := by
            rw [rg_set_same (rg_set_same (rg_set_same HRB.out _) _) _]; rfl
          have hk3 : wr.grownBy (((wr.setCell ⟨s, 0, none⟩ (.slice (As 0) (lf 0).length (cs 0))).setCell ⟨s, 1, none⟩ (.slice (As 1) (lf 1).length (cs 1))).setCell ⟨s, 2, none⟩ (.slice (As 2) (lf 2).length (cs 2))) (some s) := rg_grown s 0 [.slice (As 0) (lf 0).length (cs 0), .slice (As 1) (lf 1).length (cs 1), .slice (As 2) (lf 2).length (cs 2)] wr
          have hg3 : Gr w (((wr.setCell ⟨s, 0, none⟩ (.slice (As 0) (lf 0).length (cs 0))).setCell ⟨s, 1, none⟩ (.slice (As 1) (lf 1).length (cs 1))).setCell ⟨s, 2, none⟩ (.slice (As 2) (lf 2).length (cs 2))) := gr_grown HG.out hk3 (fun g e => by cases e; have := HSW.out; omega)
          generalize (((wr.setCell ⟨s, 0, none⟩ (.slice (As 0) (lf 0).length (cs 0))).setCell ⟨s, 1, none⟩ (.slice (As 1) (lf 1).length (cs 1))).setCell ⟨s, 2, none⟩ (.slice (As 2) (lf 2).length (cs 2))) = W9 at hb3 hk3 hg3 ⊢
          have k0 : W9.cell? ⟨s, 0, none⟩ = some (.slice (As 0) (lf 0).length (cs 0)) := by simp only [World.cell?, hb3]; rfl
          have k1 : W9.cell? ⟨s, 1, none⟩ = some (.slice (As 1) (lf 1).length (cs 1)) := by simp only [World.cell?, hb3]; rfl
          have k2 : W9.cell? ⟨s, 2, none⟩ = some (.slice (As 2) (lf 2).length (cs 2)) := by simp only [World.cell?, hb3]; rfl
          have hA : (asAddr (.pointer (some ⟨s, 0, none⟩))).run Try.prog W9 = .ok ⟨s, 0, none⟩ W9 := rfl
          have hres := HEND.out W9 hk3
          have HAL := HN.out.2
          refine bodyPost_ret (v := .tuple #[.agg #[.slice (As 0) (lf 0).length (cs 0), .slice (As 1) (lf 1).length (cs 1), .slice (As 2) (lf 2).length (cs 2)], u6]) (by simp [results, Try.results55, go_sem, hA, k0, k1, k2]) rfl ?_
          exact ⟨⟨lf, n, al, As, cs, u6, rfl, HL.out, hres.1, by omega, hres.2⟩, hg3⟩
end Go.Proofs.Ytfobnemocodomaa
set_option maxHeartbeats 200000
set_option linter.unusedVariables false
set_option linter.unusedSimpArgs false
namespace Go.Proofs.Ytfobnemocodomaa
open Go.ChangeShapes Go.WideShapes Go.ChangeAt Go.RowKit Go.Deep Go.Joins

theorem vcStp : Try.prog.cellsOf 119 = 4 := by kernel_rfl
theorem vcIntX : Try.prog.cellsOf 3 = 1 := by kernel_rfl
def Stp.cells (x : Stp) : Array Value := #[.int .i64 x.K, .int .i64 x.P, .int .i64 x.Q, .int .i64 x.N]
set_option maxRecDepth 100000 in
theorem open_stp {H : Type} {enc : TypeId × Value → H} {W : World} {base : Nat} {sp : Nat → Bool} {held : Bool} {n : Nat} {cs : List Value} {x : DataW H × List MemPlace} (h : DataW.trod enc Try.prog W base sp held n 119 cs = some x) :
    ∃ q : Stp, cs = q.cells.toList := by
  obtain ⟨xs, m, rfl, _, hl, hx, hf⟩ := DataW.trod_struct Try.underlying119 h
  rw [vcStp] at hl
  have hx4 : xs.length = 4 := hx
  have g0 := hf 0 _ rfl
  change DataW.trod enc Try.prog W base sp held m 3 ((cs.drop 0).take (Try.prog.cellsOf 3)) = _ at g0
  rw [vcIntX, List.getElem?_eq_getElem (by omega)] at g0
  have g1 := hf 1 _ rfl
  change DataW.trod enc Try.prog W base sp held m 3 ((cs.drop 1).take (Try.prog.cellsOf 3)) = _ at g1
  rw [vcIntX, List.getElem?_eq_getElem (by omega)] at g1
  have g2 := hf 2 _ rfl
  change DataW.trod enc Try.prog W base sp held m 3 ((cs.drop 2).take (Try.prog.cellsOf 3)) = _ at g2
  rw [vcIntX, List.getElem?_eq_getElem (by omega)] at g2
  have g3 := hf 3 _ rfl
  change DataW.trod enc Try.prog W base sp held m 3 ((cs.drop 3).take (Try.prog.cellsOf 3)) = _ at g3
  rw [vcIntX, List.getElem?_eq_getElem (by omega)] at g3
  obtain ⟨n0, e0, _, _⟩ := DataW.trod_int Try.underlying3 g0
  obtain ⟨n1, e1, _, _⟩ := DataW.trod_int Try.underlying3 g1
  obtain ⟨n2, e2, _, _⟩ := DataW.trod_int Try.underlying3 g2
  obtain ⟨n3, e3, _, _⟩ := DataW.trod_int Try.underlying3 g3
  refine ⟨⟨n0, n1, n2, n3⟩, ?_⟩
  have h0 : cs = (cs.drop 0).take 1 ++ ((cs.drop 1).take 1 ++ ((cs.drop 2).take 1 ++ (cs.drop 3).take 1)) := by
    match cs, hl with
    | [c0, c1, c2, c3], _ => rfl
  rw [h0, e0, e1, e2, e3]
  rfl
set_option maxRecDepth 100000 in
theorem open_stps {H : Type} {enc : TypeId × Value → H} {W : World} {A : Option Addr} {n c : Nat} {d : DataW H} {p : List MemPlace} (h : DataW.Trod enc Try.prog W 0 (fun _ => true) true 60 (.slice A n c) d p) :
    ∃ l : List Stp, n = l.length ∧ l.length ≤ c ∧ Stps W A l := by
  obtain ⟨fuel, hf⟩ := h
  rcases open_slice Try.underlying60 hf with ⟨hcs, _⟩ | ⟨a, len, cap, m, k, D, Pl, hcs, _, hl, hm, hmm, _, hx⟩
  · simp [Value.cells] at hcs
    obtain ⟨rfl, rfl, rfl⟩ := hcs
    exact ⟨[], rfl, by simp, by simp, fun i hi => by simp at hi⟩
  · simp [Value.cells] at hcs
    obtain ⟨rfl, rfl, rfl⟩ := hcs
    have each : ∀ i, i < m → ∃ q : Stp, ∀ j v, q.cells[j]? = some v → W.cell? ((a.add (i * 4)).add j) = some v := by
      intro i hi
      obtain ⟨cs', h1, h2⟩ := hx i hi
      rw [vcStp] at h1
      obtain ⟨_, hlen, hcell⟩ := World.cells?_some h1
      obtain ⟨q, rfl⟩ := open_stp h2
      refine ⟨q, fun j v hj => ?_⟩
      have hj' := (Array.getElem?_eq_some_iff.1 hj).1
      have h5 : q.cells.size = 4 := rfl
      rw [hcell j (by omega)]
      simpa using hj
    have hlm : n ≤ m := by rw [hmm]; split <;> omega
    refine ⟨(List.range n).map fun i => if h : i < m then (each i h).choose else ⟨0, 0, 0, 0⟩, by simp, by simpa using hl, by simp only [List.length_map, List.length_range, maxLen] at *; omega, fun i hi => ?_⟩
    have hin : i < n := by simpa using hi
    have him : i < m := by omega
    refine ⟨a, rfl, ?_⟩
    simp only [List.getElem_map, List.getElem_range, him, dite_true]
    have key := (each i him).choose_spec
    have ad0 : ∀ b : Addr, b.add 0 = b := fun b => by unfold Addr.add; rw [if_pos rfl]
    have adk : ∀ (b : Addr) (j : Nat), j ≠ 0 → b.add j = ⟨b.block, b.off + j, none⟩ := fun b j hj => by unfold Addr.add; rw [if_neg hj]
    refine ⟨?_, ?_, ?_, ?_⟩
    · have := key 0 _ rfl; rwa [ad0] at this
    · have := key 1 _ rfl; rwa [adk _ 1 (by decide)] at this
    · have := key 2 _ rfl; rwa [adk _ 2 (by decide)] at this
    · have := key 3 _ rfl; rwa [adk _ 3 (by decide)] at this
end Go.Proofs.Ytfobnemocodomaa
