/- A range over a function whose iterator keeps state of its own in cells (captured variables): what such an iterator promises, and the law of the statement over it, at the wide fence. -/
import Derived.Test.YtfobnemocodomaaBase
import Derived.RangeFuncNested
import Derived.RangeFuncBound
import Derived.RangeFuncCalls
import Derived.RangeFuncLeaves
import Derived.Shelf.Abstract
import Derived.Shelf.RegionOpen
import Derived.OwnWalkIn
import Derived.TacticsInMore
import Derived.LoopNIn
import Derived.LoopIn
set_option linter.unusedVariables false
set_option linter.unusedSimpArgs false
namespace Go.Proofs.Ytfobnemocodomaa
open Go.RowKit

def isLoop : Obj → Bool
  | .loop _ => true
  | _ => false

/-- What the iterator and the loop's own book-keeping may do to the caller's world: blocks of S, loops' records from B on, new blocks. -/
structure Mv (S : Nat → Prop) (B : Nat) (A W : World) : Prop where
  os : W.os = A.os
  tape : W.tape = A.tape
  output : W.output = A.output
  size : A.heap.size ≤ W.heap.size
  keep : ∀ k o, A.heap[k]? = some o → ¬ S k → (k < B ∨ isLoop o = false) → W.heap[k]? = some o

/-- What a round keeps for the iterator. -/
structure Kp (S : Nat → Prop) (n0 : Nat) (A W : World) : Prop where
  os : W.os = A.os
  tape : W.tape = A.tape
  output : W.output = A.output
  size : A.heap.size ≤ W.heap.size
  keep : ∀ k, (k < n0 ∨ S k) → k < A.heap.size → W.heap[k]? = A.heap[k]?

theorem Mv.refl (S : Nat → Prop) (B : Nat) (A : World) : Mv S B A A := ⟨rfl, rfl, rfl, Nat.le_refl _, fun _ _ h _ _ => h⟩
theorem Mv.alloc {S : Nat → Prop} {B : Nat} {A W : World} (h : Mv S B A W) (o : Obj) : Mv S B A (W.alloc o) :=
  ⟨h.os, h.tape, h.output, Nat.le_trans h.size (by simp), fun k o' hk hs hb => (Below.heap_alloc _ _ _ (Array.getElem?_eq_some_iff.1 (h.keep k o' hk hs hb)).1).trans (h.keep k o' hk hs hb)⟩
theorem Mv.drew {S : Nat → Prop} {B : Nat} {A W : World} (h : Mv S B A W) : Mv S B A W.drew := ⟨h.os, h.tape, h.output, h.size, h.keep⟩
theorem Mv.drewN {S : Nat → Prop} {B : Nat} {A W : World} (h : Mv S B A W) (n : Nat) : Mv S B A (W.drewN n) := ⟨h.os, h.tape, h.output, h.size, h.keep⟩
/-- a store into a block of S, or into a block that A did not have -/
theorem Mv.setCell {S : Nat → Prop} {B : Nat} {A W : World} (h : Mv S B A W) {p : Addr} (hp : S p.block ∨ A.heap.size ≤ p.block) (u : Value) : Mv S B A (W.setCell p u) :=
  ⟨h.os, h.tape, h.output, by show A.heap.size ≤ (W.heap.modify _ _).size; rw [Array.size_modify]; exact h.size, fun k o' hk hs hb => by
    have h1 := h.keep k o' hk hs hb
    have hne : k ≠ p.block := by
      rintro rfl
      rcases hp with hp | hp
      · exact hs hp
      · have := (Array.getElem?_eq_some_iff.1 hk).1; omega
    rw [Below.heap_setCell _ _ _ _ hne]; exact h1⟩
theorem Mv.putLoop {S : Nat → Prop} {B : Nat} {A : World} {l : Nat} {r : Loop} (hl : A.heap[l]? = some (.loop r)) (hB : B ≤ l) (o' : Obj) : Mv S B A (A.putObj l o') :=
  ⟨rfl, rfl, rfl, by simp, fun k o hk hs hb => by
    by_cases e : k = l
    · subst e; rw [hl] at hk; cases hk; rcases hb with hb | hb
      · omega
      · cases hb
    · rw [World.putObj_heap_other e]; exact hk⟩
theorem Mv.trans {S : Nat → Prop} {B : Nat} {X Y Z : World} (h : Mv S B X Y) (k : Mv S B Y Z) : Mv S B X Z :=
  ⟨k.os.trans h.os, k.tape.trans h.tape, k.output.trans h.output, Nat.le_trans h.size k.size, fun i o hi hs hb => k.keep i o (h.keep i o hi hs hb) hs hb⟩
theorem Mv.weak {S : Nat → Prop} {B : Nat} {A W : World} (h : Mv S A.heap.size A W) : Mv S B A W :=
  ⟨h.os, h.tape, h.output, h.size, fun k o hk hs _ => h.keep k o hk hs (.inl (Array.getElem?_eq_some_iff.1 hk).1)⟩
theorem Mv.any {S : Nat → Prop} {A W : World} (h : Mv S A.heap.size A W) {k : Nat} {o : Obj} (hk : A.heap[k]? = some o) (hs : ¬ S k) : W.heap[k]? = some o := h.keep k o hk hs (.inl (Array.getElem?_eq_some_iff.1 hk).1)
/-- what lies outside S and below B, or is no loop's record, is there still -/
theorem Mv.below {S : Nat → Prop} {B n : Nat} {w0 A W : World} (h : Mv S B A W) (hb : Below n w0 A) (hn : n ≤ B) (hw : n ≤ w0.heap.size) (hS : ∀ k, S k → n ≤ k) : Below n w0 W :=
  ⟨h.os.trans hb.os, h.tape.trans hb.tape, h.output.trans hb.output, Nat.le_trans hb.size h.size, fun k hk => by
    have h1 := hb.block k hk
    have hlt : k < A.heap.size := Nat.lt_of_lt_of_le hk (Nat.le_trans hw hb.size)
    rw [← h1, h.keep k _ (Array.getElem?_eq_getElem hlt) (fun hs => by have := hS k hs; omega) (.inl (by omega)), Array.getElem?_eq_getElem hlt]⟩
theorem Mv.cell {S : Nat → Prop} {B : Nat} {A W : World} (h : Mv S B A W) {p : Addr} {v : Value} (hc : A.cell? p = some v) (hs : ¬ S p.block) : W.cell? p = some v := by
  have hc' := hc
  unfold World.cell? at hc
  cases ho : A.heap[p.block]? with
  | none => simp [ho] at hc
  | some o =>
    have hl : isLoop o = false := by cases o <;> simp_all [isLoop]
    rw [← hc']
    exact World.cell?_of_block ((h.keep _ o ho hs (.inr hl)).trans ho.symm)
theorem Mv.same {S : Nat → Prop} {B : Nat} {A W : World} (h : Mv S B A W) {k : Nat} {o : Obj} (ho : A.heap[k]? = some o) (hl : isLoop o = false) (hs : ¬ S k) : W.heap[k]? = some o := h.keep k o ho hs (.inr hl)
theorem Mv.ownsRow {S : Nat → Prop} {B : Nat} {A W : World} {base : Nat} {e : TypeId} {size n : Nat} {v : Value} {xs : List Value} (h : Mv S B A W) (ho : A.ownsRow base e size v n xs) (hs : ∀ k, v.ownBlock = some k → ¬ S k) : W.ownsRow base e size v n xs := by
  obtain ⟨h1, h2⟩ := ho
  refine ⟨h1, ?_⟩
  rcases h2 with h2 | ⟨g, cap, cur, rfl, hg, hh, r⟩
  · exact .inl h2
  · exact .inr ⟨g, cap, cur, rfl, hg, h.same hh rfl (hs g rfl), r⟩
theorem Mv.boxed {S : Nat → Prop} {B : Nat} {A W : World} {b : Nat} {t : TypeId} {v : Value} (h : Mv S B A W) (ho : Boxed A b t v) (hs : ¬ S b) : Boxed W b t v := h.same ho rfl hs

theorem Kp.refl (S : Nat → Prop) (n0 : Nat) (A : World) : Kp S n0 A A := ⟨rfl, rfl, rfl, Nat.le_refl _, fun _ _ _ => rfl⟩
theorem Kp.trans {S : Nat → Prop} {n0 : Nat} {X Y Z : World} (h : Kp S n0 X Y) (k : Kp S n0 Y Z) : Kp S n0 X Z :=
  ⟨k.os.trans h.os, k.tape.trans h.tape, k.output.trans h.output, Nat.le_trans h.size k.size, fun i hi hlt => (k.keep i hi (Nat.lt_of_lt_of_le hlt h.size)).trans (h.keep i hi hlt)⟩
theorem Kp.alloc {S : Nat → Prop} {n0 : Nat} {A W : World} (h : Kp S n0 A W) (o : Obj) : Kp S n0 A (W.alloc o) :=
  ⟨h.os, h.tape, h.output, Nat.le_trans h.size (by simp), fun k hk hlt => (Below.heap_alloc _ _ _ (Nat.lt_of_lt_of_le hlt h.size)).trans (h.keep k hk hlt)⟩
theorem Kp.setCell {S : Nat → Prop} {n0 : Nat} {A W : World} (h : Kp S n0 A W) {p : Addr} (hp : n0 ≤ p.block ∧ ¬ S p.block) (u : Value) : Kp S n0 A (W.setCell p u) :=
  ⟨h.os, h.tape, h.output, by show A.heap.size ≤ (W.heap.modify _ _).size; rw [Array.size_modify]; exact h.size, fun k hk hlt => (Below.heap_setCell _ _ _ _ (by rintro rfl; rcases hk with hk | hk; omega; exact hp.2 hk)).trans (h.keep k hk hlt)⟩
theorem Kp.drew {S : Nat → Prop} {n0 : Nat} {A W : World} (h : Kp S n0 A W) : Kp S n0 A W.drew := ⟨h.os, h.tape, h.output, h.size, h.keep⟩
theorem Kp.gr {S : Nat → Prop} {n0 : Nat} {A W W' : World} (h : Kp S n0 A W) (g : Gr W W') : Kp S n0 A W' :=
  h.trans ⟨g.os, g.tape, g.output, g.size, fun k _ hlt => g.block k hlt⟩
theorem Kp.grown {S : Nat → Prop} {n0 : Nat} {A W W' : World} {row : Option Nat} (h : Kp S n0 A W) (g : W.grownBy W' row) (hr : ∀ k, row = some k → n0 ≤ k ∧ ¬ S k) : Kp S n0 A W' :=
  h.trans ⟨g.os, g.tape, g.output, g.size, fun k hk hlt => g.block k hlt (fun e => by have := hr k e.symm; rcases hk with hk | hk; omega; exact this.2 hk)⟩
theorem Kp.putObj {S : Nat → Prop} {n0 : Nat} {A W : World} (h : Kp S n0 A W) {l : Nat} (hl : n0 ≤ l ∧ ¬ S l) (o : Obj) : Kp S n0 A (W.putObj l o) :=
  ⟨h.os, h.tape, h.output, by simpa using h.size, fun k hk hlt => (World.putObj_heap_other (by rintro rfl; rcases hk with hk | hk; omega; exact hl.2 hk)).trans (h.keep k hk hlt)⟩
theorem Kp.cell {S : Nat → Prop} {n0 : Nat} {A W : World} (h : Kp S n0 A W) {p : Addr} {v : Value} (hc : A.cell? p = some v) (hp : p.block < n0 ∨ S p.block) : W.cell? p = some v :=
  (World.cell?_of_block (h.keep _ hp (World.block_lt_of_cell? A p hc))).trans hc
theorem Kp.below {S : Nat → Prop} {n0 : Nat} {w0 A W : World} (h : Kp S n0 A W) (hb : Below n0 w0 A) (hw : n0 ≤ w0.heap.size) : Below n0 w0 W :=
  ⟨h.os.trans hb.os, h.tape.trans hb.tape, h.output.trans hb.output, Nat.le_trans hb.size h.size, fun k hk => (h.keep k (.inl hk) (Nat.lt_of_lt_of_le hk (Nat.le_trans hw hb.size))).trans (hb.block k hk)⟩
theorem Kp.boxed {S : Nat → Prop} {n0 : Nat} {A W : World} (h : Kp S n0 A W) {b : Nat} {t : TypeId} {v : Value} (hc : Boxed A b t v) (hp : b < n0 ∨ S b) : Boxed W b t v :=
  (h.keep _ hp (Array.getElem?_eq_some_iff.1 hc).1).trans hc

def Iter {α : Type} (n : Nat) (P : Program) (gf : Nat) (lb : Array Value) (encs : α → Array Value) (xs : List α) (S : Nat → Prop) (n0 : Nat) (w : World) : Prop :=
  ∀ (l : Nat) (J Jx : List α → World → Prop) (W : World), Gr w W →
    (∀ pre A B, J pre A → Mv S A.heap.size A B → J pre B) → (∀ pre A B, Jx pre A → Mv S A.heap.size A B → Jx pre B) →
    (∀ pre x W1, J pre W1 → (pre ++ [x]) <+: xs → YieldAt Fence.wide (n - 1) P l (encs x) W1 fun e W' =>
      Kp S n0 W1 W' ∧ ((e = .returned (.bool true) ∧ J (pre ++ [x]) W') ∨ (e = .returned (.bool false) ∧ Jx (pre ++ [x]) W'))) →
    J [] W →
    CallsIn Fence.wide n P gf (#[.func (.yield l) #[] #[]] ++ lb) W fun e W' => (∃ v, e = .returned v) ∧ (J xs W' ∨ ∃ pre, pre <+: xs ∧ Jx pre W')

/-- How a round's body may be left. -/
def rpost {α : Type} (S : Nat → Prop) (n0 B : Nat) (I : List α → World → Prop) (Ix : Code → List α → World → Prop) (pre : List α) (W : World) : Exit → Act → World → Prop
  | .normal, _, W' => KeepsFrom B W W' ∧ Kp S n0 W W' ∧ I pre W'
  | .ret, _, W' => KeepsFrom B W W' ∧ Kp S n0 W W' ∧ Ix .ret pre W'
  | .exit id, _, W' => KeepsFrom B W W' ∧ Kp S n0 W W' ∧ Ix (.exit id) pre W'
  | .goto t, _, W' => KeepsFrom B W W' ∧ Kp S n0 W W' ∧ Ix (.goto t) pre W'
  | .panic _, _, _ => False
  | .outgrown, _, _ => False

theorem wpIn_range {α : Type} {n : Nat} {P : Program} {g : Operand} {ps : Array Tmp} {assign body : Code} {Q : Exit → Act → World → Prop} {a : Act} {w : World}
    {gf : Nat} {lb : Array Value} (hg : a.eval g = .func (.func gf) #[] lb) (eg : ∀ args w, (callFunc gf args).run P w = .ok (.enter gf args) w)
    {encs : α → Array Value} {xs : List α} {S : Nat → Prop} {n0 : Nat} (hit : Iter (n - 1) P gf lb encs xs S n0 w) (hS : ∀ k, S k → k < w.heap.size) (hn0 : n0 ≤ w.heap.size) (hps : ∀ x, (encs x).size = ps.size)
    (I : List α → World → Prop) (Ix : Code → List α → World → Prop) (Ax : List α → α → Act → World → Prop)
    (hI : ∀ pre A B, I pre A → Mv S w.heap.size A B → I pre B) (hIx : ∀ c pre A B, Ix c pre A → Mv S w.heap.size A B → Ix c pre B) (hAx : ∀ pre x a' A B, Ax pre x a' A → Mv S w.heap.size A B → Ax pre x a' B)
    (h0 : I [] w)
    (hassign : ∀ (l : Nat) (pre : List α) (x : α) (W : World) (K : Act → World → Prop), I pre W → (pre ++ [x]) <+: xs → w.heap.size ≤ l → l < W.heap.size →
      (∀ a' W', KeepsFrom w.heap.size W W' → Kp S n0 W W' → Ax pre x a' W' → K a' W') →
      assign.wpIn (Fence.wide.inRound l) (n - 1 - 1) P (Exit.then K (fun _ _ _ => False)) { tmps := (ps.zip (encs x)).foldl (fun t (p, v) => t.setIfInBounds p v) a.tmps, defers := [] } W)
    (hbody : ∀ (l : Nat) (pre : List α) (x : α) (a' : Act) (W : World), w.heap.size ≤ l → (∃ r, W.heap[l]? = some (.loop r)) → (pre ++ [x]) <+: xs → Ax pre x a' W →
      body.wpIn (Fence.wide.inRound l) (n - 1 - 1) P (rpost S n0 w.heap.size I Ix (pre ++ [x]) W) a' W)
    (hdone : ∀ (D : Nat) (W : World), w.heap.size ≤ D → I xs W → W.heap[D]? = some (.deferred (some [])) → Q .normal { a with defers := { target := .collected D, args := #[] } :: a.defers } W)
    (hstop : ∀ (D : Nat) (c : Code) (pre : List α) (W : World), w.heap.size ≤ D → pre <+: xs → Ix c pre W → W.heap[D]? = some (.deferred (some [])) → c.wpIn Fence.wide n P Q { a with defers := { target := .collected D, args := #[] } :: a.defers } W) :
    (Code.rangeFunc g ps assign body).wpIn Fence.wide n P Q a w := by
  refine wpIn_rangeFunc ?_
  intro fn hfn
  rw [show Fence.wide.round = none from rfl]
  obtain ⟨rec, hrec⟩ : ∃ rec : LoopState → Option Code → Loop, rec = fun st pe => { state := st, pending := pe, fn, tmps := a.tmps, params := ps, assign, body, defers := w.heap.size } := ⟨_, rfl⟩
  obtain ⟨W1, hW1⟩ : ∃ W1, (w.alloc (.deferred (some []))).alloc (.loop (rec .ready none)) = W1 := ⟨_, rfl⟩
  obtain ⟨L, hL⟩ : ∃ L, L = w.heap.size + 1 := ⟨_, rfl⟩
  obtain ⟨Dk, hDk⟩ : ∃ Dk, Dk = w.heap.size := ⟨_, rfl⟩
  have hL1 : W1.heap[L]? = some (.loop (rec .ready none)) := by
    rw [← hW1, hL]; have := World.alloc_heap_new (w.alloc (.deferred (some []))) (.loop (rec .ready none)); rwa [World.size_alloc] at this
  have hK1 : W1.heap[Dk]? = some (.deferred (some [])) := by
    rw [← hW1, hDk]; exact (Below.heap_alloc _ _ _ (by simp)).trans (World.alloc_heap_new w _)
  have hm1 : Mv S w.heap.size w W1 := by rw [← hW1]; exact ((Mv.refl _ _ _).alloc _).alloc _
  have hg1 : Gr w W1 := by rw [← hW1]; exact ((Gr.rfl' w).al _).al _
  have hSL : ¬ S L := fun h => by have := hS _ h; omega
  have hSD : ¬ S Dk := fun h => by have := hS _ h; omega
  have hBL : w.heap.size ≤ L := by omega
  refine ⟨L, [{ target := .collected Dk, args := #[] }], W1, { target := .fn (.func gf) lb, args := #[.func (.yield L) #[] #[]] }, W1, gf,
    #[.func (.yield L) #[] #[]] ++ lb, W1, ?_, ?_, fun _ _ => trivial, ?_, fun h => absurd h (by simp [Fence.wide]), ?_⟩
  · rw [← hW1, hrec, hL, hDk]; exact run_enterLoop_outer _ _ _ _ _
  · simp only [resolve, hg]
    simp [go_sem]
  · simp [invoke, go_sem, eg]
  · refine (hit L
      (fun pre W => I pre W ∧ W.heap[L]? = some (.loop (rec .ready none)) ∧ W.heap[Dk]? = some (.deferred (some [])))
      (fun pre W => ∃ c, Ix c pre W ∧ W.heap[L]? = some (.loop (rec .done (some c))) ∧ W.heap[Dk]? = some (.deferred (some [])))
      W1 hg1 ?_ ?_ ?_ ⟨hI _ _ _ h0 hm1, hL1, hK1⟩).mono ?_
    · rintro pre A B ⟨hi, hl, hk⟩ hm
      exact ⟨hI _ _ _ hi hm.weak, hm.any hl hSL, hm.any hk hSD⟩
    · rintro pre A B ⟨c, hi, hl, hk⟩ hm
      exact ⟨c, hIx _ _ _ _ hi hm.weak, hm.any hl hSL, hm.any hk hSD⟩
    · -- one round
      rintro pre x W ⟨hi, hl, hk⟩ hpre
      have hlt : L < W.heap.size := (Array.getElem?_eq_some_iff.1 hl).1
      have hy := run_yield (P := P) (args := encs x) hl (by rw [hrec]; exact hps x)
      rw [hrec] at hy
      refine ⟨fn, _, assign, body, hy, roundIn_of_wpIn hfn (hassign _ pre x W _ hi hpre hBL hlt ?_)⟩
      clear hy
      intro a' Wa hkfa hkpa hax
      have hla := hkfa.same _ _ hBL hl rfl
      have hka := hkfa.same _ _ (by omega) hk rfl
      have hlta : L < Wa.heap.size := (Array.getElem?_eq_some_iff.1 hla).1
      refine ⟨_, run_beginRound hla (by rw [hrec]), ?_⟩
      have hl2 : (Wa.putObj L (.loop { rec .ready none with state := .busy })).heap[L]? = some (.loop { rec .ready none with state := .busy }) := World.putObj_heap_same hlta
      have hk2 : (Wa.putObj L (.loop { rec .ready none with state := .busy })).heap[Dk]? = some (.deferred (some [])) := (World.putObj_heap_other (by omega)).trans hka
      have hm2 : Mv S w.heap.size Wa (Wa.putObj L (.loop { rec .ready none with state := .busy })) := Mv.putLoop hla hBL _
      have hp2 : Kp S n0 W (Wa.putObj L (.loop { rec .ready none with state := .busy })) := hkpa.putObj ⟨by omega, hSL⟩ _
      refine wpIn_mono (hbody _ pre x a' _ hBL ⟨_, hl2⟩ hpre (hAx _ _ _ _ _ hax hm2)) ?_
      generalize hW2 : Wa.putObj L (.loop { rec .ready none with state := .busy }) = W2 at *
      have fin : ∀ (jump : Option Code) (W3 : World), KeepsFrom w.heap.size W2 W3 → Kp S n0 W2 W3 → ∃ W4,
          (Instr.endRound L jump).run P W3 = .ok (.bool jump.isNone) W4 ∧ Mv S w.heap.size W3 W4 ∧ Kp S n0 W W4 ∧
          W4.heap[L]? = some (.loop (rec (if jump.isNone then .ready else .done) jump)) ∧ W4.heap[Dk]? = some (.deferred (some [])) := fun jump W3 hk3 hp3 => by
        have hl3 := hk3.same _ _ hBL hl2 rfl
        have hd3 := hk3.same _ _ (by omega) hk2 rfl
        have hr := run_endRound (P := P) jump hl3
        refine ⟨_, hr, Mv.putLoop hl3 hBL _, (hp2.trans hp3).putObj ⟨by omega, hSL⟩ _, ?_, (World.putObj_heap_other (by omega)).trans hd3⟩
        rw [World.putObj_heap_same (Array.getElem?_eq_some_iff.1 hl3).1, hrec]
      rintro e a3 W3 hp
      cases e with
      | normal =>
        obtain ⟨hk3, hkp3, hi3⟩ := hp
        obtain ⟨W4, hr, hm4, hp4, hl4, hd4⟩ := fin none W3 hk3 hkp3
        exact ⟨_, W4, hr, hp4, .inl ⟨rfl, hI _ _ _ hi3 hm4, hl4, hd4⟩⟩
      | ret =>
        obtain ⟨hk3, hkp3, hi3⟩ := hp
        obtain ⟨W4, hr, hm4, hp4, hl4, hd4⟩ := fin (some .ret) W3 hk3 hkp3
        exact ⟨_, W4, hr, hp4, .inr ⟨rfl, .ret, hIx _ _ _ _ hi3 hm4, hl4, hd4⟩⟩
      | exit id =>
        obtain ⟨hk3, hkp3, hi3⟩ := hp
        obtain ⟨W4, hr, hm4, hp4, hl4, hd4⟩ := fin (some (.exit id)) W3 hk3 hkp3
        exact ⟨_, W4, hr, hp4, .inr ⟨rfl, .exit id, hIx _ _ _ _ hi3 hm4, hl4, hd4⟩⟩
      | goto t =>
        obtain ⟨hk3, hkp3, hi3⟩ := hp
        obtain ⟨W4, hr, hm4, hp4, hl4, hd4⟩ := fin (some (.goto t)) W3 hk3 hkp3
        exact ⟨_, W4, hr, hp4, .inr ⟨rfl, .goto t, hIx _ _ _ _ hi3 hm4, hl4, hd4⟩⟩
      | panic ch => exact hp.elim
      | outgrown => exact hp.elim
    · -- behind the iterator
      rintro e W2 ⟨⟨v, rfl⟩, (⟨hi, hl, hk⟩ | ⟨pre, hpre, c, hi, hl, hk⟩)⟩
      · have hr := run_endLoop (P := P) hl (by rw [hrec]; simp)
        rw [hrec] at hr
        exact ⟨none, _, hr, hdone Dk _ (by omega) (hI _ _ _ hi (Mv.putLoop hl hBL _)) ((World.putObj_heap_other (by omega)).trans hk)⟩
      · have hr := run_endLoop (P := P) hl (by rw [hrec]; simp)
        rw [hrec] at hr
        exact ⟨some c, _, hr, hstop Dk c pre _ (by omega) hpre (hIx _ _ _ _ hi (Mv.putLoop hl hBL _)) ((World.putObj_heap_other (by omega)).trans hk)⟩
end Go.Proofs.Ytfobnemocodomaa
