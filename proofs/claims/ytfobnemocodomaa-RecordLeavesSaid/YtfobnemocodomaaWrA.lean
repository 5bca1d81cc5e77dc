/- A coder.Writer: its strings.Builder stands in the first two of its three cells; copyCheck, WriteString, String there. -/
import Derived.Test.YtfobnemocodomaaCntF
import Derived.Lib.Builder
import Derived.Lib.AppendStr
import Derived.Lib.UnsafeStr
import Derived.Lib.Strings
import Derived.Laws.Externs
set_option linter.unusedVariables false
set_option linter.unusedSimpArgs false
set_option maxHeartbeats 400000
namespace Go.Proofs.Ytfobnemocodomaa
open Go.RowKit Go.Shelf

/-- a writer in block b: what it holds, and what is wrong -/
structure WrP (p v : Value) (B b : Nat) (l : List UInt8) (e : Int) (w : World) : Prop where
  hB : B ≤ b
  hp : p = .pointer none ∨ p = .pointer (some ⟨b, 0, none⟩)
  hb : w.heap[b]? = some (.cells #[p, v, .int .i64 e] 133 (0, 0))
  own : w.ownsRow B 5 1 v l.length (Lib.byteCells l)
  hn : l = [] → v = .slice none 0 0
def Wr (B b : Nat) (l : List UInt8) (e : Int) (w : World) : Prop := ∃ p v, WrP p v B b l e w

def isU8 : Obj → Bool
  | .cells _ t _ => t == 5
  | .view _ t => t == 5
  | _ => false
/-- what a writer's method may turn: its own block, its buffer -/
structure Wm (B b : Nat) (w w' : World) : Prop where
  os : w'.os = w.os
  tape : w'.tape = w.tape
  output : w'.output = w.output
  size : w.heap.size ≤ w'.heap.size
  low : ∀ k, k < B → k < w.heap.size → w'.heap[k]? = w.heap[k]?
  typ : ∀ k o, w.heap[k]? = some o → k ≠ b → isU8 o = false → w'.heap[k]? = some o
theorem Wm.refl (B b : Nat) (w : World) : Wm B b w w := ⟨rfl, rfl, rfl, Nat.le_refl _, fun _ _ _ => rfl, fun _ _ h _ _ => h⟩
theorem Wm.trans {B b : Nat} {X Y Z : World} (h : Wm B b X Y) (k : Wm B b Y Z) : Wm B b X Z :=
  ⟨k.os.trans h.os, k.tape.trans h.tape, k.output.trans h.output, Nat.le_trans h.size k.size, fun i hi hlt => (k.low i hi (Nat.lt_of_lt_of_le hlt h.size)).trans (h.low i hi hlt), fun i o ho hb ht => k.typ i o (h.typ i o ho hb ht) hb ht⟩
theorem Wm.gr {B b : Nat} {X Y Z : World} (h : Wm B b X Y) (k : Gr Y Z) : Wm B b X Z :=
  ⟨k.os.trans h.os, k.tape.trans h.tape, k.output.trans h.output, Nat.le_trans h.size k.size, fun i hi hlt => (k.block i (Nat.lt_of_lt_of_le hlt h.size)).trans (h.low i hi hlt), fun i o ho hb ht => (k.block i (Array.getElem?_eq_some_iff.1 (h.typ i o ho hb ht)).1).trans (h.typ i o ho hb ht)⟩
theorem Wm.setCell {B b : Nat} {X Y : World} (h : Wm B b X Y) (hB : B ≤ b) (o : Nat) (u : Value) : Wm B b X (Y.setCell ⟨b, o, none⟩ u) :=
  ⟨h.os, h.tape, h.output, by show X.heap.size ≤ (Y.heap.modify _ _).size; rw [Array.size_modify]; exact h.size, fun k hk hlt => (Below.heap_setCell _ _ _ _ (by show k ≠ b; omega)).trans (h.low k hk hlt), fun k o ho hb ht => (Below.heap_setCell _ _ _ _ (by show k ≠ b; exact hb)).trans (h.typ k o ho hb ht)⟩
theorem Wm.below {B b : Nat} {w0 X Y : World} (h : Wm B b X Y) (g : Gr w0 X) (hB : w0.heap.size ≤ B) : Gr w0 Y :=
  ⟨h.os.trans g.os, h.tape.trans g.tape, h.output.trans g.output, Nat.le_trans g.size h.size, fun k hk => (h.low k (by omega) (by have := g.size; omega)).trans (g.block k hk)⟩
theorem Wm.grown {B b : Nat} {X Y Z : World} {v : Value} {n : Nat} {xs : List Value} (h : Wm B b X Y) (hown : Y.ownsRow B 5 1 v n xs) (hg : Y.grownBy Z v.ownBlock) : Wm B b X Z :=
  ⟨hg.os.trans h.os, hg.tape.trans h.tape, hg.output.trans h.output, Nat.le_trans h.size hg.size,
   fun k hk hlt => (hg.block k (Nat.lt_of_lt_of_le hlt h.size) (fun e => by have := (hown.lt k e.symm).1; omega)).trans (h.low k hk hlt),
   fun k o ho hb ht => by
     have h1 := h.typ k o ho hb ht
     refine (hg.block k (Array.getElem?_eq_some_iff.1 h1).1 (fun e => ?_)).trans h1
     rcases hown.2 with ⟨rfl, _⟩ | ⟨g, cap, cur, rfl, _, hgb, _⟩
     · simp [Value.ownBlock] at e
     · obtain rfl : k = g := by simpa [Value.ownBlock] using e
       rw [hgb] at h1
       cases h1
       simp [isU8] at ht⟩
theorem Wm.cell {B b : Nat} {X Y : World} (h : Wm B b X Y) {p : Addr} {v : Value} {cs : Array Value} {t : TypeId} {fr : Nat × Nat} (hk : X.heap[p.block]? = some (.cells cs t fr)) (hb : p.block ≠ b) (ht : t ≠ 5) (hc : X.cell? p = some v) : Y.cell? p = some v :=
  (World.cell?_of_block ((h.typ _ _ hk hb (by simp [isU8, ht])).trans hk.symm)).trans hc

theorem Wr.lt {B b : Nat} {l : List UInt8} {e : Int} {w : World} (h : Wr B b l e w) : b < w.heap.size := by
  obtain ⟨p, v, h⟩ := h
  exact (Array.getElem?_eq_some_iff.1 h.hb).1
theorem WrP.ne {p v : Value} {B b : Nat} {l : List UInt8} {e : Int} {w : World} (h : WrP p v B b l e w) : v.ownBlock ≠ some b := by
  rcases h.own.2 with ⟨rfl, _⟩ | ⟨g, cap, cur, rfl, _, hgb, _⟩
  · simp [Value.ownBlock]
  · intro e
    obtain rfl : g = b := by simpa [Value.ownBlock] using e
    rw [h.hb] at hgb
    cases hgb
/-- the world has grown: the writer is as it was -/
theorem Wr.gr {B b : Nat} {l : List UInt8} {e : Int} {w w' : World} (h : Wr B b l e w) (g : Gr w w') : Wr B b l e w' := by
  obtain ⟨p, v, h⟩ := h
  exact ⟨p, v, h.hB, h.hp, (g.block b (Array.getElem?_eq_some_iff.1 h.hb).1).trans h.hb, h.own.kept (row := none) ⟨g.os, g.tape, g.output, g.size, fun k hk _ => g.block k hk⟩ (by cases v.ownBlock <;> simp), h.hn⟩
theorem WrP.cell0 {p v : Value} {B b : Nat} {l : List UInt8} {e : Int} {w : World} (h : WrP p v B b l e w) : w.cell? ⟨b, 0, none⟩ = some p := by simp [World.cell?, h.hb]
theorem WrP.cell1 {p v : Value} {B b : Nat} {l : List UInt8} {e : Int} {w : World} (h : WrP p v B b l e w) : w.cell? ⟨b, 1, none⟩ = some v := by simp [World.cell?, h.hb]
theorem WrP.cell2 {p v : Value} {B b : Nat} {l : List UInt8} {e : Int} {w : World} (h : WrP p v B b l e w) : w.cell? ⟨b, 2, none⟩ = some (.int .i64 e) := by simp [World.cell?, h.hb]
theorem WrP.frz {p v : Value} {B b : Nat} {l : List UInt8} {e : Int} {w : World} (h : WrP p v B b l e w) (o : Nat) : w.frozen? ⟨b, o, none⟩ = false := by simp [World.frozen?, h.hb]
theorem WrP.shape {p v : Value} {B b : Nat} {l : List UInt8} {e : Int} {w : World} (h : WrP p v B b l e w) : w.shape? b = some (133, 3) := by simp [World.shape?, h.hb]
theorem heap_set_sameW {W : World} {b o : Nat} {cs : Array Value} {t : TypeId} {fr : Nat × Nat} (h : W.heap[b]? = some (.cells cs t fr)) (u : Value) : (W.setCell ⟨b, o, none⟩ u).heap[b]? = some (.cells (cs.setIfInBounds o u) t fr) := by
  simp [World.setCell, Array.getElem?_modify, h]
theorem own_setW {w : World} {B b : Nat} {v : Value} {n : Nat} {xs : List Value} (h : w.ownsRow B 5 1 v n xs) (hne : v.ownBlock ≠ some b) (o : Nat) (u : Value) : (w.setCell ⟨b, o, none⟩ u).ownsRow B 5 1 v n xs :=
  h.kept (row := some b) ⟨rfl, rfl, rfl, by simp [World.setCell], fun k _ hk => Below.heap_setCell _ _ _ _ (fun e => hk (by simp [e]))⟩ (Or.inr hne)

theorem sizeBuilderW : (Try.prog.info? 131).map (·.size) = some 2 := by kernel_rfl
theorem liesBuilderW : liesAt Try.prog Try.prog.depth 133 (3 / Try.prog.cellsOf 133) 0 131 1 = true := by kernel_rfl

set_option maxHeartbeats 1000000 in
set_option maxRecDepth 100000 in
theorem cc_used (b : Nat) (w : World) (h0 : w.cell? ⟨b, 0, none⟩ = some (.pointer (some ⟨b, 0, none⟩))) :
    Calls Try.prog 216 #[.pointer (some ⟨b, 0, none⟩)] w fun e w' => e = .returned (.tuple #[]) ∧ w' = w := by
  obtain ⟨j, hj, _⟩ := Option.map_eq_some_iff.1 sizeBuilderW
  go_enter Try.func216, Try.ntmps216
  go_wp2
  rw [Lib.run_neq_ptr_same w _ Try.underlying128 hj]
  go_wp2
  go_end0
  exact ⟨rfl, rfl⟩

set_option maxHeartbeats 1000000 in
set_option maxRecDepth 100000 in
theorem cc_fresh (b : Nat) (w : World) (h0 : w.cell? ⟨b, 0, none⟩ = some (.pointer none)) (hsh : w.shape? b = some (133, 3)) (hfz : w.frozen? ⟨b, 0, none⟩ = false) :
    Calls Try.prog 216 #[.pointer (some ⟨b, 0, none⟩)] w fun e w' => e = .returned (.tuple #[]) ∧ w' = w.setCell ⟨b, 0, none⟩ (.pointer (some ⟨b, 0, none⟩)) := by
  obtain ⟨j, hj, hjs⟩ := Option.map_eq_some_iff.1 sizeBuilderW
  go_enter Try.func216, Try.ntmps216
  go_wp2
  rw [Lib.run_to_unsafe w ⟨b, 0, none⟩ Try.underlying128 Try.underlying245 hj (by rw [hjs]; decide) hsh (by show 0 < 3; decide)]
  simp only [Result.andThen]
  rw [Oper.upon_value]
  go_wp2
  rw [run_callFunc_extern Try.func221 (by kernel_rfl) (by kernel_rfl) (by kernel_rfl) (e := Extern.AbiNoEscape.same) (by kernel_rfl)]
  rw [Lib.run_noEscape]
  simp only [Result.andThen]
  rw [Oper.upon_value]
  go_wp2
  rw [Lib.run_from_unsafe w ⟨b, 0, none⟩ Try.underlying245 Try.underlying128 hj hsh liesBuilderW]
  simp only [Result.andThen]
  rw [Oper.upon_value]
  go_wp2
  go_end0
  exact ⟨rfl, rfl⟩
end Go.Proofs.Ytfobnemocodomaa
