/- ops.take. -/
import Derived.Test.YtjjdgmabgiembaaDoorOpsI
import Derived.Test.YtjjdgmabgiembaaDoorRsB
set_option linter.unusedVariables false
set_option linter.unusedSimpArgs false
set_option maxHeartbeats 4000000
namespace Go.Proofs.YtjjdgmabgiembaaDoor
open Go.RowKit Go.Shelf

/-- an operation that is being taken, what is left, and what is wrong -/
abbrev Rst := Opx × ByteArray × Int
def setN (i : Nat) (v : Int) (x : Opx) : Opx := match i with
  | 0 => { x with T := v }
  | 1 => { x with N := v }
  | 2 => { x with A := v }
  | _ => { x with M := v }
def setT (i : Nat) (v : ByteArray) (x : Opx) : Opx := match i with
  | 0 => { x with Pa := v }
  | _ => { x with Da := v }
def tnum (i : Nat) (m : Int) (s : Rst) : Rst := (setN i (numM m s.2.1 s.2.2).1 s.1, (numM m s.2.1 s.2.2).2.1, (numM m s.2.1 s.2.2).2.2)
def ttxt (i : Nat) (m : Int) (s : Rst) : Rst := (setT i (txtM m s.2.1 s.2.2).1 s.1, (txtM m s.2.1 s.2.2).2.1, (txtM m s.2.1 s.2.2).2.2)
def ctnum (b : Bool) (i : Nat) (m : Int) (s : Rst) : Rst := if b = true then tnum i m s else s
def cttxt (b : Bool) (i : Nat) (m : Int) (s : Rst) : Rst := if b = true then ttxt i m s else s
/-- the numbers taken, up to the i-th of three -/
def rnTo (fl : Int) (s : Rst) : Nat → Rst
  | 0 => s
  | i + 1 => ctnum (bitB fl (2 ^ (1 + i))) (1 + i) 1073741824 (rnTo fl s i)
def rtTo (fl : Int) (s : Rst) : Nat → Rst
  | 0 => s
  | i + 1 => cttxt (bitB fl (2 ^ (4 + i))) i 255 (rtTo fl s i)
def zOp : Opx := ⟨0, 0, 0, 0, 0, 0, ⟨#[]⟩, ⟨#[]⟩⟩
/-- what taking an operation comes to -/
def otake (S : ByteArray) (e : Int) : Rst :=
  if (numM 1073741824 S e).2.2 ≠ 0 then (zOp, (numM 1073741824 S e).2.1, (numM 1073741824 S e).2.2)
  else if ¬ ((numM 1073741824 S e).1 < 13) then (zOp, (numM 1073741824 S e).2.1, 15)
  else
    let K := (numM 1073741824 S e).1
    let a := numM 63 (numM 1073741824 S e).2.1 0
    let fl := flds.getD K.toNat 0
    rtTo fl (rnTo fl (ctnum (bitB fl 1) 0 63 ({ zOp with K := K, P := a.1 }, a.2.1, a.2.2)) 3) 2
theorem numM_size (m : Int) (S : ByteArray) (e : Int) : (numM m S e).2.1.size ≤ S.size := by
  by_cases h : e = 0
  · subst h; exact (numM_bd m S).2.2
  · unfold numM; rw [if_pos h]; exact Nat.le_refl _
theorem cutB_size (S : ByteArray) (k : Nat) : (cutB S k).size ≤ S.size := by
  unfold cutB; rw [ByteArray.size_extract]; omega
theorem txtM_size (m : Int) (S : ByteArray) (e : Int) : (txtM m S e).2.1.size ≤ S.size := by
  unfold txtM
  split
  · exact Nat.le_refl _
  · split
    · exact Nat.le_refl _
    · exact cutB_size _ _
theorem ctnum_size (b : Bool) (i : Nat) (m : Int) (s : Rst) : (ctnum b i m s).2.1.size ≤ s.2.1.size := by
  unfold ctnum; split
  · exact numM_size _ _ _
  · exact Nat.le_refl _
theorem cttxt_size (b : Bool) (i : Nat) (m : Int) (s : Rst) : (cttxt b i m s).2.1.size ≤ s.2.1.size := by
  unfold cttxt; split
  · exact txtM_size _ _ _
  · exact Nat.le_refl _
theorem rnTo_size (fl : Int) (s : Rst) : ∀ i, (rnTo fl s i).2.1.size ≤ s.2.1.size
  | 0 => Nat.le_refl _
  | i + 1 => Nat.le_trans (ctnum_size _ _ _ _) (rnTo_size fl s i)
theorem rtTo_size (fl : Int) (s : Rst) : ∀ i, (rtTo fl s i).2.1.size ≤ s.2.1.size
  | 0 => Nat.le_refl _
  | i + 1 => Nat.le_trans (cttxt_size _ _ _ _) (rtTo_size fl s i)
theorem rnTo_t {fl : Int} {s : Rst} {i : Nat} (h : bitB fl (2 ^ (1 + i)) = true) : rnTo fl s (i + 1) = tnum (1 + i) 1073741824 (rnTo fl s i) := by rw [rnTo, h]; rfl
theorem rnTo_f {fl : Int} {s : Rst} {i : Nat} (h : bitB fl (2 ^ (1 + i)) = false) : rnTo fl s (i + 1) = rnTo fl s i := by rw [rnTo, h]; rfl
theorem rtTo_t {fl : Int} {s : Rst} {i : Nat} (h : bitB fl (2 ^ (4 + i)) = true) : rtTo fl s (i + 1) = ttxt i 255 (rtTo fl s i) := by rw [rtTo, h]; rfl
theorem rtTo_f {fl : Int} {s : Rst} {i : Nat} (h : bitB fl (2 ^ (4 + i)) = false) : rtTo fl s (i + 1) = rtTo fl s i := by rw [rtTo, h]; rfl
theorem otake_size (S : ByteArray) (e : Int) : (otake S e).2.1.size ≤ S.size := by
  unfold otake
  split
  · exact numM_size _ _ _
  · split
    · exact numM_size _ _ _
    · refine Nat.le_trans (rtTo_size _ _ _) (Nat.le_trans (rnTo_size _ _ _) (Nat.le_trans (ctnum_size _ _ _ _) ?_))
      exact Nat.le_trans (numM_size _ _ _) (numM_size _ _ _)
theorem numM_bd2 (m : Int) (S : ByteArray) (e : Int) : 0 ≤ (numM m S e).1 ∧ (numM m S e).1 ≤ 1073741824 := by
  by_cases h : e = 0
  · subst h; exact ⟨(numM_bd m S).1, (numM_bd m S).2.1⟩
  · unfold numM; rw [if_pos h]; simp
/-- an operation in a box -/
def OpAt (w : World) (g : Nat) (x : Opx) : Prop := w.heap[g]? = some (.cells x.cells 23 (0, 0))
theorem OpAt.rm {w w' : World} {g b : Nat} {x : Opx} (h : OpAt w g x) (m : Rm b w w') (hg : g ≠ b) : OpAt w' g x := (m.keep g (Array.getElem?_eq_some_iff.1 h).1 hg).trans h
theorem OpAt.cell {w : World} {g j : Nat} {x : Opx} {v : Value} (h : OpAt w g x) (hv : x.cells[j]? = some v) : w.cell? ⟨g, j, none⟩ = some v := oCell h hv
theorem OpAt.frz {w : World} {g : Nat} {x : Opx} (h : OpAt w g x) (j : Nat) : w.frozen? ⟨g, j, none⟩ = false := by
  have h' : w.heap[g]? = _ := h
  simp [World.frozen?, h']
theorem OpAt.setN {w : World} {g : Nat} {x : Opx} (h : OpAt w g x) (i : Nat) (hi : i < 4) (v : Int) : OpAt (w.setCell ⟨g, 2 + i, none⟩ (.int .i64 v)) g (setN i v x) := by
  have h1 := heap_set_sameW (o := 2 + i) h (.int .i64 v)
  have h4 : i = 0 ∨ i = 1 ∨ i = 2 ∨ i = 3 := by omega
  unfold OpAt
  rw [h1]
  rcases h4 with rfl | rfl | rfl | rfl <;> rfl
theorem OpAt.setT {w : World} {g : Nat} {x : Opx} (h : OpAt w g x) (i : Nat) (hi : i < 2) (v : ByteArray) : OpAt (w.setCell ⟨g, 6 + i, none⟩ (.string v)) g (setT i v x) := by
  have h1 := heap_set_sameW (o := 6 + i) h (.string v)
  have h4 : i = 0 ∨ i = 1 := by omega
  unfold OpAt
  rw [h1]
  rcases h4 with rfl | rfl <;> rfl
theorem OpAt.setP {w : World} {g : Nat} {x : Opx} (h : OpAt w g x) (v : Int) : OpAt (w.setCell ⟨g, 1, none⟩ (.int .i64 v)) g { x with P := v } := by
  have h1 := heap_set_sameW (o := 1) h (.int .i64 v)
  unfold OpAt
  rw [h1]; rfl
theorem Rm.set {c : Nat} {X Y : World} (h : Rm c X Y) {g : Nat} (hg : X.heap.size ≤ g) (o : Nat) (u : Value) : Rm c X (Y.setCell ⟨g, o, none⟩ u) :=
  ⟨h.os, h.tape, h.output, by show X.heap.size ≤ (Y.heap.modify _ _).size; rw [Array.size_modify]; exact h.size, fun k hk hkc => (Below.heap_setCell _ _ _ _ (by show k ≠ g; omega)).trans (h.keep k hk hkc)⟩
theorem Sr.setOther {t : TypeId} {c g : Nat} {S : ByteArray} {e : Int} {w : World} (h : Sr t c S e w) (hg : c ≠ g) (o : Nat) (u : Value) : Sr t c S e (w.setCell ⟨g, o, none⟩ u) := (Below.heap_setCell _ _ _ _ hg).trans h
end Go.Proofs.YtjjdgmabgiembaaDoor
