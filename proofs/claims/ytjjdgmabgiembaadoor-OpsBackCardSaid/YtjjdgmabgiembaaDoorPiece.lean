/- The pieces that came in: what they read as; great. -/
import Derived.Test.YtjjdgmabgiembaaDoorRwB
import Derived.Deep.MidRow
import Derived.Deep.WholeRow
import Derived.Deep.Slices
import Derived.Great.Walk
set_option linter.unusedVariables false
set_option linter.unusedSimpArgs false
set_option maxHeartbeats 400000
namespace Go.Proofs.YtjjdgmabgiembaaDoor
open Go.RowKit Go.Shelf Go.Great

structure Pc where
  K : Int
  N : Int
  S : ByteArray
  D : List UInt8
/-- a piece's 35 cells -/
def Pc.cells (x : Pc) : List Value := [.int .i64 x.K, .int .i64 x.N, .string x.S] ++ x.D.map fun b => Value.int .u8 b.toNat
structure Pc.ok (x : Pc) : Prop where
  d : x.D.length = 32
  s : x.S.size ≤ 9223372036854775807
theorem Pc.len {x : Pc} (h : x.ok) : x.cells.length = 35 := by simp [Pc.cells, h.d]
theorem Pc.dig {x : Pc} (j : Nat) (hj : j < x.D.length) : x.cells[3 + j]? = some (.int .u8 x.D[j].toNat) := by
  unfold Pc.cells
  rw [List.getElem?_append_right (by simp)]
  simp [List.getElem?_eq_getElem hj]

/-- the pieces in the heap -/
def Pcs (w : World) (A : Option Addr) (l : List Pc) : Prop :=
  l.length ≤ 9223372036854775807 ∧ ∀ i (h : i < l.length), ∃ ad, A = some ad ∧ l[i].ok ∧ ∀ j v, l[i].cells[j]? = some v → w.cell? ((ad.add (i * 35)).add j) = some v
theorem Pcs.gr {w w' : World} {A : Option Addr} {l : List Pc} (h : Pcs w A l) (g : Gr w w') : Pcs w' A l :=
  ⟨h.1, fun i hi => let ⟨ad, e, a, b⟩ := h.2 i hi; ⟨ad, e, a, fun j v hj => g.cell (b j v hj)⟩⟩

/-- a variable of several cells, read whole, wherever it lies -/
theorem run_loadVar_at {P : Program} (w : World) (a : Addr) (ty : TypeId) (cs : List Value) (d : TypeDesc) (hc : ∀ j v, cs[j]? = some v → w.cell? (a.add j) = some v)
    (hu : P.underlying ty = some d) (hd : d.isRow = true) (hi : (P.info? ty).map (·.size) = some cs.length) :
    (loadVar ty a).run P w = .ok (.agg cs.toArray) w := by
  have hl : (loadCells a cs.length).run P w = .ok cs.toArray w := run_loadCells_list (P := P) w a cs hc
  cases hq : P.info? ty with
  | none => simp [hq] at hi
  | some i =>
    have hs : i.size = cs.length := by simpa [hq] using hi
    have hagg : (isAgg ty).run P w = .ok true w := by
      unfold isAgg
      rw [Sem.run_bind, run_underlying hu w]
      cases d <;> simp_all
    simp [loadVar, Sem.run_bind, hagg, sizeOf, typeInfo, hq, hs, hl]
theorem wpList_load_at {P : Program} {ops : Array Oper} {rest : List Oper} {op : Oper} {a : Act} {w : World} {Q : Exit → Act → World → Prop} (hgd : op.guard = none) (ty : TypeId) (x : Operand) (ho : op.op = .load ty x)
    (ad : Addr) (hx : a.eval x = .pointer (some ad)) (cs : List Value) (d : TypeDesc) (hc : ∀ j v, cs[j]? = some v → w.cell? (ad.add j) = some v)
    (hu : P.underlying ty = some d) (hd : d.isRow = true) (hi : (P.info? ty).map (·.size) = some cs.length)
    (h : wpList P ops Q rest (a.put op.dst (.agg cs.toArray)) w) : wpList P ops Q (op :: rest) a w := by
  refine wpList_plain hgd fun _ hK => ?_
  unfold Oper.wp execOp
  simp only [ho, hx, Instr.loadAt, Instr.sureAddr, Sem.run_bind, Sem.run_pure, Result.andThen_ok, run_loadVar_at w ad ty cs d hc hu hd hi]
  exact hK _ _ h

def greatGo (i : Nat) (n : Int) : List Pc → Bool
  | [] => false
  | x :: r => if 60 ≤ i ∨ 70000 < wrap64 (n + x.S.size) then true else greatGo (i + 1) (wrap64 (n + x.S.size)) r
theorem greatGo_no : ∀ (l : List Pc) (i : Nat) (n : Int), i ≤ 60 → greatGo i n l = false → l.length + i ≤ 60
  | [], i, n, hi, _ => by simp; omega
  | x :: r, i, n, hi, h => by
    unfold greatGo at h
    split at h
    · cases h
    · rename_i hc
      have h60 : ¬ 60 ≤ i := fun h => hc (.inl h)
      have := greatGo_no r (i + 1) _ (by omega) h
      simp only [List.length_cons]; omega

theorem add_fld (a : Addr) (j : Nat) (h : j ≠ 0) : a.add j = ⟨a.block, a.off + j, none⟩ := by unfold Addr.add; rw [if_neg h]
theorem add_zero' (a : Addr) : a.add 0 = a := by unfold Addr.add; rw [if_pos rfl]
structure PcAt (w : World) (a : Addr) (x : Pc) : Prop where
  ok : x.ok
  at' : ∀ j v, x.cells[j]? = some v → w.cell? (a.add j) = some v
theorem Pcs.get {w : World} {A : Option Addr} {l : List Pc} (h : Pcs w A l) (i : Nat) (hi : i < l.length) : ∃ ad, A = some ad ∧ PcAt w (ad.add (i * 35)) l[i] := by
  obtain ⟨ad, e, a, b⟩ := h.2 i hi
  exact ⟨ad, e, a, b⟩
theorem PcAt.c0 {w : World} {a : Addr} {x : Pc} (h : PcAt w a x) : w.cell? a = some (.int .i64 x.K) := by have := h.at' 0 _ rfl; rwa [add_zero'] at this
theorem PcAt.c1 {w : World} {a : Addr} {x : Pc} (h : PcAt w a x) : w.cell? ⟨a.block, a.off + 1, none⟩ = some (.int .i64 x.N) := by have := h.at' 1 _ rfl; rwa [add_fld _ _ (by decide)] at this
theorem PcAt.c2 {w : World} {a : Addr} {x : Pc} (h : PcAt w a x) : w.cell? ⟨a.block, a.off + 2, none⟩ = some (.string x.S) := by have := h.at' 2 _ rfl; rwa [add_fld _ _ (by decide)] at this

end Go.Proofs.YtjjdgmabgiembaaDoor
