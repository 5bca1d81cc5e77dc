/- A coder.Reader: Digest. -/
import Derived.Test.YtjjdgmabgiembaaDoorRdB
import Derived.Lib.BufferWrite
set_option linter.unusedVariables false
set_option linter.unusedSimpArgs false
set_option maxHeartbeats 400000
namespace Go.Proofs.YtjjdgmabgiembaaDoor
open Go.RowKit Go.Shelf Go.Great

theorem run_copy_head (w : World) (ty : TypeId) (g : Nat) (s : ByteArray) (h32 : 32 ≤ s.size) (cur : Array Value) (t : TypeId) (hg : w.heap[g]? = some (.cells cur t (0, 0))) (hcur : cur.size = 32) :
    (Builtin.copy_ #[43, 9] ty #[.slice (some ⟨g, 0, none⟩) 32 32, .string s]).run Tryd.prog w = .ok (goInt 32) (w.setRow g (digC (s.data.toList.take 32))) := by
  have hl : (s.data.toList.take 32).length = 32 := by rw [List.length_take, ← Lib.size_eq]; omega
  have hlen : (Lib.byteCells (s.data.toList.take 32)).length = 32 := by rw [Lib.byteCells_length, hl]
  have hst := run_storeCells_at Tryd.prog g 0 t (Lib.byteCells (s.data.toList.take 32)) 0 cur w hg (by rw [hlen, hcur]; omega) (Lib.byteCells_one _)
  have hmin : Nat.min s.size 32 = 32 := Nat.min_eq_right h32
  rw [hlen] at hst
  have hrow : (cur.toList.take (0 + 0) ++ Lib.byteCells (s.data.toList.take 32) ++ cur.toList.drop (0 + 0 + 32)).toArray = digC (s.data.toList.take 32) := by
    rw [List.drop_eq_nil_of_le (by rw [Array.length_toList, hcur]; omega)]
    simp [digC, Lib.byteCells]
  rw [hrow] at hst
  have htk : List.take 32 (List.map (fun b : UInt8 => Value.int IntKind.u8 (b.toNat : Int)) s.data.toList) = Lib.byteCells (s.data.toList.take 32) := by
    rw [← List.map_take]; rfl
  obtain ⟨i0, hi, hz0, hz1, hz2⟩ := info_parts infoByte
  simp [Builtin.copy_, run_underlying Tryd.underlying43, Builtin.lenOf, Builtin.firstCells, sizeOf, typeInfo, hi, hz1, hmin]
  rw [htk, hst]
  simp [Result.andThen]
theorem wpList_copy32 {ops : Array Oper} {rest : List Oper} {o : Oper} {a : Act} {w : World} {Q : Exit → Act → World → Prop} (hgd : o.guard = none) (d x : Operand)
    (ho : o.op = .call { callee := .builtin .copy, args := #[d, x], argTypes := #[43, 9] }) (g : Nat) (s : ByteArray) (hd : a.eval d = .slice (some ⟨g, 0, none⟩) 32 32) (hx : a.eval x = .string s)
    (h32 : 32 ≤ s.size) (cur : Array Value) (t : TypeId) (hg : w.heap[g]? = some (.cells cur t (0, 0))) (hcur : cur.size = 32)
    (h : wpList Tryd.prog ops Q rest (a.put o.dst (.int .i64 32)) (w.setRow g (digC (s.data.toList.take 32)))) : wpList Tryd.prog ops Q (o :: rest) a w := by
  refine wpList_plain hgd fun K hK => ?_
  have hr := run_copy_head w o.type g s h32 cur t hg hcur
  unfold Oper.wp execOp
  simp only [ho, resolve, invoke, builtin, Sem.run_bind, Sem.run_pure, Result.andThen_ok, List.map_toArray, List.map_cons, List.map_nil, hd, hx, hr]
  exact hK _ _ h
theorem asA (g : Nat) (W : World) : (asAddr (.pointer (some ⟨g, 0, none⟩))).run Tryd.prog W = .ok ⟨g, 0, none⟩ W := rfl

/-- what the piece of a digest is -/
def digP (S : ByteArray) : List UInt8 × Nat × Int := if S.size < 32 then (Z32L, 0, 5) else (S.data.toList.take 32, 32, 0)
theorem digP_le (S : ByteArray) : (digP S).2.1 ≤ S.size := by
  unfold digP
  split
  · exact Nat.zero_le _
  · show 32 ≤ _; omega
theorem digP_len (S : ByteArray) : (digP S).1.length = 32 := by
  unfold digP
  split
  · exact Z32L_len
  · show (S.data.toList.take 32).length = 32
    rw [List.length_take, ← Lib.size_eq]; omega

def dgM (S : ByteArray) (e : Int) : List UInt8 × ByteArray × Int := if e ≠ 0 then (Z32L, S, e) else if (digP S).2.2 ≠ 0 then (Z32L, S, (digP S).2.2) else ((digP S).1, cutB S (digP S).2.1, 0)
theorem dgM_len (S : ByteArray) (e : Int) : (dgM S e).1.length = 32 := by
  unfold dgM
  split
  · exact Z32L_len
  split
  · exact Z32L_len
  · exact digP_len S
theorem Sr.setRow {t : TypeId} {c g : Nat} {S : ByteArray} {e : Int} {w : World} (h : Sr t c S e w) (hg : c ≠ g) (cs : Array Value) : Sr t c S e (w.setRow g cs) := (setRow_other _ _ _ _ hg).trans h
theorem Rm.setRow {c : Nat} {X Y : World} (h : Rm c X Y) {g : Nat} (hg : X.heap.size ≤ g) (cs : Array Value) : Rm c X (Y.setRow g cs) :=
  ⟨h.os, h.tape, h.output, by rw [size_setRow]; exact h.size, fun k hk hc => (setRow_other _ _ _ _ (by omega)).trans (h.keep k hk hc)⟩

end Go.Proofs.YtjjdgmabgiembaaDoor
