/- sha: rows of bytes that a function makes; digests in the heap. -/
import Derived.Test.YtkbomgjeoaophaaDoorShaF
import Derived.Deep.AppendLies
import Derived.Laws.OwnMore
set_option linter.unusedVariables false
set_option linter.unusedSimpArgs false
set_option maxHeartbeats 4000000
namespace Go.Proofs.YtkbomgjeoaophaaDoor
open Go.RowKit Go.Great

/-- bytes that a slice of the call's own holds -/
def OwnR (w : World) (B : Nat) (v : Value) (l : List UInt8) : Prop := w.ownsRow B 5 1 v l.length (byC l)
theorem OwnR.b {w : World} {B : Nat} {v : Value} {l : List UInt8} (h : OwnR w B v l) : OwnB w B v l := OwnB.of h
theorem OwnR.alloc {w : World} {B : Nat} {v : Value} {l : List UInt8} (h : OwnR w B v l) (o : Obj) : OwnR (w.alloc o) B v l := World.ownsRow.alloc h o
theorem OwnR.drew {w : World} {B : Nat} {v : Value} {l : List UInt8} (h : OwnR w B v l) : OwnR w.drew B v l := h
theorem OwnR.shape {w : World} {B : Nat} {v : Value} {l : List UInt8} (h : OwnR w B v l) : ∃ A cap, v = .slice A l.length cap := h.b.shape
theorem OwnR.blk {w : World} {B : Nat} {v : Value} {l : List UInt8} (h : OwnR w B v l) {k : Nat} (hk : v.ownBlock = some k) : B ≤ k := (h.b.blk k hk).1
theorem OwnR.gr {w w' : World} {B : Nat} {v : Value} {l : List UInt8} (h : OwnR w B v l) (g : Gr w w') : OwnR w' B v l := by
  refine ⟨h.1, ?_⟩
  rcases h.2 with h2 | ⟨g', cap, cur, hv, hb, hg, r⟩
  · exact .inl h2
  · exact .inr ⟨g', cap, cur, hv, hb, (g.block g' (Array.getElem?_eq_some_iff.1 hg).1).trans hg, r⟩
theorem OwnR.kept {w w' : World} {B : Nat} {v : Value} {l : List UInt8} (h : OwnR w B v l) (hk : ∀ k, v.ownBlock = some k → w'.heap[k]? = w.heap[k]?) : OwnR w' B v l := by
  refine ⟨h.1, ?_⟩
  rcases h.2 with h2 | ⟨g', cap, cur, rfl, hb, hg, r⟩
  · exact .inl h2
  · exact .inr ⟨g', cap, cur, rfl, hb, (hk g' rfl).trans hg, r⟩
/-- 'append(b, c)' -/
theorem append1 {w : World} {ops : Array Oper} {rest : List Oper} {o : Oper} {a : Act} {Q : Exit → Act → World → Prop} (hgd : o.guard = none) (s x : Operand)
    (ho : o.op = .call { callee := .builtin .append, args := #[s, x], argTypes := #[31, 31] }) (B : Nat) (v : Value) (l : List UInt8) (c : UInt8) (hs : a.eval s = v) (hown : OwnR w B v l)
    (ad : Addr) (hx : a.eval x = .slice (some ad) 1 1) (hc : w.cell? ad = some (.int .u8 (c.toNat : Int))) (hbytes : l.length + 1 ≤ 140737488355328) (hbase : B ≤ w.heap.size)
    (h : ∀ v' w', OwnR w' B v' (l ++ [c]) → w.grownBy w' v.ownBlock → wpList Tryd.prog ops Q rest (a.put o.dst v') w') : wpList Tryd.prog ops Q (o :: rest) a w := by
  obtain ⟨i0, hi, hz0, hz1, hz2⟩ := info_parts infoByteS
  refine wpList_append_own _ hgd s x 31 ho B 5 i0 (.int .u8 0) 1 1 Tryd.underlying31 hi hz0 hz1 hz2 rfl (by decide) v l.length (byC l) hs hown ad 1 1 [.int .u8 (c.toNat : Int)] hx rfl ?_ ?_ (by unfold maxLen; omega) (by omega) hbase ?_
  · intro j u hj
    have : j = 0 := by
      have := (List.getElem?_eq_some_iff.1 hj).1
      simp at this; omega
    subst this
    cases hj
    have e0 : ad.add 0 = ad := by unfold Addr.add; simp
    rw [e0]
    exact hc
  · intro u hu
    simp at hu
    subst hu
    rfl
  · intro v' w' h1 h2 _
    refine h v' w' ?_ h2
    have e1 : (l ++ [c]).length = l.length + 1 := by simp
    have e2 : byC (l ++ [c]) = byC l ++ [.int .u8 (c.toNat : Int)] := by simp [byC]
    unfold OwnR
    rw [e1, e2]
    exact h1
/-- 'append(b, l2...)' of bytes that lie anywhere -/
theorem appendS {w : World} {ops : Array Oper} {rest : List Oper} {o : Oper} {a : Act} {Q : Exit → Act → World → Prop} (hgd : o.guard = none) (s x : Operand)
    (ho : o.op = .call { callee := .builtin .append, args := #[s, x], argTypes := #[31, 31] }) (B B' : Nat) (v : Value) (l l2 : List UInt8) (hs : a.eval s = v) (hown : OwnR w B v l)
    (ad : Addr) (c : Nat) (hx : a.eval x = .slice (some ad) l2.length c) (hsrc : OwnB w B' (.slice (some ad) l2.length c) l2) (hbytes : l.length + l2.length ≤ 140737488355328) (hbase : B ≤ w.heap.size)
    (h : ∀ v' w', OwnR w' B v' (l ++ l2) → w.grownBy w' v.ownBlock → wpList Tryd.prog ops Q rest (a.put o.dst v') w') : wpList Tryd.prog ops Q (o :: rest) a w := by
  obtain ⟨i0, hi, hz0, hz1, hz2⟩ := info_parts infoByteS
  refine wpList_append_own _ hgd s x 31 ho B 5 i0 (.int .u8 0) 1 1 Tryd.underlying31 hi hz0 hz1 hz2 rfl (by decide) v l.length (byC l) hs hown ad l2.length c (byC l2) hx (by simp [byC]) ?_ ?_ (by unfold maxLen; omega) (by omega) hbase ?_
  · intro j u hj
    have hl : j < l2.length := by
      have := (List.getElem?_eq_some_iff.1 hj).1
      simpa [byC] using this
    obtain ⟨g, o', he, hc⟩ := hsrc.cell j hl
    cases he
    rw [Addr.add_mid, hc]
    rw [← hj]
    simp [byC, hl]
  · intro u hu
    simp only [byC, List.mem_map] at hu
    obtain ⟨b, _, rfl⟩ := hu
    rfl
  · intro v' w' h1 h2 _
    refine h v' w' ?_ h2
    have e1 : (l ++ l2).length = l.length + l2.length := by simp
    have e2 : byC (l ++ l2) = byC l ++ byC l2 := by simp [byC]
    unfold OwnR
    rw [e1, e2]
    exact h1
/-- 'append(b, none...)' -/
theorem append0 {w : World} {ops : Array Oper} {rest : List Oper} {o : Oper} {a : Act} {Q : Exit → Act → World → Prop} (hgd : o.guard = none) (s x : Operand)
    (ho : o.op = .call { callee := .builtin .append, args := #[s, x], argTypes := #[31, 31] }) (A : Option Addr) (n cap : Nat) (hs : a.eval s = .slice A n cap) (hle : n ≤ cap) (hx : a.eval x = .slice none 0 0)
    (h : wpList Tryd.prog ops Q rest (a.put o.dst (.slice A n cap)) w) : wpList Tryd.prog ops Q (o :: rest) a w := by
  obtain ⟨i0, hi, hz0, hz1, hz2⟩ := info_parts infoByteS
  refine wpList_plain hgd fun K hK => ?_
  have hr : (Builtin.append_ #[31, 31] o.type #[.slice A n cap, .slice none 0 0]).run Tryd.prog w = .ok (.slice A n cap) w := by
    have hroom : n + 0 ≤ cap := by omega
    cases A <;> simp [Builtin.append_, run_underlying Tryd.underlying31, sizeOf, typeInfo, hi, Builtin.lenOf, hroom, hle, Builtin.firstCells, storeCells]
  unfold Oper.wp execOp
  simp only [ho, resolve, invoke, builtin, Sem.run_bind, Sem.run_pure, Result.andThen_ok, List.map_toArray, List.map_cons, List.map_nil, hs, hx, hr]
  exact hK _ _ h

/-- 'append(b, l2...)', none among it -/
theorem appendA {w : World} {ops : Array Oper} {rest : List Oper} {o : Oper} {a : Act} {Q : Exit → Act → World → Prop} (hgd : o.guard = none) (s x : Operand)
    (ho : o.op = .call { callee := .builtin .append, args := #[s, x], argTypes := #[31, 31] }) (B B' : Nat) (v v2 : Value) (l l2 : List UInt8) (hs : a.eval s = v) (hown : OwnR w B v l)
    (hx : a.eval x = v2) (hsrc : OwnB w B' v2 l2) (hbytes : l.length + l2.length ≤ 140737488355328) (hbase : B ≤ w.heap.size)
    (h : ∀ v' w', OwnR w' B v' (l ++ l2) → w.grownBy w' v.ownBlock → wpList Tryd.prog ops Q rest (a.put o.dst v') w') : wpList Tryd.prog ops Q (o :: rest) a w := by
  rcases id hsrc with ⟨rfl, rfl⟩ | ⟨g, o', cap, cur, rfl, _⟩
  · obtain ⟨A, cap, rfl⟩ := hown.shape
    refine append0 hgd s x ho A l.length cap hs ?_ hx (h _ _ (by rw [List.append_nil]; exact hown) ⟨rfl, rfl, rfl, Nat.le_refl _, fun _ _ _ => rfl⟩)
    rcases hown.b with ⟨h1, h2⟩ | ⟨_, _, c, _, hv, _, _, h1, _⟩
    · simp only [Value.slice.injEq] at h1; omega
    · simp only [Value.slice.injEq] at hv; omega
  · exact appendS hgd s x ho B B' v l l2 hs hown _ cap hx hsrc hbytes hbase h
def Zb : List UInt8 := List.replicate 32 0
theorem Zb_info : (Tryd.prog.info? 24).map (fun i => (i.zero, i.size)) = some (some (.agg (bC Zb)), 32) := by kernel_rfl
theorem sz32 : (Tryd.prog.info? 24).map (·.size) = some 32 := (zero_of_info Zb_info).2
theorem allocD {ops : Array Oper} {rest : List Oper} {o : Oper} {a : Act} {w : World} {Q : Exit → Act → World → Prop} (hg : o.guard = none) (ho : o.op = .alloc 24)
    (h : wpList Tryd.prog ops Q rest (a.put o.dst (.pointer (some ⟨w.heap.size, 0, none⟩))) (w.alloc (.cells (bC Zb) 24))) : wpList Tryd.prog ops Q (o :: rest) a w := by
  refine wpList_allocTo hg o.dst rfl _ (.cells (bC Zb) 24) ?_ h
  have hz := (zero_of_info Zb_info).1
  unfold execOp
  simp [ho, Instr.alloc, hz, Value.cells, go_sem]
/-- a whole block of bytes, stored over -/
theorem storeD {ops : Array Oper} {rest : List Oper} {o : Oper} {a : Act} {w : World} {Q : Exit → Act → World → Prop} (b : Nat) (l l' : List UInt8) (hg : o.guard = none) (x y : Operand) (ho : o.op = .store 24 x y) (hd : o.dst = none)
    (hx : a.eval x = .pointer (some ⟨b, 0, none⟩)) (hy : a.eval y = .agg (bC l')) (hB : Bs w b 24 l) (hl : l.length = 32) (hl' : l'.length = 32)
    (h : wpList Tryd.prog ops Q rest a (w.setRow b (bC l'))) : wpList Tryd.prog ops Q (o :: rest) a w := by
  refine wpList_store_row hg 24 x y ho b (bC l') hx hy 24 (bC l) hB (by rw [bC_size, hl', sz32]) (by rw [bC_size, bC_size, hl, hl']) (bC_one l') ?_
  rw [hd]
  exact h
theorem loadD {ops : Array Oper} {rest : List Oper} {o : Oper} {a : Act} {w : World} {Q : Exit → Act → World → Prop} (b : Nat) (l : List UInt8) (hg : o.guard = none) (x : Operand) (ho : o.op = .load 24 x)
    (hx : a.eval x = .pointer (some ⟨b, 0, none⟩)) (H : Bs w b 24 l) (hl : l.length = 32)
    (h : wpList Tryd.prog ops Q rest (a.put o.dst (.agg (bC l))) w) : wpList Tryd.prog ops Q (o :: rest) a w :=
  loadB 24 32 _ b l hg x ho hx H rfl Tryd.underlying24 sz32 hl h
theorem storeWs {ops : Array Oper} {rest : List Oper} {o : Oper} {a : Act} {w : World} {Q : Exit → Act → World → Prop} (t : TypeId) (b n : Nat) (l l' : List W32) (hg : o.guard = none) (x y : Operand) (ho : o.op = .store t x y) (hd : o.dst = none)
    (hx : a.eval x = .pointer (some ⟨b, 0, none⟩)) (hy : a.eval y = .agg (wC l')) (hB : Ws w b t l) (hn : (Tryd.prog.info? t).map (·.size) = some n) (hl : l.length = n) (hl' : l'.length = n)
    (h : wpList Tryd.prog ops Q rest a (w.setRow b (wC l'))) : wpList Tryd.prog ops Q (o :: rest) a w := storeW t b n l l' hg x y ho hd hx hy hB hn hl hl' h
theorem Bs.row {W : World} {b : Nat} {t : TypeId} {l : List UInt8} (h : Bs W b t l) (l' : List UInt8) : Bs (W.setRow b (bC l')) b t l' := setRow_heap _ _ _ _ _ _ h
theorem bC_set (l : List UInt8) (k : Nat) (x : UInt8) : (bC l).setIfInBounds k (.int .u8 (x.toNat : Int)) = bC (l.set k x) := by
  simp [bC, List.map_set]
theorem Bs.set {W : World} {b : Nat} {t : TypeId} {l : List UInt8} (h : Bs W b t l) (k : Nat) (x : UInt8) : Bs (W.setCell ⟨b, k, none⟩ (.int .u8 (x.toNat : Int))) b t (l.set k x) := by
  show _ = _
  rw [heap_set_same h _, bC_set]
theorem Bs.frz {W : World} {b : Nat} {t : TypeId} {l : List UInt8} (h : Bs W b t l) (j : Nat) : W.frozen? ⟨b, j, none⟩ = false := by
  have h' : W.heap[b]? = some (.cells (bC l) t (0, 0)) := h
  simp [World.frozen?, h']
theorem Ws.range {W : World} {b : Nat} {t : TypeId} {l : List W32} (h : Ws W b t l) : W.rangeAt b 0 (wC l).toList := by
  have := World.rangeAt_of_block (w := W) h 0 (wC l).size
  simpa using this
theorem Ws.there {W : World} {b : Nat} {t : TypeId} {l : List W32} (h : Ws W b t l) : W.there b 0 (wC l).size := by
  intro j hj
  rw [wC_size] at hj
  rw [Nat.zero_add]
  exact ⟨by rw [h.cell hj]; rfl, h.frz j⟩
theorem Ws.setAll {W : World} {b : Nat} {t : TypeId} {l l' : List W32} (h : Ws W b t l) (hl : l'.length = l.length) : Ws (W.setCells b 0 (wC l').toList) b t l' := by
  obtain ⟨cs', h1, h2, _, h4, _⟩ := heap_setCells_same (wC l').toList 0 W _ h (by simp [wC, hl])
  have : cs' = wC l' := by
    apply Array.ext_getElem?
    intro j
    by_cases hj : j < (wC l').toList.length
    · have := h4 j hj
      rw [Nat.zero_add] at this
      rw [this]; simp
    · have hs : cs'.size = (wC l').size := by rw [h2, wC_size, wC_size, hl]
      have hj' : (wC l').size ≤ j := by simpa using hj
      rw [Array.getElem?_eq_none (by omega), Array.getElem?_eq_none hj']
  rw [this] at h1
  exact h1
theorem Gr.cells {a w : World} (h : Gr a w) {b : Nat} (hb : a.heap.size ≤ b) (o : Nat) (vs : List Value) : Gr a (w.setCells b o vs) :=
  ⟨(os_setCells _ _ _).1.trans h.os, (os_setCells _ _ _).2.1.trans h.tape, (os_setCells _ _ _).2.2.trans h.output, by rw [size_setCells]; exact h.size, fun k hk => (heap_setCells_other (by omega) _ _ _).trans (h.block k hk)⟩
theorem Gr.grown {a w w' : World} (h : Gr a w) {row : Option Nat} (g : w.grownBy w' row) (hr : ∀ k, row = some k → a.heap.size ≤ k) : Gr a w' :=
  ⟨g.os.trans h.os, g.tape.trans h.tape, g.output.trans h.output, Nat.le_trans h.size g.size, fun k hk => (g.block k (Nat.lt_of_lt_of_le hk h.size) (fun e => by have := hr k e.symm; omega)).trans (h.block k hk)⟩
end Go.Proofs.YtkbomgjeoaophaaDoor
