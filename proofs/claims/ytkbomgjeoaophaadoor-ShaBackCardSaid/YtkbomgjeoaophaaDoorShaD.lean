/- Bytes owned at an offset; a string put behind them. -/
import Derived.Test.YtkbomgjeoaophaaDoorShaC
import Derived.Lib.AppendStr
import Derived.Lib.UnsafeStr
import Derived.Deep.MidRow
import Derived.Lib.Strings
set_option linter.unusedVariables false
set_option linter.unusedSimpArgs false
set_option maxHeartbeats 400000
namespace Go.Proofs.YtkbomgjeoaophaaDoor
open Go.RowKit Go.Great

def byC (l : List UInt8) : List Value := l.map fun b => Value.int .u8 (b.toNat : Int)
/-- bytes that a slice holds, in a row of ours -/
def OwnB (w : World) (B : Nat) (v : Value) (l : List UInt8) : Prop :=
  (v = .slice none 0 0 ∧ l = []) ∨ ∃ g o cap cur, v = .slice (some ⟨g, o, none⟩) l.length cap ∧ B ≤ g ∧ w.heap[g]? = some (.cells cur 5 (0, 0)) ∧ l.length ≤ cap ∧ cap ≤ maxLen ∧ o + cap ≤ cur.size ∧ ∀ j (h : j < l.length), cur[o + j]? = some (.int .u8 (l[j].toNat : Int))
theorem OwnB.of {w : World} {B : Nat} {v : Value} {l : List UInt8} (h : w.ownsRow B 5 1 v l.length (Lib.byteCells l)) : OwnB w B v l := by
  rcases h.2 with ⟨h1, h2⟩ | ⟨g, cap, cur, hv, hb, hg, hn, hm, hs, ht⟩
  · exact .inl ⟨h1, List.eq_nil_of_length_eq_zero h2⟩
  · refine .inr ⟨g, 0, cap, cur, hv, hb, hg, hn, hm, by omega, fun j hj => ?_⟩
    have h1 : (cur.toList.take (l.length * 1))[j]? = some (.int .u8 (l[j].toNat : Int)) := by rw [ht]; simp [Lib.byteCells, hj]
    rw [List.getElem?_take_of_lt (by omega)] at h1
    simpa using h1
theorem OwnB.nil (w : World) (B : Nat) : OwnB w B (.slice none 0 0) [] := .inl ⟨rfl, rfl⟩
theorem OwnB.blk {w : World} {B : Nat} {v : Value} {l : List UInt8} (h : OwnB w B v l) : ∀ k, v.ownBlock = some k → B ≤ k ∧ ∃ cur, w.heap[k]? = some (.cells cur 5 (0, 0)) := by
  rcases h with ⟨rfl, _⟩ | ⟨g, o, cap, cur, rfl, hb, hg, _⟩
  · intro k hk; simp [Value.ownBlock] at hk
  · intro k hk
    obtain rfl : g = k := by simpa [Value.ownBlock] using hk
    exact ⟨hb, cur, hg⟩
theorem OwnB.kept {w w' : World} {B : Nat} {v : Value} {l : List UInt8} (h : OwnB w B v l) (hk : ∀ k, v.ownBlock = some k → w'.heap[k]? = w.heap[k]?) : OwnB w' B v l := by
  rcases h with h | ⟨g, o, cap, cur, rfl, hb, hg, r⟩
  · exact .inl h
  · exact .inr ⟨g, o, cap, cur, rfl, hb, (hk g rfl).trans hg, r⟩
theorem OwnB.shape {w : World} {B : Nat} {v : Value} {l : List UInt8} (h : OwnB w B v l) : ∃ A cap, v = .slice A l.length cap := by
  rcases h with ⟨rfl, rfl⟩ | ⟨g, o, cap, cur, rfl, _⟩
  · exact ⟨_, _, rfl⟩
  · exact ⟨_, _, rfl⟩
theorem OwnB.gr {w w' : World} {B : Nat} {v : Value} {l : List UInt8} (h : OwnB w B v l) (g : Gr w w') : OwnB w' B v l :=
  h.kept fun k hk => by
    obtain ⟨_, cur, hc⟩ := h.blk k hk
    exact g.block k (Array.getElem?_eq_some_iff.1 hc).1
theorem OwnB.cell {w : World} {B : Nat} {A : Option Addr} {n cap : Nat} {l : List UInt8} (h : OwnB w B (.slice A n cap) l) : ∀ j (hj : j < l.length), ∃ g o, A = some ⟨g, o, none⟩ ∧ w.cell? ⟨g, o + j, none⟩ = some (.int .u8 (l[j].toNat : Int)) := by
  intro j hj
  rcases h with ⟨hv, rfl⟩ | ⟨g, o, cap', cur, hv, hb, hg, _, _, _, r⟩
  · simp at hj
  · cases hv
    exact ⟨g, o, rfl, by simp only [World.cell?, hg]; exact r j hj⟩

theorem run_append_room_at {P : Program} {w : World} (t u ty e : TypeId) (i : TypeInfo) (ht : P.underlying t = some (.slice e)) (hu : P.underlying u = some .string) (hi : P.info? e = some i) (hs1 : i.size = 1)
    (g o sLen sCap : Nat) (s : ByteArray) (hroom : sLen + s.size ≤ sCap) (hth : w.there g (o + sLen) s.size) :
    (Builtin.append_ #[t, u] ty #[.slice (some ⟨g, o, none⟩) sLen sCap, .string s]).run P w = .ok (.slice (some ⟨g, o, none⟩) (sLen + s.size) sCap) (w.setCells g (o + sLen) (Lib.strCells s)) := by
  have hf := Lib.run_firstCells_string (P := P) w 1 s
  have hst := run_storeCells_cells (P := P) g (o + sLen) (Lib.strCells s) 0 w (fun j hj => by simpa using (hth j (by simpa [Lib.strCells_length] using hj)).1) (fun j hj => by simpa using (hth j (by simpa [Lib.strCells_length] using hj)).2) (fun v hv => by
    simp only [Lib.strCells, List.mem_map] at hv
    obtain ⟨b, _, rfl⟩ := hv
    rfl)
  simp only [Nat.add_zero] at hst
  simp [Builtin.append_, run_underlying ht, run_underlying hu, sizeOf, typeInfo, hi, hs1, Builtin.lenOf, hroom, hf, Addr.add_mid, hst]
theorem heap_setCells_other {b k : Nat} (h : k ≠ b) : ∀ (vs : List Value) (o : Nat) (W : World), (W.setCells b o vs).heap[k]? = W.heap[k]?
  | [], _, _ => rfl
  | v :: r, o, W => by rw [World.setCells, heap_setCells_other h r (o + 1), heap_set_other h]
theorem size_setCells {b : Nat} : ∀ (vs : List Value) (o : Nat) (W : World), (W.setCells b o vs).heap.size = W.heap.size
  | [], _, _ => rfl
  | v :: r, o, W => by rw [World.setCells, size_setCells r (o + 1)]; simp [World.setCell]
theorem os_setCells {b : Nat} : ∀ (vs : List Value) (o : Nat) (W : World), (W.setCells b o vs).os = W.os ∧ (W.setCells b o vs).tape = W.tape ∧ (W.setCells b o vs).output = W.output
  | [], _, _ => ⟨rfl, rfl, rfl⟩
  | v :: r, o, W => by rw [World.setCells]; exact os_setCells r (o + 1) _
theorem heap_setCells_same {b : Nat} {t : TypeId} {fr : Nat × Nat} : ∀ (vs : List Value) (o : Nat) (W : World) (cs : Array Value), W.heap[b]? = some (.cells cs t fr) → o + vs.length ≤ cs.size →
    ∃ cs', (W.setCells b o vs).heap[b]? = some (.cells cs' t fr) ∧ cs'.size = cs.size ∧ (∀ j, j < o → cs'[j]? = cs[j]?) ∧ (∀ j, j < vs.length → cs'[o + j]? = vs[j]?) ∧ (∀ j, o + vs.length ≤ j → cs'[j]? = cs[j]?)
  | [], o, W, cs, h, _ => ⟨cs, h, rfl, fun _ _ => rfl, fun _ h => by simp at h, fun _ _ => rfl⟩
  | v :: r, o, W, cs, h, hl => by
    simp only [List.length_cons] at hl
    obtain ⟨cs', h1, h2, h3, h4, h5⟩ := heap_setCells_same r (o + 1) (W.setCell ⟨b, o, none⟩ v) _ (heap_set_same h v) (by simp only [Array.size_setIfInBounds]; omega)
    refine ⟨cs', h1, by rw [h2, Array.size_setIfInBounds], fun j hj => ?_, fun j hj => ?_, fun j hj => ?_⟩
    · rw [h3 j (by omega), Array.getElem?_setIfInBounds, if_neg (by omega)]
    · cases j with
      | zero =>
        rw [Nat.add_zero, h3 o (by omega), Array.getElem?_setIfInBounds, if_pos rfl, if_pos (by omega)]
        rfl
      | succ j =>
        have := h4 j (by simp only [List.length_cons] at hj; omega)
        rw [show o + (j + 1) = o + 1 + j by omega, this]
        rfl
    · simp only [List.length_cons] at hj
      rw [h5 j (by omega), Array.getElem?_setIfInBounds, if_neg (by omega)]
theorem byC_app (a b : List UInt8) (j : Nat) : (byC (a ++ b))[j]? = if j < a.length then (byC a)[j]? else (byC b)[j - a.length]? := by
  unfold byC
  rw [List.map_append, List.getElem?_append, List.length_map]
theorem infoByteS : (Tryd.prog.info? 5).map (fun i => (i.zero, i.size, i.bytes)) = some (some (.int .u8 0), 1, 1) := by kernel_rfl
theorem run_append_own_at {w : World} (B : Nat) (t u ty : TypeId) (i : TypeInfo) (ht : Tryd.prog.underlying t = some (.slice 5)) (hu : Tryd.prog.underlying u = some .string) (hi : Tryd.prog.info? 5 = some i) (hz : i.zero = some (.int .u8 0))
    (hsize : i.size = 1) (hby : i.bytes = 1) (v : Value) (l : List UInt8) (hown : OwnB w B v l) (s : ByteArray) (hbytes : l.length + s.size ≤ 140737488355328) (hbase : B ≤ w.heap.size) :
    ∃ v' w', (Builtin.append_ #[t, u] ty #[v, .string s]).run Tryd.prog w = .ok v' w' ∧ OwnB w' B v' (l ++ s.data.toList) ∧ w.grownBy w' v.ownBlock := by
  have hls : (l ++ s.data.toList).length = l.length + s.size := by rw [List.length_append, ← Lib.size_eq]
  rcases hown with ⟨rfl, rfl⟩ | ⟨g, o, cap, cur, rfl, hb, hg, hn, hm, hs, hc⟩
  · obtain ⟨v', w', h1, h2, h3, _⟩ := Lib.run_append_own_string (P := Tryd.prog) (w := w) B t u ty 5 i ht hu hi hz hsize hby _ 0 [] (World.ownsRow_nil w B 5 1) s (by unfold maxLen; omega) (by simpa using hbytes) hbase
    refine ⟨v', w', h1, OwnB.of ?_, h3⟩
    have e : (([] : List UInt8) ++ s.data.toList).length = 0 + s.size := by rw [hls]; rfl
    rw [e]
    exact h2
  · by_cases hroom : l.length + s.size ≤ cap
    · have hth : w.there g (o + l.length) s.size := by
        intro j hj
        have hlt : o + l.length + j < cur.size := by omega
        constructor
        · simp [World.cell?, hg, hlt]
        · simp [World.frozen?, hg]
      have hr := run_append_room_at (P := Tryd.prog) (w := w) t u ty 5 i ht hu hi hsize g o l.length cap s hroom hth
      obtain ⟨cs', h1, h2, h3, h4, h5⟩ := heap_setCells_same (Lib.strCells s) (o + l.length) w cur hg (by rw [Lib.strCells_length]; omega)
      refine ⟨_, _, hr, .inr ⟨g, o, cap, cs', by rw [hls], hb, h1, by omega, hm, by omega, fun j hj => ?_⟩, ⟨(os_setCells _ _ _).1, (os_setCells _ _ _).2.1, (os_setCells _ _ _).2.2, by rw [size_setCells]; exact Nat.le_refl _, fun k _ hk => heap_setCells_other (fun e => hk (by simp [Value.ownBlock, e])) _ _ _⟩⟩
      by_cases hjl : j < l.length
      · rw [h3 _ (by omega), hc j hjl, List.getElem_append_left hjl]
      · have := h4 (j - l.length) (by rw [Lib.strCells_length]; omega)
        rw [show o + l.length + (j - l.length) = o + j by omega] at this
        rw [this, List.getElem_append_right (by omega)]
        simp only [Lib.strCells, List.getElem?_map]
        rw [List.getElem?_eq_getElem (by rw [← Lib.size_eq]; omega)]
        rfl
    · have holds : ∀ j u, (byC l)[j]? = some u → w.cell? ((⟨g, o, none⟩ : Addr).add j) = some u := by
        intro j u hj
        rw [Addr.add_mid]
        have hjl : j < l.length := by simpa [byC] using (List.getElem?_eq_some_iff.1 hj).1
        have : u = .int .u8 (l[j].toNat : Int) := by
          have h := hj
          simp only [byC, List.getElem?_map, List.getElem?_eq_getElem hjl, Option.map_some, Option.some.injEq] at h
          exact h.symm
        rw [this]
        simp only [World.cell?, hg]
        exact hc j hjl
      have hr := Lib.run_append_grow_string (P := Tryd.prog) (w := w) t u ty 5 i (.int .u8 0) ht hu hi hz ⟨g, o, none⟩ l.length cap (byC l) (by rw [hsize]; simp [byC]) holds s (by omega) (by omega) (by rw [hby]; exact growslice_fits (by omega) (by omega))
      have hge := grownCap_ge w (l.length + s.size) cap 5
      have hcm : grownCap w (l.length + s.size) cap 5 ≤ maxLen := grownCap_le_maxLen w (l.length + s.size) cap 5 (by unfold maxLen; omega)
      refine ⟨_, _, hr, .inr ⟨w.heap.size, 0, _, _, by rw [hls], hbase, heap_alloc_new w.drew _, by omega, hcm, ?_, fun j hj => ?_⟩, ⟨rfl, rfl, rfl, by simp, fun k hk _ => (((Gr.rfl' w).dr).al _).block k hk⟩⟩
      · have hz1 : (Value.int IntKind.u8 0).cells.size = 1 := rfl
        simp only [Array.size_append, List.size_toArray, size_zeroCells, hz1, Lib.strCells_length, byC, List.length_map]
        omega
      · have e : (byC l).toArray ++ (Lib.strCells s).toArray = (byC (l ++ s.data.toList)).toArray := by simp [byC, Lib.strCells]
        rw [e, Nat.zero_add]
        have hlen : j < (byC (l ++ s.data.toList)).length := by simp only [byC, List.length_map]; exact hj
        rw [Array.getElem?_append_left (by simpa using hlen)]
        simp only [List.getElem?_toArray, byC, List.getElem?_map, List.getElem?_eq_getElem hj, Option.map_some]
theorem wpList_append_own_at {w : World} {ops : Array Oper} {rest : List Oper} {o : Oper} {a : Act} {Q : Exit → Act → World → Prop} (hgd : o.guard = none) (sl x : Operand)
    (ho : o.op = .call { callee := .builtin .append, args := #[sl, x], argTypes := #[31, 9] }) (B : Nat) (v : Value) (l : List UInt8) (hs : a.eval sl = v) (hown : OwnB w B v l) (s : ByteArray) (hx : a.eval x = .string s)
    (hbytes : l.length + s.size ≤ 140737488355328) (hbase : B ≤ w.heap.size)
    (h : ∀ v' w', OwnB w' B v' (l ++ s.data.toList) → w.grownBy w' v.ownBlock → wpList Tryd.prog ops Q rest (a.put o.dst v') w') : wpList Tryd.prog ops Q (o :: rest) a w := by
  obtain ⟨i0, hi, hz0, hz1, hz2⟩ := info_parts infoByteS
  refine wpList_plain hgd fun K hK => ?_
  obtain ⟨v', w', hr, h2, h3⟩ := run_append_own_at (w := w) B 31 9 o.type i0 Tryd.underlying31 Tryd.underlying9 hi hz0 hz1 hz2 v l hown s hbytes hbase
  unfold Oper.wp execOp
  simp only [ho, resolve, invoke, builtin, Sem.run_bind, Sem.run_pure, Result.andThen_ok, List.map_toArray, List.map_cons, List.map_nil, hs, hx, hr]
  exact hK _ _ (h v' w' h2 h3)
end Go.Proofs.YtkbomgjeoaophaaDoor
