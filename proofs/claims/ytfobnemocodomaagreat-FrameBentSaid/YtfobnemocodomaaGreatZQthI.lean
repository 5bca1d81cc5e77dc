/- hearsayref04: Pieces. -/
import Derived.Test.YtfobnemocodomaaGreatZQthF
import Derived.Test.YtfobnemocodomaaGreatZBa
import Derived.ArgAppend
import Derived.OwnWalk
import Derived.Lib.AppendStr
import Derived.Laws.IdiomStrings
set_option linter.unusedVariables false
set_option linter.unusedSimpArgs false
set_option maxHeartbeats 4000000
namespace Go.Proofs.YtfobnemocodomaaGreat.Pt
open Go.RowKit

theorem heap_set_same {W : World} {b o : Nat} {cs : Array Value} {t : TypeId} {fr : Nat × Nat} (h : W.heap[b]? = some (.cells cs t fr)) (u : Value) : (W.setCell ⟨b, o, none⟩ u).heap[b]? = some (.cells (cs.setIfInBounds o u) t fr) := by
  simp [World.setCell, Array.getElem?_modify, h]
theorem heap_set_other {W : World} {b k o : Nat} (h : k ≠ b) (u : Value) : (W.setCell ⟨b, o, none⟩ u).heap[k]? = W.heap[k]? := Below.heap_setCell _ _ _ _ h
theorem heap_setCells_other {b k : Nat} (h : k ≠ b) : ∀ (vs : List Value) (o : Nat) (W : World), (W.setCells b o vs).heap[k]? = W.heap[k]?
  | [], _, _ => rfl
  | v :: r, o, W => by rw [World.setCells, heap_setCells_other h r (o + 1), heap_set_other h]
theorem size_setCells {b : Nat} : ∀ (vs : List Value) (o : Nat) (W : World), (W.setCells b o vs).heap.size = W.heap.size
  | [], _, _ => rfl
  | v :: r, o, W => by rw [World.setCells, size_setCells r (o + 1)]; simp [World.setCell]
theorem os_setCells {b : Nat} : ∀ (vs : List Value) (o : Nat) (W : World), (W.setCells b o vs).os = W.os ∧ (W.setCells b o vs).tape = W.tape ∧ (W.setCells b o vs).output = W.output
  | [], _, _ => ⟨rfl, rfl, rfl⟩
  | v :: r, o, W => by rw [World.setCells]; exact os_setCells r (o + 1) _
theorem heap_setCells_same {b : Nat} {t : TypeId} {fr : Nat × Nat} : ∀ (vs : List Value) (o : Nat) (W : World) (cs : Array Value), W.heap[b]? = some (.cells cs t fr) → o + vs.length ≤ cs.size →
    ∃ cs', (W.setCells b o vs).heap[b]? = some (.cells cs' t fr) ∧ cs'.size = cs.size ∧ (∀ j, j < o → cs'[j]? = cs[j]?) ∧ (∀ j, j < vs.length → cs'[o + j]? = vs[j]?) ∧ (∀ j, o + vs.length ≤ j → cs'[j]? = cs[j]?)
  | [], o, W, cs, h, _ => ⟨cs, h, rfl, fun _ _ => rfl, fun _ h => by simp at h, fun _ _ => rfl⟩
  | v :: r, o, W, cs, h, hl => by
    simp only [List.length_cons] at hl
    obtain ⟨cs', h1, h2, h3, h4, h5⟩ := heap_setCells_same r (o + 1) (W.setCell ⟨b, o, none⟩ v) _ (heap_set_same h v) (by simp only [Array.size_setIfInBounds]; omega)
    refine ⟨cs', h1, by rw [h2, Array.size_setIfInBounds], fun j hj => ?_, fun j hj => ?_, fun j hj => ?_⟩
    · rw [h3 j (by omega), Array.getElem?_setIfInBounds, if_neg (by omega)]
    · cases j with
      | zero =>
        rw [Nat.add_zero, h3 o (by omega), Array.getElem?_setIfInBounds, if_pos rfl, if_pos (by omega)]
        rfl
      | succ j =>
        have := h4 j (by simp only [List.length_cons] at hj; omega)
        rw [show o + (j + 1) = o + 1 + j by omega, this]
        rfl
    · simp only [List.length_cons] at hj
      rw [h5 j (by omega), Array.getElem?_setIfInBounds, if_neg (by omega)]
theorem _root_.Go.Proofs.YtfobnemocodomaaGreat.Gr.grown {a w w' : World} (h : Gr a w) {row : Option Nat} (g : w.grownBy w' row) (hr : ∀ k, row = some k → a.heap.size ≤ k) : Gr a w' :=
  ⟨g.os.trans h.os, g.tape.trans h.tape, g.output.trans h.output, Nat.le_trans h.size g.size, fun k hk => (g.block k (Nat.lt_of_lt_of_le hk h.size) (fun e => by have := hr k e.symm; omega)).trans (h.block k hk)⟩
theorem infoStr : (Tryz.prog.info? 9).map (fun i => (i.zero, i.size, i.bytes)) = some (some (.string ByteArray.empty), 1, 16) := by kernel_rfl
def txC (l : List (List UInt8)) : List Value := l.map fun p => Value.string (bs p)
/-- texts in a row that may bear a string's mark behind its end -/
def OwnT (w : World) (B : Nat) (v : Value) (l : List (List UInt8)) : Prop :=
  ∃ g cap cur fr, v = .slice (some ⟨g, 0, none⟩) l.length cap ∧ B ≤ g ∧ w.heap[g]? = some (.cells cur 9 fr) ∧ l.length ≤ cap ∧ cap ≤ maxLen ∧ cap ≤ cur.size ∧ (∀ j, j < cap → ¬ (fr.1 ≤ j ∧ j < fr.2)) ∧
    ∀ j (h : j < l.length), cur[j]? = some (.string (bs l[j]))
section
variable {w w' : World} {B : Nat} {v : Value} {l : List (List UInt8)}
theorem OwnT.shape (h : OwnT w B v l) : ∃ A cap, v = .slice A l.length cap := by
  obtain ⟨g, cap, cur, fr, rfl, _⟩ := h; exact ⟨_, _, rfl⟩
theorem OwnT.blk (h : OwnT w B v l) {k : Nat} (hk : v.ownBlock = some k) : B ≤ k := by
  obtain ⟨g, cap, cur, fr, rfl, hb, _⟩ := h
  have : g = k := by simpa [Value.ownBlock] using hk
  omega
theorem OwnT.gr (h : OwnT w B v l) (g : Gr w w') : OwnT w' B v l := by
  obtain ⟨b, cap, cur, fr, rfl, hb, hg, r⟩ := h
  exact ⟨b, cap, cur, fr, rfl, hb, (g.block b (Array.getElem?_eq_some_iff.1 hg).1).trans hg, r⟩
theorem OwnT.alloc (h : OwnT w B v l) (o : Obj) : OwnT (w.alloc o) B v l := h.gr ((Gr.rfl' _).al _)
theorem OwnT.cell {A : Option Addr} {n cap : Nat} (h : OwnT w B (.slice A n cap) l) : ∃ g, A = some ⟨g, 0, none⟩ ∧ B ≤ g ∧ n = l.length ∧ n ≤ cap ∧ cap ≤ maxLen ∧ ∀ j (hj : j < l.length), w.cell? ⟨g, j, none⟩ = some (.string (bs l[j])) := by
  obtain ⟨b, c, cur, fr, hv, hb, hg, h1, h2, _, _, r⟩ := h
  simp only [Value.slice.injEq] at hv
  obtain ⟨rfl, rfl, rfl⟩ := hv
  exact ⟨b, rfl, hb, rfl, h1, h2, fun j hj => by simp only [World.cell?, hg]; exact r j hj⟩
end
theorem appendT {w : World} {ops : Array Oper} {rest : List Oper} {o : Oper} {a : Act} {Q : Exit → Act → World → Prop} (hgd : o.guard = none) (s x : Operand)
    (ho : o.op = .call { callee := .builtin .append, args := #[s, x], argTypes := #[161, 161] }) (B : Nat) (v : Value) (l : List (List UInt8)) (c : List UInt8) (hs : a.eval s = v) (hown : OwnT w B v l)
    (ad : Addr) (hx : a.eval x = .slice (some ad) 1 1) (hc : w.cell? ad = some (.string (bs c))) (hbytes : (l.length + 1) * 16 ≤ 140737488355328) (hbase : B ≤ w.heap.size)
    (h : ∀ v' w', OwnT w' B v' (l ++ [c]) → w.grownBy w' v.ownBlock → wpList Tryz.prog ops Q rest (a.put o.dst v') w') : wpList Tryz.prog ops Q (o :: rest) a w := by
  obtain ⟨i0, hi, hz0, hz1, hz2⟩ := info_parts infoStr
  have e0 : ad.add 0 = ad := by unfold Addr.add; simp
  have hnews : ∀ j u, ([.string (bs c)] : List Value)[j]? = some u → w.cell? (ad.add j) = some u := by
    intro j u hj
    have : j = 0 := by
      have := (List.getElem?_eq_some_iff.1 hj).1
      simp at this; omega
    subst this
    cases hj
    rw [e0]; exact hc
  have h1c : ∀ u ∈ ([.string (bs c)] : List Value), u.oneCell' = true := by
    intro u hu; simp at hu; subst hu; rfl
  have key : ∃ v' w', (Builtin.append_ #[161, 161] o.type #[v, .slice (some ad) 1 1]).run Tryz.prog w = .ok v' w' ∧ OwnT w' B v' (l ++ [c]) ∧ w.grownBy w' v.ownBlock := by
    obtain ⟨g, cap, cur, fr, rfl, hb, hg, h1, h2, h3, h4, h5⟩ := hown
    by_cases hroom : l.length + 1 ≤ cap
    · have hlt : l.length < cur.size := by omega
      have hnf : ¬ (fr.1 ≤ l.length ∧ l.length < fr.2) := h4 _ (by omega)
      have hr := run_append_room_cells (P := Tryz.prog) w 161 o.type 9 i0 Tryz.underlying161 hi g 0 l.length cap ad 1 1 [.string (bs c)] (by rw [hz1]; rfl) hnews h1c hroom
        (by intro j hj; rw [hz1]; have : j = 0 := by simp at hj; exact hj
            subst this; simp [World.cell?, hg, hlt])
        (by intro j hj; rw [hz1]; have : j = 0 := by simp at hj; exact hj
            subst this
            simp only [World.frozen?, hg]
            simp only [Nat.zero_add, Nat.mul_one, Nat.add_zero, Bool.and_eq_false_iff, decide_eq_false_iff_not]
            omega)
      rw [hz1] at hr
      simp only [Nat.zero_add, Nat.mul_one] at hr
      obtain ⟨cs', k1, k2, k3, k4, _⟩ := heap_setCells_same [.string (bs c)] l.length w cur hg (by simp; omega)
      refine ⟨_, _, hr, ⟨g, cap, cs', fr, by simp, hb, k1, by simp; omega, h2, by omega, h4, fun j hj => ?_⟩, ⟨(os_setCells _ _ _).1, (os_setCells _ _ _).2.1, (os_setCells _ _ _).2.2, by rw [size_setCells]; exact Nat.le_refl _, fun k _ hk => heap_setCells_other (fun e => hk (by simp [Value.ownBlock, e])) _ _ _⟩⟩
      by_cases hjl : j < l.length
      · rw [k3 _ hjl, h5 j hjl, List.getElem_append_left hjl]
      · have hje : j = l.length := by simp at hj; omega
        subst hje
        have := k4 0 (by simp)
        rw [Nat.add_zero] at this
        rw [this]
        simp
    · obtain ⟨v', w', hr, ho', hgr⟩ := run_append_arg_grows (P := Tryz.prog) w 161 o.type 9 i0 (.string ByteArray.empty) 1 16 Tryz.underlying161 hi hz0 hz1 hz2 rfl (by decide) ⟨g, 0, none⟩ l.length cap (txC l) (by simp [txC])
        (fun j u hj => by
          have hl : j < l.length := by
            have := (List.getElem?_eq_some_iff.1 hj).1
            simpa [txC] using this
          rw [Addr.add_mid, Nat.zero_add]
          simp only [World.cell?, hg]
          rw [h5 j hl, ← hj]
          simp [txC, hl]) ad 1 1 [.string (bs c)] rfl hnews (by omega) (by unfold maxLen; omega) (by omega)
      refine ⟨v', w', hr, ?_, ⟨hgr.os, hgr.tape, hgr.output, hgr.size, fun k hk _ => hgr.block k hk (by simp)⟩⟩
      have e1 : (l ++ [c]).length = l.length + 1 := by simp
      have e2 : txC (l ++ [c]) = txC l ++ [.string (bs c)] := by simp [txC]
      rw [← e1, ← e2] at ho'
      rcases ho'.2 with ⟨k1, k2⟩ | ⟨g', cap', cur', hv, hb', hg', hn', hm', hs', ht'⟩
      · simp at k2
      · refine ⟨g', cap', cur', (0, 0), hv, by omega, hg', hn', hm', by omega, fun j _ => by omega, fun j hj => ?_⟩
        have h1 : (cur'.toList.take ((l ++ [c]).length * 1))[j]? = some (.string (bs (l ++ [c])[j])) := by rw [ht']; simp only [txC, List.getElem?_map, List.getElem?_eq_getElem hj, Option.map_some]
        rw [List.getElem?_take_of_lt (by omega)] at h1
        simpa using h1
  refine wpList_plain hgd fun K hK => ?_
  obtain ⟨v', w', hr, h2, h3⟩ := key
  unfold Oper.wp execOp
  simp only [ho, resolve, invoke, builtin, Sem.run_bind, Sem.run_pure, Result.andThen_ok, List.map_toArray, List.map_cons, List.map_nil, hs, hx, hr]
  exact hK _ _ (h v' w' h2 h3)
end Go.Proofs.YtfobnemocodomaaGreat.Pt
