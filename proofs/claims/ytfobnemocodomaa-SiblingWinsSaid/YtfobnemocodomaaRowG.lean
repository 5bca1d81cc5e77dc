/- A row of one's own, its block known: appending to it keeps the block, or makes a new one. For any kind of element. -/
import Derived.Test.YtfobnemocodomaaBase
import Derived.ArgAppend
import Derived.OwnWalk
import Derived.OwnWalkIn
import Derived.RangeFuncBox
set_option linter.unusedVariables false
set_option linter.unusedSimpArgs false
namespace Go.Proofs.Ytfobnemocodomaa
open Go.RowKit

theorem rg_set_same {W : World} {b o : Nat} {cs : Array Value} {t : TypeId} {fr : Nat × Nat} (h : W.heap[b]? = some (.cells cs t fr)) (u : Value) : (W.setCell ⟨b, o, none⟩ u).heap[b]? = some (.cells (cs.setIfInBounds o u) t fr) := by
  simp [World.setCell, Array.getElem?_modify, h]
theorem rg_other {b k : Nat} (h : k ≠ b) : ∀ (vs : List Value) (o : Nat) (W : World), (W.setCells b o vs).heap[k]? = W.heap[k]?
  | [], _, _ => rfl
  | v :: r, o, W => by rw [World.setCells, rg_other h r (o + 1)]; exact Below.heap_setCell _ _ _ _ h
theorem rg_size {b : Nat} : ∀ (vs : List Value) (o : Nat) (W : World), (W.setCells b o vs).heap.size = W.heap.size
  | [], _, _ => rfl
  | v :: r, o, W => by rw [World.setCells, rg_size r (o + 1)]; simp [World.setCell]
theorem rg_os {b : Nat} : ∀ (vs : List Value) (o : Nat) (W : World), (W.setCells b o vs).os = W.os ∧ (W.setCells b o vs).tape = W.tape ∧ (W.setCells b o vs).output = W.output
  | [], _, _ => ⟨rfl, rfl, rfl⟩
  | v :: r, o, W => by rw [World.setCells]; exact rg_os r (o + 1) _
theorem rg_grown (b o : Nat) (vs : List Value) (W : World) : W.grownBy (W.setCells b o vs) (some b) :=
  ⟨(rg_os vs o W).1, (rg_os vs o W).2.1, (rg_os vs o W).2.2, by rw [rg_size]; exact Nat.le_refl _, fun k _ hk => rg_other (fun e => hk (by rw [e])) _ _ _⟩
theorem rg_same {b : Nat} {t : TypeId} {fr : Nat × Nat} : ∀ (vs : List Value) (o : Nat) (W : World) (cs : Array Value), W.heap[b]? = some (.cells cs t fr) → o + vs.length ≤ cs.size →
    ∃ cs', (W.setCells b o vs).heap[b]? = some (.cells cs' t fr) ∧ cs'.size = cs.size ∧ (∀ j, j < o → cs'[j]? = cs[j]?) ∧ (∀ j, j < vs.length → cs'[o + j]? = vs[j]?) ∧ (∀ j, o + vs.length ≤ j → cs'[j]? = cs[j]?)
  | [], o, W, cs, h, _ => ⟨cs, h, rfl, fun _ _ => rfl, fun _ h => by simp at h, fun _ _ => rfl⟩
  | v :: r, o, W, cs, h, hl => by
    simp only [List.length_cons] at hl
    obtain ⟨cs', h1, h2, h3, h4, h5⟩ := rg_same r (o + 1) (W.setCell ⟨b, o, none⟩ v) _ (rg_set_same h v) (by simp only [Array.size_setIfInBounds]; omega)
    refine ⟨cs', h1, by rw [h2, Array.size_setIfInBounds], fun j hj => ?_, fun j hj => ?_, fun j hj => ?_⟩
    · rw [h3 j (by omega), Array.getElem?_setIfInBounds, if_neg (by omega)]
    · cases j with
      | zero =>
        rw [Nat.add_zero, h3 o (by omega), Array.getElem?_setIfInBounds, if_pos rfl, if_pos (by omega)]
        rfl
      | succ j =>
        have := h4 j (by simp only [List.length_cons] at hj; omega)
        rw [show o + (j + 1) = o + 1 + j by omega, this]
        rfl
    · simp only [List.length_cons] at hj
      rw [h5 j (by omega), Array.getElem?_setIfInBounds, if_neg (by omega)]
/-- a row of one's own in the block g -/
def OwnG (E : TypeId) (sz : Nat) (W : World) (g : Nat) (v : Value) (n : Nat) (xs : List Value) : Prop :=
  ∃ cap cur, v = .slice (some ⟨g, 0, none⟩) n cap ∧ W.heap[g]? = some (.cells cur E (0, 0)) ∧ n ≤ cap ∧ cap ≤ maxLen ∧ cap * sz ≤ cur.size ∧ xs.length = n * sz ∧ cur.toList.take (n * sz) = xs
section
variable {E : TypeId} {sz : Nat} {W W' : World} {g : Nat} {v : Value} {n : Nat} {xs : List Value}
theorem OwnG.shape (h : OwnG E sz W g v n xs) : ∃ cap, v = .slice (some ⟨g, 0, none⟩) n cap ∧ n ≤ cap ∧ cap ≤ maxLen := by
  obtain ⟨cap, cur, rfl, _, h1, h2, _⟩ := h; exact ⟨_, rfl, h1, h2⟩
theorem OwnG.lt (h : OwnG E sz W g v n xs) : g < W.heap.size := by
  obtain ⟨cap, cur, rfl, h1, _⟩ := h; exact (Array.getElem?_eq_some_iff.1 h1).1
theorem OwnG.same (h : OwnG E sz W g v n xs) (e : W'.heap[g]? = W.heap[g]?) : OwnG E sz W' g v n xs := by
  obtain ⟨cap, cur, hv, h1, r⟩ := h; exact ⟨cap, cur, hv, e.trans h1, r⟩
theorem OwnG.gr (h : OwnG E sz W g v n xs) (k : Gr W W') : OwnG E sz W' g v n xs := h.same (k.block g h.lt)
theorem OwnG.by (h : OwnG E sz W g v n xs) {r : Option Nat} (k : W.grownBy W' r) (hr : some g ≠ r) : OwnG E sz W' g v n xs := h.same (k.block g h.lt hr)
theorem OwnG.cell (h : OwnG E sz W g v n xs) (j : Nat) (u : Value) (hj : xs[j]? = some u) : W.cell? ⟨g, j, none⟩ = some u ∧ W.frozen? ⟨g, j, none⟩ = false := by
  obtain ⟨cap, cur, hv, h1, h2, h3, h4, h5, h6⟩ := h
  have hlt := (List.getElem?_eq_some_iff.1 hj).1
  have h7 : (cur.toList.take (n * sz))[j]? = some u := by rw [h6]; exact hj
  rw [List.getElem?_take_of_lt (by omega)] at h7
  refine ⟨by simp only [World.cell?, h1]; simpa using h7, by simp [World.frozen?, h1]⟩
theorem ownG_of (base : Nat) (h : W.ownsRow base E sz v n xs) (hn : 0 < n) : ∃ g, base ≤ g ∧ OwnG E sz W g v n xs := by
  obtain ⟨h1, h2⟩ := h
  rcases h2 with ⟨k1, k2⟩ | ⟨g, cap, cur, rfl, hg, hh, hc, hm, hs, ht⟩
  · omega
  · exact ⟨g, hg, cap, cur, rfl, hh, hc, hm, by omega, h1, ht⟩
theorem ownG_some (base : Nat) (h : W.ownsRow base E sz v n xs) (hv : v ≠ .slice none 0 0) : ∃ g, base ≤ g ∧ OwnG E sz W g v n xs := by
  obtain ⟨h1, h2⟩ := h
  rcases h2 with ⟨k1, k2⟩ | ⟨g, cap, cur, rfl, hg, hh, hc, hm, hs, ht⟩
  · exact absurd k1 hv
  · exact ⟨g, hg, cap, cur, rfl, hh, hc, hm, by omega, h1, ht⟩
theorem OwnG.owns (h : OwnG E sz W g v n xs) {base : Nat} (hb : base ≤ g) (hs : ∀ cap cur, v = .slice (some ⟨g, 0, none⟩) n cap → W.heap[g]? = some (.cells cur E (0, 0)) → cap * sz = cur.size) : W.ownsRow base E sz v n xs := by
  obtain ⟨cap, cur, rfl, h1, h2, h3, h4, h5, h6⟩ := h
  exact ⟨h5, .inr ⟨g, cap, cur, rfl, hb, h1, h2, h3, by have := hs cap cur rfl h1; omega, h6⟩⟩
/-- cells of a row turned in place -/
theorem OwnG.put (h : OwnG E sz W g v n xs) (o : Nat) (us : List Value) (hl : o + us.length ≤ n * sz) : OwnG E sz (W.setCells g o us) g v n (xs.take o ++ us ++ xs.drop (o + us.length)) := by
  obtain ⟨cap, cur, hv, h1, h2, h3, h4, h5, h6⟩ := h
  have hns : n * sz ≤ cap * sz := Nat.mul_le_mul_right _ h2
  obtain ⟨cs', k1, k2, k3, k4, k5⟩ := rg_same us o W cur h1 (by omega)
  refine ⟨cap, cs', hv, k1, h2, h3, by omega, by simp; omega, ?_⟩
  apply List.ext_getElem?
  intro j
  by_cases hj : j < n * sz
  · rw [List.getElem?_take_of_lt hj, Array.getElem?_toList]
    have hcur : cur[j]? = xs[j]? := by
      have : (cur.toList.take (n * sz))[j]? = xs[j]? := by rw [h6]
      rw [List.getElem?_take_of_lt hj] at this
      simpa using this
    by_cases c1 : j < o
    · rw [k3 j c1, hcur, List.append_assoc, List.getElem?_append_left (by simp; omega), List.getElem?_take_of_lt c1]
    · by_cases c2 : j < o + us.length
      · have := k4 (j - o) (by omega)
        rw [show o + (j - o) = j by omega] at this
        rw [this, List.append_assoc, List.getElem?_append_right (by simp; omega)]
        simp only [List.length_take]
        rw [show j - min o xs.length = j - o by omega, List.getElem?_append_left (by omega)]
      · rw [k5 j (by omega), hcur, List.getElem?_append_right (by simp; omega), List.getElem?_drop]
        congr 1
        simp; omega
  · rw [List.getElem?_eq_none (by simp; omega), List.getElem?_eq_none (by simp; omega)]
end
section
variable {P : Program}
theorem run_appendG (w : World) (t ty E : TypeId) (i : TypeInfo) (z : Value) (sz bytes : Nat) (ht : P.underlying t = some (.slice E)) (hi : P.info? E = some i) (hz : i.zero = some z)
    (hsize : i.size = sz) (hby : i.bytes = bytes) (hzs : z.cells.size = sz) (hsz : 0 < sz) (g : Nat) (v : Value) (n : Nat) (xs : List Value) (hown : OwnG E sz w g v n xs)
    (ad : Addr) (m c : Nat) (news : List Value) (hl : news.length = m * sz) (hnews : ∀ j u, news[j]? = some u → w.cell? (ad.add j) = some u) (h1 : ∀ u ∈ news, u.oneCell' = true)
    (h63 : n + m ≤ maxLen) (hbytes : (n + m) * bytes ≤ 140737488355328) :
    ∃ v' w' g', (Builtin.append_ #[t, t] ty #[v, .slice (some ad) m c]).run P w = .ok v' w' ∧ OwnG E sz w' g' v' (n + m) (xs ++ news) ∧ (g' = g ∨ w.heap.size ≤ g') ∧ w.grownBy w' (some g) := by
  have hlt := hown.lt
  obtain ⟨cap, cur, rfl, k1, k2, k3, k4, k5, k6⟩ := hown
  by_cases hroom : n + m ≤ cap
  · have hnm : (n + m) * sz ≤ cap * sz := Nat.mul_le_mul_right _ hroom
    have e1 : (n + m) * sz = n * sz + m * sz := Nat.add_mul _ _ _
    have hr := run_append_room_cells (P := P) w t ty E i ht hi g 0 n cap ad m c news (by rw [hsize]; exact hl) hnews h1 hroom
      (fun j hj => by
        rw [hsize, Nat.zero_add]
        have : n * sz + j < cur.size := by omega
        simp [World.cell?, k1, this])
      (fun j hj => by simp [World.frozen?, k1])
    rw [hsize, Nat.zero_add] at hr
    obtain ⟨cs', q1, q2, q3, q4, q5⟩ := rg_same news (n * sz) w cur k1 (by omega)
    refine ⟨_, _, g, hr, ⟨cap, cs', rfl, q1, hroom, k3, by omega, by simp; omega, ?_⟩, Or.inl rfl, rg_grown _ _ _ _⟩
    apply List.ext_getElem?
    intro j
    by_cases hj : j < (n + m) * sz
    · rw [List.getElem?_take_of_lt hj, Array.getElem?_toList]
      by_cases c1 : j < n * sz
      · have : (cur.toList.take (n * sz))[j]? = xs[j]? := by rw [k6]
        rw [List.getElem?_take_of_lt c1] at this
        rw [q3 j c1, List.getElem?_append_left (by omega)]
        simpa using this
      · have := q4 (j - n * sz) (by omega)
        rw [show n * sz + (j - n * sz) = j by omega] at this
        rw [this, List.getElem?_append_right (by omega), k5]
    · rw [List.getElem?_eq_none (by simp; omega), List.getElem?_eq_none (by simp; omega)]
  · obtain ⟨v', w', hr, ho, hg⟩ := run_append_arg_grows (P := P) w t ty E i z sz bytes ht hi hz hsize hby hzs hsz ⟨g, 0, none⟩ n cap xs k5
      (fun j u hj => by
        have hlt := (List.getElem?_eq_some_iff.1 hj).1
        have e : (⟨g, 0, none⟩ : Addr).add j = ⟨g, j, none⟩ := by unfold Addr.add; split <;> simp_all
        rw [e]
        have h7 : (cur.toList.take (n * sz))[j]? = some u := by rw [k6]; exact hj
        rw [List.getElem?_take_of_lt (by omega)] at h7
        simp only [World.cell?, k1]; simpa using h7) ad m c news hl hnews (by omega) h63 hbytes
    obtain ⟨g', hg', ho'⟩ := ownG_of _ ho (by omega)
    exact ⟨v', w', g', hr, ho', Or.inr hg', ⟨hg.os, hg.tape, hg.output, hg.size, fun k hk _ => hg.block k hk (by simp)⟩⟩
theorem wp_appendG {w : World} {ops : Array Oper} {rest : List Oper} {o : Oper} {a : Act} {Q : Exit → Act → World → Prop} (hgd : o.guard = none) (s x : Operand) (t : TypeId)
    (ho : o.op = .call { callee := .builtin .append, args := #[s, x], argTypes := #[t, t] })
    (E : TypeId) (i : TypeInfo) (z : Value) (sz bytes : Nat) (ht : P.underlying t = some (.slice E)) (hi : P.info? E = some i) (hz : i.zero = some z)
    (hsize : i.size = sz) (hby : i.bytes = bytes) (hzs : z.cells.size = sz) (hsz : 0 < sz) (g : Nat) (v : Value) (n : Nat) (xs : List Value) (hs : a.eval s = v) (hown : OwnG E sz w g v n xs)
    (ad : Addr) (m c : Nat) (news : List Value) (hx : a.eval x = .slice (some ad) m c) (hl : news.length = m * sz) (hnews : ∀ j u, news[j]? = some u → w.cell? (ad.add j) = some u) (h1 : ∀ u ∈ news, u.oneCell' = true)
    (h63 : n + m ≤ maxLen) (hbytes : (n + m) * bytes ≤ 140737488355328)
    (h : ∀ v' w' g', OwnG E sz w' g' v' (n + m) (xs ++ news) → (g' = g ∨ w.heap.size ≤ g') → w.grownBy w' (some g) → wpList P ops Q rest (a.put o.dst v') w') : wpList P ops Q (o :: rest) a w := by
  refine wpList_plain hgd fun K hK => ?_
  obtain ⟨v', w', g', hr, h2, h3, h4⟩ := run_appendG (P := P) w t o.type E i z sz bytes ht hi hz hsize hby hzs hsz g v n xs hown ad m c news hl hnews h1 h63 hbytes
  unfold Oper.wp execOp
  simp only [ho, resolve, invoke, builtin, Sem.run_bind, Sem.run_pure, Result.andThen_ok, List.map_toArray, List.map_cons, List.map_nil, hs, hx, hr]
  exact hK _ _ (h v' w' g' h2 h3 h4)
/-- to a nil row -/
theorem wp_appendN {w : World} {ops : Array Oper} {rest : List Oper} {o : Oper} {a : Act} {Q : Exit → Act → World → Prop} (hgd : o.guard = none) (s x : Operand) (t : TypeId)
    (ho : o.op = .call { callee := .builtin .append, args := #[s, x], argTypes := #[t, t] })
    (E : TypeId) (i : TypeInfo) (z : Value) (sz bytes : Nat) (ht : P.underlying t = some (.slice E)) (hi : P.info? E = some i) (hz : i.zero = some z)
    (hsize : i.size = sz) (hby : i.bytes = bytes) (hzs : z.cells.size = sz) (hsz : 0 < sz) (hs : a.eval s = .slice none 0 0)
    (ad : Addr) (m c : Nat) (news : List Value) (hx : a.eval x = .slice (some ad) m c) (hl : news.length = m * sz) (hnews : ∀ j u, news[j]? = some u → w.cell? (ad.add j) = some u) (h1 : ∀ u ∈ news, u.oneCell' = true)
    (h0 : 0 < m) (h63 : m ≤ maxLen) (hbytes : m * bytes ≤ 140737488355328)
    (h : ∀ v' w' g', OwnG E sz w' g' v' m news → w.heap.size ≤ g' → w.grownBy w' none → wpList P ops Q rest (a.put o.dst v') w') : wpList P ops Q (o :: rest) a w := by
  refine wpList_append_own _ hgd s x t ho w.heap.size E i z sz bytes ht hi hz hsize hby hzs hsz _ 0 [] hs (World.ownsRow_nil _ _ _ _) ad m c news hx hl hnews h1 (by omega) (by simpa using hbytes) (Nat.le_refl _) ?_
  intro v' w' h2 h3 _
  rw [Nat.zero_add, List.nil_append] at h2
  obtain ⟨g', hg', ho'⟩ := ownG_of _ h2 h0
  exact h v' w' g' ho' hg' h3
end
end Go.Proofs.Ytfobnemocodomaa
