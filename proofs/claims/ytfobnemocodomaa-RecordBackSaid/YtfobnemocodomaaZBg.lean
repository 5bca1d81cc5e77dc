/- vec.pairs: the two lists merged, told piece by piece. -/
import Derived.Test.YtfobnemocodomaaZBa
import Derived.Test.YtfobnemocodomaaZBb
import Derived.BigRegion
import Derived.Deep.CutRange
set_option linter.unusedVariables false
set_option linter.unusedSimpArgs false
set_option maxHeartbeats 400000
namespace Go.Proofs.Ytfobnemocodomaa
open Go.RowKit

def mrg : List Dot → List Dot → List (Int × Int × Int)
  | [], b => b.map fun d => (d.1, 0, d.2)
  | x :: a, [] => (x.1, x.2, 0) :: mrg a []
  | x :: a, y :: b => if x.1 < y.1 then (x.1, x.2, 0) :: mrg a (y :: b) else if y.1 < x.1 then (y.1, 0, y.2) :: mrg (x :: a) b else (x.1, x.2, y.2) :: mrg a b
termination_by a b => a.length + b.length

theorem Dots.tail {w : World} {ad : Addr} {c : Nat} {d : Dot} {r : List Dot} (h : Dots w (some ad) (d :: r)) (hc : (d :: r).length ≤ c) : Dots w (some (if c = 1 then ad else ad.add 2)) r := by
  refine ⟨by have := h.1; simp at this; omega, fun i hi => ?_⟩
  obtain ⟨ad', e, a, b⟩ := h.2 (i + 1) (by simpa using hi)
  cases e
  have hc1 : c ≠ 1 := by simp at hc; omega
  rw [if_neg hc1]
  have hadd : (ad.add 2).add (i * 2) = ad.add ((i + 1) * 2) := by
    unfold Addr.add
    by_cases h0 : i = 0
    · subst h0; simp
    · rw [if_neg (by omega), if_neg (by omega), if_neg (by omega)]
      simp only [Addr.mk.injEq, true_and, and_true]
      omega
  exact ⟨_, rfl, by rw [hadd]; simpa using a, by rw [hadd]; simpa using b⟩

def encP (x : Int × Int × Int) : Array Value := #[.int .i64 x.1, .agg #[.int .i64 x.2.1, .int .i64 x.2.2]]

structure PSt (w0 : World) (ba bb : Nat) (a b : List Dot) (W : World) : Prop where
  A1 : ∃ A1 c1, Boxed W ba 36 (.slice A1 a.length c1) ∧ a.length ≤ c1 ∧ Dots w0 A1 a
  A2 : ∃ A2 c2, Boxed W bb 36 (.slice A2 b.length c2) ∧ b.length ≤ c2 ∧ Dots w0 A2 b
  gr : Gr w0 W

theorem heap_set_same {W : World} {b o : Nat} {cs : Array Value} {t : TypeId} {fr : Nat × Nat} (h : W.heap[b]? = some (.cells cs t fr)) (u : Value) : (W.setCell ⟨b, o, none⟩ u).heap[b]? = some (.cells (cs.setIfInBounds o u) t fr) := by
  simp [World.setCell, Array.getElem?_modify, h]
theorem heap_set_other {W : World} {b k o : Nat} (h : k ≠ b) (u : Value) : (W.setCell ⟨b, o, none⟩ u).heap[k]? = W.heap[k]? := Below.heap_setCell _ _ _ _ h

/-- where the piece is made, ahead of the call of yield -/
structure Lf (w0 wr : World) (ba bb nb : Nat) (n0 n1 : Int) (ra rb : List Dot) (W2 : World) : Prop where
  box : W2.heap[nb]? = some (.cells #[.int .i64 n0, .int .i64 n1] 217 (0, 0))
  st : PSt w0 ba bb ra rb W2
  mv : Mv (fun k => k = ba ∨ k = bb) wr.heap.size wr W2

theorem cut_addr (c : Nat) (ad : Addr) : (if c = 1 then some ad else some ⟨ad.block, ad.off + 2, none⟩) = some (if c = 1 then ad else ad.add 2) := by
  by_cases h : c = 1
  · simp [h]
  · simp [h, Addr.add]

theorem PSt.kp {w0 : World} {ba bb : Nat} {a b : List Dot} {W W' : World} (h : PSt w0 ba bb a b W) (k : Kp (fun k => k = ba ∨ k = bb) w0.heap.size W W') : PSt w0 ba bb a b W' := by
  obtain ⟨⟨A1, c1, h1, h2, h3⟩, ⟨A2, c2, h4, h5, h6⟩, hg⟩ := h
  exact ⟨⟨A1, c1, k.boxed h1 (.inr (.inl rfl)), h2, h3⟩, ⟨A2, c2, k.boxed h4 (.inr (.inr rfl)), h5, h6⟩, k.below hg (Nat.le_refl _)⟩
/-- what stands behind the new piece's box -/
structure Pre (w0 wr : World) (ba bb nb : Nat) (A1 A2 : Option Addr) (l1 c1 l2 c2 : Nat) (W1 : World) : Prop where
  box : W1.heap[nb]? = some (.cells #[.int .i64 0, .int .i64 0] 217 (0, 0))
  b1 : Boxed W1 ba 36 (.slice A1 l1 c1)
  b2 : Boxed W1 bb 36 (.slice A2 l2 c2)
  gr : Gr w0 W1
  mv : Mv (fun k => k = ba ∨ k = bb) wr.heap.size wr W1
  n1 : ba ≠ nb
  n2 : bb ≠ nb
  n3 : w0.heap.size ≤ nb
  n4 : wr.heap.size ≤ nb
theorem Pre.mk' {w0 wr : World} {ba bb : Nat} {A1 A2 : Option Addr} {l1 c1 l2 c2 : Nat} (h1 : Boxed wr ba 36 (.slice A1 l1 c1)) (h2 : Boxed wr bb 36 (.slice A2 l2 c2)) (hg : Gr w0 wr) :
    Pre w0 wr ba bb wr.heap.size A1 A2 l1 c1 l2 c2 (wr.alloc (.cells #[.int .i64 0, .int .i64 0] 217)) :=
  ⟨World.alloc_heap_new wr _, (Below.heap_alloc _ _ _ h1.lt).trans h1, (Below.heap_alloc _ _ _ h2.lt).trans h2, hg.al _, (Mv.refl _ _ _).alloc _, by have := h1.lt; omega, by have := h2.lt; omega, hg.size, Nat.le_refl _⟩
theorem Pre.facts {w0 wr : World} {ba bb nb : Nat} {A1 A2 : Option Addr} {l1 c1 l2 c2 : Nat} {W1 : World} (h : Pre w0 wr ba bb nb A1 A2 l1 c1 l2 c2 W1) :
    W1.cell? ⟨ba, 0, none⟩ = some (.slice A1 l1 c1) ∧ W1.cell? ⟨bb, 0, none⟩ = some (.slice A2 l2 c2) ∧ W1.frozen? ⟨ba, 0, none⟩ = false ∧ W1.frozen? ⟨bb, 0, none⟩ = false ∧
    W1.cell? ⟨nb, 0, none⟩ = some (.int .i64 0) ∧ W1.cell? ⟨nb, 1, none⟩ = some (.int .i64 0) ∧ W1.frozen? ⟨nb, 0, none⟩ = false ∧ W1.frozen? ⟨nb, 1, none⟩ = false :=
  ⟨h.b1.cell, h.b2.cell, free_of_one h.b1, free_of_one h.b2, by simp [World.cell?, h.box], by simp [World.cell?, h.box], by simp [World.frozen?, h.box], by simp [World.frozen?, h.box]⟩

theorem Lf.takeA {w0 wr : World} {ba bb nb : Nat} {ad : Addr} {A2 : Option Addr} {c1 c2 k : Nat} {p c : Int} {ra rb : List Dot} {W1 : World} (h : Pre w0 wr ba bb nb (some ad) A2 (ra.length + 1) c1 rb.length c2 W1) (hab : ba ≠ bb) (hba : w0.heap.size ≤ ba)
    (hl1 : ra.length + 1 ≤ c1) (hd1 : Dots w0 (some ad) ((p, c) :: ra)) (hl2 : rb.length ≤ c2) (hd2 : Dots w0 A2 rb) :
    Lf w0 wr ba bb nb c 0 ra rb (((W1.drewN k).setCell ⟨nb, 0, none⟩ (.int .i64 c)).setCell ⟨ba, 0, none⟩ (.slice (if c1 = 1 then some ad else some ⟨ad.block, ad.off + 2, none⟩) ra.length (c1 - 1))) := by
  rw [cut_addr]
  refine ⟨?_, ⟨⟨some (if c1 = 1 then ad else ad.add 2), c1 - 1, ?_, by omega, hd1.tail hl1⟩, ⟨A2, c2, ?_, hl2, hd2⟩, ?_⟩, ?_⟩
  · rw [heap_set_other h.n1.symm, heap_set_same (show (W1.drewN k).heap[nb]? = _ from h.box)]; rfl
  · exact one_setCell (v := .slice (some ad) (ra.length + 1) c1) (by rw [heap_set_other h.n1]; exact h.b1)
  · show _ = _
    rw [heap_set_other hab.symm, heap_set_other h.n2]; exact h.b2
  · exact ((h.gr.drN k).set h.n3 _).set hba _
  · exact ((h.mv.drewN k).setCell (.inr h.n4) _).setCell (.inl (.inl rfl)) _
theorem Lf.takeB {w0 wr : World} {ba bb nb : Nat} {ad : Addr} {A1 : Option Addr} {c1 c2 k : Nat} {p c : Int} {ra rb : List Dot} {W1 : World} (h : Pre w0 wr ba bb nb A1 (some ad) ra.length c1 (rb.length + 1) c2 W1) (hab : ba ≠ bb) (hbb : w0.heap.size ≤ bb)
    (hl1 : ra.length ≤ c1) (hd1 : Dots w0 A1 ra) (hl2 : rb.length + 1 ≤ c2) (hd2 : Dots w0 (some ad) ((p, c) :: rb)) :
    Lf w0 wr ba bb nb 0 c ra rb (((W1.drewN k).setCell ⟨nb, 1, none⟩ (.int .i64 c)).setCell ⟨bb, 0, none⟩ (.slice (if c2 = 1 then some ad else some ⟨ad.block, ad.off + 2, none⟩) rb.length (c2 - 1))) := by
  rw [cut_addr]
  refine ⟨?_, ⟨⟨A1, c1, ?_, hl1, hd1⟩, ⟨some (if c2 = 1 then ad else ad.add 2), c2 - 1, ?_, by omega, hd2.tail hl2⟩, ?_⟩, ?_⟩
  · rw [heap_set_other h.n2.symm, heap_set_same (show (W1.drewN k).heap[nb]? = _ from h.box)]; rfl
  · show _ = _
    rw [heap_set_other hab, heap_set_other h.n1]; exact h.b1
  · exact one_setCell (v := .slice (some ad) (rb.length + 1) c2) (by rw [heap_set_other h.n2]; exact h.b2)
  · exact ((h.gr.drN k).set h.n3 _).set hbb _
  · exact ((h.mv.drewN k).setCell (.inr h.n4) _).setCell (.inl (.inr rfl)) _

theorem Lf.takeC {w0 wr : World} {ba bb nb : Nat} {ad bd : Addr} {c1 c2 k : Nat} {p c q d : Int} {ra rb : List Dot} {W1 : World} (h : Pre w0 wr ba bb nb (some ad) (some bd) (ra.length + 1) c1 (rb.length + 1) c2 W1) (hab : ba ≠ bb) (hba : w0.heap.size ≤ ba) (hbb : w0.heap.size ≤ bb)
    (hl1 : ra.length + 1 ≤ c1) (hd1 : Dots w0 (some ad) ((p, c) :: ra)) (hl2 : rb.length + 1 ≤ c2) (hd2 : Dots w0 (some bd) ((q, d) :: rb)) :
    Lf w0 wr ba bb nb c d ra rb (((((W1.drewN k).setCell ⟨nb, 0, none⟩ (.int .i64 c)).setCell ⟨nb, 1, none⟩ (.int .i64 d)).setCell ⟨ba, 0, none⟩ (.slice (if c1 = 1 then some ad else some ⟨ad.block, ad.off + 2, none⟩) ra.length (c1 - 1))).setCell ⟨bb, 0, none⟩ (.slice (if c2 = 1 then some bd else some ⟨bd.block, bd.off + 2, none⟩) rb.length (c2 - 1))) := by
  rw [cut_addr, cut_addr]
  refine ⟨?_, ⟨⟨some (if c1 = 1 then ad else ad.add 2), c1 - 1, ?_, by omega, hd1.tail hl1⟩, ⟨some (if c2 = 1 then bd else bd.add 2), c2 - 1, ?_, by omega, hd2.tail hl2⟩, ?_⟩, ?_⟩
  · rw [heap_set_other h.n2.symm, heap_set_other h.n1.symm, heap_set_same (heap_set_same (show (W1.drewN k).heap[nb]? = _ from h.box) _)]; rfl
  · show _ = _
    rw [heap_set_other hab]
    exact one_setCell (v := .slice (some ad) (ra.length + 1) c1) (by rw [heap_set_other h.n1, heap_set_other h.n1]; exact h.b1)
  · exact one_setCell (v := .slice (some bd) (rb.length + 1) c2) (by rw [heap_set_other hab.symm, heap_set_other h.n2, heap_set_other h.n2]; exact h.b2)
  · exact ((((h.gr.drN k).set h.n3 _).set h.n3 _).set hba _).set hbb _
  · exact ((((h.mv.drewN k).setCell (.inr h.n4) _).setCell (.inr h.n4) _).setCell (.inl (.inl rfl)) _).setCell (.inl (.inr rfl)) _

set_option maxRecDepth 100000 in
set_option maxHeartbeats 8000000 in
theorem pairs1_any (n l : Nat) (w0 : World) (ba bb : Nat) (xs : List (Int × Int × Int)) (hba : w0.heap.size ≤ ba) (hbb : w0.heap.size ≤ bb) (hne : ba ≠ bb)
    (J Jx : List (Int × Int × Int) → World → Prop)
    (hJ : ∀ pre A B, J pre A → Mv (fun k => k = ba ∨ k = bb) A.heap.size A B → J pre B)
    (hY : ∀ pre x W1, J pre W1 → (pre ++ [x]) <+: xs → YieldAt Fence.wide n Try.prog l (encP x) W1 fun e W' =>
      Kp (fun k => k = ba ∨ k = bb) w0.heap.size W1 W' ∧ ((e = .returned (.bool true) ∧ J (pre ++ [x]) W') ∨ (e = .returned (.bool false) ∧ Jx (pre ++ [x]) W')))
    (a b : List Dot) (hxs : xs = mrg a b) (W : World) (hP : PSt w0 ba bb a b W) (h0 : J [] W) :
    Calls Try.prog 213 #[.func (.yield l) #[] #[], .pointer (some ⟨ba, 0, none⟩), .pointer (some ⟨bb, 0, none⟩)] W fun e W' => (∃ v, e = .returned v) ∧ (J xs W' ∨ ∃ pre, pre <+: xs ∧ Jx pre W') := by
  have HP := Lib.hid hP; clear hP
  have HX := Lib.hid hxs; clear hxs
  have HJ := Lib.hid hJ; clear hJ
  have HY := Lib.hid hY; clear hY
  go_enter Try.func213, Try.ntmps213
  go_wp2
  go_loopg [4,5] (a.length + b.length) (fun k p1 p2 wr => ∃ pre ra rb, Hid (k = ra.length + rb.length ∧ xs = pre ++ mrg ra rb ∧ PSt w0 ba bb ra rb wr ∧ J pre wr))
  case atStart => exact ⟨[], a, b, rfl, HX.out, HP.out, h0⟩
  case round =>
    clear HP HX h0
    obtain ⟨pre, ra, rb, hr⟩ := hrel
    obtain ⟨hk, hxs, ⟨⟨A1, c1, hb1, hl1, hd1⟩, ⟨A2, c2, hb2, hl2, hd2⟩, hgr⟩, hj⟩ := hr.out
    clear hr
    have HJ0 := Lib.hid hj; clear hj
    have HX := Lib.hid hxs; clear hxs
    have HK := Lib.hid hk; clear hk
    have H1 := Lib.hid hd1; clear hd1
    have H2 := Lib.hid hd2; clear hd2
    have HP := Lib.hid (Pre.mk' hb1 hb2 hgr)
    have hc1 := cell_of_one hb1
    have hc2 := cell_of_one hb2
    clear hb1 hb2
    cases ra with
    | nil =>
      cases rb with
      | nil =>
        go_wp2
        go_end0
        have h1 := HX.out
        simp only [mrg, List.map_nil, List.append_nil] at h1
        exact ⟨⟨_, rfl⟩, .inl (by rw [h1]; exact HJ0.out)⟩
      | cons y rb =>
        obtain ⟨bd, rfl, hx2, hy2⟩ := H2.out.2 0 (by simp)
        obtain ⟨q, d⟩ := y
        simp only [List.length_nil, Nat.zero_mul, Addr.add_zero', List.getElem_cons_zero, List.length_cons] at hx2 hy2 hc1 hc2 hl1 hl2 HP
        go_wp2
        obtain ⟨W1, hW1⟩ : ∃ W1, wr.alloc (.cells #[.int .i64 0, .int .i64 0] 217) = W1 := ⟨_, rfl⟩
        obtain ⟨nb, hnb⟩ : ∃ nb, wr.heap.size = nb := ⟨_, rfl⟩
        rw [hW1, hnb] at HP
        rw [hW1, hnb]
        clear hc1 hc2 hW1 hnb
        obtain ⟨hc1, hc2, hf1, hf2, hn0, hn1, hnf0, hnf1⟩ := HP.out.facts
        have h01 := HP.out.n1
        have h02 := HP.out.n2
        have hx2' := HP.out.gr.cell hx2
        have hy2' := HP.out.gr.cell hy2
        refine wp_region_quiet_lit (by kernel_rfl) (by kernel_rfl) ?_
        repeat (first | go_big_quiet_step (fail) | quiet_step (fail))
        refine wpQuiet_nil ?_
        intro _ hw'
        obtain ⟨nq1, hw''⟩ := hw'
        subst hw''
        go_wp2
        refine wp_region_quiet_lit (by kernel_rfl) (by kernel_rfl) ?_
        repeat (first | go_big_quiet_step (fail) | quiet_step (fail))
        refine wpQuiet_nil ?_
        intro _ hw'
        obtain ⟨nq, hw''⟩ := hw'
        subst hw''
        go_wp2
        go_region
        have HL := Lib.hid (Lf.takeB (ra := []) (k := nq1 + nq + 1) HP.out hne hbb (show ([] : List Dot).length ≤ c1 from hl1) H1.out hl2 H2.out)
        have hX2 : xs = pre ++ (q, 0, d) :: mrg [] rb := by rw [HX.out, mrg]; simp [mrg]
        have HX2 := Lib.hid hX2
        have HK2 : Hid (([] : List Dot).length + (rb : List Dot).length < gk) := by have := HK.out; simp at this ⊢; show _ < _; omega
        clear HX HK hX2 HP H1 H2 hc1 hc2 hf1 hf2 hn0 hn1 hnf0 hnf1 h01 h02 hl1 hl2 hx2 hy2 hx2' hy2'
        revert HL
        generalize Value.slice (if c2 = 1 then some bd else some ⟨bd.block, bd.off + 2, none⟩) rb.length (c2 - 1) = sw
        generalize ((W1.drewN (nq1 + nq + 1)).setCell ⟨nb, 1, none⟩ (.int .i64 d)).setCell ⟨bb, 0, none⟩ sw = W2
        intro HL
        have hn0 : W2.cell? ⟨nb, 0, none⟩ = some (.int .i64 0) := by simp [World.cell?, HL.out.box]
        have hn1 : W2.cell? ⟨nb, 1, none⟩ = some (.int .i64 d) := by simp [World.cell?, HL.out.box]
        obtain ⟨fn, tmps, assign, body, hy, hR⟩ := HY.out pre (q, 0, d) W2 (HJ.out _ _ _ HJ0.out HL.out.mv) (by rw [HX2.out]; simp)
        simp only [encP] at hy
        have HR := Lib.hid hR; clear hR
        go_upto_region 7 with (fail)
        refine (wpIn_wide (n := n + 1)).1 ?_
        gi_wp2
        refine HR.out.mono ?_
        clear hy HR hn0 hn1
        rintro e W3 ⟨hkp, (⟨rfl, hJ3⟩ | ⟨rfl, hJx3⟩)⟩
        · gi_wp2
          go_wp2
          go_roundg (([] : List Dot).length + (rb : List Dot).length)
          case measure => exact HK2.out
          case rel => exact ⟨pre ++ [(q, 0, d)], [], rb, rfl, by rw [HX2.out]; simp, HL.out.st.kp hkp, hJ3⟩
        · gi_wp2
          go_wp2
          refine bodyPost_ret (results_none rfl _ _ _) rfl ?_
          exact ⟨⟨_, rfl⟩, .inr ⟨pre ++ [(q, 0, d)], by rw [HX2.out]; simp, hJx3⟩⟩
    | cons x ra =>
      obtain ⟨ad, rfl, hx, hy⟩ := H1.out.2 0 (by simp)
      obtain ⟨p, c⟩ := x
      simp only [Nat.zero_mul, Addr.add_zero', List.getElem_cons_zero, List.length_cons] at hx hy hc1 hc2 hl1 hl2 HP
      cases rb with
      | nil =>
        simp only [List.length_nil] at hc2 hl2 HP
        go_wp2
        obtain ⟨W1, hW1⟩ : ∃ W1, wr.alloc (.cells #[.int .i64 0, .int .i64 0] 217) = W1 := ⟨_, rfl⟩
        obtain ⟨nb, hnb⟩ : ∃ nb, wr.heap.size = nb := ⟨_, rfl⟩
        rw [hW1, hnb] at HP
        rw [hW1, hnb]
        clear hc1 hc2 hW1 hnb
        obtain ⟨hc1, hc2, hf1, hf2, hn0, hn1, hnf0, hnf1⟩ := HP.out.facts
        have h01 := HP.out.n1
        have h02 := HP.out.n2
        have hx' := HP.out.gr.cell hx
        have hy' := HP.out.gr.cell hy
        refine wp_region_quiet_lit (by kernel_rfl) (by kernel_rfl) ?_
        repeat (first | go_big_quiet_step (fail) | quiet_step (fail))
        refine wpQuiet_nil ?_
        intro _ hw'
        obtain ⟨nq, hw''⟩ := hw'
        subst hw''
        go_wp2
        go_region
        have HL := Lib.hid (Lf.takeA (k := nq + 1) HP.out hne hba hl1 H1.out (show ([] : List Dot).length ≤ c2 from hl2) H2.out)
        have hX2 : xs = pre ++ (p, c, 0) :: mrg ra [] := by rw [HX.out, mrg]
        have HX2 := Lib.hid hX2
        have HK2 : Hid (ra.length + ([] : List Dot).length < gk) := by have := HK.out; simp at this ⊢; show _ < _; omega
        clear HX HK hX2 HP H1 H2 hc1 hc2 hf1 hf2 hn0 hn1 hnf0 hnf1 h01 h02 hl1 hl2 hx hy hx' hy'
        revert HL
        generalize Value.slice (if c1 = 1 then some ad else some ⟨ad.block, ad.off + 2, none⟩) ra.length (c1 - 1) = sv
        generalize ((W1.drewN (nq + 1)).setCell ⟨nb, 0, none⟩ (.int .i64 c)).setCell ⟨ba, 0, none⟩ sv = W2
        intro HL
        have hn0 : W2.cell? ⟨nb, 0, none⟩ = some (.int .i64 c) := by simp [World.cell?, HL.out.box]
        have hn1 : W2.cell? ⟨nb, 1, none⟩ = some (.int .i64 0) := by simp [World.cell?, HL.out.box]
        obtain ⟨fn, tmps, assign, body, hy, hR⟩ := HY.out pre (p, c, 0) W2 (HJ.out _ _ _ HJ0.out HL.out.mv) (by rw [HX2.out]; simp)
        simp only [encP] at hy
        have HR := Lib.hid hR; clear hR
        go_upto_region 7 with (fail)
        refine (wpIn_wide (n := n + 1)).1 ?_
        gi_wp2
        refine HR.out.mono ?_
        clear hy HR hn0 hn1
        rintro e W3 ⟨hkp, (⟨rfl, hJ3⟩ | ⟨rfl, hJx3⟩)⟩
        · gi_wp2
          go_wp2
          go_roundg (ra.length + ([] : List Dot).length)
          case measure => exact HK2.out
          case rel => exact ⟨pre ++ [(p, c, 0)], ra, [], rfl, by rw [HX2.out]; simp, HL.out.st.kp hkp, hJ3⟩
        · gi_wp2
          go_wp2
          refine bodyPost_ret (results_none rfl _ _ _) rfl ?_
          exact ⟨⟨_, rfl⟩, .inr ⟨pre ++ [(p, c, 0)], by rw [HX2.out]; simp, hJx3⟩⟩
      | cons y rb =>
        obtain ⟨bd, rfl, hx2, hy2⟩ := H2.out.2 0 (by simp)
        obtain ⟨q, d⟩ := y
        simp only [Nat.zero_mul, Addr.add_zero', List.getElem_cons_zero, List.length_cons] at hx2 hy2 hc1 hc2 hl1 hl2 HP
        by_cases hlt : p < q
        · have hltb : decide (p < q) = true := decide_eq_true hlt
          go_wp2
          obtain ⟨W1, hW1⟩ : ∃ W1, wr.alloc (.cells #[.int .i64 0, .int .i64 0] 217) = W1 := ⟨_, rfl⟩
          obtain ⟨nb, hnb⟩ : ∃ nb, wr.heap.size = nb := ⟨_, rfl⟩
          rw [hW1, hnb] at HP
          rw [hW1, hnb]
          clear hc1 hc2 hW1 hnb
          obtain ⟨hc1, hc2, hf1, hf2, hn0, hn1, hnf0, hnf1⟩ := HP.out.facts
          have h01 := HP.out.n1
          have h02 := HP.out.n2
          have hx' := HP.out.gr.cell hx
          have hy' := HP.out.gr.cell hy
          have hx2' := HP.out.gr.cell hx2
          have hy2' := HP.out.gr.cell hy2
          refine wp_region_quiet_lit (by kernel_rfl) (by kernel_rfl) ?_
          repeat (first | go_big_quiet_step (fail) | quiet_step (fail))
          refine wpQuiet_nil ?_
          intro _ hw'
          obtain ⟨nq, hw''⟩ := hw'
          subst hw''
          go_wp2
          go_region
          have HL := Lib.hid (Lf.takeA (rb := (q, d) :: rb) (k := nq + 1) HP.out hne hba hl1 H1.out hl2 H2.out)
          have hX2 : xs = pre ++ (p, c, 0) :: mrg ra ((q, d) :: rb) := by rw [HX.out, mrg]; simp [show p < q from by omega]
          have HX2 := Lib.hid hX2
          have HK2 : Hid (ra.length + (((q, d) :: rb) : List Dot).length < gk) := by have := HK.out; simp at this ⊢; show _ < _; omega
          clear HX HK hX2 HP H1 H2 hc1 hc2 hf1 hf2 hn0 hn1 hnf0 hnf1 h01 h02 hl1 hl2 hx hy hx' hy' hx2 hy2 hx2' hy2'
          revert HL
          generalize Value.slice (if c1 = 1 then some ad else some ⟨ad.block, ad.off + 2, none⟩) ra.length (c1 - 1) = sv
          generalize ((W1.drewN (nq + 1)).setCell ⟨nb, 0, none⟩ (.int .i64 c)).setCell ⟨ba, 0, none⟩ sv = W2
          intro HL
          have hn0 : W2.cell? ⟨nb, 0, none⟩ = some (.int .i64 c) := by simp [World.cell?, HL.out.box]
          have hn1 : W2.cell? ⟨nb, 1, none⟩ = some (.int .i64 0) := by simp [World.cell?, HL.out.box]
          obtain ⟨fn, tmps, assign, body, hy, hR⟩ := HY.out pre (p, c, 0) W2 (HJ.out _ _ _ HJ0.out HL.out.mv) (by rw [HX2.out]; simp)
          simp only [encP] at hy
          have HR := Lib.hid hR; clear hR
          go_upto_region 7 with (fail)
          refine (wpIn_wide (n := n + 1)).1 ?_
          gi_wp2
          refine HR.out.mono ?_
          clear hy HR hn0 hn1
          rintro e W3 ⟨hkp, (⟨rfl, hJ3⟩ | ⟨rfl, hJx3⟩)⟩
          · gi_wp2
            go_wp2
            go_roundg (ra.length + (((q, d) :: rb) : List Dot).length)
            case measure => exact HK2.out
            case rel => exact ⟨pre ++ [(p, c, 0)], ra, ((q, d) :: rb), rfl, by rw [HX2.out]; simp, HL.out.st.kp hkp, hJ3⟩
          · gi_wp2
            go_wp2
            refine bodyPost_ret (results_none rfl _ _ _) rfl ?_
            exact ⟨⟨_, rfl⟩, .inr ⟨pre ++ [(p, c, 0)], by rw [HX2.out]; simp, hJx3⟩⟩
        · have hltb : decide (p < q) = false := decide_eq_false hlt
          by_cases hgt : q < p
          · have hgtb : decide (q < p) = true := decide_eq_true hgt
            go_wp2
            obtain ⟨W1, hW1⟩ : ∃ W1, wr.alloc (.cells #[.int .i64 0, .int .i64 0] 217) = W1 := ⟨_, rfl⟩
            obtain ⟨nb, hnb⟩ : ∃ nb, wr.heap.size = nb := ⟨_, rfl⟩
            rw [hW1, hnb] at HP
            rw [hW1, hnb]
            clear hc1 hc2 hW1 hnb
            obtain ⟨hc1, hc2, hf1, hf2, hn0, hn1, hnf0, hnf1⟩ := HP.out.facts
            have h01 := HP.out.n1
            have h02 := HP.out.n2
            have hx' := HP.out.gr.cell hx
            have hy' := HP.out.gr.cell hy
            have hx2' := HP.out.gr.cell hx2
            have hy2' := HP.out.gr.cell hy2
            refine wp_region_quiet_lit (by kernel_rfl) (by kernel_rfl) ?_
            repeat (first | go_big_quiet_step (fail) | quiet_step (fail))
            refine wpQuiet_nil ?_
            intro _ hw'
            obtain ⟨nq1, hw''⟩ := hw'
            subst hw''
            go_wp2
            refine wp_region_quiet_lit (by kernel_rfl) (by kernel_rfl) ?_
            repeat (first | go_big_quiet_step (fail) | quiet_step (fail))
            refine wpQuiet_nil ?_
            intro _ hw'
            obtain ⟨nq, hw''⟩ := hw'
            subst hw''
            go_wp2
            go_region
            have HL := Lib.hid (Lf.takeB (ra := (p, c) :: ra) (k := nq1 + nq + 1) HP.out hne hbb hl1 H1.out hl2 H2.out)
            have hX2 : xs = pre ++ (q, 0, d) :: mrg ((p, c) :: ra) rb := by rw [HX.out, mrg]; simp [show ¬ (p < q) from by omega, show q < p from by omega]
            have HX2 := Lib.hid hX2
            have HK2 : Hid (((p, c) :: ra).length + (rb : List Dot).length < gk) := by have := HK.out; simp at this ⊢; show _ < _; omega
            clear HX HK hX2 HP H1 H2 hc1 hc2 hf1 hf2 hn0 hn1 hnf0 hnf1 h01 h02 hl1 hl2 hx hy hx' hy' hx2 hy2 hx2' hy2'
            revert HL
            generalize Value.slice (if c2 = 1 then some bd else some ⟨bd.block, bd.off + 2, none⟩) rb.length (c2 - 1) = sw
            generalize ((W1.drewN (nq1 + nq + 1)).setCell ⟨nb, 1, none⟩ (.int .i64 d)).setCell ⟨bb, 0, none⟩ sw = W2
            intro HL
            have hn0 : W2.cell? ⟨nb, 0, none⟩ = some (.int .i64 0) := by simp [World.cell?, HL.out.box]
            have hn1 : W2.cell? ⟨nb, 1, none⟩ = some (.int .i64 d) := by simp [World.cell?, HL.out.box]
            obtain ⟨fn, tmps, assign, body, hy, hR⟩ := HY.out pre (q, 0, d) W2 (HJ.out _ _ _ HJ0.out HL.out.mv) (by rw [HX2.out]; simp)
            simp only [encP] at hy
            have HR := Lib.hid hR; clear hR
            go_upto_region 7 with (fail)
            refine (wpIn_wide (n := n + 1)).1 ?_
            gi_wp2
            refine HR.out.mono ?_
            clear hy HR hn0 hn1
            rintro e W3 ⟨hkp, (⟨rfl, hJ3⟩ | ⟨rfl, hJx3⟩)⟩
            · gi_wp2
              go_wp2
              go_roundg (((p, c) :: ra).length + (rb : List Dot).length)
              case measure => exact HK2.out
              case rel => exact ⟨pre ++ [(q, 0, d)], ((p, c) :: ra), rb, rfl, by rw [HX2.out]; simp, HL.out.st.kp hkp, hJ3⟩
            · gi_wp2
              go_wp2
              refine bodyPost_ret (results_none rfl _ _ _) rfl ?_
              exact ⟨⟨_, rfl⟩, .inr ⟨pre ++ [(q, 0, d)], by rw [HX2.out]; simp, hJx3⟩⟩
          · have hgtb : decide (q < p) = false := decide_eq_false hgt
            have HLT := Lib.hid hlt; clear hlt
            have HGT := Lib.hid hgt; clear hgt
            go_upto_block 2 with (fail)
            obtain ⟨W1, hW1⟩ : ∃ W1, wr.alloc (.cells #[.int .i64 0, .int .i64 0] 217) = W1 := ⟨_, rfl⟩
            obtain ⟨nb, hnb⟩ : ∃ nb, wr.heap.size = nb := ⟨_, rfl⟩
            rw [hW1, hnb] at HP
            rw [hW1, hnb]
            clear hc1 hc2 hW1 hnb
            obtain ⟨hc1, hc2, hf1, hf2, hn0, hn1, hnf0, hnf1⟩ := HP.out.facts
            have h01 := HP.out.n1
            have h02 := HP.out.n2
            have hx' := HP.out.gr.cell hx
            have hy' := HP.out.gr.cell hy
            have hx2' := HP.out.gr.cell hx2
            have hy2' := HP.out.gr.cell hy2
            obtain ⟨sv, hsv⟩ : ∃ sv, sv = Value.slice (if c1 = 1 then some ad else some ⟨ad.block, ad.off + 2, none⟩) ra.length (c1 - 1) := ⟨_, rfl⟩
            obtain ⟨sw, hsw⟩ : ∃ sw, sw = Value.slice (if c2 = 1 then some bd else some ⟨bd.block, bd.off + 2, none⟩) rb.length (c2 - 1) := ⟨_, rfl⟩
            have HSV := Lib.hid hsv
            have HSW := Lib.hid hsw
            clear hsv hsw
            go_cut [4] from 6 to 93 (fun s4 wx => s4 = .int .i64 p ∧ ∃ k, wx = ((((W1.drewN k).setCell ⟨nb, 0, none⟩ (.int .i64 c)).setCell ⟨nb, 1, none⟩ (.int .i64 d)).setCell ⟨ba, 0, none⟩ sv).setCell ⟨bb, 0, none⟩ sw)
            case first =>
              go_wp2
              refine wp_region_quiet_lit (by kernel_rfl) (by kernel_rfl) ?_
              repeat (first | go_big_quiet_step (fail) | quiet_step (fail))
              refine wpQuiet_nil ?_
              intro _ hw'
              obtain ⟨nq1, hw''⟩ := hw'
              subst hw''
              go_wp2
              refine wp_region_quiet_lit (by kernel_rfl) (by kernel_rfl) ?_
              repeat (first | go_big_quiet_step (fail) | quiet_step (fail))
              refine wpQuiet_nil ?_
              intro _ hw'
              obtain ⟨nq, hw''⟩ := hw'
              subst hw''
              go_wp2
              go_region
              rw [← HSV.out, ← HSW.out]
              go_wp2
              go_meet
              exact ⟨rfl, nq1 + nq + 1, rfl⟩
            case rest =>
              obtain ⟨rfl, k, rfl⟩ := hcut
              have HL0 := Lf.takeC (k := k) HP.out hne hba hbb hl1 H1.out hl2 H2.out
              rw [← HSV.out, ← HSW.out] at HL0
              have HL := Lib.hid HL0
              clear HL0 HSV HSW
              have hX2 : xs = pre ++ (p, c, d) :: mrg ra rb := by rw [HX.out, mrg]; simp [show ¬ (p < q) from by have := HLT.out; omega, show ¬ (q < p) from by have := HGT.out; omega]
              have HX2 := Lib.hid hX2
              have HK2 : Hid (ra.length + (rb : List Dot).length < gk) := by have := HK.out; simp at this ⊢; show _ < _; omega
              clear HLT HGT hltb hgtb HX HK hX2 HP H1 H2 hc1 hc2 hf1 hf2 hn0 hn1 hnf0 hnf1 h01 h02 hl1 hl2 hx hy hx' hy' hx2 hy2 hx2' hy2'
              revert HL
              generalize ((((W1.drewN k).setCell ⟨nb, 0, none⟩ (.int .i64 c)).setCell ⟨nb, 1, none⟩ (.int .i64 d)).setCell ⟨ba, 0, none⟩ sv).setCell ⟨bb, 0, none⟩ sw = W2
              intro HL
              have hn0 : W2.cell? ⟨nb, 0, none⟩ = some (.int .i64 c) := by simp [World.cell?, HL.out.box]
              have hn1 : W2.cell? ⟨nb, 1, none⟩ = some (.int .i64 d) := by simp [World.cell?, HL.out.box]
              obtain ⟨fn, tmps, assign, body, hy, hR⟩ := HY.out pre (p, c, d) W2 (HJ.out _ _ _ HJ0.out HL.out.mv) (by rw [HX2.out]; simp)
              simp only [encP] at hy
              have HR := Lib.hid hR; clear hR
              go_upto_region 7 with (fail)
              refine (wpIn_wide (n := n + 1)).1 ?_
              gi_wp2
              refine HR.out.mono ?_
              clear hy HR hn0 hn1
              rintro e W3 ⟨hkp, (⟨rfl, hJ3⟩ | ⟨rfl, hJx3⟩)⟩
              · gi_wp2
                go_wp2
                go_roundg (ra.length + (rb : List Dot).length)
                case measure => exact HK2.out
                case rel => exact ⟨pre ++ [(p, c, d)], ra, rb, rfl, by rw [HX2.out]; simp, HL.out.st.kp hkp, hJ3⟩
              · gi_wp2
                go_wp2
                refine bodyPost_ret (results_none rfl _ _ _) rfl ?_
                exact ⟨⟨_, rfl⟩, .inr ⟨pre ++ [(p, c, d)], by rw [HX2.out]; simp, hJx3⟩⟩

end Go.Proofs.Ytfobnemocodomaa
