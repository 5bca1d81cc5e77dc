/- count.Put: a number's bytes as a text. -/
import Derived.Test.YtfobnemocodomaaCntD
set_option linter.unusedVariables false
set_option linter.unusedSimpArgs false
set_option maxHeartbeats 400000
namespace Go.Proofs.Ytfobnemocodomaa
open Go.RowKit Go.Shelf
attribute [local go_sem] Oper.semAt_some

/-- the text of a number's bytes; none if there is no such number -/
def putS (m : Int) : ByteArray := if 0 ≤ m ∧ m ≤ 1073741824 then strOfNums (grpN m.toNat) else ⟨#[]⟩

/-- a row of bytes of the call's own -/
def OwnB (w : World) (base : Nat) (v : Value) (l : List Int) : Prop := w.ownsRow base 5 1 v l.length (l.map (Value.int .u8))
theorem OwnB.nil (w : World) (base : Nat) : OwnB w base (.slice none 0 0) [] := World.ownsRow_nil _ _ _ _
theorem OwnB.ge {w : World} {b : Nat} {v : Value} {l : List Int} (h : OwnB w b v l) : ∀ k, v.ownBlock = some k → b ≤ k := fun k hk => (World.ownsRow.lt h k hk).1
theorem OwnB.isCells {w : World} {b : Nat} {v : Value} {l : List Int} (h : OwnB w b v l) : ∀ (j : Nat) (o : Obj), v.ownBlock = some j → w.heap[j]? = some o → o.isCells = true := by
  intro j o ej hj
  rcases h.2 with ⟨rfl, _⟩ | ⟨g, cap, cur, rfl, _, hgb, _⟩
  · simp [Value.ownBlock] at ej
  · obtain rfl : g = j := by simpa [Value.ownBlock] using ej
    rw [hgb] at hj; cases hj; rfl
/-- the text of such a row -/
theorem OwnB.text {w : World} {b : Nat} {v : Value} {l : List Int} (h : OwnB w b v l) : ∃ a c, v = .slice a l.length c ∧ (convert 129 9 (.slice a l.length c)).run Try.prog w = .ok (.string (strOfNums l)) w := by
  rcases h.2 with ⟨rfl, h0⟩ | ⟨g, cap, cur, rfl, hg, hh, hle, hm, _⟩
  · have : l = [] := List.eq_nil_of_length_eq_zero h0
    subst this
    exact ⟨none, 0, rfl, by rw [run_convert_bytes_nil w 129 5 Try.underlying129 Try.underlying5 _ _ _ Try.underlying9]; rfl⟩
  · refine ⟨_, cap, rfl, run_convert_bytes_arg w 129 5 Try.underlying129 Try.underlying5 g 0 _ cap l rfl (fun i hi => ?_) 9 Try.underlying9⟩
    have := World.ownsRow.cells h (g := g) rfl i (.int .u8 (l.getD i 0)) (by simp [List.getElem?_map, List.getD, List.getElem?_eq_getElem hi])
    have e : ((⟨g, 0, none⟩ : Addr).add i) = ⟨g, 0 + i, none⟩ := by unfold Addr.add; split <;> simp_all
    rw [e] at this
    exact this

theorem cells_newB (w : World) (cs : List Value) (t : TypeId) : ∀ j u, cs[j]? = some u → (w.alloc (.cells cs.toArray t)).cell? ((⟨w.heap.size, 0, none⟩ : Addr).add j) = some u := by
  intro j u h
  have hb := World.alloc_heap_new w (.cells cs.toArray t)
  have e : ((⟨w.heap.size, 0, none⟩ : Addr).add j) = ⟨w.heap.size, j, none⟩ := by unfold Addr.add; split <;> simp_all
  rw [e]
  simp only [World.cell?, hb]
  simpa using h

theorem box_grownB {W w1 : World} {o : Obj} {b : Nat} {t : TypeId} {u v : Value} (hgrow : (W.alloc o).grownBy w1 v.ownBlock) (hb : Boxed W b t u) (hne : ∀ j, v.ownBlock = some j → b ≠ j) : Boxed w1 b t u :=
  (hgrow.block b (by have := hb.lt; simp; omega) (fun e => hne b e.symm rfl)).trans ((Below.heap_alloc _ _ _ hb.lt).trans hb)
theorem Gr.putObj' {a b : World} (h : Gr a b) {l : Nat} (hl : a.heap.size ≤ l) (o : Obj) : Gr a (b.putObj l o) :=
  h.trans ⟨rfl, rfl, rfl, by simp, fun k hk => World.putObj_heap_other (by omega)⟩
theorem infoByte : (Try.prog.info? 5).map (fun i => (i.zero, i.size, i.bytes)) = some (some (.int .u8 0), 1, 1) := by kernel_rfl

/-- Put's own state between two rounds -/
structure BSt (w : World) (ob B0 : Nat) (l : List Int) (W : World) : Prop where
  out : ∃ v, Boxed W ob 129 v ∧ OwnB W B0 v l
  gr : Gr w W
theorem BSt.mv {w : World} {ob B0 bn : Nat} {l : List Int} {A W : World} (h : BSt w ob B0 l A) (m : Mv (fun k => k = bn) B0 A W) (h7 : ¬ (ob = bn)) (hB : bn < B0) (hw : w.heap.size ≤ bn) : BSt w ob B0 l W := by
  obtain ⟨⟨v, h1, h2⟩, h4⟩ := h
  exact ⟨⟨v, m.boxed h1 h7, m.ownsRow h2 (fun k hk e => by have := h2.ge k hk; omega)⟩, m.below h4 (by omega) (Nat.le_refl _) (fun k hk => by omega)⟩
theorem BSt.add {w : World} {ob B0 bn : Nat} {v v' : Value} {l : List Int} {p : Int} {W w1 : World} (h7B : ob < B0) (hB : B0 ≤ W.heap.size) (hw : w.heap.size ≤ ob) (hwB : w.heap.size ≤ B0) (hS : bn < B0) (hS7 : ¬ (ob = bn))
    (hb : Boxed W ob 129 v) (ho : OwnB W B0 v l) (hg : Gr w W)
    (hown : w1.ownsRow B0 5 1 v' (l.length + 1) (l.map (Value.int .u8) ++ [.int .u8 p])) (hgrow : (W.alloc (.cells #[.int .u8 p] 5)).grownBy w1 v.ownBlock) :
    BSt w ob B0 (l ++ [p]) (w1.setCell ⟨ob, 0, none⟩ v') ∧ KeepsFrom B0 W (w1.setCell ⟨ob, 0, none⟩ v') ∧ Kp (fun k => k = bn) w.heap.size W (w1.setCell ⟨ob, 0, none⟩ v') := by
  have hne : ∀ j, j < B0 → some j ≠ v.ownBlock := fun j hj e => by have := ho.ge j e.symm; omega
  have hb1 : Boxed w1 ob 129 v := (hgrow.block ob (by simp; omega) (hne _ h7B)).trans ((Below.heap_alloc _ _ _ (by omega)).trans hb)
  have hg1 : Gr w w1 := (hg.al _).grown hgrow (by have := hg.size; simp; omega) (fun j e => by have := ho.ge j e; omega)
  refine ⟨⟨⟨v', one_setCell hb1, ?_⟩, hg1.set hw _⟩, ?_, ?_⟩
  · have := ownsRow_setCell_below hown (a := ⟨ob, 0, none⟩) h7B v'
    have e : (l ++ [p]).map (Value.int .u8) = l.map (Value.int .u8) ++ [.int .u8 p] := by simp
    unfold OwnB
    rw [e]
    simpa using this
  · exact (((KeepsOthers.alloc W _).trans (KeepsOthers.of_grownBy hgrow fun j o ej hj => by
      have ha : OwnB (W.alloc (.cells #[.int .u8 p] 5)) B0 v l := World.ownsRow.alloc ho _
      exact ha.isCells j o ej hj)).trans (KeepsOthers.setCell _ _ _)).from _
  · exact (((Kp.refl _ _ _).alloc _).grown hgrow (fun j e => ⟨by have := ho.ge j e; omega, fun e' => by have := ho.ge j e; omega⟩)).setCell ⟨hw, hS7⟩ _

theorem groups_iter (n : Nat) (w0 w : World) (bn : Nat) (hbn : w0.heap.size ≤ bn) (m : Nat) (hm : m ≤ 1073741824) (hP : Boxed w bn 3 (.int .i64 m)) (hg : Gr w0 w) :
    Iter (n + 1) Try.prog 206 #[.pointer (some ⟨bn, 0, none⟩)] encB (grpN m) (fun k => k = bn) w0.heap.size w := by
  intro l J Jx W hG hJ hJx hY h0
  exact callsIn_wide.2 (groups1_any n l w0 bn _ hbn J Jx hJ hY m hm rfl W ((hG.block _ hP.lt).trans hP) (hg.tr hG) h0)

set_option maxRecDepth 100000 in
theorem cPut_no (m : Int) (w : World) (h : ¬ (0 ≤ m ∧ m ≤ 1073741824)) : Calls Try.prog 139 #[.int .i64 m] w fun e w' => e = .returned (.string (putS m)) ∧ Gr w w' := by
  have hr : (decide (0 ≤ m) && decide (m ≤ 1073741824)) = false := by simp; omega
  have HP : Hid (putS m = ⟨#[]⟩) := if_neg h
  clear h
  go_enter Try.func139, Try.ntmps139
  go_wp2_with fail
  refine (right_num m _).mono ?_
  rintro e w1 ⟨rfl, rfl⟩
  rw [hr]
  go_wp2
  go_ret
  exact ⟨by rw [HP.out]; rfl, Gr.rfl' _⟩

set_option maxRecDepth 100000 in
set_option maxHeartbeats 2000000 in
theorem cPut_yes (m : Nat) (hm : m ≤ 1073741824) (w : World) : Calls Try.prog 139 #[.int .i64 m] w fun e w' => e = .returned (.string (putS m)) ∧ Gr w w' := by
  have hr : (decide (0 ≤ (m : Int)) && decide ((m : Int) ≤ 1073741824)) = true := by simp; omega
  have HPS : Hid (putS m = strOfNums (grpN m)) := by show _ = _; unfold putS; rw [if_pos (by omega)]; rfl
  have HL := Lib.hid (grpN_len5 m hm)
  refine (callsIn_wide (n := 3)).1 (callsIn_of_wp_marks Try.func139 rfl trivial ?_)
  refine wpIn_wide.2 ?_
  simp only [Try.ntmps139, List.size_toArray, List.length_cons, List.length_nil, Nat.reduceAdd, Nat.reduceSub, Array.replicate_succ, Array.replicate_zero, List.push_toArray, List.append_toArray, List.nil_append, List.cons_append]
  go_wp2_with fail
  refine (right_num m _).mono ?_
  rintro e w1 ⟨rfl, rfl⟩
  rw [hr]
  go_wp2_with fail
  refine (groups_any m _).mono ?_
  rintro e w2 ⟨rfl, rfl⟩
  go_wp2_with fail
  obtain ⟨W0, hW0⟩ : ∃ W0, (w1.alloc (.cells #[.slice none 0 0] 129)).alloc (.cells #[.int .i64 m] 3) = W0 := ⟨_, rfl⟩
  rw [hW0]
  have hsz0 : W0.heap.size = w1.heap.size + 2 := by rw [← hW0]; simp
  have hbo : Boxed W0 w1.heap.size 129 (.slice none 0 0) := by
    rw [← hW0]
    exact (Below.heap_alloc _ _ _ (by simp)).trans (World.alloc_heap_new w1 _)
  have hbn : Boxed W0 (w1.heap.size + 1) 3 (.int .i64 m) := by
    have := World.alloc_heap_new (w1.alloc (.cells #[.slice none 0 0] 129)) (.cells #[.int .i64 m] 3)
    rw [World.size_alloc] at this
    rw [← hW0]
    exact this
  have hgW0 : Gr w1 W0 := by rw [← hW0]; exact ((Gr.rfl' _).al _).al _
  obtain ⟨i0, hi, hz0, hz1, hz2⟩ := info_parts infoByte
  clear hW0 hr
  refine wpIn_wide.1 (wpIn_range (n := 3) (gf := 206) (lb := #[.pointer (some ⟨w1.heap.size + 1, 0, none⟩)]) rfl (enters_of Try.func206 (by kernel_rfl) rfl)
    (groups_iter 1 w1 W0 _ (by omega) m hm hbn hgW0) (fun k hk => by omega) (by omega) (fun _ => rfl)
    (fun pre W => BSt w1 w1.heap.size W0.heap.size pre W) (fun _ _ _ => False)
    (fun pre x a' W => W0.heap.size ≤ W.heap.size ∧ BSt w1 w1.heap.size W0.heap.size pre W ∧
      a' = { tmps := #[.int .i64 m, undef, .string ⟨#[]⟩, .pointer (some ⟨w1.heap.size, 0, none⟩), .int .u8 x, .int .i64 m, .bool true, .bool false, .int .i64 m, .func (.func 206) #[] #[.pointer (some ⟨w1.heap.size + 1, 0, none⟩)], .int .u8 x, undef, undef, undef, undef, undef, undef], defers := [] })
    ?hI (fun _ _ _ _ h _ => h) ?hAx ?h0 ?assign ?body ?done (fun _ _ _ _ _ _ h => h.elim))
  case hI => intro pre A B h m'; exact h.mv m' (by omega) (by omega) (by omega)
  case hAx =>
    rintro pre x a' A B ⟨hs, h, rfl⟩ m'
    exact ⟨Nat.le_trans hs m'.size, h.mv m' (by omega) (by omega) (by omega), rfl⟩
  case h0 => exact ⟨⟨_, hbo, OwnB.nil _ _⟩, hgW0⟩
  case assign =>
    intro l pre x W K hI hpre hl hlt hK
    simp only [encB]
    have hKK := Lib.hid hK; clear hK
    gi_wp2
    exact hKK.out _ _ (KeepsFrom.refl _ _) (Kp.refl _ _ _) ⟨by omega, hI, rfl⟩
  case body =>
    rintro l pre x a' W hl ⟨r, hr⟩ hpre ⟨hs, ⟨⟨v, hbv, hov⟩, hg⟩, rfl⟩
    have hlen : pre.length + 1 ≤ 5 := by
      have h2 := hpre.length_le
      have h4 := HL.out
      simp at h2; omega
    have HPRE := Lib.hid hpre; clear hpre
    have hv0 := hbv.cell
    have hvf := free_of_one hbv
    have HR := Lib.hid hr; clear hr
    have HBV := Lib.hid hbv; clear hbv
    gi_wp2_with (first | (gi_at_builtin; go_loud (refine wpListIn_append_own _ rfl _ _ 129 rfl W0.heap.size 5 i0 (.int .u8 0) 1 1 Try.underlying129 hi hz0 hz1 hz2 rfl (by decide) v _ _ rfl (World.ownsRow.alloc hov _) ⟨_, 0, none⟩ 1 1 [.int .u8 x] rfl rfl (cells_newB _ _ _) (by simp [Value.oneCell']) (by simp only [maxLen]; omega) (by omega) (by simp; omega) ?_); intro v' w2 hown' hgrow _; obtain ⟨g', cap', rfl⟩ := ownsRow_succ hown'; have hbv1 : w2.cell? ⟨w1.heap.size, 0, none⟩ = some v := (box_grownB hgrow HBV.out (fun j e => by have := hov.ge _ e; omega)).cell; have hbf1 : w2.frozen? ⟨w1.heap.size, 0, none⟩ = false := free_of_one (box_grownB hgrow HBV.out (fun j e => by have := hov.ge _ e; omega))))
    obtain ⟨hS, hKF, hKP⟩ := BSt.add (p := x) (bn := w1.heap.size + 1) (by omega) (by omega) (by omega) (by omega) (by omega) (by omega) HBV.out hov hg hown' hgrow
    show _ ∧ _ ∧ _
    exact ⟨hKF, hKP, hS⟩
  case done =>
    intro D W hD hI hK
    obtain ⟨⟨v, hbv, hov⟩, hg⟩ := hI
    obtain ⟨av, cv, rfl, hcv⟩ := hov.text
    have hv0 := hbv.cell
    go_wp2
    refine ⟨by simp, .inl ⟨_, _, rfl, run_takeDeferred hK, ?_⟩⟩
    exact ⟨_, results_tmp rfl _ _ _, by rw [HPS.out]; rfl, hg.putObj' (by omega) _⟩

theorem cPut_any (m : Int) (w : World) : Calls Try.prog 139 #[.int .i64 m] w fun e w' => e = .returned (.string (putS m)) ∧ Gr w w' := by
  by_cases h : 0 ≤ m ∧ m ≤ 1073741824
  · obtain ⟨k, rfl⟩ : ∃ k : Nat, m = k := ⟨m.toNat, by omega⟩
    exact cPut_yes k (by omega) w
  · exact cPut_no m w h
end Go.Proofs.Ytfobnemocodomaa
