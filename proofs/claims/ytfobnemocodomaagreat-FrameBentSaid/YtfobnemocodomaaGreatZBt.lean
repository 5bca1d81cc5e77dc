/- Joined texts: MsgA MsgB MsgC MsgD MsgE. -/
import Derived.Test.YtfobnemocodomaaGreatZBl
import Derived.Test.YtfobnemocodomaaGreatZBb
import Derived.Test.YtfobnemocodomaaGreatZBc
import Derived.Test.YtfobnemocodomaaGreatZBa
set_option linter.unusedVariables false
set_option linter.unusedSimpArgs false
set_option maxHeartbeats 1000000
namespace Go.Proofs.YtfobnemocodomaaGreat
open Go.RowKit Go.Shelf Go.Great

structure Mx where
  K : Int
  F : Int
  To : Int
  Sd : Int
  Tn : Bool
  Pa : ByteArray
  R : List UInt8
  cA : Option Addr
  cl : List Dot
  cc : Nat
  rA : Option Addr
  rs : List DRow
  rc : Nat
  Tx : ByteArray
def Mx.list (x : Mx) : List Value := [.int .i64 x.K, .int .i64 x.F, .int .i64 x.To, .int .i64 x.Sd, .bool x.Tn, .string x.Pa] ++ ((x.R.map fun c => Value.int .u8 c.toNat) ++ [.slice x.cA x.cl.length x.cc, .slice x.rA x.rs.length x.rc, .string x.Tx])
def Mx.cells (x : Mx) : Array Value := x.list.toArray
structure MxOk (w : World) (x : Mx) : Prop where
  dig : x.R.length = 32
  ctx : Dots w x.cA x.cl
  rows : DRows w x.rA x.rs
  pa : x.Pa.size ≤ 9223372036854775807
  tx : x.Tx.size ≤ 9223372036854775807
theorem MxOk.gr {w w' : World} {x : Mx} (h : MxOk w x) (g : Gr w w') : MxOk w' x := ⟨h.dig, h.ctx.gr g, h.rows.gr g, h.pa, h.tx⟩
theorem Mx.size (x : Mx) (h : x.R.length = 32) : x.cells.size = 41 := by simp [Mx.cells, Mx.list, h]
structure MxAt (W : World) (g : Nat) (x : Mx) : Prop where
  c0 : W.cell? ⟨g, 0, none⟩ = some (.int .i64 x.K)
  c1 : W.cell? ⟨g, 1, none⟩ = some (.int .i64 x.F)
  c2 : W.cell? ⟨g, 2, none⟩ = some (.int .i64 x.To)
  c3 : W.cell? ⟨g, 3, none⟩ = some (.int .i64 x.Sd)
  c4 : W.cell? ⟨g, 4, none⟩ = some (.bool x.Tn)
  c5 : W.cell? ⟨g, 5, none⟩ = some (.string x.Pa)
  cR : ∀ j v, (digC x.R).toList[j]? = some v → W.cell? ((⟨g, 6, none⟩ : Addr).add j) = some v
  c38 : W.cell? ⟨g, 38, none⟩ = some (.slice x.cA x.cl.length x.cc)
  c39 : W.cell? ⟨g, 39, none⟩ = some (.slice x.rA x.rs.length x.rc)
  c40 : W.cell? ⟨g, 40, none⟩ = some (.string x.Tx)
theorem add_midM (b o j : Nat) : (⟨b, o, none⟩ : Addr).add j = ⟨b, o + j, none⟩ := by unfold Addr.add; split <;> simp_all
theorem mxAt {W : World} {g : Nat} {x : Mx} {t : TypeId} (h : W.heap[g]? = some (.cells x.cells t (0, 0))) (hR : x.R.length = 32) : MxAt W g x := by
  have k : ∀ (j : Nat) (v : Value), x.list[j]? = some v → W.cell? ⟨g, j, none⟩ = some v := fun j v hj => by
    simp only [World.cell?, h]
    simpa [Mx.cells] using hj
  have kr : ∀ j, (x.list)[38 + j]? = [Value.slice x.cA x.cl.length x.cc, .slice x.rA x.rs.length x.rc, .string x.Tx][j]? := fun j => by
    unfold Mx.list
    rw [List.getElem?_append_right (by simp; omega), List.getElem?_append_right (by simp [hR]; omega)]
    congr 1
    simp [hR]; omega
  refine ⟨k 0 _ rfl, k 1 _ rfl, k 2 _ rfl, k 3 _ rfl, k 4 _ rfl, k 5 _ rfl, fun j v hj => ?_, k 38 _ (kr 0), k 39 _ (kr 1), k 40 _ (kr 2)⟩
  rw [add_midM]
  refine k (6 + j) v ?_
  have hj' : (x.R.map fun c => Value.int .u8 c.toNat)[j]? = some v := by simpa [digC] using hj
  have hl := (List.getElem?_eq_some_iff.1 hj').1
  unfold Mx.list
  rw [List.getElem?_append_right (by simp), List.getElem?_append_left (by simp at hl ⊢; omega)]
  have e : 6 + j - [Value.int .i64 x.K, .int .i64 x.F, .int .i64 x.To, .int .i64 x.Sd, .bool x.Tn, .string x.Pa].length = j := by simp
  rw [e]; exact hj'
theorem MxAt.gr {W W' : World} {g : Nat} {x : Mx} (h : MxAt W g x) (k : Gr W W') : MxAt W' g x :=
  ⟨k.cell h.c0, k.cell h.c1, k.cell h.c2, k.cell h.c3, k.cell h.c4, k.cell h.c5, fun j v hj => k.cell (h.cR j v hj), k.cell h.c38, k.cell h.c39, k.cell h.c40⟩
set_option maxRecDepth 100000 in
theorem mGreat_any (x : Mx) (w : World) (hx : MxOk w x) :
    Calls Tryz.prog 17 #[.agg x.cells] w fun r w' => ((r = .returned (.bool false) ∧ x.rs.length ≤ 70 ∧ x.cl.length ≤ 70 ∧ x.Tx.size ≤ 70000 ∧ x.Pa.size ≤ 300 ∧ ∀ d ∈ x.rs, d.l.length ≤ 70) ∨ r = .returned (.bool true)) ∧ Gr w w' := by
  have HA := Lib.hid (mxAt (World.alloc_heap_new w (.cells x.cells 37)) hx.dig)
  have HG : Hid (Gr w (w.alloc (.cells x.cells 37))) := Lib.hid ((Gr.rfl' w).al _)
  have c38 := HA.out.c38
  have c39 := HA.out.c39
  have c40 := HA.out.c40
  have c5 := HA.out.c5
  have HR := Lib.hid (hx.rows.gr HG.out)
  clear hx HA
  generalize hW : w.alloc (.cells x.cells 37) = W at HG HR c38 c39 c40 c5
  by_cases h1 : 70 < x.rs.length
  · have h1i : (70 : Int) < x.rs.length := by omega
    go_enter Tryz.func17, Tryz.ntmps17
    go_wp2
    go_ret
    exact ⟨Or.inr rfl, HG.out⟩
  have h1i : ¬ (70 : Int) < x.rs.length := by omega
  by_cases h2 : 70 < x.cl.length
  · have h2i : (70 : Int) < x.cl.length := by omega
    go_enter Tryz.func17, Tryz.ntmps17
    go_wp2
    go_ret
    exact ⟨Or.inr rfl, HG.out⟩
  have h2i : ¬ (70 : Int) < x.cl.length := by omega
  by_cases h3 : 70000 < x.Tx.size
  · have h3i : (70000 : Int) < x.Tx.size := by omega
    go_enter Tryz.func17, Tryz.ntmps17
    go_wp2
    go_ret
    exact ⟨Or.inr rfl, HG.out⟩
  have h3i : ¬ (70000 : Int) < x.Tx.size := by omega
  by_cases h4 : 300 < x.Pa.size
  · have h4i : (300 : Int) < x.Pa.size := by omega
    go_enter Tryz.func17, Tryz.ntmps17
    go_wp2
    go_ret
    exact ⟨Or.inr rfl, HG.out⟩
  have h4i : ¬ (300 : Int) < x.Pa.size := by omega
  have GW := Lib.hid (Gr.rfl' W)
  go_enter Tryz.func17, Tryz.ntmps17
  go_wp2
  go_loopw [3] (fun i wr => ∃ k : Nat, k ≤ x.rs.length ∧ i = .int .i64 k ∧ Hid (∀ d ∈ x.rs.take k, d.l.length ≤ 70) ∧ Hid (Gr W wr)) (fun i _ => x.rs.length - (intOf i).toNat)
  case atStart => exact ⟨0, Nat.zero_le _, rfl, Lib.hid (fun d hd => by simp at hd), GW⟩
  case round =>
    obtain ⟨k, hk, rfl, HL, G⟩ := hrel
    clear GW
    replace c39 := G.out.cell c39
    by_cases hlt : k < x.rs.length
    · have hki : (k : Int) < x.rs.length := by omega
      obtain ⟨ad, he, hc, _⟩ := (HR.out.gr G.out).2 k hlt
      rw [he] at c39
      have hst : x.rs.take (k + 1) = x.rs.take k ++ [x.rs[k]] := List.take_succ_eq_append_getElem hlt
      obtain ⟨d, hd⟩ : ∃ d, x.rs[k] = d := ⟨_, rfl⟩
      rw [hd] at hc hst
      have HST := Lib.hid hst
      clear hst hd he
      by_cases hd7 : 70 < d.l.length
      · have hd7i : (70 : Int) < d.l.length := by omega
        go_wp2
        go_ret
        exact ⟨Or.inr rfl, HG.out.tr G.out⟩
      · have hd7i : ¬ (70 : Int) < d.l.length := by omega
        go_wp2
        go_roundw
        case rel => exact ⟨k + 1, by omega, by go_num, Lib.hid (fun e he => by rw [HST.out] at he; rcases List.mem_append.1 he with he | he; exact HL.out e he; simp at he; subst he; omega), G⟩
        case measure => simp [intOf]; omega
    · have hkk : k = x.rs.length := by omega
      subst hkk
      have hki : ¬ (x.rs.length : Int) < x.rs.length := by omega
      rw [List.take_length] at HL
      go_wp2
      go_ret
      exact ⟨Or.inl ⟨rfl, by omega, by omega, by omega, by omega, HL.out⟩, HG.out.tr G.out⟩
end Go.Proofs.YtfobnemocodomaaGreat
set_option linter.unusedVariables false
set_option linter.unusedSimpArgs false
set_option maxHeartbeats 16000000
namespace Go.Proofs.YtfobnemocodomaaGreat
open Go.RowKit Go.Shelf Go.Great

theorem ldG_at {P : Program} {ops : Array Oper} {rest : List Oper} {op : Oper} {a : Act} {w : World} {Q : Exit → Act → World → Prop} (hw : Region.wanted op (yielded ops a.tmps) = true) (ty : TypeId) (x : Operand) (ho : op.op = .load ty x)
    (ad : Addr) (hx : a.eval x = .pointer (some ad)) (cs : List Value) (d : TypeDesc) (hc : ∀ j v, cs[j]? = some v → w.cell? (ad.add j) = some v)
    (hu : P.underlying ty = some d) (hd : d.isRow = true) (hi : (P.info? ty).map (·.size) = some cs.length)
    (h : wpList P ops Q rest (a.put op.dst (.agg cs.toArray)) w) : wpList P ops Q (op :: rest) a w := by
  refine wpList_step fun K hK => ?_
  rw [if_pos hw]
  unfold Oper.wp execOp
  simp only [ho, hx, Instr.loadAt, Instr.sureAddr, Sem.run_bind, Sem.run_pure, Result.andThen_ok, ldv_run w ad ty cs d hc hu hd hi]
  exact hK _ _ h
def rowsL (l : List DRow) : List (List Dot) := l.map (·.l)
def msame (x y : Mx) : Bool := decide (x.K = y.K) && (decide (x.F = y.F) && (decide (x.To = y.To) && (decide (x.Sd = y.Sd) && (decide (x.Tn = y.Tn) && (decide (x.Pa = y.Pa) && (decide (x.R = y.R) && (decide (x.Tx = y.Tx) && (decide (x.cl = y.cl) && decide (rowsL x.rs = rowsL y.rs)))))))))
theorem msame_refl (x : Mx) : msame x x = true := by simp [msame]
theorem strNe {T U : ByteArray} (h : T ≠ U) : (T.toList == U.toList) = false := by
  simp; intro k; exact h (by apply ByteArray.ext; rw [Lib.toList_data, Lib.toList_data] at k; exact Array.ext' k)
theorem digLen {D : List UInt8} (h : D.length = 32) : (Tryz.prog.info? 33).map (·.size) = some (digC D).toList.length := by
  rw [Array.length_toList, digC_size, h]; exact sizeDig
theorem rows_step {a b : List DRow} (h : a.length = b.length) {k : Nat} (hk : k < a.length) (hp : rowsL (a.take k) = rowsL (b.take k)) : (rowsL (a.take (k + 1)) = rowsL (b.take (k + 1))) ↔ a[k].l = (b[k]'(by omega)).l := by
  unfold rowsL at *
  rw [List.take_succ_eq_append_getElem hk, List.take_succ_eq_append_getElem (by omega : k < b.length), List.map_append, List.map_append, hp]
  simp
theorem rows_take {a b : List DRow} (h : rowsL a = rowsL b) (k : Nat) : rowsL (a.take k) = rowsL (b.take k) := by
  unfold rowsL at *; rw [List.map_take, List.map_take, h]
theorem rows_len {a b : List DRow} (h : rowsL a = rowsL b) : a.length = b.length := by
  have := congrArg List.length h; simpa [rowsL] using this
set_option maxRecDepth 100000 in
theorem refRows_any (A B : Option Addr) (ca cb : Nat) (a b : List DRow) (w : World) (h1 : DRows w A a) (h2 : DRows w B b) :
    Calls Tryz.prog 51 #[.slice A a.length ca, .slice B b.length cb] w fun r w' => r = .returned (.bool (decide (rowsL a = rowsL b))) ∧ Gr w w' := by
  have H1 := Lib.hid h1
  have H2 := Lib.hid h2
  clear h1 h2
  by_cases hl : a.length = b.length
  · have hma := H1.out.1
    have hli : ((a.length : Int) == b.length) = true := by rw [hl]; simp
    have GW := Lib.hid (Gr.rfl' w)
    go_enter Tryz.func51, Tryz.ntmps51
    go_wp2
    go_loopw [5] (fun i wr => ∃ k : Nat, k ≤ a.length ∧ i = .int .i64 k ∧ Hid (rowsL (a.take k) = rowsL (b.take k)) ∧ Hid (Gr w wr)) (fun i _ => a.length - (intOf i).toNat)
    case atStart => exact ⟨0, Nat.zero_le _, rfl, Lib.hid rfl, GW⟩
    case round =>
      clear GW
      obtain ⟨k, hk, rfl, HP, G⟩ := hrel
      by_cases hlt : k < a.length
      · have hki : (k : Int) < a.length := by omega
        have hkb : (k : Int) < b.length := by omega
        obtain ⟨ad, rfl, hc1, hd1⟩ := (H1.out.gr G.out).2 k hlt
        obtain ⟨bd, rfl, hc2, hd2⟩ := (H2.out.gr G.out).2 k (by omega)
        have hst := rows_step hl hlt HP.out
        obtain ⟨d1, e1⟩ : ∃ d, a[k] = d := ⟨_, rfl⟩
        obtain ⟨d2, e2⟩ : ∃ d, b[k]'(by omega) = d := ⟨_, rfl⟩
        rw [e1] at hc1 hd1 hst
        rw [e2] at hc2 hd2 hst
        have HST := Lib.hid hst
        have HD1 := Lib.hid hd1
        have HD2 := Lib.hid hd2
        clear hst hd1 hd2 e1 e2
        obtain ⟨A1, c1, l1⟩ := d1
        obtain ⟨A2, c2, l2⟩ := d2
        simp only at hc1 hc2
        go_upto_region 6 with (fail)
        have hSS : Gr wr wr.drew := (Gr.rfl' _).dr
        refine region_T 9 (fun w' => Gr wr w') (by kernel_rfl) ?_
        refine anyT_take (i := 0) (v := ?_) (some 17) rfl rfl (by kernel_rfl) (fun _ _ _ h => h) (Or.inl ⟨by rfl, ?_⟩) hSS ?_
        rotate_left
        · intro w' hSw; go_simp; (try with_reducible rfl)
        simp only [Act.put, List.setIfInBounds_toArray, List.set_cons_zero, List.set_cons_succ]
        refine anyT_take (i := 1) (v := ?_) (some 18) rfl rfl (by kernel_rfl) (fun _ _ _ h => h) (Or.inl ⟨by rfl, ?_⟩) hSS ?_
        rotate_left
        · intro w' hSw; go_simp; (try with_reducible rfl)
        simp only [Act.put, List.setIfInBounds_toArray, List.set_cons_zero, List.set_cons_succ]
        refine anyT_take (i := 2) (v := ?_) (some 19) rfl rfl (by kernel_rfl) (fun _ _ _ h => h) (Or.inl ⟨by rfl, ?_⟩) hSS ?_
        rotate_left
        · intro w' hSw; go_simp; (try with_reducible rfl)
        simp only [Act.put, List.setIfInBounds_toArray, List.set_cons_zero, List.set_cons_succ]
        refine anyT_take (i := 3) (v := ?_) (some 20) rfl rfl (by kernel_rfl) (fun _ _ _ h => h) (Or.inl ⟨by rfl, ?_⟩) hSS ?_
        rotate_left
        · intro w' hSw; have q0 := hSw.cell hc1; go_simp; (try with_reducible rfl)
        simp only [Act.put, List.setIfInBounds_toArray, List.set_cons_zero, List.set_cons_succ]
        refine anyT_take (i := 4) (v := ?_) (some 21) rfl rfl (by kernel_rfl) (fun _ _ _ h => h) (Or.inl ⟨by rfl, ?_⟩) hSS ?_
        rotate_left
        · intro w' hSw; go_simp; (try with_reducible rfl)
        simp only [Act.put, List.setIfInBounds_toArray, List.set_cons_zero, List.set_cons_succ]
        refine anyT_take (i := 5) (v := ?_) (some 22) rfl rfl (by kernel_rfl) (fun _ _ _ h => h) (Or.inl ⟨by rfl, ?_⟩) hSS ?_
        rotate_left
        · intro w' hSw; go_simp; (try with_reducible rfl)
        simp only [Act.put, List.setIfInBounds_toArray, List.set_cons_zero, List.set_cons_succ]
        refine anyT_take (i := 6) (v := ?_) (some 23) rfl rfl (by kernel_rfl) (fun _ _ _ h => h) (Or.inl ⟨by rfl, ?_⟩) hSS ?_
        rotate_left
        · intro w' hSw; go_simp; (try with_reducible rfl)
        simp only [Act.put, List.setIfInBounds_toArray, List.set_cons_zero, List.set_cons_succ]
        refine anyT_take (i := 7) (v := ?_) (some 24) rfl rfl (by kernel_rfl) (fun _ _ _ h => h) (Or.inl ⟨by rfl, ?_⟩) hSS ?_
        rotate_left
        · intro w' hSw; have q0 := hSw.cell hc2; go_simp; (try with_reducible rfl)
        simp only [Act.put, List.setIfInBounds_toArray, List.set_cons_zero, List.set_cons_succ]
        refine anyT_callG (i := 8) (some 25) 50 #[.slice A1 l1.length c1, .slice A2 l2.length c2] (by kernel_rfl) rfl (by kernel_rfl) rfl (by kernel_rfl) ?_
        refine (refSame_any A1 A2 c1 c2 l1 l2 _ (HD1.out.gr hSS) (HD2.out.gr hSS)).mono ?_
        rintro e wd ⟨rfl, hgd⟩
        replace hSS := hSS.tr hgd
        refine ⟨_, rfl, fun _ => hSS, ?_⟩
        simp only [Act.put, List.setIfInBounds_toArray, List.set_cons_zero, List.set_cons_succ]
        clear hgd
        refine anyT_last (some 26) (.bool (!decide (l1 = l2))) (by kernel_rfl) (by kernel_rfl) rfl (by kernel_rfl) rfl (by kernel_rfl) ?_
        simp only [Act.put, List.setIfInBounds_toArray, List.set_cons_zero, List.set_cons_succ]
        by_cases he : l1 = l2
        · rw [decide_eq_true he]
          simp only [Bool.not_true]
          go_wp2
          go_roundw
          case rel => exact ⟨k + 1, by omega, by go_num, Lib.hid (HST.out.2 he), Lib.hid (G.out.tr hSS)⟩
          case measure => simp [intOf]; omega
        · rw [decide_eq_false he]
          simp only [Bool.not_false]
          go_wp2
          go_ret
          rw [decide_eq_false (fun h => he (HST.out.1 (rows_take h _)))]
          exact ⟨rfl, G.out.tr hSS⟩
      · have hkk : k = a.length := by omega
        subst hkk
        have hki : ¬ (a.length : Int) < a.length := by omega
        go_wp2
        go_ret
        have he := HP.out
        rw [List.take_length, hl, List.take_length] at he
        rw [decide_eq_true he]
        exact ⟨rfl, G.out⟩
  · have hli : ((a.length : Int) == b.length) = false := by simp; omega
    go_enter Tryz.func51, Tryz.ntmps51
    go_wp2
    go_ret
    rw [decide_eq_false (fun h => hl (rows_len h))]
    exact ⟨rfl, Gr.rfl' _⟩
set_option maxRecDepth 100000 in
theorem mSame1_ne (x y : Mx) (w : World) (hx : MxOk w x) (hy : MxOk w y) (hne : ¬ (x.K = y.K ∧ x.F = y.F ∧ x.To = y.To ∧ x.Sd = y.Sd ∧ x.Tn = y.Tn ∧ x.Pa = y.Pa ∧ x.R = y.R ∧ x.Tx = y.Tx)) :
    Calls Tryz.prog 20 #[.agg x.cells, .agg y.cells] w fun r w' => r = .returned (.bool (msame x y)) ∧ Gr w w' := by
  have HG : Hid (Gr w ((w.alloc (.cells x.cells 37)).alloc (.cells y.cells 37))) := Lib.hid (((Gr.rfl' w).al _).al _)
  have HX0 := (mxAt (World.alloc_heap_new w (.cells x.cells 37)) hx.dig).gr ((Gr.rfl' _).al (.cells y.cells 37))
  have HY0 := mxAt (World.alloc_heap_new (w.alloc (.cells x.cells 37)) (.cells y.cells 37)) hy.dig
  have hsz : (w.alloc (.cells x.cells 37)).heap.size = w.heap.size + 1 := by simp
  rw [hsz] at HY0
  have HXO := Lib.hid (hx.gr HG.out)
  have HYO := Lib.hid (hy.gr HG.out)
  have HXL := Lib.hid hx.dig
  have HYL := Lib.hid hy.dig
  clear hx hy hsz
  generalize hW : (w.alloc (.cells x.cells 37)).alloc (.cells y.cells 37) = W at HG HX0 HY0 HXO HYO
  obtain ⟨x0, x1, x2, x3, x4, x5, xR, x38, x39, x40⟩ := HX0
  obtain ⟨y0, y1, y2, y3, y4, y5, yR, y38, y39, y40⟩ := HY0
  have HXR := Lib.hid xR
  have HYR := Lib.hid yR
  clear xR yR
  have HNE := Lib.hid hne
  clear hne
  by_cases hK : x.K = y.K; rotate_left
  · have e1 : (x.K == y.K) = false := by simpa using hK
    have e2 : (x.K != y.K) = true := by simpa using hK
    have HV : Hid (msame x y = false) := Lib.hid (by simp [msame, hK])
    clear hK
    go_enter Tryz.func20, Tryz.ntmps20
    go_wp2_with (first
      | ((with_reducible refine at_ld 33 (.tmp 48) ?_); refine ldG_at (by rfl) 33 (.tmp 48) rfl ⟨w.heap.size, 6, none⟩ rfl (digC x.R).toList _ HXR.out Tryz.underlying33 rfl (digLen HXL.out) ?_)
      | ((with_reducible refine at_ld 33 (.tmp 50) ?_); refine ldG_at (by rfl) 33 (.tmp 50) rfl ⟨w.heap.size + 1, 6, none⟩ rfl (digC y.R).toList _ HYR.out Tryz.underlying33 rfl (digLen HYL.out) ?_))
    go_ret
    rw [HV.out]
    exact ⟨rfl, HG.out⟩
  rw [← hK] at y0
  have HQK := Lib.hid hK
  clear hK
  by_cases hF : x.F = y.F; rotate_left
  · have e1 : (x.F == y.F) = false := by simpa using hF
    have e2 : (x.F != y.F) = true := by simpa using hF
    have HV : Hid (msame x y = false) := Lib.hid (by simp [msame, hF])
    clear hF
    go_enter Tryz.func20, Tryz.ntmps20
    go_wp2_with (first
      | ((with_reducible refine at_ld 33 (.tmp 48) ?_); refine ldG_at (by rfl) 33 (.tmp 48) rfl ⟨w.heap.size, 6, none⟩ rfl (digC x.R).toList _ HXR.out Tryz.underlying33 rfl (digLen HXL.out) ?_)
      | ((with_reducible refine at_ld 33 (.tmp 50) ?_); refine ldG_at (by rfl) 33 (.tmp 50) rfl ⟨w.heap.size + 1, 6, none⟩ rfl (digC y.R).toList _ HYR.out Tryz.underlying33 rfl (digLen HYL.out) ?_))
    go_ret
    rw [HV.out]
    exact ⟨rfl, HG.out⟩
  rw [← hF] at y1
  have HQF := Lib.hid hF
  clear hF
  by_cases hTo : x.To = y.To; rotate_left
  · have e1 : (x.To == y.To) = false := by simpa using hTo
    have e2 : (x.To != y.To) = true := by simpa using hTo
    have HV : Hid (msame x y = false) := Lib.hid (by simp [msame, hTo])
    clear hTo
    go_enter Tryz.func20, Tryz.ntmps20
    go_wp2_with (first
      | ((with_reducible refine at_ld 33 (.tmp 48) ?_); refine ldG_at (by rfl) 33 (.tmp 48) rfl ⟨w.heap.size, 6, none⟩ rfl (digC x.R).toList _ HXR.out Tryz.underlying33 rfl (digLen HXL.out) ?_)
      | ((with_reducible refine at_ld 33 (.tmp 50) ?_); refine ldG_at (by rfl) 33 (.tmp 50) rfl ⟨w.heap.size + 1, 6, none⟩ rfl (digC y.R).toList _ HYR.out Tryz.underlying33 rfl (digLen HYL.out) ?_))
    go_ret
    rw [HV.out]
    exact ⟨rfl, HG.out⟩
  rw [← hTo] at y2
  have HQTo := Lib.hid hTo
  clear hTo
  by_cases hSd : x.Sd = y.Sd; rotate_left
  · have e1 : (x.Sd == y.Sd) = false := by simpa using hSd
    have e2 : (x.Sd != y.Sd) = true := by simpa using hSd
    have HV : Hid (msame x y = false) := Lib.hid (by simp [msame, hSd])
    clear hSd
    go_enter Tryz.func20, Tryz.ntmps20
    go_wp2_with (first
      | ((with_reducible refine at_ld 33 (.tmp 48) ?_); refine ldG_at (by rfl) 33 (.tmp 48) rfl ⟨w.heap.size, 6, none⟩ rfl (digC x.R).toList _ HXR.out Tryz.underlying33 rfl (digLen HXL.out) ?_)
      | ((with_reducible refine at_ld 33 (.tmp 50) ?_); refine ldG_at (by rfl) 33 (.tmp 50) rfl ⟨w.heap.size + 1, 6, none⟩ rfl (digC y.R).toList _ HYR.out Tryz.underlying33 rfl (digLen HYL.out) ?_))
    go_ret
    rw [HV.out]
    exact ⟨rfl, HG.out⟩
  rw [← hSd] at y3
  have HQSd := Lib.hid hSd
  clear hSd
  by_cases hTn : x.Tn = y.Tn; rotate_left
  · have e1 : (x.Tn == y.Tn) = false := by simpa using hTn
    have e2 : (x.Tn != y.Tn) = true := by simpa using hTn
    have e3 : (!x.Tn == y.Tn) = true := by revert hTn; cases x.Tn <;> cases y.Tn <;> simp
    have HV : Hid (msame x y = false) := Lib.hid (by simp [msame, hTn])
    clear hTn
    go_enter Tryz.func20, Tryz.ntmps20
    go_wp2_with (first
      | ((with_reducible refine at_ld 33 (.tmp 48) ?_); refine ldG_at (by rfl) 33 (.tmp 48) rfl ⟨w.heap.size, 6, none⟩ rfl (digC x.R).toList _ HXR.out Tryz.underlying33 rfl (digLen HXL.out) ?_)
      | ((with_reducible refine at_ld 33 (.tmp 50) ?_); refine ldG_at (by rfl) 33 (.tmp 50) rfl ⟨w.heap.size + 1, 6, none⟩ rfl (digC y.R).toList _ HYR.out Tryz.underlying33 rfl (digLen HYL.out) ?_))
    go_ret
    rw [HV.out]
    exact ⟨rfl, HG.out⟩
  rw [← hTn] at y4
  have HQTn := Lib.hid hTn
  clear hTn
  by_cases hPa : x.Pa = y.Pa; rotate_left
  · have e1 := strNe hPa
    have HV : Hid (msame x y = false) := Lib.hid (by simp [msame, hPa])
    clear hPa
    go_enter Tryz.func20, Tryz.ntmps20
    go_wp2_with (first
      | ((with_reducible refine at_ld 33 (.tmp 48) ?_); refine ldG_at (by rfl) 33 (.tmp 48) rfl ⟨w.heap.size, 6, none⟩ rfl (digC x.R).toList _ HXR.out Tryz.underlying33 rfl (digLen HXL.out) ?_)
      | ((with_reducible refine at_ld 33 (.tmp 50) ?_); refine ldG_at (by rfl) 33 (.tmp 50) rfl ⟨w.heap.size + 1, 6, none⟩ rfl (digC y.R).toList _ HYR.out Tryz.underlying33 rfl (digLen HYL.out) ?_))
    go_ret
    rw [HV.out]
    exact ⟨rfl, HG.out⟩
  rw [← hPa] at y5
  have HQPa := Lib.hid hPa
  clear hPa
  by_cases hR : x.R = y.R; rotate_left
  · have e1 : ∀ w, (Op.equalIn 10000 33 (.agg (digC x.R)) (.agg (digC y.R))).run Tryz.prog w = .ok false w := fun w => by rw [eqDig 9998 _ _ HXL.out HYL.out, decide_eq_false hR]
    have HV : Hid (msame x y = false) := Lib.hid (by simp [msame, hR])
    clear hR
    go_enter Tryz.func20, Tryz.ntmps20
    go_wp2_with (first
      | ((with_reducible refine at_ld 33 (.tmp 48) ?_); refine ldG_at (by rfl) 33 (.tmp 48) rfl ⟨w.heap.size, 6, none⟩ rfl (digC x.R).toList _ HXR.out Tryz.underlying33 rfl (digLen HXL.out) ?_)
      | ((with_reducible refine at_ld 33 (.tmp 50) ?_); refine ldG_at (by rfl) 33 (.tmp 50) rfl ⟨w.heap.size + 1, 6, none⟩ rfl (digC y.R).toList _ HYR.out Tryz.underlying33 rfl (digLen HYL.out) ?_))
    go_ret
    rw [HV.out]
    exact ⟨rfl, HG.out⟩
  rw [← hR] at HYR
  have eR : ∀ w, (Op.equalIn 10000 33 (.agg (digC x.R)) (.agg (digC x.R))).run Tryz.prog w = .ok true w := fun w => by rw [eqDig 9998 _ _ HXL.out HXL.out, decide_eq_true rfl]
  have HQR := Lib.hid hR
  clear hR
  by_cases hTx : x.Tx = y.Tx; rotate_left
  · have e1 := strNe hTx
    have HV : Hid (msame x y = false) := Lib.hid (by simp [msame, hTx])
    clear hTx
    go_enter Tryz.func20, Tryz.ntmps20
    go_wp2_with (first
      | ((with_reducible refine at_ld 33 (.tmp 48) ?_); refine ldG_at (by rfl) 33 (.tmp 48) rfl ⟨w.heap.size, 6, none⟩ rfl (digC x.R).toList _ HXR.out Tryz.underlying33 rfl (digLen HXL.out) ?_)
      | ((with_reducible refine at_ld 33 (.tmp 50) ?_); refine ldG_at (by rfl) 33 (.tmp 50) rfl ⟨w.heap.size + 1, 6, none⟩ rfl (digC x.R).toList _ HYR.out Tryz.underlying33 rfl (digLen HXL.out) ?_))
    go_ret
    rw [HV.out]
    exact ⟨rfl, HG.out⟩
  rw [← hTx] at y40
  have HQTx := Lib.hid hTx
  clear hTx
  exact absurd ⟨HQK.out, HQF.out, HQTo.out, HQSd.out, HQTn.out, HQPa.out, HQR.out, HQTx.out⟩ HNE.out
end Go.Proofs.YtfobnemocodomaaGreat
set_option linter.unusedVariables false
set_option linter.unusedSimpArgs false
set_option maxHeartbeats 16000000
namespace Go.Proofs.YtfobnemocodomaaGreat
open Go.RowKit Go.Shelf Go.Great

set_option maxRecDepth 100000 in
theorem mSame1_any (x y : Mx) (w : World) (hx : MxOk w x) (hy : MxOk w y) :
    Calls Tryz.prog 20 #[.agg x.cells, .agg y.cells] w fun r w' => r = .returned (.bool (msame x y)) ∧ Gr w w' := by
  by_cases hall : x.K = y.K ∧ x.F = y.F ∧ x.To = y.To ∧ x.Sd = y.Sd ∧ x.Tn = y.Tn ∧ x.Pa = y.Pa ∧ x.R = y.R ∧ x.Tx = y.Tx; rotate_left
  · exact mSame1_ne x y w hx hy hall
  obtain ⟨hK, hF, hTo, hSd, hTn, hPa, hR, hTx⟩ := hall
  have HG : Hid (Gr w ((w.alloc (.cells x.cells 37)).alloc (.cells y.cells 37))) := Lib.hid (((Gr.rfl' w).al _).al _)
  have HX0 := (mxAt (World.alloc_heap_new w (.cells x.cells 37)) hx.dig).gr ((Gr.rfl' _).al (.cells y.cells 37))
  have HY0 := mxAt (World.alloc_heap_new (w.alloc (.cells x.cells 37)) (.cells y.cells 37)) hy.dig
  have hsz : (w.alloc (.cells x.cells 37)).heap.size = w.heap.size + 1 := by simp
  rw [hsz] at HY0
  have HXO := Lib.hid (hx.gr HG.out)
  have HYO := Lib.hid (hy.gr HG.out)
  have HXL := Lib.hid hx.dig
  have HYL := Lib.hid hy.dig
  clear hx hy hsz
  generalize hW : (w.alloc (.cells x.cells 37)).alloc (.cells y.cells 37) = W at HG HX0 HY0 HXO HYO
  obtain ⟨x0, x1, x2, x3, x4, x5, xR, x38, x39, x40⟩ := HX0
  obtain ⟨y0, y1, y2, y3, y4, y5, yR, y38, y39, y40⟩ := HY0
  have HXR := Lib.hid xR
  have HYR := Lib.hid yR
  clear xR yR
  rw [← hK] at y0
  have HQK := Lib.hid hK
  clear hK
  rw [← hF] at y1
  have HQF := Lib.hid hF
  clear hF
  rw [← hTo] at y2
  have HQTo := Lib.hid hTo
  clear hTo
  rw [← hSd] at y3
  have HQSd := Lib.hid hSd
  clear hSd
  rw [← hTn] at y4
  have HQTn := Lib.hid hTn
  clear hTn
  rw [← hPa] at y5
  have HQPa := Lib.hid hPa
  clear hPa
  rw [← hR] at HYR
  have eR : ∀ w, (Op.equalIn 10000 33 (.agg (digC x.R)) (.agg (digC x.R))).run Tryz.prog w = .ok true w := fun w => by rw [eqDig 9998 _ _ HXL.out HXL.out, decide_eq_true rfl]
  have HQR := Lib.hid hR
  clear hR
  rw [← hTx] at y40
  have HQTx := Lib.hid hTx
  clear hTx
  by_cases hc : x.cl = y.cl; rotate_left
  · have HV : Hid (msame x y = false) := Lib.hid (by simp [msame, hc])
    have HS := Lib.hid (Same_any x.cA y.cA x.cc y.cc x.cl y.cl W HXO.out.ctx HYO.out.ctx)
    rw [decide_eq_false hc] at HS
    clear hc
    go_enter Tryz.func20, Tryz.ntmps20
    go_wp2_with (first
      | ((with_reducible refine at_ld 33 (.tmp 48) ?_); refine ldG_at (by rfl) 33 (.tmp 48) rfl ⟨w.heap.size, 6, none⟩ rfl (digC x.R).toList _ HXR.out Tryz.underlying33 rfl (digLen HXL.out) ?_)
      | ((with_reducible refine at_ld 33 (.tmp 50) ?_); refine ldG_at (by rfl) 33 (.tmp 50) rfl ⟨w.heap.size + 1, 6, none⟩ rfl (digC x.R).toList _ HYR.out Tryz.underlying33 rfl (digLen HXL.out) ?_))
    refine (HS.out).mono ?_
    rintro r w1 ⟨rfl, g1⟩
    go_wp2
    go_ret
    rw [HV.out]
    exact ⟨rfl, HG.out.tr g1⟩
  have HS := Lib.hid (Same_any x.cA y.cA x.cc y.cc x.cl y.cl W HXO.out.ctx HYO.out.ctx)
  rw [decide_eq_true hc] at HS
  have HC := Lib.hid hc
  clear hc
  by_cases hl : x.rs.length = y.rs.length; rotate_left
  · have hli : ((x.rs.length : Int) == y.rs.length) = false := by simp; omega
    have HV : Hid (msame x y = false) := Lib.hid (by
      have : rowsL x.rs ≠ rowsL y.rs := fun h => hl (rows_len h)
      simp [msame, this])
    clear hl
    go_enter Tryz.func20, Tryz.ntmps20
    go_wp2_with (first
      | ((with_reducible refine at_ld 33 (.tmp 48) ?_); refine ldG_at (by rfl) 33 (.tmp 48) rfl ⟨w.heap.size, 6, none⟩ rfl (digC x.R).toList _ HXR.out Tryz.underlying33 rfl (digLen HXL.out) ?_)
      | ((with_reducible refine at_ld 33 (.tmp 50) ?_); refine ldG_at (by rfl) 33 (.tmp 50) rfl ⟨w.heap.size + 1, 6, none⟩ rfl (digC x.R).toList _ HYR.out Tryz.underlying33 rfl (digLen HXL.out) ?_))
    refine (HS.out).mono ?_
    rintro r w1 ⟨rfl, g1⟩
    replace x39 := g1.cell x39
    replace y39 := g1.cell y39
    go_wp2
    go_ret
    rw [HV.out]
    exact ⟨rfl, HG.out.tr g1⟩
  have hli : ((x.rs.length : Int) == y.rs.length) = true := by rw [hl]; simp
  have hli2 : ((x.rs.length : Int) != y.rs.length) = false := by rw [hl]; simp
  have HV : Hid (msame x y = decide (rowsL x.rs = rowsL y.rs)) := Lib.hid (by simp [msame, HQK.out, HQF.out, HQTo.out, HQSd.out, HQTn.out, HQPa.out, HQR.out, HQTx.out, HC.out])
  have HLL := Lib.hid hl
  clear HQK HQF HQTo HQSd HQTn HQPa HQR HQTx HC hl
  have hma := HXO.out.rows.1
  go_enter Tryz.func20, Tryz.ntmps20
  go_wp2_with (first
    | ((with_reducible refine at_ld 33 (.tmp 48) ?_); refine ldG_at (by rfl) 33 (.tmp 48) rfl ⟨w.heap.size, 6, none⟩ rfl (digC x.R).toList _ HXR.out Tryz.underlying33 rfl (digLen HXL.out) ?_)
    | ((with_reducible refine at_ld 33 (.tmp 50) ?_); refine ldG_at (by rfl) 33 (.tmp 50) rfl ⟨w.heap.size + 1, 6, none⟩ rfl (digC x.R).toList _ HYR.out Tryz.underlying33 rfl (digLen HXL.out) ?_))
  refine (HS.out).mono ?_
  rintro r w1 ⟨rfl, g1⟩
  replace x39 := g1.cell x39
  replace y39 := g1.cell y39
  have H1 := Lib.hid (HXO.out.rows.gr g1)
  have H2 := Lib.hid (HYO.out.rows.gr g1)
  replace HG := Lib.hid (HG.out.tr g1)
  have GW := Lib.hid (Gr.rfl' w1)
  clear g1 HS
  obtain ⟨rA, hrA⟩ : ∃ r, x.rA = r := ⟨_, rfl⟩
  obtain ⟨rB, hrB⟩ : ∃ r, y.rA = r := ⟨_, rfl⟩
  rw [hrA] at x39 H1
  rw [hrB] at y39 H2
  simp only [hrA, hrB]
  clear hrA hrB
  go_wp2
  go_loopw [81] (fun i wr => ∃ k : Nat, k ≤ x.rs.length ∧ i = .int .i64 k ∧ Hid (rowsL (x.rs.take k) = rowsL (y.rs.take k)) ∧ Hid (Gr w1 wr)) (fun i _ => x.rs.length - (intOf i).toNat)
  case atStart => exact ⟨0, Nat.zero_le _, rfl, Lib.hid rfl, GW⟩
  case round =>
    clear GW
    obtain ⟨k, hk, rfl, HP, G⟩ := hrel
    replace x39 := G.out.cell x39
    replace y39 := G.out.cell y39
    by_cases hlt : k < x.rs.length
    · have hki : (k : Int) < x.rs.length := by omega
      have hkb : (k : Int) < y.rs.length := by have := HLL.out; omega
      obtain ⟨ad, rfl, hc1, hd1⟩ := (H1.out.gr G.out).2 k hlt
      obtain ⟨bd, rfl, hc2, hd2⟩ := (H2.out.gr G.out).2 k (by have := HLL.out; omega)
      have hst := rows_step HLL.out hlt HP.out
      obtain ⟨d1, e1⟩ : ∃ d, x.rs[k] = d := ⟨_, rfl⟩
      obtain ⟨d2, e2⟩ : ∃ d, y.rs[k]'(by have := HLL.out; omega) = d := ⟨_, rfl⟩
      rw [e1] at hc1 hd1 hst
      rw [e2] at hc2 hd2 hst
      have HST := Lib.hid hst
      have HD1 := Lib.hid hd1
      have HD2 := Lib.hid hd2
      clear hst hd1 hd2 e1 e2
      obtain ⟨A1, c1, l1⟩ := d1
      obtain ⟨A2, c2, l2⟩ := d2
      simp only at hc1 hc2
      go_wp2_with fail
      refine (Same_any A1 A2 c1 c2 l1 l2 _ HD1.out HD2.out).mono ?_
      rintro r w3 ⟨rfl, g3⟩
      by_cases he : l1 = l2
      · rw [decide_eq_true he]
        go_wp2
        go_roundw
        case rel => exact ⟨k + 1, by omega, by go_num, Lib.hid (HST.out.2 he), Lib.hid (G.out.tr g3)⟩
        case measure => simp [intOf]; omega
      · rw [decide_eq_false he]
        go_wp2
        go_ret
        rw [HV.out, decide_eq_false (fun h => he (HST.out.1 (rows_take h _)))]
        exact ⟨rfl, HG.out.tr (G.out.tr g3)⟩
    · have hkk : k = x.rs.length := by omega
      subst hkk
      have hki : ¬ (x.rs.length : Int) < x.rs.length := by omega
      go_wp2
      go_ret
      have he := HP.out
      rw [List.take_length, HLL.out, List.take_length] at he
      rw [HV.out, decide_eq_true he]
      exact ⟨rfl, HG.out.tr G.out⟩
end Go.Proofs.YtfobnemocodomaaGreat
set_option linter.unusedVariables false
set_option linter.unusedSimpArgs false
set_option maxHeartbeats 16000000
namespace Go.Proofs.YtfobnemocodomaaGreat
open Go.RowKit Go.Shelf Go.Great

set_option maxRecDepth 100000 in
theorem mSame2_ne (x y : Mx) (w : World) (hx : MxOk w x) (hy : MxOk w y) (hne : ¬ (x.K = y.K ∧ x.F = y.F ∧ x.To = y.To ∧ x.Sd = y.Sd ∧ x.Tn = y.Tn ∧ x.Pa = y.Pa ∧ x.R = y.R ∧ x.Tx = y.Tx)) :
    Calls Tryz.prog 16 #[.agg x.cells, .agg y.cells] w fun r w' => r = .returned (.bool (msame x y)) ∧ Gr w w' := by
  have HG : Hid (Gr w ((w.alloc (.cells x.cells 37)).alloc (.cells y.cells 37))) := Lib.hid (((Gr.rfl' w).al _).al _)
  have HX0 := (mxAt (World.alloc_heap_new w (.cells x.cells 37)) hx.dig).gr ((Gr.rfl' _).al (.cells y.cells 37))
  have HY0 := mxAt (World.alloc_heap_new (w.alloc (.cells x.cells 37)) (.cells y.cells 37)) hy.dig
  have hsz : (w.alloc (.cells x.cells 37)).heap.size = w.heap.size + 1 := by simp
  rw [hsz] at HY0
  have HXO := Lib.hid (hx.gr HG.out)
  have HYO := Lib.hid (hy.gr HG.out)
  have HXL := Lib.hid hx.dig
  have HYL := Lib.hid hy.dig
  clear hx hy hsz
  generalize hW : (w.alloc (.cells x.cells 37)).alloc (.cells y.cells 37) = W at HG HX0 HY0 HXO HYO
  obtain ⟨x0, x1, x2, x3, x4, x5, xR, x38, x39, x40⟩ := HX0
  obtain ⟨y0, y1, y2, y3, y4, y5, yR, y38, y39, y40⟩ := HY0
  have HXR := Lib.hid xR
  have HYR := Lib.hid yR
  clear xR yR
  have HNE := Lib.hid hne
  clear hne
  by_cases hK : x.K = y.K; rotate_left
  · have e1 : (x.K == y.K) = false := by simpa using hK
    have e2 : (x.K != y.K) = true := by simpa using hK
    have HV : Hid (msame x y = false) := Lib.hid (by simp [msame, hK])
    clear hK
    go_enter Tryz.func16, Tryz.ntmps16
    go_wp2_with (first
      | ((with_reducible refine at_ld 33 (.tmp 46) ?_); refine ldG_at (by rfl) 33 (.tmp 46) rfl ⟨w.heap.size, 6, none⟩ rfl (digC x.R).toList _ HXR.out Tryz.underlying33 rfl (digLen HXL.out) ?_)
      | ((with_reducible refine at_ld 33 (.tmp 48) ?_); refine ldG_at (by rfl) 33 (.tmp 48) rfl ⟨w.heap.size + 1, 6, none⟩ rfl (digC y.R).toList _ HYR.out Tryz.underlying33 rfl (digLen HYL.out) ?_))
    go_ret
    rw [HV.out]
    exact ⟨rfl, HG.out⟩
  rw [← hK] at y0
  have HQK := Lib.hid hK
  clear hK
  by_cases hF : x.F = y.F; rotate_left
  · have e1 : (x.F == y.F) = false := by simpa using hF
    have e2 : (x.F != y.F) = true := by simpa using hF
    have HV : Hid (msame x y = false) := Lib.hid (by simp [msame, hF])
    clear hF
    go_enter Tryz.func16, Tryz.ntmps16
    go_wp2_with (first
      | ((with_reducible refine at_ld 33 (.tmp 46) ?_); refine ldG_at (by rfl) 33 (.tmp 46) rfl ⟨w.heap.size, 6, none⟩ rfl (digC x.R).toList _ HXR.out Tryz.underlying33 rfl (digLen HXL.out) ?_)
      | ((with_reducible refine at_ld 33 (.tmp 48) ?_); refine ldG_at (by rfl) 33 (.tmp 48) rfl ⟨w.heap.size + 1, 6, none⟩ rfl (digC y.R).toList _ HYR.out Tryz.underlying33 rfl (digLen HYL.out) ?_))
    go_ret
    rw [HV.out]
    exact ⟨rfl, HG.out⟩
  rw [← hF] at y1
  have HQF := Lib.hid hF
  clear hF
  by_cases hTo : x.To = y.To; rotate_left
  · have e1 : (x.To == y.To) = false := by simpa using hTo
    have e2 : (x.To != y.To) = true := by simpa using hTo
    have HV : Hid (msame x y = false) := Lib.hid (by simp [msame, hTo])
    clear hTo
    go_enter Tryz.func16, Tryz.ntmps16
    go_wp2_with (first
      | ((with_reducible refine at_ld 33 (.tmp 46) ?_); refine ldG_at (by rfl) 33 (.tmp 46) rfl ⟨w.heap.size, 6, none⟩ rfl (digC x.R).toList _ HXR.out Tryz.underlying33 rfl (digLen HXL.out) ?_)
      | ((with_reducible refine at_ld 33 (.tmp 48) ?_); refine ldG_at (by rfl) 33 (.tmp 48) rfl ⟨w.heap.size + 1, 6, none⟩ rfl (digC y.R).toList _ HYR.out Tryz.underlying33 rfl (digLen HYL.out) ?_))
    go_ret
    rw [HV.out]
    exact ⟨rfl, HG.out⟩
  rw [← hTo] at y2
  have HQTo := Lib.hid hTo
  clear hTo
  by_cases hSd : x.Sd = y.Sd; rotate_left
  · have e1 : (x.Sd == y.Sd) = false := by simpa using hSd
    have e2 : (x.Sd != y.Sd) = true := by simpa using hSd
    have HV : Hid (msame x y = false) := Lib.hid (by simp [msame, hSd])
    clear hSd
    go_enter Tryz.func16, Tryz.ntmps16
    go_wp2_with (first
      | ((with_reducible refine at_ld 33 (.tmp 46) ?_); refine ldG_at (by rfl) 33 (.tmp 46) rfl ⟨w.heap.size, 6, none⟩ rfl (digC x.R).toList _ HXR.out Tryz.underlying33 rfl (digLen HXL.out) ?_)
      | ((with_reducible refine at_ld 33 (.tmp 48) ?_); refine ldG_at (by rfl) 33 (.tmp 48) rfl ⟨w.heap.size + 1, 6, none⟩ rfl (digC y.R).toList _ HYR.out Tryz.underlying33 rfl (digLen HYL.out) ?_))
    go_ret
    rw [HV.out]
    exact ⟨rfl, HG.out⟩
  rw [← hSd] at y3
  have HQSd := Lib.hid hSd
  clear hSd
  by_cases hTn : x.Tn = y.Tn; rotate_left
  · have e1 : (x.Tn == y.Tn) = false := by simpa using hTn
    have e2 : (x.Tn != y.Tn) = true := by simpa using hTn
    have e3 : (!x.Tn == y.Tn) = true := by revert hTn; cases x.Tn <;> cases y.Tn <;> simp
    have HV : Hid (msame x y = false) := Lib.hid (by simp [msame, hTn])
    clear hTn
    go_enter Tryz.func16, Tryz.ntmps16
    go_wp2_with (first
      | ((with_reducible refine at_ld 33 (.tmp 46) ?_); refine ldG_at (by rfl) 33 (.tmp 46) rfl ⟨w.heap.size, 6, none⟩ rfl (digC x.R).toList _ HXR.out Tryz.underlying33 rfl (digLen HXL.out) ?_)
      | ((with_reducible refine at_ld 33 (.tmp 48) ?_); refine ldG_at (by rfl) 33 (.tmp 48) rfl ⟨w.heap.size + 1, 6, none⟩ rfl (digC y.R).toList _ HYR.out Tryz.underlying33 rfl (digLen HYL.out) ?_))
    go_ret
    rw [HV.out]
    exact ⟨rfl, HG.out⟩
  rw [← hTn] at y4
  have HQTn := Lib.hid hTn
  clear hTn
  by_cases hPa : x.Pa = y.Pa; rotate_left
  · have e1 := strNe hPa
    have HV : Hid (msame x y = false) := Lib.hid (by simp [msame, hPa])
    clear hPa
    go_enter Tryz.func16, Tryz.ntmps16
    go_wp2_with (first
      | ((with_reducible refine at_ld 33 (.tmp 46) ?_); refine ldG_at (by rfl) 33 (.tmp 46) rfl ⟨w.heap.size, 6, none⟩ rfl (digC x.R).toList _ HXR.out Tryz.underlying33 rfl (digLen HXL.out) ?_)
      | ((with_reducible refine at_ld 33 (.tmp 48) ?_); refine ldG_at (by rfl) 33 (.tmp 48) rfl ⟨w.heap.size + 1, 6, none⟩ rfl (digC y.R).toList _ HYR.out Tryz.underlying33 rfl (digLen HYL.out) ?_))
    go_ret
    rw [HV.out]
    exact ⟨rfl, HG.out⟩
  rw [← hPa] at y5
  have HQPa := Lib.hid hPa
  clear hPa
  by_cases hR : x.R = y.R; rotate_left
  · have e1 : ∀ w, (Op.equalIn 10000 33 (.agg (digC x.R)) (.agg (digC y.R))).run Tryz.prog w = .ok false w := fun w => by rw [eqDig 9998 _ _ HXL.out HYL.out, decide_eq_false hR]
    have HV : Hid (msame x y = false) := Lib.hid (by simp [msame, hR])
    clear hR
    go_enter Tryz.func16, Tryz.ntmps16
    go_wp2_with (first
      | ((with_reducible refine at_ld 33 (.tmp 46) ?_); refine ldG_at (by rfl) 33 (.tmp 46) rfl ⟨w.heap.size, 6, none⟩ rfl (digC x.R).toList _ HXR.out Tryz.underlying33 rfl (digLen HXL.out) ?_)
      | ((with_reducible refine at_ld 33 (.tmp 48) ?_); refine ldG_at (by rfl) 33 (.tmp 48) rfl ⟨w.heap.size + 1, 6, none⟩ rfl (digC y.R).toList _ HYR.out Tryz.underlying33 rfl (digLen HYL.out) ?_))
    go_ret
    rw [HV.out]
    exact ⟨rfl, HG.out⟩
  rw [← hR] at HYR
  have eR : ∀ w, (Op.equalIn 10000 33 (.agg (digC x.R)) (.agg (digC x.R))).run Tryz.prog w = .ok true w := fun w => by rw [eqDig 9998 _ _ HXL.out HXL.out, decide_eq_true rfl]
  have HQR := Lib.hid hR
  clear hR
  by_cases hTx : x.Tx = y.Tx; rotate_left
  · have e1 := strNe hTx
    have HV : Hid (msame x y = false) := Lib.hid (by simp [msame, hTx])
    clear hTx
    go_enter Tryz.func16, Tryz.ntmps16
    go_wp2_with (first
      | ((with_reducible refine at_ld 33 (.tmp 46) ?_); refine ldG_at (by rfl) 33 (.tmp 46) rfl ⟨w.heap.size, 6, none⟩ rfl (digC x.R).toList _ HXR.out Tryz.underlying33 rfl (digLen HXL.out) ?_)
      | ((with_reducible refine at_ld 33 (.tmp 48) ?_); refine ldG_at (by rfl) 33 (.tmp 48) rfl ⟨w.heap.size + 1, 6, none⟩ rfl (digC x.R).toList _ HYR.out Tryz.underlying33 rfl (digLen HXL.out) ?_))
    go_ret
    rw [HV.out]
    exact ⟨rfl, HG.out⟩
  rw [← hTx] at y40
  have HQTx := Lib.hid hTx
  clear hTx
  exact absurd ⟨HQK.out, HQF.out, HQTo.out, HQSd.out, HQTn.out, HQPa.out, HQR.out, HQTx.out⟩ HNE.out
end Go.Proofs.YtfobnemocodomaaGreat
set_option linter.unusedVariables false
set_option linter.unusedSimpArgs false
set_option maxHeartbeats 16000000
namespace Go.Proofs.YtfobnemocodomaaGreat
open Go.RowKit Go.Shelf Go.Great

set_option maxRecDepth 100000 in
theorem mSame2_any (x y : Mx) (w : World) (hx : MxOk w x) (hy : MxOk w y) :
    Calls Tryz.prog 16 #[.agg x.cells, .agg y.cells] w fun r w' => r = .returned (.bool (msame x y)) ∧ Gr w w' := by
  by_cases hall : x.K = y.K ∧ x.F = y.F ∧ x.To = y.To ∧ x.Sd = y.Sd ∧ x.Tn = y.Tn ∧ x.Pa = y.Pa ∧ x.R = y.R ∧ x.Tx = y.Tx; rotate_left
  · exact mSame2_ne x y w hx hy hall
  obtain ⟨hK, hF, hTo, hSd, hTn, hPa, hR, hTx⟩ := hall
  have HG : Hid (Gr w ((w.alloc (.cells x.cells 37)).alloc (.cells y.cells 37))) := Lib.hid (((Gr.rfl' w).al _).al _)
  have HX0 := (mxAt (World.alloc_heap_new w (.cells x.cells 37)) hx.dig).gr ((Gr.rfl' _).al (.cells y.cells 37))
  have HY0 := mxAt (World.alloc_heap_new (w.alloc (.cells x.cells 37)) (.cells y.cells 37)) hy.dig
  have hsz : (w.alloc (.cells x.cells 37)).heap.size = w.heap.size + 1 := by simp
  rw [hsz] at HY0
  have HXO := Lib.hid (hx.gr HG.out)
  have HYO := Lib.hid (hy.gr HG.out)
  have HXL := Lib.hid hx.dig
  have HYL := Lib.hid hy.dig
  clear hx hy hsz
  generalize hW : (w.alloc (.cells x.cells 37)).alloc (.cells y.cells 37) = W at HG HX0 HY0 HXO HYO
  obtain ⟨x0, x1, x2, x3, x4, x5, xR, x38, x39, x40⟩ := HX0
  obtain ⟨y0, y1, y2, y3, y4, y5, yR, y38, y39, y40⟩ := HY0
  have HXR := Lib.hid xR
  have HYR := Lib.hid yR
  clear xR yR
  rw [← hK] at y0
  have HQK := Lib.hid hK
  clear hK
  rw [← hF] at y1
  have HQF := Lib.hid hF
  clear hF
  rw [← hTo] at y2
  have HQTo := Lib.hid hTo
  clear hTo
  rw [← hSd] at y3
  have HQSd := Lib.hid hSd
  clear hSd
  rw [← hTn] at y4
  have HQTn := Lib.hid hTn
  clear hTn
  rw [← hPa] at y5
  have HQPa := Lib.hid hPa
  clear hPa
  rw [← hR] at HYR
  have eR : ∀ w, (Op.equalIn 10000 33 (.agg (digC x.R)) (.agg (digC x.R))).run Tryz.prog w = .ok true w := fun w => by rw [eqDig 9998 _ _ HXL.out HXL.out, decide_eq_true rfl]
  have HQR := Lib.hid hR
  clear hR
  rw [← hTx] at y40
  have HQTx := Lib.hid hTx
  clear hTx
  by_cases hc : x.cl = y.cl; rotate_left
  · have HV : Hid (msame x y = false) := Lib.hid (by simp [msame, hc])
    have HS := Lib.hid (refSame_any x.cA y.cA x.cc y.cc x.cl y.cl W HXO.out.ctx HYO.out.ctx)
    rw [decide_eq_false hc] at HS
    clear hc
    go_enter Tryz.func16, Tryz.ntmps16
    go_wp2_with (first
      | ((with_reducible refine at_ld 33 (.tmp 46) ?_); refine ldG_at (by rfl) 33 (.tmp 46) rfl ⟨w.heap.size, 6, none⟩ rfl (digC x.R).toList _ HXR.out Tryz.underlying33 rfl (digLen HXL.out) ?_)
      | ((with_reducible refine at_ld 33 (.tmp 48) ?_); refine ldG_at (by rfl) 33 (.tmp 48) rfl ⟨w.heap.size + 1, 6, none⟩ rfl (digC x.R).toList _ HYR.out Tryz.underlying33 rfl (digLen HXL.out) ?_))
    refine (HS.out).mono ?_
    rintro r w1 ⟨rfl, g1⟩
    go_wp2
    go_ret
    rw [HV.out]
    exact ⟨rfl, HG.out.tr g1⟩
  have HS := Lib.hid (refSame_any x.cA y.cA x.cc y.cc x.cl y.cl W HXO.out.ctx HYO.out.ctx)
  rw [decide_eq_true hc] at HS
  have HV : Hid (msame x y = decide (rowsL x.rs = rowsL y.rs)) := Lib.hid (by simp [msame, HQK.out, HQF.out, HQTo.out, HQSd.out, HQTn.out, HQPa.out, HQR.out, HQTx.out, hc])
  clear HQK HQF HQTo HQSd HQTn HQPa HQR HQTx hc
  go_enter Tryz.func16, Tryz.ntmps16
  go_wp2_with (first
    | ((with_reducible refine at_ld 33 (.tmp 46) ?_); refine ldG_at (by rfl) 33 (.tmp 46) rfl ⟨w.heap.size, 6, none⟩ rfl (digC x.R).toList _ HXR.out Tryz.underlying33 rfl (digLen HXL.out) ?_)
    | ((with_reducible refine at_ld 33 (.tmp 48) ?_); refine ldG_at (by rfl) 33 (.tmp 48) rfl ⟨w.heap.size + 1, 6, none⟩ rfl (digC x.R).toList _ HYR.out Tryz.underlying33 rfl (digLen HXL.out) ?_))
  refine (HS.out).mono ?_
  rintro r w1 ⟨rfl, g1⟩
  replace x39 := g1.cell x39
  replace y39 := g1.cell y39
  have HRR := Lib.hid (refRows_any x.rA y.rA x.rc y.rc x.rs y.rs w1 (HXO.out.rows.gr g1) (HYO.out.rows.gr g1))
  go_wp2_with fail
  refine (HRR.out).mono ?_
  rintro r w2 ⟨rfl, g2⟩
  go_wp2
  go_ret
  rw [HV.out]
  exact ⟨rfl, HG.out.tr (g1.tr g2)⟩
end Go.Proofs.YtfobnemocodomaaGreat
