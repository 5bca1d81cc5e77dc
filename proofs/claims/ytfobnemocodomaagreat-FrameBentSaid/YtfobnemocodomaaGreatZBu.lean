/- Joined texts: MsgF MsgG MsgH. -/
import Derived.Test.YtfobnemocodomaaGreatZBt
import Derived.Test.YtfobnemocodomaaGreatZBo
import Derived.Test.YtfobnemocodomaaGreatZBn
set_option linter.unusedVariables false
set_option linter.unusedSimpArgs false
set_option maxHeartbeats 4000000
namespace Go.Proofs.YtfobnemocodomaaGreat
open Go.RowKit Go.Shelf Go.Great

def zMx : Mx := ⟨0, 0, 0, 0, false, ⟨#[]⟩, Z32L, none, [], 0, none, [], 0, ⟨#[]⟩⟩
theorem zMx_info : (Tryz.prog.info? 37).map (fun i => (i.zero, i.size)) = some (some (.agg zMx.cells), 41) := by kernel_rfl
theorem sizeM : (Tryz.prog.info? 37).map (·.size) = some 41 := by kernel_rfl
theorem mOne (x : Mx) : x.cells.all Value.oneCell' = true := by
  rw [Array.all_eq_true_iff_forall_mem]
  intro v hv
  have hv' : v ∈ x.list := by simpa [Mx.cells] using hv
  unfold Mx.list at hv'
  simp only [List.mem_append, List.mem_cons, List.not_mem_nil, or_false, List.mem_map] at hv'
  rcases hv' with (rfl | rfl | rfl | rfl | rfl | rfl) | ⟨c, _, rfl⟩ | rfl | rfl | rfl <;> rfl
theorem allocM {ops : Array Oper} {rest : List Oper} {o : Oper} {a : Act} {w : World} {Q : Exit → Act → World → Prop} (hg : o.guard = none) (ho : o.op = .alloc 37)
    (h : wpList Tryz.prog ops Q rest (a.put o.dst (.pointer (some ⟨w.heap.size, 0, none⟩))) (w.alloc (.cells zMx.cells 37))) : wpList Tryz.prog ops Q (o :: rest) a w := by
  refine wpList_allocTo hg o.dst rfl _ (.cells zMx.cells 37) ?_ h
  have hz := (zero_of_info zMx_info).1
  unfold execOp
  simp [ho, Instr.alloc, hz, Value.cells, go_sem]
theorem storeM {ops : Array Oper} {rest : List Oper} {o : Oper} {a : Act} {w : World} {Q : Exit → Act → World → Prop} (c : Mx) (hc : c.R.length = 32) (hg : o.guard = none) (x y : Operand) (ho : o.op = .store 37 x y) (hd : o.dst = none)
    (hx : a.eval x = .pointer (some ⟨w.heap.size, 0, none⟩)) (hy : a.eval y = .agg c.cells)
    (h : ∀ wt : World, wt.heap[w.heap.size]? = some (.cells c.cells 37 (0, 0)) → Gr w wt → wpList Tryz.prog ops Q rest a wt) : wpList Tryz.prog ops Q (o :: rest) a (w.alloc (.cells zMx.cells 37)) := by
  refine wpList_store_row hg 37 x y ho w.heap.size c.cells hx hy 37 zMx.cells (World.alloc_heap_new w _) (by rw [Mx.size c hc]; exact sizeM) (by rw [Mx.size c hc, Mx.size zMx Z32L_len]) (mOne c) ?_
  rw [World.setRow_alloc_new, hd]
  exact h _ (World.alloc_heap_new _ _) ((Gr.rfl' w).al _)
theorem loadM {ops : Array Oper} {rest : List Oper} {o : Oper} {a : Act} {w : World} {Q : Exit → Act → World → Prop} (c : Mx) (hc : c.R.length = 32) (hg : o.guard = none) (x : Operand) (ho : o.op = .load 37 x) (g : Nat)
    (hx : a.eval x = .pointer (some ⟨g, 0, none⟩)) (hb : w.heap[g]? = some (.cells c.cells 37 (0, 0)))
    (h : wpList Tryz.prog ops Q rest (a.put o.dst (.agg c.cells)) w) : wpList Tryz.prog ops Q (o :: rest) a w :=
  wpList_load_row hg 37 x ho g hx 37 c.cells (0, 0) _ hb Tryz.underlying37 rfl (by rw [Mx.size c hc]; exact sizeM) h
def peerB (n : Int) : Bool := decide (0 ≤ n) && decide (n < 64)
set_option maxRecDepth 100000 in
theorem peer_any (n : Int) (w : World) : Calls Tryz.prog 54 #[.int .i64 n] w fun r w' => r = .returned (.bool (peerB n)) ∧ w' = w := by
  by_cases h0 : 0 ≤ n
  · by_cases h1 : n < 64
    · have hv : Hid (peerB n = true) := Lib.hid (by simp [peerB, h0, h1])
      go_enter Tryz.func54, Tryz.ntmps54
      go_wp2
      go_ret
      rw [hv.out]; exact ⟨rfl, rfl⟩
    · have hv : Hid (peerB n = false) := Lib.hid (by simp [peerB, h0, h1])
      go_enter Tryz.func54, Tryz.ntmps54
      go_wp2
      go_ret
      rw [hv.out]; exact ⟨rfl, rfl⟩
  · have hv : Hid (peerB n = false) := Lib.hid (by simp [peerB, h0])
    go_enter Tryz.func54, Tryz.ntmps54
    go_wp2
    go_ret
    rw [hv.out]; exact ⟨rfl, rfl⟩
def bareB (x : Mx) : Bool := decide (x.R = Z32L) && (decide (x.Pa = ⟨#[]⟩) && (decide (x.cl.length = 0) && (decide (x.rs.length = 0) && (decide (x.Tx = ⟨#[]⟩) && !x.Tn))))
theorem nilList {T : ByteArray} (h : T ≠ ⟨#[]⟩) : ¬ T.toList = [] ∧ T.toList.isEmpty = false := by
  have : ¬ T.toList = [] := fun k => h (by apply ByteArray.ext; rw [Lib.toList_data] at k; exact Array.ext' k)
  refine ⟨this, ?_⟩
  cases hl : T.toList with
  | nil => exact absurd hl this
  | cons a r => rfl
set_option maxRecDepth 100000 in
theorem bare_any (x : Mx) (w : World) (hx : x.R.length = 32) :
    Calls Tryz.prog 55 #[.agg x.cells] w fun r w' => r = .returned (.bool (bareB x)) ∧ Gr w w' := by
  have HG : Hid (Gr w (w.alloc (.cells x.cells 37))) := Lib.hid ((Gr.rfl' w).al _)
  have HA := mxAt (World.alloc_heap_new w (.cells x.cells 37)) hx
  have HXL := Lib.hid hx
  clear hx
  generalize hW : w.alloc (.cells x.cells 37) = W at HG HA
  obtain ⟨x0, x1, x2, x3, x4, x5, xR, x38, x39, x40⟩ := HA
  have HXR := Lib.hid xR
  clear xR
  by_cases hR : x.R = Z32L; rotate_left
  · have e1 : ∀ w, (Op.equalIn 10000 33 (.agg (digC x.R)) (.agg Z32)).run Tryz.prog w = .ok false w := fun w => by
      have := eqDig 9998 x.R Z32L HXL.out Z32L_len w
      rw [decide_eq_false hR] at this; exact this
    have HV : Hid (bareB x = false) := Lib.hid (by simp [bareB, hR])
    clear hR
    go_enter Tryz.func55, Tryz.ntmps55
    go_wp2_with (first
      | refine build32 rfl rfl ?_
      | ((with_reducible refine at_ld 33 (.tmp 3) ?_); refine ldG_at (by rfl) 33 (.tmp 3) rfl ⟨w.heap.size, 6, none⟩ rfl (digC x.R).toList _ HXR.out Tryz.underlying33 rfl (digLen HXL.out) ?_))
    go_ret
    rw [HV.out]
    exact ⟨rfl, HG.out⟩
  have e1 : ∀ w, (Op.equalIn 10000 33 (.agg (digC x.R)) (.agg Z32)).run Tryz.prog w = .ok true w := fun w => by
    have := eqDig 9998 x.R Z32L HXL.out Z32L_len w
    rw [decide_eq_true hR] at this; exact this
  have HQR := Lib.hid hR
  clear hR
  by_cases hP : x.Pa = ⟨#[]⟩; rotate_left
  · obtain ⟨n1, n2⟩ := nilList hP
    have HV : Hid (bareB x = false) := Lib.hid (by simp [bareB, hP])
    clear hP
    go_enter Tryz.func55, Tryz.ntmps55
    go_wp2_with (first
      | refine build32 rfl rfl ?_
      | ((with_reducible refine at_ld 33 (.tmp 3) ?_); refine ldG_at (by rfl) 33 (.tmp 3) rfl ⟨w.heap.size, 6, none⟩ rfl (digC x.R).toList _ HXR.out Tryz.underlying33 rfl (digLen HXL.out) ?_))
    go_ret
    rw [HV.out]
    exact ⟨rfl, HG.out⟩
  rw [hP] at x5
  have HQP := Lib.hid hP
  clear hP
  by_cases hC : x.cl.length = 0; rotate_left
  · have n1 : ((x.cl.length : Int) == 0) = false := by simp; intro h; exact hC (by rw [h]; rfl)
    have HV : Hid (bareB x = false) := Lib.hid (by simp only [bareB, decide_eq_false hC, Bool.and_false, Bool.false_and])
    clear hC
    go_enter Tryz.func55, Tryz.ntmps55
    go_wp2_with (first
      | refine build32 rfl rfl ?_
      | ((with_reducible refine at_ld 33 (.tmp 3) ?_); refine ldG_at (by rfl) 33 (.tmp 3) rfl ⟨w.heap.size, 6, none⟩ rfl (digC x.R).toList _ HXR.out Tryz.underlying33 rfl (digLen HXL.out) ?_))
    go_ret
    rw [HV.out]
    exact ⟨rfl, HG.out⟩
  rw [hC] at x38
  have HQC := Lib.hid hC
  clear hC
  by_cases hC : x.rs.length = 0; rotate_left
  · have n1 : ((x.rs.length : Int) == 0) = false := by simp; intro h; exact hC (by rw [h]; rfl)
    have HV : Hid (bareB x = false) := Lib.hid (by simp only [bareB, decide_eq_false hC, Bool.and_false, Bool.false_and])
    clear hC
    go_enter Tryz.func55, Tryz.ntmps55
    go_wp2_with (first
      | refine build32 rfl rfl ?_
      | ((with_reducible refine at_ld 33 (.tmp 3) ?_); refine ldG_at (by rfl) 33 (.tmp 3) rfl ⟨w.heap.size, 6, none⟩ rfl (digC x.R).toList _ HXR.out Tryz.underlying33 rfl (digLen HXL.out) ?_))
    go_ret
    rw [HV.out]
    exact ⟨rfl, HG.out⟩
  rw [hC] at x39
  have HQW := Lib.hid hC
  clear hC
  by_cases hP : x.Tx = ⟨#[]⟩; rotate_left
  · obtain ⟨n1, n2⟩ := nilList hP
    have HV : Hid (bareB x = false) := Lib.hid (by simp [bareB, hP])
    clear hP
    go_enter Tryz.func55, Tryz.ntmps55
    go_wp2_with (first
      | refine build32 rfl rfl ?_
      | ((with_reducible refine at_ld 33 (.tmp 3) ?_); refine ldG_at (by rfl) 33 (.tmp 3) rfl ⟨w.heap.size, 6, none⟩ rfl (digC x.R).toList _ HXR.out Tryz.underlying33 rfl (digLen HXL.out) ?_))
    go_ret
    rw [HV.out]
    exact ⟨rfl, HG.out⟩
  rw [hP] at x40
  have HQT := Lib.hid hP
  clear hP
  cases hT : x.Tn with
  | true =>
    rw [hT] at x4
    have HV : Hid (bareB x = false) := Lib.hid (by simp [bareB, hT])
    clear hT
    go_enter Tryz.func55, Tryz.ntmps55
    go_wp2_with (first
      | refine build32 rfl rfl ?_
      | ((with_reducible refine at_ld 33 (.tmp 3) ?_); refine ldG_at (by rfl) 33 (.tmp 3) rfl ⟨w.heap.size, 6, none⟩ rfl (digC x.R).toList _ HXR.out Tryz.underlying33 rfl (digLen HXL.out) ?_))
    go_ret
    rw [HV.out]
    exact ⟨rfl, HG.out⟩
  | false =>
    rw [hT] at x4
    have HV : Hid (bareB x = true) := Lib.hid (by simp only [bareB, decide_eq_true HQR.out, decide_eq_true HQP.out, decide_eq_true HQC.out, decide_eq_true HQW.out, decide_eq_true HQT.out, hT]; rfl)
    clear hT
    go_enter Tryz.func55, Tryz.ntmps55
    go_wp2_with (first
      | refine build32 rfl rfl ?_
      | ((with_reducible refine at_ld 33 (.tmp 3) ?_); refine ldG_at (by rfl) 33 (.tmp 3) rfl ⟨w.heap.size, 6, none⟩ rfl (digC x.R).toList _ HXR.out Tryz.underlying33 rfl (digLen HXL.out) ?_))
    go_ret
    rw [HV.out]
    exact ⟨rfl, HG.out⟩
set_option maxRecDepth 100000 in
theorem ownNone_any (K : Int) (g : Nat) (f : Value) (w : World) (h0 : w.cell? ⟨g, 0, none⟩ = some (.int .i64 K)) (h : K ≠ 2 ∧ K ≠ 3 ∧ K ≠ 4 ∧ K ≠ 6) :
    Calls Tryz.prog 45 #[.pointer (some ⟨g, 0, none⟩), f] w fun r w' => r = .returned (.tuple #[]) ∧ w' = w := by
  obtain ⟨h2, h3, h4, h6⟩ := h
  have e2 : (K == 2) = false := by simpa using h2
  have e3 : (K == 3) = false := by simpa using h3
  have e4 : (K == 4) = false := by simpa using h4
  have e6 : (K == 6) = false := by simpa using h6
  go_enter Tryz.func45, Tryz.ntmps45
  go_wp2
  go_end0
  exact ⟨rfl, rfl⟩
end Go.Proofs.YtfobnemocodomaaGreat
set_option linter.unusedVariables false
set_option linter.unusedSimpArgs false
set_option maxHeartbeats 4000000
namespace Go.Proofs.YtfobnemocodomaaGreat
open Go.RowKit Go.Shelf Go.Great

def askM : Mx := ⟨1, 1, 2, 3, false, ⟨#[]⟩, Z32L, none, [], 0, none, [], 0, ⟨#[]⟩⟩
theorem askM_ok (w : World) : MxOk w askM := ⟨Z32L_len, Dots.nil _ _, ⟨by simp [askM], fun i h => by simp [askM] at h⟩, by decide, by decide⟩
theorem ask_bare : bareB askM = true := by simp [bareB, askM]
set_option maxRecDepth 100000 in
theorem askCheck_any (w : World) : Calls Tryz.prog 19 #[.agg askM.cells] w fun r w' => r = .returned (.int .i64 0) ∧ Gr w w' := by
  have HB := Lib.hid (World.alloc_heap_new w (.cells askM.cells 37))
  have HG : Hid (Gr w (w.alloc (.cells askM.cells 37))) := Lib.hid ((Gr.rfl' w).al _)
  have HA := mxAt HB.out Z32L_len
  have c0 : (w.alloc (.cells askM.cells 37)).cell? ⟨w.heap.size, 0, none⟩ = some (.int .i64 1) := HA.c0
  have c1 : (w.alloc (.cells askM.cells 37)).cell? ⟨w.heap.size, 1, none⟩ = some (.int .i64 1) := HA.c1
  have c2 : (w.alloc (.cells askM.cells 37)).cell? ⟨w.heap.size, 2, none⟩ = some (.int .i64 2) := HA.c2
  have c3 : (w.alloc (.cells askM.cells 37)).cell? ⟨w.heap.size, 3, none⟩ = some (.int .i64 3) := HA.c3
  clear HA
  generalize hW : w.alloc (.cells askM.cells 37) = W at HB HG c0 c1 c2 c3
  have p1 : peerB 1 = true := by decide
  have p2 : peerB 2 = true := by decide
  go_enter Tryz.func19, Tryz.ntmps19
  go_wp2_with fail
  refine (peer_any 1 _).mono ?_
  rintro r w1 ⟨rfl, rfl⟩
  rw [p1]
  go_wp2_with fail
  refine (peer_any 2 _).mono ?_
  rintro r w1 ⟨rfl, rfl⟩
  rw [p2]
  go_upto_region 8 with (first
    | refine loadM askM Z32L_len rfl (.tmp 1) rfl w.heap.size rfl HB.out ?_
    | refine allocM rfl rfl ?_
    | (refine storeM askM Z32L_len rfl (.tmp 3) _ rfl rfl rfl rfl ?_; intro w2 hx1 hg1; obtain ⟨g2, hg2⟩ : ∃ g, w1.heap.size = g := ⟨_, rfl⟩; rw [hg2] at hx1 ⊢; have HB2 := Lib.hid hx1; have HG2 := Lib.hid hg1; have HS2 := Lib.hid hg2; clear hx1 hg1 hg2))
  have HA2 := mxAt HB2.out Z32L_len
  have k0 : w2.cell? ⟨g2, 0, none⟩ = some (.int .i64 1) := HA2.c0
  have HBB := Lib.hid ((HG2.out.block _ (Array.getElem?_eq_some_iff.1 HB.out).1).trans HB.out)
  have HGW := Lib.hid (HG.out.tr HG2.out)
  clear HA2 HB HG HG2 HS2 c0 c1 c2 c3 hW
  go_wp2_with fail
  refine (ownNone_any 1 g2 _ w2 k0 (by decide)).mono ?_
  rintro r w3 ⟨rfl, rfl⟩
  go_wp2_with (first
    | refine loadM askM Z32L_len rfl (.tmp 3) rfl g2 rfl HB2.out ?_)
  refine (bare_any askM _ Z32L_len).mono ?_
  rintro r w4 ⟨rfl, g4⟩
  rw [ask_bare]
  have hbb4 := (g4.block _ (Array.getElem?_eq_some_iff.1 HBB.out).1).trans HBB.out
  have q0 : w4.cell? ⟨w.heap.size, 0, none⟩ = some (.int .i64 1) := (mxAt hbb4 Z32L_len).c0
  have HG4 := Lib.hid (HGW.out.tr g4)
  clear k0 hbb4 g4 HBB HGW HB2
  have q1 := (Gr.rfl' w4).al (.cells #[.int .i64 0] 93)
  have q2 := q1.cell q0
  have HQ1 := Lib.hid q1
  have q3 := one_of_alloc w4 (.int .i64 0) 93
  clear q1
  go_wp2_with fail
  refine (ownNone_any 1 w.heap.size _ _ q2 (by decide)).mono ?_
  rintro r w5 ⟨rfl, rfl⟩
  go_wp2
  go_ret
  exact ⟨rfl, HG4.out.tr HQ1.out⟩
end Go.Proofs.YtfobnemocodomaaGreat
set_option linter.unusedVariables false
set_option linter.unusedSimpArgs false
set_option maxHeartbeats 4000000
namespace Go.Proofs.YtfobnemocodomaaGreat
open Go.RowKit Go.Shelf Go.Great

theorem yieldsIf_ldM {P : Program} {ops : Array Oper} {S : World → Prop} {o : Oper} {a : Act} (hw : Region.wanted o (yielded ops a.tmps) = true) (ty : TypeId) (x : Operand) (ho : o.op = .load ty x)
    (ad : Addr) (hx : a.eval x = .pointer (some ad)) (cs : List Value) (d : TypeDesc) (hc : ∀ w, S w → ∀ j v, cs[j]? = some v → w.cell? (ad.add j) = some v)
    (hu : P.underlying ty = some d) (hd : d.isRow = true) (hi : (P.info? ty).map (·.size) = some cs.length) : YieldsIf P ops S o (.agg cs.toArray) a := by
  refine Or.inl ⟨hw, fun w hw' => ?_⟩
  unfold execOp
  simp only [ho, hx, Instr.loadAt, Instr.sureAddr, Sem.run_bind, Sem.run_pure, Result.andThen_ok, ldv_run w ad ty cs d (hc w hw') hu hd hi]
def numsW (l : List Int) (s : List UInt8 × Int) : List UInt8 × Int := l.foldl (fun s n => wnum n s) s
theorem numsW_take {l : List Int} {k : Nat} (h : k < l.length) (s : List UInt8 × Int) : numsW (l.take (k + 1)) s = wnum l[k] (numsW (l.take k) s) := by
  rw [List.take_succ_eq_append_getElem h]
  simp only [numsW, List.foldl_append, List.foldl_cons, List.foldl_nil]
theorem numsW_len (l : List Int) (s : List UInt8 × Int) : ∀ k, k ≤ l.length → (numsW (l.take k) s).1.length ≤ s.1.length + 5 * k
  | 0, _ => by simp [numsW]
  | k + 1, h => by
    rw [numsW_take (by omega)]
    have h1 := wnum_len l[k] (numsW (l.take k) s)
    have h3 := numsW_len l s k (by omega)
    omega
theorem ask_out : doneV (numsW [1, 1, 2, 3] ([], 0)) = ([1, 1, 2, 3], 0) := by
  have h : numsW [1, 1, 2, 3] ([], 0) = wnum ((3 : Nat) : Int) (wnum ((2 : Nat) : Int) (wnum ((1 : Nat) : Int) (wnum ((1 : Nat) : Int) ([], 0)))) := rfl
  rw [h, wnum_small 1 (by decide), wnum_small 1 (by decide), wnum_small 2 (by decide), wnum_small 3 (by decide)]
  rfl
set_option maxRecDepth 100000 in
theorem askBytes_any (w : World) : Calls Tryz.prog 18 #[.agg askM.cells] w fun r w' => r = .returned (.tuple #[.string ⟨#[1, 1, 2, 3]⟩, .int .i64 0]) ∧ Gr w w' := by
  have HB := Lib.hid (World.alloc_heap_new w (.cells askM.cells 37))
  have HG : Hid (Gr w (w.alloc (.cells askM.cells 37))) := Lib.hid ((Gr.rfl' w).al _)
  generalize hW : w.alloc (.cells askM.cells 37) = W at HB HG
  go_enter Tryz.func18, Tryz.ntmps18
  go_wp2_with (first
    | refine loadM askM Z32L_len rfl (.tmp 1) rfl w.heap.size rfl HB.out ?_)
  refine (askCheck_any _).mono ?_
  rintro r w1 ⟨rfl, g1⟩
  have HB1 := Lib.hid ((g1.block _ (Array.getElem?_eq_some_iff.1 HB.out).1).trans HB.out)
  have HG1 := Lib.hid (HG.out.tr g1)
  clear g1 hW HB HG
  have HWR := Lib.hid (Wr.new' w1)
  have hga : Gr w1 (w1.alloc (.cells #[.pointer none, .slice none 0 0, .int .i64 0] 82)) := (Gr.rfl' w1).al _
  have HGA := Lib.hid hga
  have HB2 := Lib.hid ((hga.block _ (Array.getElem?_eq_some_iff.1 HB1.out).1).trans HB1.out)
  clear hga
  go_upto_region 5 with (fail)
  obtain ⟨b, hb⟩ : ∃ b, w1.heap.size = b := ⟨_, rfl⟩
  rw [hb] at HWR ⊢
  have HBS := Lib.hid hb
  clear hb
  have HS1 : Hid (w.heap.size < b) := Lib.hid (by have h1 := (Array.getElem?_eq_some_iff.1 HB1.out).1; have h2 := HBS.out; omega)
  generalize w1.alloc (.cells #[.pointer none, .slice none 0 0, .int .i64 0] 82) = w2 at HWR HGA HB2 ⊢
  have HA := mxAt HB2.out Z32L_len
  have c0 : w2.cell? ⟨w.heap.size, 0, none⟩ = some (.int .i64 1) := HA.c0
  have c1 : w2.cell? ⟨w.heap.size, 1, none⟩ = some (.int .i64 1) := HA.c1
  have c2 : w2.cell? ⟨w.heap.size, 2, none⟩ = some (.int .i64 2) := HA.c2
  have c3 : w2.cell? ⟨w.heap.size, 3, none⟩ = some (.int .i64 3) := HA.c3
  clear HA HB1
  have HRW := Lib.hid (World.alloc_heap_new w2 (.cells #[.int .i64 1, .int .i64 1, .int .i64 2, .int .i64 3] 3))
  have HGR : Hid (Gr w2 (w2.alloc (.cells #[.int .i64 1, .int .i64 1, .int .i64 2, .int .i64 3] 3))) := Lib.hid ((Gr.rfl' w2).al _)
  go_upto_region 6 with (fail)
  obtain ⟨ga, hga⟩ : ∃ g, w2.heap.size = g := ⟨_, rfl⟩
  rw [hga] at HRW ⊢
  have HBA : Hid (b < ga) := Lib.hid (by have := HWR.out.lt; omega)
  have HW3 := Lib.hid (HWR.out.gr HGR.out)
  have HB3 := Lib.hid ((HGR.out.block _ (Array.getElem?_eq_some_iff.1 HB2.out).1).trans HB2.out)
  have HG3 := Lib.hid (HG1.out.tr (HGA.out.tr HGR.out))
  clear hga c0 c1 c2 c3 HB2 HWR HGA
  generalize w2.alloc (.cells #[.int .i64 1, .int .i64 1, .int .i64 2, .int .i64 3] 3) = w3 at HRW HGR HW3 HB3 HG3 ⊢
  clear HGR
  have HM0 := Lib.hid (Wm.refl b b w3)
  go_loopw [25] (fun i wr => ∃ k : Nat, k ≤ 4 ∧ i = .int .i64 k ∧ Hid (Wr b b (numsW (([1, 1, 2, 3] : List Int).take k) ([], 0)).1 (numsW (([1, 1, 2, 3] : List Int).take k) ([], 0)).2 wr) ∧ Hid (Wm b b w3 wr)) (fun i _ => 4 - (intOf i).toNat)
  case atStart => exact ⟨0, by omega, rfl, HW3, HM0⟩
  case round =>
    clear HM0 HW3
    obtain ⟨k, hk, rfl, HW, HM⟩ := hrel
    by_cases hlt : k < 4
    · have hki : (k : Int) < 4 := by omega
      have hrow := HM.out.typ _ _ HRW.out (by have := HBA.out; omega) (by rfl)
      obtain ⟨n, hn⟩ : ∃ n : Int, ([1, 1, 2, 3] : List Int)[k]? = some n := ⟨_, List.getElem?_eq_getElem (by simpa using hlt)⟩
      have hcell : wr.cell? ⟨ga, k, none⟩ = some (.int .i64 n) := by
        simp only [World.cell?, hrow]
        rcases (by omega : k = 0 ∨ k = 1 ∨ k = 2 ∨ k = 3) with rfl | rfl | rfl | rfl <;> simp at hn <;> subst hn <;> rfl
      have hst : numsW (([1, 1, 2, 3] : List Int).take (k + 1)) ([], 0) = wnum n (numsW (([1, 1, 2, 3] : List Int).take k) ([], 0)) := by
        rw [numsW_take (by simpa using hlt)]
        obtain ⟨_, e⟩ := List.getElem?_eq_some_iff.1 hn
        rw [e]
      have hln := numsW_len [1, 1, 2, 3] ([], 0) k (by simpa using hk)
      have HN := Lib.hid (wNumber_any b b _ _ n wr HW.out (by simp only [List.length_nil] at hln; omega))
      have HST := Lib.hid hst
      clear hst hrow hn hln
      go_wp2_with fail
      refine (HN.out).mono ?_
      rintro r w4 ⟨rfl, h4, m4⟩
      have H4 : Hid (Wr b b (numsW (([1, 1, 2, 3] : List Int).take (k + 1)) ([], 0)).1 (numsW (([1, 1, 2, 3] : List Int).take (k + 1)) ([], 0)).2 w4) := by show Wr _ _ _ _ _; rw [HST.out]; exact h4
      have M4 := Lib.hid (HM.out.trans m4)
      clear h4 m4 hcell HN
      go_wp2
      go_roundw
      case rel => exact ⟨k + 1, by omega, by go_num, H4, M4⟩
      case measure => simp [intOf]; omega
    · have hk4 : k = 4 := by omega
      subst hk4
      have hki : ¬ ((4 : Nat) : Int) < 4 := by omega
      have hb5 := HM.out.typ _ _ HB3.out (by have := HS1.out; omega) (by rfl)
      have q0 : wr.cell? ⟨w.heap.size, 0, none⟩ = some (.int .i64 1) := (mxAt hb5 Z32L_len).c0
      have HW' : Hid (Wr b b (numsW [1, 1, 2, 3] ([], 0)).1 (numsW [1, 1, 2, 3] ([], 0)).2 wr) := HW
      clear hb5 HW
      go_wp2_with fail
      refine (ownNone_any 1 w.heap.size _ wr q0 (by decide)).mono ?_
      rintro r w5 ⟨rfl, rfl⟩
      have HD := Lib.hid (wDone_any b b _ _ _ HW'.out)
      rw [show ((numsW [1, 1, 2, 3] ([], 0)).1, (numsW [1, 1, 2, 3] ([], 0)).2) = numsW [1, 1, 2, 3] ([], 0) from rfl, ask_out] at HD
      clear q0
      go_wp2_with fail
      refine (HD.out).mono ?_
      rintro r w6 ⟨rfl, m6⟩
      go_wp2
      go_ret2
      exact ⟨rfl, (HM.out.trans m6).below HG3.out (by have := HS1.out; omega)⟩
theorem askBuilt : Tryz.prog.built 37 [(0, .int .i64 1), (1, .int .i64 1), (2, .int .i64 2), (3, .int .i64 3)] = some askM.cells := by kernel_rfl
theorem buildAsk {ops : Array Oper} {rest : List Oper} {o : Oper} {a : Act} {w : World} {Q : Exit → Act → World → Prop} (hg : o.guard = none)
    (ho : o.op = .build 37 #[(0, .const (.int .i64 1)), (1, .const (.int .i64 1)), (2, .const (.int .i64 2)), (3, .const (.int .i64 3))])
    (h : wpList Tryz.prog ops Q rest (a.put o.dst (.agg askM.cells)) w) : wpList Tryz.prog ops Q (o :: rest) a w := by
  have e : ((#[(0, .const (.int .i64 1)), (1, .const (.int .i64 1)), (2, .const (.int .i64 2)), (3, .const (.int .i64 3))] : Array (Nat × Operand)).map fun (i, x) => (i, a.eval x)).toList = [(0, .int .i64 1), (1, .int .i64 1), (2, .int .i64 2), (3, .int .i64 3)] := by simp [Act.eval]
  refine wpList_build hg 37 _ ho (by rw [e, askBuilt]; rfl) ?_
  rw [e, askBuilt]; exact h
set_option maxRecDepth 100000 in
theorem mAwake_any (w : World) : Calls Tryz.prog 13 #[] w fun r w' => r = .returned (.bool true) ∧ Gr w w' := by
  go_enter Tryz.func13, Tryz.ntmps13
  go_wp2_with (first | refine buildAsk rfl rfl ?_)
  refine (askBytes_any _).mono ?_
  rintro r w1 ⟨rfl, g1⟩
  go_wp2
  go_ret
  exact ⟨rfl, g1⟩
theorem loadMG {ops : Array Oper} {rest : List Oper} {o : Oper} {a : Act} {w : World} {Q : Exit → Act → World → Prop} (c : Mx) (hc : c.R.length = 32) (hw : Region.wanted o (yielded ops a.tmps) = true) (x : Operand) (ho : o.op = .load 37 x) (g : Nat)
    (hx : a.eval x = .pointer (some ⟨g, 0, none⟩)) (hb : w.heap[g]? = some (.cells c.cells 37 (0, 0)))
    (h : wpList Tryz.prog ops Q rest (a.put o.dst (.agg c.cells)) w) : wpList Tryz.prog ops Q (o :: rest) a w := by
  refine ldG_at hw 37 x ho ⟨g, 0, none⟩ hx c.cells.toList _ (fun j v hj => ?_) Tryz.underlying37 rfl (by rw [Array.length_toList, Mx.size c hc]; exact sizeM) h
  rw [add_midM, Nat.zero_add]
  simp only [World.cell?, hb]
  simpa using hj
end Go.Proofs.YtfobnemocodomaaGreat
