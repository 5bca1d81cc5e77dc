/- ops.Bytes; awake; OpsChecks. -/
import Derived.Test.YtjjdgmabgiembaaDoorOpsF
import Derived.Deep.WholeRow
set_option linter.unusedVariables false
set_option linter.unusedSimpArgs false
set_option maxHeartbeats 400000
namespace Go.Proofs.YtjjdgmabgiembaaDoor
open Go.RowKit Go.Shelf Go.Great

/-- operations in the heap -/
def Oxs (w : World) (A : Option Addr) (l : List Opx) : Prop :=
  l.length ≤ 9223372036854775807 ∧ ∀ i (h : i < l.length), ∃ ad, A = some ad ∧ (l[i].Pa.size ≤ 9223372036854775807 ∧ l[i].Da.size ≤ 9223372036854775807) ∧ ∀ j v, l[i].cells[j]? = some v → w.cell? ((ad.add (i * 8)).add j) = some v
theorem Oxs.gr {w w' : World} {A : Option Addr} {l : List Opx} (h : Oxs w A l) (g : Gr w w') : Oxs w' A l :=
  ⟨h.1, fun i hi => let ⟨ad, e, a, b⟩ := h.2 i hi; ⟨ad, e, a, fun j v hj => g.cell (b j v hj)⟩⟩

/-- a variable of several cells, read whole, wherever it lies -/
theorem run_loadVar_at {P : Program} (w : World) (a : Addr) (ty : TypeId) (cs : List Value) (d : TypeDesc) (hc : ∀ j v, cs[j]? = some v → w.cell? (a.add j) = some v)
    (hu : P.underlying ty = some d) (hd : d.isRow = true) (hi : (P.info? ty).map (·.size) = some cs.length) :
    (loadVar ty a).run P w = .ok (.agg cs.toArray) w := by
  have hl : (loadCells a cs.length).run P w = .ok cs.toArray w := run_loadCells_list (P := P) w a cs hc
  cases hq : P.info? ty with
  | none => simp [hq] at hi
  | some i =>
    have hs : i.size = cs.length := by simpa [hq] using hi
    have hagg : (isAgg ty).run P w = .ok true w := by
      unfold isAgg
      rw [Sem.run_bind, run_underlying hu w]
      cases d <;> simp_all
    simp [loadVar, Sem.run_bind, hagg, sizeOf, typeInfo, hq, hs, hl]
theorem wpList_load_at {P : Program} {ops : Array Oper} {rest : List Oper} {op : Oper} {a : Act} {w : World} {Q : Exit → Act → World → Prop} (hgd : op.guard = none) (ty : TypeId) (x : Operand) (ho : op.op = .load ty x)
    (ad : Addr) (hx : a.eval x = .pointer (some ad)) (cs : List Value) (d : TypeDesc) (hc : ∀ j v, cs[j]? = some v → w.cell? (ad.add j) = some v)
    (hu : P.underlying ty = some d) (hd : d.isRow = true) (hi : (P.info? ty).map (·.size) = some cs.length)
    (h : wpList P ops Q rest (a.put op.dst (.agg cs.toArray)) w) : wpList P ops Q (op :: rest) a w := by
  refine wpList_plain hgd fun _ hK => ?_
  unfold Oper.wp execOp
  simp only [ho, hx, Instr.loadAt, Instr.sureAddr, Sem.run_bind, Sem.run_pure, Result.andThen_ok, run_loadVar_at w ad ty cs d hc hu hd hi]
  exact hK _ _ h

def oputs (l : List Opx) (s : List UInt8 × Int) : List UInt8 × Int := l.foldl (fun s x => oput x s) s
theorem oputs_take {l : List Opx} {k : Nat} (h : k < l.length) (s : List UInt8 × Int) : oputs (l.take (k + 1)) s = oput l[k] (oputs (l.take k) s) := by
  rw [List.take_succ_eq_append_getElem h]
  simp only [oputs, List.foldl_append, List.foldl_cons, List.foldl_nil]
theorem wfail_lenL (f : Int) (s : List UInt8 × Int) : (wfail f s).1.length = s.1.length := by unfold wfail; split <;> rfl
theorem sum4 {a b c d e : Nat} (h1 : a ≤ b + 65541 * 2) (h2 : b ≤ c + 5 * 4) (h3 : c ≤ d + 5) (h4 : d ≤ e + 5) : a ≤ e + 131112 := by omega
theorem tn_len (x : Opx) (fl : Int) (s : List UInt8 × Int) : (tTo fl [x.Pa, x.Da] (nTo fl [x.T, x.N, x.A, x.M] (wnum x.P (wnum x.K s)) 4) 2).1.length ≤ s.1.length + 131112 := by
  have h1 := tTo_len fl [x.Pa, x.Da] (nTo fl [x.T, x.N, x.A, x.M] (wnum x.P (wnum x.K s)) 4) 2
  have h2 := nTo_len fl [x.T, x.N, x.A, x.M] (wnum x.P (wnum x.K s)) 4
  have h3 := wnum_len x.P (wnum x.K s)
  have h4 := wnum_len x.K s
  exact sum4 h1 h2 h3 h4
set_option maxRecDepth 100000 in
theorem oput_len (x : Opx) (s : List UInt8 × Int) : (oput x s).1.length ≤ s.1.length + 131112 := by
  unfold oput
  split
  · rename_i hh; rw [wfail_lenL]; clear hh; omega
  · rename_i hh
    clear hh
    exact tn_len x (flds.getD x.K.toNat 0) s
theorem add131 {a b c k : Nat} (h1 : a ≤ b + 131112) (h2 : b ≤ c + 131112 * k) : a ≤ c + 131112 * (k + 1) := by
  rw [Nat.mul_succ, ← Nat.add_assoc]
  exact Nat.le_trans h1 (Nat.add_le_add_right h2 _)
theorem oputs_len (l : List Opx) (s : List UInt8 × Int) : ∀ k, k ≤ l.length → (oputs (l.take k) s).1.length ≤ s.1.length + 131112 * k
  | 0, _ => by simp [oputs]
  | k + 1, h => by
    rw [oputs_take (Nat.lt_of_succ_le h)]
    exact add131 (oput_len l[k] (oputs (l.take k) s)) (oputs_len l s k (Nat.le_of_succ_le h))
/-- what a script comes to -/
def bytesV (l : List Opx) : List UInt8 × Int := if 400 < l.length then ([], 2) else doneV (oputs l (wnum l.length ([], 0)))
theorem Wr.new' (w1 : World) : Wr w1.heap.size w1.heap.size [] 0 (w1.alloc (.cells #[.pointer none, .slice none 0 0, .int .i64 0] 47)) :=
  ⟨.pointer none, .slice none 0 0, Nat.le_refl _, .inl rfl, World.alloc_heap_new _ _, World.ownsRow_nil _ _ _ _, fun _ => rfl⟩
def Z8 : Array Value := #[.int .i64 0, .int .i64 0, .int .i64 0, .int .i64 0, .int .i64 0, .int .i64 0, .string ⟨#[]⟩, .string ⟨#[]⟩]
theorem Z8_info : (Tryd.prog.info? 23).map (fun i => (i.zero, i.size)) = some (some (.agg Z8), 8) := by kernel_rfl
theorem alloc8 {ops : Array Oper} {rest : List Oper} {o : Oper} {a : Act} {w : World} {Q : Exit → Act → World → Prop} (hg : o.guard = none) (ho : o.op = .alloc 23)
    (h : wpList Tryd.prog ops Q rest (a.put o.dst (.pointer (some ⟨w.heap.size, 0, none⟩))) (w.alloc (.cells Z8 23))) : wpList Tryd.prog ops Q (o :: rest) a w := by
  refine wpList_allocTo hg o.dst rfl _ (.cells Z8 23) ?_ h
  have hz := (zero_of_info Z8_info).1
  unfold execOp
  simp [ho, Instr.alloc, hz, Value.cells, go_sem]
theorem store8 {ops : Array Oper} {rest : List Oper} {o : Oper} {a : Act} {w : World} {Q : Exit → Act → World → Prop} (c : Opx) (hg : o.guard = none) (x y : Operand) (ho : o.op = .store 23 x y) (hd : o.dst = none)
    (hx : a.eval x = .pointer (some ⟨w.heap.size, 0, none⟩)) (hy : a.eval y = .agg c.cells)
    (h : wpList Tryd.prog ops Q rest a (w.alloc (.cells c.cells 23))) : wpList Tryd.prog ops Q (o :: rest) a (w.alloc (.cells Z8 23)) := by
  refine wpList_store_row hg 23 x y ho w.heap.size c.cells hx hy 23 Z8 (World.alloc_heap_new w _) (by kernel_rfl) (by rfl) (by simp [Opx.cells, Value.oneCell']) ?_
  rw [World.setRow_alloc_new, hd]
  exact h

set_option maxRecDepth 100000 in
set_option maxHeartbeats 1000000 in
theorem Bytes_any (A : Option Addr) (cap : Nat) (l : List Opx) (w : World) (hO : Oxs w A l) (hF : Fl w) :
    Calls Tryd.prog 11 #[.slice A l.length cap] w fun r w' => r = .returned (.tuple #[.string ⟨(bytesV l).1.toArray⟩, .int .i64 (bytesV l).2]) ∧ Gr w w' := by
  have HO := Lib.hid hO; clear hO
  have HF := Lib.hid hF; clear hF
  have hll := HO.out.1
  by_cases h4 : 400 < l.length
  · have h4i : (400 : Int) < l.length := by omega
    have hX : Hid (bytesV l = ([], 2)) := by show _ = _; unfold bytesV; rw [if_pos h4]
    go_enter Tryd.func11, Tryd.ntmps11
    go_wp2
    go_ret2
    rw [hX.out]
    exact ⟨rfl, Gr.rfl' _⟩
  · have h4i : ¬ (400 : Int) < l.length := by omega
    have hX : Hid (bytesV l = doneV (oputs l (wnum l.length ([], 0)))) := by show _ = _; unfold bytesV; rw [if_neg h4]
    have HW := Lib.hid (Wr.new' w)
    have hga := Lib.hid ((Gr.rfl' w).al (.cells #[.pointer none, .slice none 0 0, .int .i64 0] 47))
    have hl1 := wnum_len l.length ([], 0)
    have HL := Lib.hid (oputs_len l (wnum l.length ([], 0)))
    simp only [List.length_nil] at hl1
    go_enter Tryd.func11, Tryd.ntmps11
    go_wp2_with fail
    refine (wNum2 _ _ ([], 0) l.length _ HW.out (by decide)).mono ?_
    rintro r w1 ⟨rfl, h1, m1⟩
    have H1 := Lib.hid h1
    have hG1 := Lib.hid (m1.below hga.out (Nat.le_refl _))
    clear h1 m1
    go_wp2
    go_loopw [18] (fun i wr => ∃ k : Nat, k ≤ l.length ∧ i = .int .i64 k ∧ Hid (Wr w.heap.size w.heap.size (oputs (l.take k) (wnum l.length ([], 0))).1 (oputs (l.take k) (wnum l.length ([], 0))).2 wr) ∧ Hid (Gr w wr)) (fun i _ => l.length - (intOf i).toNat)
    case atStart => exact ⟨0, Nat.zero_le _, rfl, H1, hG1⟩
    case round =>
      clear H1 hG1
      obtain ⟨k, hk, rfl, HWr, HG⟩ := hrel
      by_cases hlt : k < l.length
      · have hki : (k : Int) < l.length := by omega
        have hlk := HL.out k hk
        obtain ⟨ad, rfl, _, hcs⟩ := (HO.out.gr HG.out).2 k hlt
        have HCS : Hid (∀ j v, l[k].cells.toList[j]? = some v → wr.cell? ((ad.add (k * 8)).add j) = some v) := fun j v hv => hcs j v (by simpa using hv)
        clear hcs
        have hgl := Lib.hid ((Gr.rfl' wr).al (.cells l[k].cells 23))
        go_wp2_with (first | refine wpList_load_at rfl 23 _ rfl _ rfl l[k].cells.toList _ HCS.out Tryd.underlying23 rfl (by kernel_rfl) ?_ | refine alloc8 rfl rfl ?_ | refine store8 l[k] rfl _ _ rfl rfl rfl rfl ?_ | refine wpList_load_row rfl 23 _ rfl wr.heap.size rfl 23 l[k].cells (0, 0) _ (World.alloc_heap_new wr _) Tryd.underlying23 rfl (by kernel_rfl) ?_)
        refine (put_any w.heap.size w.heap.size (oputs (l.take k) (wnum l.length ([], 0))) l[k] w _ HF.out (HG.out.tr hgl.out) (Nat.le_refl _) (HWr.out.gr hgl.out) (by omega)).mono ?_
        rintro r w2 ⟨rfl, h2, m2⟩
        have H2 : Hid (Wr w.heap.size w.heap.size (oputs (l.take (k + 1)) (wnum l.length ([], 0))).1 (oputs (l.take (k + 1)) (wnum l.length ([], 0))).2 w2) := by show Wr _ _ _ _ _; rw [oputs_take hlt]; exact h2
        have HG2 := Lib.hid (m2.below (HG.out.tr hgl.out) (Nat.le_refl _))
        clear h2 m2
        go_wp2
        go_roundw
        case rel => exact ⟨k + 1, by omega, by go_num, H2, HG2⟩
        case measure => simp [intOf]; omega
      · have hkk : k = l.length := by omega
        subst hkk
        rw [List.take_length] at HWr
        go_wp2_with fail
        refine (wDone_any _ _ _ _ _ HWr.out).mono ?_
        rintro r w2 ⟨rfl, m2⟩
        go_wp2
        go_ret2
        rw [hX.out]
        exact ⟨rfl, m2.below HG.out (Nat.le_refl _)⟩

def aw : Opx := ⟨10, 2, 0, 0, 0, 0, ⟨#[]⟩, ⟨#[]⟩⟩
theorem wnum_small (n : Nat) (h : n < 128) (L : List UInt8) : wnum (n : Int) (L, 0) = (L ++ [UInt8.ofNat n], 0) := by
  have hk : numOk (n : Int) = true := by simp [numOk]; omega
  have hp : putS n = ⟨#[UInt8.ofNat n]⟩ := by rw [putS_nat n (by omega), grpN_small h]; simp [strOfNums]
  unfold wnum wput
  rw [hk, hp]
  simp
theorem aw_chk : ochk aw = 0 := by decide +kernel
theorem aw_bytes : bytesV [aw] = ([1, 10, 2], 0) := by
  have h1 : wnum (([aw] : List Opx).length : Int) ([], 0) = ([1], 0) := wnum_small 1 (by decide) []
  unfold bytesV
  rw [if_neg (by decide), h1]
  have h2 : oputs [aw] ([1], 0) = oput aw ([1], 0) := rfl
  have h3 : oput aw ([1], 0) = wnum ((2 : Nat) : Int) (wnum ((10 : Nat) : Int) ([1], 0)) := by
    unfold oput
    rw [if_neg (by rw [aw_chk]; simp)]
    rfl
  rw [h2, h3, wnum_small 10 (by decide), wnum_small 2 (by decide)]
  rfl

set_option maxRecDepth 100000 in
theorem awake_any (w : World) (hF : Fl w) : Calls Tryd.prog 9 #[] w fun r w' => r = .returned (.bool true) ∧ Gr w w' := by
  have hga := Lib.hid ((Gr.rfl' w).al (.cells aw.cells 23))
  have hO : Hid (Oxs (w.alloc (.cells aw.cells 23)) (some ⟨w.heap.size, 0, none⟩) [aw]) := by
    refine ⟨by simp, fun i hi => ⟨_, rfl, ⟨by simp at hi; subst hi; exact Nat.zero_le _, by simp at hi; subst hi; exact Nat.zero_le _⟩, ?_⟩⟩
    have : i = 0 := by simp at hi; omega
    subst this
    intro j v hv
    exact cells_newB w aw.cells.toList _ j v (by simpa using hv)
  have hF1 := Lib.hid (hF.gr hga.out)
  clear hF
  unfold aw Opx.cells at hga hO hF1
  go_enter Tryd.func9, Tryd.ntmps9
  go_wp2_with fail
  refine (Bytes_any _ 1 [aw] _ hO.out hF1.out).mono ?_
  rintro r w1 ⟨rfl, hg1⟩
  rw [aw_bytes]
  go_wp2
  go_ret
  exact ⟨rfl, hga.out.tr hg1⟩

set_option maxRecDepth 100000 in
theorem OpsChecks_any (x : Opx) (w : World) (hF : Fl w) : Calls Tryd.prog 3 #[.agg x.cells] w fun r w' => r = .returned (.bool true) ∧ Gr w w' := by
  have HF := Lib.hid hF; clear hF
  have hg := (Gr.rfl' w).al (.cells x.cells 23)
  have HB0 := Lib.hid (World.alloc_heap_new w (.cells x.cells 23))
  have hcells : x.cells = #[.int .i64 x.K, .int .i64 x.P, .int .i64 x.T, .int .i64 x.N, .int .i64 x.A, .int .i64 x.M, .string x.Pa, .string x.Da] := rfl
  have hCk := Lib.hid (oCheck_any x)
  have hRk := Lib.hid (refCheck_any x)
  rw [hcells] at hg HB0 hCk hRk ⊢
  clear hcells
  go_enter Tryd.func3, Tryd.ntmps3
  go_upto_region 1 with (fail)
  obtain ⟨W, hW⟩ : ∃ W, w.alloc (.cells #[.int .i64 x.K, .int .i64 x.P, .int .i64 x.T, .int .i64 x.N, .int .i64 x.A, .int .i64 x.M, .string x.Pa, .string x.Da] 23) = W := ⟨_, rfl⟩
  rw [hW] at hg HB0 ⊢
  clear hW
  have hcell : ∀ (W' : World), Gr W W' → ∀ (j : Nat) (v : Value), (#[.int .i64 x.K, .int .i64 x.P, .int .i64 x.T, .int .i64 x.N, .int .i64 x.A, .int .i64 x.M, .string x.Pa, .string x.Da] : Array Value)[j]? = some v → W'.cell? ⟨w.heap.size, j, none⟩ = some v := fun W' g' j v hv => by
    have hb := (g'.block _ (Array.getElem?_eq_some_iff.1 HB0.out).1).trans HB0.out
    simp only [World.cell?, hb]
    exact hv
  have HC := Lib.hid hcell
  clear hcell HB0
  have hgd : Gr W W.drew := (Gr.rfl' _).dr
  go_region_held3 (fun w' => w'.cell? ⟨w.heap.size, 0, none⟩ = some (.int .i64 x.K) ∧ w'.cell? ⟨w.heap.size, 1, none⟩ = some (.int .i64 x.P) ∧ w'.cell? ⟨w.heap.size, 2, none⟩ = some (.int .i64 x.T) ∧ w'.cell? ⟨w.heap.size, 3, none⟩ = some (.int .i64 x.N) ∧ w'.cell? ⟨w.heap.size, 4, none⟩ = some (.int .i64 x.A) ∧ w'.cell? ⟨w.heap.size, 5, none⟩ = some (.int .i64 x.M) ∧ w'.cell? ⟨w.heap.size, 6, none⟩ = some (.string x.Pa) ∧ w'.cell? ⟨w.heap.size, 7, none⟩ = some (.string x.Da)) (exact ⟨HC.out _ hgd 0 _ rfl, HC.out _ hgd 1 _ rfl, HC.out _ hgd 2 _ rfl, HC.out _ hgd 3 _ rfl, HC.out _ hgd 4 _ rfl, HC.out _ hgd 5 _ rfl, HC.out _ hgd 6 _ rfl, HC.out _ hgd 7 _ rfl⟩) (first
    | (go_at_call 7; refine (hCk.out _ (HF.out.gr (hg.tr hgd))).mono ?_; rintro r wc ⟨rfl, hgc⟩; replace hgd := hgd.tr hgc; clear hgc)
    | (go_at_call 8; refine (hRk.out _).mono ?_; rintro r wc ⟨rfl, hgc⟩; replace hgd := hgd.tr hgc; clear hgc)
    | (go_at_call 9; refine (awake_any _ (HF.out.gr (hg.tr hgd))).mono ?_; rintro r wc ⟨rfl, hgc⟩; replace hgd := hgd.tr hgc; clear hgc))
  all_goals
    go_wp2
    go_ret
    exact ⟨rfl, hg.tr hgd⟩
end Go.Proofs.YtjjdgmabgiembaaDoor
