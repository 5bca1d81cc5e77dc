/- Two lists of versions: whether they are the same. -/
import Derived.Test.YtfobnemocodomaaSibA
import Derived.Deep.WholeRow
import Derived.Great.Walk
set_option linter.unusedVariables false
set_option linter.unusedSimpArgs false
set_option maxHeartbeats 2000000
namespace Go.Proofs.Ytfobnemocodomaa
open Go.RowKit Go.Great

/-- a variable of several cells, read whole, wherever it lies -/
theorem ldv_run {P : Program} (w : World) (a : Addr) (ty : TypeId) (cs : List Value) (d : TypeDesc) (hc : ∀ j v, cs[j]? = some v → w.cell? (a.add j) = some v)
    (hu : P.underlying ty = some d) (hd : d.isRow = true) (hi : (P.info? ty).map (·.size) = some cs.length) :
    (loadVar ty a).run P w = .ok (.agg cs.toArray) w := by
  have hl : (loadCells a cs.length).run P w = .ok cs.toArray w := run_loadCells_list (P := P) w a cs hc
  cases hq : P.info? ty with
  | none => simp [hq] at hi
  | some i =>
    have hs : i.size = cs.length := by simpa [hq] using hi
    have hagg : (isAgg ty).run P w = .ok true w := by
      unfold isAgg
      rw [Sem.run_bind, run_underlying hu w]
      cases d <;> simp_all
    simp [loadVar, Sem.run_bind, hagg, sizeOf, typeInfo, hq, hs, hl]
theorem ld_at {P : Program} {ops : Array Oper} {rest : List Oper} {op : Oper} {a : Act} {w : World} {Q : Exit → Act → World → Prop} (hgd : op.guard = none) (ty : TypeId) (x : Operand) (ho : op.op = .load ty x)
    (ad : Addr) (hx : a.eval x = .pointer (some ad)) (cs : List Value) (d : TypeDesc) (hc : ∀ j v, cs[j]? = some v → w.cell? (ad.add j) = some v)
    (hu : P.underlying ty = some d) (hd : d.isRow = true) (hi : (P.info? ty).map (·.size) = some cs.length)
    (h : wpList P ops Q rest (a.put op.dst (.agg cs.toArray)) w) : wpList P ops Q (op :: rest) a w := by
  refine wpList_plain hgd fun _ hK => ?_
  unfold Oper.wp execOp
  simp only [ho, hx, Instr.loadAt, Instr.sureAddr, Sem.run_bind, Sem.run_pure, Result.andThen_ok, ldv_run w ad ty cs d hc hu hd hi]
  exact hK _ _ h

def Z5 : Array Value := #[.int .i64 0, .int .i64 0, .slice none 0 0, .bool false, .string ⟨#[]⟩]
theorem Z5_info : (Try.prog.info? 49).map (fun i => (i.zero, i.size)) = some (some (.agg Z5), 5) := by kernel_rfl
theorem allocV {ops : Array Oper} {rest : List Oper} {o : Oper} {a : Act} {w : World} {Q : Exit → Act → World → Prop} (hg : o.guard = none) (ho : o.op = .alloc 49)
    (h : wpList Try.prog ops Q rest (a.put o.dst (.pointer (some ⟨w.heap.size, 0, none⟩))) (w.alloc (.cells Z5 49))) : wpList Try.prog ops Q (o :: rest) a w := by
  refine wpList_allocTo hg o.dst rfl _ (.cells Z5 49) ?_ h
  have hz := (zero_of_info Z5_info).1
  unfold execOp
  simp [ho, Instr.alloc, hz, Value.cells, go_sem]
theorem storeV {ops : Array Oper} {rest : List Oper} {o : Oper} {a : Act} {w : World} {Q : Exit → Act → World → Prop} (c : Vx) (hg : o.guard = none) (x y : Operand) (ho : o.op = .store 49 x y) (hd : o.dst = none)
    (hx : a.eval x = .pointer (some ⟨w.heap.size, 0, none⟩)) (hy : a.eval y = .agg c.cells)
    (h : ∀ wt : World, wt.heap[w.heap.size]? = some (.cells c.cells 49 (0, 0)) → Gr w wt → wpList Try.prog ops Q rest a wt) : wpList Try.prog ops Q (o :: rest) a (w.alloc (.cells Z5 49)) := by
  refine wpList_store_row hg 49 x y ho w.heap.size c.cells hx hy 49 Z5 (World.alloc_heap_new w _) (by kernel_rfl) (by rfl) (vOne c) ?_
  rw [World.setRow_alloc_new, hd]
  exact h _ (World.alloc_heap_new _ _) ((Gr.rfl' w).al _)

theorem vsames_len : ∀ (a b : List Vx), a.length ≠ b.length → vsames a b = false
  | [], [], h => absurd rfl h
  | [], _ :: _, _ => rfl
  | _ :: _, [], _ => rfl
  | x :: a, y :: b, h => by
    unfold vsames
    rw [vsames_len a b (fun e => h (by simp [e]))]; simp
theorem vsames_step {a b : List Vx} {k : Nat} (h1 : k < a.length) (h2 : k < b.length) : vsames (a.drop k) (b.drop k) = (vsame a[k] b[k] && vsames (a.drop (k + 1)) (b.drop (k + 1))) := by
  rw [List.drop_eq_getElem_cons h1, List.drop_eq_getElem_cons h2]; rfl

set_option maxRecDepth 100000 in
theorem vEqF_any (A B : Option Addr) (ca cb : Nat) (a b : List Vx) (w : World) (h1 : Vers w A a) (h2 : Vers w B b) :
    Calls Try.prog 110 #[.slice A a.length ca, .slice B b.length cb, .func (.func 111) #[] #[]] w fun r w' => r = .returned (.bool (vsames a b)) ∧ Gr w w' := by
  have H1 := Lib.hid h1; clear h1
  have H2 := Lib.hid h2; clear h2
  have hm := H1.out.1
  have hg0 := Lib.hid (Gr.rfl' w)
  by_cases hlen : a.length = b.length
  · have hlb : ((a.length : Int) != (b.length : Int)) = false := by simp [hlen]
    have HL := Lib.hid hlen; clear hlen
    go_enter Try.func110, Try.ntmps110
    go_wp2
    go_loopw [17] (fun i wr => ∃ k : Nat, k ≤ a.length ∧ i = .int .i64 k ∧ Hid (vsames a b = vsames (a.drop k) (b.drop k)) ∧ Hid (Gr w wr)) (fun i _ => a.length - (intOf i).toNat)
    case atStart => exact ⟨0, Nat.zero_le _, rfl, Lib.hid rfl, hg0⟩
    case round =>
      clear hg0
      obtain ⟨k, hk, rfl, hch, HG⟩ := hrel
      by_cases hlt : k < a.length
      · have hlt2 : k < b.length := by rw [← HL.out]; exact hlt
        have hi1 : (k : Int) < (a.length : Int) := by omega
        have hi2 : (k : Int) < (b.length : Int) := by omega
        obtain ⟨ad, rfl, hvx, hcx⟩ := (H1.out.gr HG.out).2 k hlt
        obtain ⟨bd, rfl, hvy, hcy⟩ := (H2.out.gr HG.out).2 k hlt2
        have hst := vsames_step hlt hlt2
        rw [← hch.out] at hst
        obtain ⟨x, hx⟩ : ∃ x, a[k] = x := ⟨_, rfl⟩
        obtain ⟨y, hy⟩ : ∃ y, b[k] = y := ⟨_, rfl⟩
        rw [hx] at hvx hcx hst
        rw [hy] at hvy hcy hst
        have HVX := Lib.hid hvx
        have HVY := Lib.hid hvy
        have HST := Lib.hid hst
        have HCX : Hid (∀ j v, x.cells.toList[j]? = some v → wr.cell? ((ad.add (k * 5)).add j) = some v) := Lib.hid fun j v hj => hcx j v (by simpa using hj)
        have HCY : Hid (∀ W, Gr wr W → ∀ j v, y.cells.toList[j]? = some v → W.cell? ((bd.add (k * 5)).add j) = some v) := Lib.hid fun W g j v hj => g.cell (hcy j v (by simpa using hj))
        clear hvx hcx hvy hcy hst hx hy hch
        by_cases hs : vsame x y = true
        · have HN : Hid (vsames a b = vsames (a.drop (k + 1)) (b.drop (k + 1))) := Lib.hid (by rw [HST.out, hs]; simp)
          go_wp2_with (first
            | refine ld_at rfl 49 (.tmp 20) rfl _ rfl x.cells.toList _ HCX.out Try.underlying49 rfl (by kernel_rfl) ?_
            | refine ld_at rfl 49 (.tmp 24) rfl _ rfl y.cells.toList _ (HCY.out _ G1.out) Try.underlying49 rfl (by kernel_rfl) ?_
            | refine allocV rfl rfl ?_
            | (refine storeV x rfl (.tmp 8) _ rfl rfl rfl rfl ?_; intro W1 hx1 hg1; have HX1 := Lib.hid hx1; have G1 := Lib.hid hg1; clear hx1 hg1)
            | (refine storeV y rfl (.tmp 9) _ rfl rfl rfl rfl ?_; intro W2 hx2 hg2; have HX2 := Lib.hid hx2; have G2 := Lib.hid (G1.out.tr hg2); have HX12 := Lib.hid ((hg2.block _ (Array.getElem?_eq_some_iff.1 HX1.out).1).trans HX1.out); clear hx2 hg2)
            | refine wpList_load_row rfl 49 (.tmp 8) rfl wr.heap.size rfl 49 x.cells (0, 0) _ HX12.out Try.underlying49 rfl (by kernel_rfl) ?_
            | refine wpList_load_row rfl 49 (.tmp 9) rfl W1.heap.size rfl 49 y.cells (0, 0) _ HX2.out Try.underlying49 rfl (by kernel_rfl) ?_
            | (go_at_call 111; refine (vSame1_any x y _ (HVX.out.gr G2.out) (HVY.out.gr G2.out)).mono ?_; rintro r w3 ⟨rfl, g3⟩))
          go_roundw
          case rel => exact ⟨k + 1, by omega, by go_num, HN, Lib.hid (HG.out.tr (G2.out.tr g3))⟩
          case measure => simp [intOf]; omega
        · have hs : vsame x y = false := by simpa using hs
          have HN : Hid (vsames a b = false) := Lib.hid (by rw [HST.out, hs]; simp)
          go_wp2_with (first
            | refine ld_at rfl 49 (.tmp 20) rfl _ rfl x.cells.toList _ HCX.out Try.underlying49 rfl (by kernel_rfl) ?_
            | refine ld_at rfl 49 (.tmp 24) rfl _ rfl y.cells.toList _ (HCY.out _ G1.out) Try.underlying49 rfl (by kernel_rfl) ?_
            | refine allocV rfl rfl ?_
            | (refine storeV x rfl (.tmp 8) _ rfl rfl rfl rfl ?_; intro W1 hx1 hg1; have HX1 := Lib.hid hx1; have G1 := Lib.hid hg1; clear hx1 hg1)
            | (refine storeV y rfl (.tmp 9) _ rfl rfl rfl rfl ?_; intro W2 hx2 hg2; have HX2 := Lib.hid hx2; have G2 := Lib.hid (G1.out.tr hg2); have HX12 := Lib.hid ((hg2.block _ (Array.getElem?_eq_some_iff.1 HX1.out).1).trans HX1.out); clear hx2 hg2)
            | refine wpList_load_row rfl 49 (.tmp 8) rfl wr.heap.size rfl 49 x.cells (0, 0) _ HX12.out Try.underlying49 rfl (by kernel_rfl) ?_
            | refine wpList_load_row rfl 49 (.tmp 9) rfl W1.heap.size rfl 49 y.cells (0, 0) _ HX2.out Try.underlying49 rfl (by kernel_rfl) ?_
            | (go_at_call 111; refine (vSame1_any x y _ (HVX.out.gr G2.out) (HVY.out.gr G2.out)).mono ?_; rintro r w3 ⟨rfl, g3⟩))
          go_ret
          rw [HN.out]
          exact ⟨rfl, HG.out.tr (G2.out.tr g3)⟩
      · have hk' : k = a.length := by omega
        subst hk'
        have HN : Hid (vsames a b = true) := Lib.hid (by have := hch.out; rw [List.drop_length, HL.out, List.drop_length] at this; exact this)
        go_wp2
        go_ret
        rw [HN.out]
        exact ⟨rfl, HG.out⟩
  · have hlb : ((a.length : Int) != (b.length : Int)) = true := by simp; omega
    have HN := Lib.hid (vsames_len a b hlen)
    clear hlen
    go_enter Try.func110, Try.ntmps110
    go_wp2
    go_ret
    rw [HN.out]
    exact ⟨rfl, hg0.out⟩
set_option maxRecDepth 100000 in
theorem vSames1_any (A B : Option Addr) (ca cb : Nat) (a b : List Vx) (w : World) (h1 : Vers w A a) (h2 : Vers w B b) :
    Calls Try.prog 58 #[.slice A a.length ca, .slice B b.length cb] w fun r w' => r = .returned (.bool (vsames a b)) ∧ Gr w w' := by
  have H := Lib.hid (vEqF_any A B ca cb a b w h1 h2)
  clear h1 h2
  go_enter Try.func58, Try.ntmps58
  go_wp2_with fail
  refine (H.out).mono ?_
  rintro r w1 ⟨rfl, g1⟩
  go_wp2
  go_ret
  exact ⟨rfl, g1⟩
end Go.Proofs.Ytfobnemocodomaa
