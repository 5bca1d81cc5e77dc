/- Joined texts: SibA SibB SibC SibD SibE. -/
import Derived.Test.YtfobnemocodomaaZBb
import Derived.Test.YtfobnemocodomaaZBa
import Derived.Lib.Strings
import Derived.Deep.WholeRow
import Derived.Great.Walk
set_option linter.unusedVariables false
set_option linter.unusedSimpArgs false
set_option maxHeartbeats 1000000
namespace Go.Proofs.Ytfobnemocodomaa
open Go.RowKit

structure Vx where
  P : Int
  C : Int
  A : Option Addr
  pl : List Dot
  pc : Nat
  D : Bool
  T : ByteArray
def Vx.cells (x : Vx) : Array Value := #[.int .i64 x.P, .int .i64 x.C, .slice x.A x.pl.length x.pc, .bool x.D, .string x.T]
/-- what a version points to -/
def VxOk (w : World) (x : Vx) : Prop := Dots w x.A x.pl ∧ x.T.size ≤ 9223372036854775807
theorem VxOk.gr {w w' : World} {x : Vx} (h : VxOk w x) (g : Gr w w') : VxOk w' x := ⟨h.1.gr g, h.2⟩
/-- versions in a row -/
def Vers (w : World) (A : Option Addr) (l : List Vx) : Prop :=
  l.length ≤ 9223372036854775807 ∧ ∀ i (h : i < l.length), ∃ ad, A = some ad ∧ VxOk w l[i] ∧ ∀ j v, l[i].cells[j]? = some v → w.cell? ((ad.add (i * 5)).add j) = some v
theorem Vers.gr {w w' : World} {A : Option Addr} {l : List Vx} (h : Vers w A l) (g : Gr w w') : Vers w' A l :=
  ⟨h.1, fun i hi => let ⟨ad, e, a, b⟩ := h.2 i hi; ⟨ad, e, a.gr g, fun j v hj => g.cell (b j v hj)⟩⟩
theorem Vers.nil (w : World) (A : Option Addr) : Vers w A [] := ⟨by simp, fun i h => by simp at h⟩
theorem vOne (x : Vx) : x.cells.all Value.oneCell' = true := by simp [Vx.cells, Value.oneCell']
/-- are two versions the same -/
def vsame (x y : Vx) : Bool := (x.P == y.P && x.C == y.C) && (x.D == y.D && (decide (x.T = y.T) && decide (x.pl = y.pl)))
/-- are two lists of versions the same -/
def vsames : List Vx → List Vx → Bool
  | [], [] => true
  | x :: a, y :: b => vsame x y && vsames a b
  | _, _ => false

set_option maxRecDepth 100000 in
theorem vSame1_any (x y : Vx) (w : World) (hx : VxOk w x) (hy : VxOk w y) :
    Calls Try.prog 111 #[.agg x.cells, .agg y.cells] w fun r w' => r = .returned (.bool (vsame x y)) ∧ Gr w w' := by
  have HX := Lib.hid hx
  have HY := Lib.hid hy
  obtain ⟨P, C, A, pl, pc, D, T⟩ := x
  obtain ⟨Q, E, B, ql, qc, F, U⟩ := y
  clear hx hy
  unfold Vx.cells
  dsimp only
  have hg0 : Gr w (w.alloc (.cells #[.int .i64 P, .int .i64 C, .slice A pl.length pc, .bool D, .string T] 49)) := (Gr.rfl' w).al _
  have hg1 := hg0.al (.cells #[.int .i64 Q, .int .i64 E, .slice B ql.length qc, .bool F, .string U] 49)
  have HG := Lib.hid hg1
  clear hg0 hg1
  by_cases h1 : (P == Q && C == E) = true
  · have hEq : ∀ w, (Op.equalIn 10000 47 (.agg #[.int .i64 P, .int .i64 C]) (.agg #[.int .i64 Q, .int .i64 E])).run Try.prog w = .ok true w := fun w => by rw [eqDot 9998, h1]
    by_cases h2 : D = F
    · subst h2
      by_cases h3 : T = U
      · subst h3
        have HS := Lib.hid (Same_any A B pc qc pl ql _ (HX.out.1.gr HG.out) (HY.out.1.gr HG.out))
        have hv : Hid (vsame ⟨P, C, A, pl, pc, D, T⟩ ⟨Q, E, B, ql, qc, D, T⟩ = decide (pl = ql)) := Lib.hid (by unfold vsame; rw [h1]; simp)
        clear h1
        go_enter Try.func111, Try.ntmps111
        go_wp2_with fail
        refine (HS.out).mono ?_
        rintro r w1 ⟨rfl, g1⟩
        go_wp2
        go_ret
        rw [hv.out]
        exact ⟨rfl, HG.out.tr g1⟩
      · have hTU : (T.toList == U.toList) = false := by simp; intro h; exact h3 (by apply ByteArray.ext; rw [Lib.toList_data, Lib.toList_data] at h; exact Array.ext' h)
        have hv : Hid (vsame ⟨P, C, A, pl, pc, D, T⟩ ⟨Q, E, B, ql, qc, D, U⟩ = false) := Lib.hid (by unfold vsame; rw [h1]; simp [h3])
        clear h1
        go_enter Try.func111, Try.ntmps111
        go_wp2
        go_ret
        rw [hv.out]
        exact ⟨rfl, HG.out⟩
    · have hDF : (D == F) = false := by simpa using h2
      have hv : Hid (vsame ⟨P, C, A, pl, pc, D, T⟩ ⟨Q, E, B, ql, qc, F, U⟩ = false) := Lib.hid (by unfold vsame; rw [h1]; simp [h2])
      clear h1
      go_enter Try.func111, Try.ntmps111
      go_wp2
      go_ret
      rw [hv.out]
      exact ⟨rfl, HG.out⟩
  · have hEq : ∀ w, (Op.equalIn 10000 47 (.agg #[.int .i64 P, .int .i64 C]) (.agg #[.int .i64 Q, .int .i64 E])).run Try.prog w = .ok false w := fun w => by rw [eqDot 9998]; simp at h1; simp; exact h1
    have hv : Hid (vsame ⟨P, C, A, pl, pc, D, T⟩ ⟨Q, E, B, ql, qc, F, U⟩ = false) := Lib.hid (by unfold vsame; simp at h1; simp; intro a b; exact absurd b (h1 a))
    clear h1
    go_enter Try.func111, Try.ntmps111
    go_wp2
    go_ret
    rw [hv.out]
    exact ⟨rfl, HG.out⟩

set_option maxRecDepth 100000 in
theorem vSame2_any (x y : Vx) (w : World) (hx : VxOk w x) (hy : VxOk w y) :
    Calls Try.prog 47 #[.agg x.cells, .agg y.cells] w fun r w' => r = .returned (.bool (vsame x y)) ∧ Gr w w' := by
  have HX := Lib.hid hx
  have HY := Lib.hid hy
  obtain ⟨P, C, A, pl, pc, D, T⟩ := x
  obtain ⟨Q, E, B, ql, qc, F, U⟩ := y
  clear hx hy
  unfold Vx.cells
  dsimp only
  have hg0 : Gr w (w.alloc (.cells #[.int .i64 P, .int .i64 C, .slice A pl.length pc, .bool D, .string T] 49)) := (Gr.rfl' w).al _
  have hg1 := hg0.al (.cells #[.int .i64 Q, .int .i64 E, .slice B ql.length qc, .bool F, .string U] 49)
  have HG := Lib.hid hg1
  clear hg0 hg1
  by_cases h1 : (P == Q && C == E) = true
  · have hEq : ∀ w, (Op.equalIn 10000 47 (.agg #[.int .i64 P, .int .i64 C]) (.agg #[.int .i64 Q, .int .i64 E])).run Try.prog w = .ok true w := fun w => by rw [eqDot 9998, h1]
    by_cases h2 : D = F
    · subst h2
      by_cases h3 : T = U
      · subst h3
        have HS := Lib.hid (refSame_any A B pc qc pl ql _ (HX.out.1.gr HG.out) (HY.out.1.gr HG.out))
        have hv : Hid (vsame ⟨P, C, A, pl, pc, D, T⟩ ⟨Q, E, B, ql, qc, D, T⟩ = decide (pl = ql)) := Lib.hid (by unfold vsame; rw [h1]; simp)
        clear h1
        go_enter Try.func47, Try.ntmps47
        go_wp2_with fail
        refine (HS.out).mono ?_
        rintro r w1 ⟨rfl, g1⟩
        go_wp2
        go_ret
        rw [hv.out]
        exact ⟨rfl, HG.out.tr g1⟩
      · have hTU : (T.toList == U.toList) = false := by simp; intro h; exact h3 (by apply ByteArray.ext; rw [Lib.toList_data, Lib.toList_data] at h; exact Array.ext' h)
        have hv : Hid (vsame ⟨P, C, A, pl, pc, D, T⟩ ⟨Q, E, B, ql, qc, D, U⟩ = false) := Lib.hid (by unfold vsame; rw [h1]; simp [h3])
        clear h1
        go_enter Try.func47, Try.ntmps47
        go_wp2
        go_ret
        rw [hv.out]
        exact ⟨rfl, HG.out⟩
    · have hDF : (D == F) = false := by simpa using h2
      have hv : Hid (vsame ⟨P, C, A, pl, pc, D, T⟩ ⟨Q, E, B, ql, qc, F, U⟩ = false) := Lib.hid (by unfold vsame; rw [h1]; simp [h2])
      clear h1
      go_enter Try.func47, Try.ntmps47
      go_wp2
      go_ret
      rw [hv.out]
      exact ⟨rfl, HG.out⟩
  · have hEq : ∀ w, (Op.equalIn 10000 47 (.agg #[.int .i64 P, .int .i64 C]) (.agg #[.int .i64 Q, .int .i64 E])).run Try.prog w = .ok false w := fun w => by rw [eqDot 9998]; simp at h1; simp; exact h1
    have hv : Hid (vsame ⟨P, C, A, pl, pc, D, T⟩ ⟨Q, E, B, ql, qc, F, U⟩ = false) := Lib.hid (by unfold vsame; simp at h1; simp; intro a b; exact absurd b (h1 a))
    clear h1
    go_enter Try.func47, Try.ntmps47
    go_wp2
    go_ret
    rw [hv.out]
    exact ⟨rfl, HG.out⟩
end Go.Proofs.Ytfobnemocodomaa
set_option linter.unusedVariables false
set_option linter.unusedSimpArgs false
set_option maxHeartbeats 2000000
namespace Go.Proofs.Ytfobnemocodomaa
open Go.RowKit Go.Great

/-- a variable of several cells, read whole, wherever it lies -/
theorem ldv_run {P : Program} (w : World) (a : Addr) (ty : TypeId) (cs : List Value) (d : TypeDesc) (hc : ∀ j v, cs[j]? = some v → w.cell? (a.add j) = some v)
    (hu : P.underlying ty = some d) (hd : d.isRow = true) (hi : (P.info? ty).map (·.size) = some cs.length) :
    (loadVar ty a).run P w = .ok (.agg cs.toArray) w := by
  have hl : (loadCells a cs.length).run P w = .ok cs.toArray w := run_loadCells_list (P := P) w a cs hc
  cases hq : P.info? ty with
  | none => simp [hq] at hi
  | some i =>
    have hs : i.size = cs.length := by simpa [hq] using hi
    have hagg : (isAgg ty).run P w = .ok true w := by
      unfold isAgg
      rw [Sem.run_bind, run_underlying hu w]
      cases d <;> simp_all
    simp [loadVar, Sem.run_bind, hagg, sizeOf, typeInfo, hq, hs, hl]
theorem ld_at {P : Program} {ops : Array Oper} {rest : List Oper} {op : Oper} {a : Act} {w : World} {Q : Exit → Act → World → Prop} (hgd : op.guard = none) (ty : TypeId) (x : Operand) (ho : op.op = .load ty x)
    (ad : Addr) (hx : a.eval x = .pointer (some ad)) (cs : List Value) (d : TypeDesc) (hc : ∀ j v, cs[j]? = some v → w.cell? (ad.add j) = some v)
    (hu : P.underlying ty = some d) (hd : d.isRow = true) (hi : (P.info? ty).map (·.size) = some cs.length)
    (h : wpList P ops Q rest (a.put op.dst (.agg cs.toArray)) w) : wpList P ops Q (op :: rest) a w := by
  refine wpList_plain hgd fun _ hK => ?_
  unfold Oper.wp execOp
  simp only [ho, hx, Instr.loadAt, Instr.sureAddr, Sem.run_bind, Sem.run_pure, Result.andThen_ok, ldv_run w ad ty cs d hc hu hd hi]
  exact hK _ _ h

def Z5 : Array Value := #[.int .i64 0, .int .i64 0, .slice none 0 0, .bool false, .string ⟨#[]⟩]
theorem Z5_info : (Try.prog.info? 49).map (fun i => (i.zero, i.size)) = some (some (.agg Z5), 5) := by kernel_rfl
theorem allocV {ops : Array Oper} {rest : List Oper} {o : Oper} {a : Act} {w : World} {Q : Exit → Act → World → Prop} (hg : o.guard = none) (ho : o.op = .alloc 49)
    (h : wpList Try.prog ops Q rest (a.put o.dst (.pointer (some ⟨w.heap.size, 0, none⟩))) (w.alloc (.cells Z5 49))) : wpList Try.prog ops Q (o :: rest) a w := by
  refine wpList_allocTo hg o.dst rfl _ (.cells Z5 49) ?_ h
  have hz := (zero_of_info Z5_info).1
  unfold execOp
  simp [ho, Instr.alloc, hz, Value.cells, go_sem]
theorem storeV {ops : Array Oper} {rest : List Oper} {o : Oper} {a : Act} {w : World} {Q : Exit → Act → World → Prop} (c : Vx) (hg : o.guard = none) (x y : Operand) (ho : o.op = .store 49 x y) (hd : o.dst = none)
    (hx : a.eval x = .pointer (some ⟨w.heap.size, 0, none⟩)) (hy : a.eval y = .agg c.cells)
    (h : ∀ wt : World, wt.heap[w.heap.size]? = some (.cells c.cells 49 (0, 0)) → Gr w wt → wpList Try.prog ops Q rest a wt) : wpList Try.prog ops Q (o :: rest) a (w.alloc (.cells Z5 49)) := by
  refine wpList_store_row hg 49 x y ho w.heap.size c.cells hx hy 49 Z5 (World.alloc_heap_new w _) (by kernel_rfl) (by rfl) (vOne c) ?_
  rw [World.setRow_alloc_new, hd]
  exact h _ (World.alloc_heap_new _ _) ((Gr.rfl' w).al _)

theorem vsames_len : ∀ (a b : List Vx), a.length ≠ b.length → vsames a b = false
  | [], [], h => absurd rfl h
  | [], _ :: _, _ => rfl
  | _ :: _, [], _ => rfl
  | x :: a, y :: b, h => by
    unfold vsames
    rw [vsames_len a b (fun e => h (by simp [e]))]; simp
theorem vsames_step {a b : List Vx} {k : Nat} (h1 : k < a.length) (h2 : k < b.length) : vsames (a.drop k) (b.drop k) = (vsame a[k] b[k] && vsames (a.drop (k + 1)) (b.drop (k + 1))) := by
  rw [List.drop_eq_getElem_cons h1, List.drop_eq_getElem_cons h2]; rfl

set_option maxRecDepth 100000 in
theorem vEqF_any (A B : Option Addr) (ca cb : Nat) (a b : List Vx) (w : World) (h1 : Vers w A a) (h2 : Vers w B b) :
    Calls Try.prog 110 #[.slice A a.length ca, .slice B b.length cb, .func (.func 111) #[] #[]] w fun r w' => r = .returned (.bool (vsames a b)) ∧ Gr w w' := by
  have H1 := Lib.hid h1; clear h1
  have H2 := Lib.hid h2; clear h2
  have hm := H1.out.1
  have hg0 := Lib.hid (Gr.rfl' w)
  by_cases hlen : a.length = b.length
  · have hlb : ((a.length : Int) != (b.length : Int)) = false := by simp [hlen]
    have HL := Lib.hid hlen; clear hlen
    go_enter Try.func110, Try.ntmps110
    go_wp2
    go_loopw [17] (fun i wr => ∃ k : Nat, k ≤ a.length ∧ i = .int .i64 k ∧ Hid (vsames a b = vsames (a.drop k) (b.drop k)) ∧ Hid (Gr w wr)) (fun i _ => a.length - (intOf i).toNat)
    case atStart => exact ⟨0, Nat.zero_le _, rfl, Lib.hid rfl, hg0⟩
    case round =>
      clear hg0
      obtain ⟨k, hk, rfl, hch, HG⟩ := hrel
      by_cases hlt : k < a.length
      · have hlt2 : k < b.length := by rw [← HL.out]; exact hlt
        have hi1 : (k : Int) < (a.length : Int) := by omega
        have hi2 : (k : Int) < (b.length : Int) := by omega
        obtain ⟨ad, rfl, hvx, hcx⟩ := (H1.out.gr HG.out).2 k hlt
        obtain ⟨bd, rfl, hvy, hcy⟩ := (H2.out.gr HG.out).2 k hlt2
        have hst := vsames_step hlt hlt2
        rw [← hch.out] at hst
        obtain ⟨x, hx⟩ : ∃ x, a[k] = x := ⟨_, rfl⟩
        obtain ⟨y, hy⟩ : ∃ y, b[k] = y := ⟨_, rfl⟩
        rw [hx] at hvx hcx hst
        rw [hy] at hvy hcy hst
        have HVX := Lib.hid hvx
        have HVY := Lib.hid hvy
        have HST := Lib.hid hst
        have HCX : Hid (∀ j v, x.cells.toList[j]? = some v → wr.cell? ((ad.add (k * 5)).add j) = some v) := Lib.hid fun j v hj => hcx j v (by simpa using hj)
        have HCY : Hid (∀ W, Gr wr W → ∀ j v, y.cells.toList[j]? = some v → W.cell? ((bd.add (k * 5)).add j) = some v) := Lib.hid fun W g j v hj => g.cell (hcy j v (by simpa using hj))
        clear hvx hcx hvy hcy hst hx hy hch
        by_cases hs : vsame x y = true
        · have HN : Hid (vsames a b = vsames (a.drop (k + 1)) (b.drop (k + 1))) := Lib.hid (by rw [HST.out, hs]; simp)
          go_wp2_with (first
            | refine ld_at rfl 49 (.tmp 20) rfl _ rfl x.cells.toList _ HCX.out Try.underlying49 rfl (by kernel_rfl) ?_
            | refine ld_at rfl 49 (.tmp 24) rfl _ rfl y.cells.toList _ (HCY.out _ G1.out) Try.underlying49 rfl (by kernel_rfl) ?_
            | refine allocV rfl rfl ?_
            | (refine storeV x rfl (.tmp 8) _ rfl rfl rfl rfl ?_; intro W1 hx1 hg1; have HX1 := Lib.hid hx1; have G1 := Lib.hid hg1; clear hx1 hg1)
            | (refine storeV y rfl (.tmp 9) _ rfl rfl rfl rfl ?_; intro W2 hx2 hg2; have HX2 := Lib.hid hx2; have G2 := Lib.hid (G1.out.tr hg2); have HX12 := Lib.hid ((hg2.block _ (Array.getElem?_eq_some_iff.1 HX1.out).1).trans HX1.out); clear hx2 hg2)
            | refine wpList_load_row rfl 49 (.tmp 8) rfl wr.heap.size rfl 49 x.cells (0, 0) _ HX12.out Try.underlying49 rfl (by kernel_rfl) ?_
            | refine wpList_load_row rfl 49 (.tmp 9) rfl W1.heap.size rfl 49 y.cells (0, 0) _ HX2.out Try.underlying49 rfl (by kernel_rfl) ?_
            | (go_at_call 111; refine (vSame1_any x y _ (HVX.out.gr G2.out) (HVY.out.gr G2.out)).mono ?_; rintro r w3 ⟨rfl, g3⟩))
          go_roundw
          case rel => exact ⟨k + 1, by omega, by go_num, HN, Lib.hid (HG.out.tr (G2.out.tr g3))⟩
          case measure => simp [intOf]; omega
        · have hs : vsame x y = false := by simpa using hs
          have HN : Hid (vsames a b = false) := Lib.hid (by rw [HST.out, hs]; simp)
          go_wp2_with (first
            | refine ld_at rfl 49 (.tmp 20) rfl _ rfl x.cells.toList _ HCX.out Try.underlying49 rfl (by kernel_rfl) ?_
            | refine ld_at rfl 49 (.tmp 24) rfl _ rfl y.cells.toList _ (HCY.out _ G1.out) Try.underlying49 rfl (by kernel_rfl) ?_
            | refine allocV rfl rfl ?_
            | (refine storeV x rfl (.tmp 8) _ rfl rfl rfl rfl ?_; intro W1 hx1 hg1; have HX1 := Lib.hid hx1; have G1 := Lib.hid hg1; clear hx1 hg1)
            | (refine storeV y rfl (.tmp 9) _ rfl rfl rfl rfl ?_; intro W2 hx2 hg2; have HX2 := Lib.hid hx2; have G2 := Lib.hid (G1.out.tr hg2); have HX12 := Lib.hid ((hg2.block _ (Array.getElem?_eq_some_iff.1 HX1.out).1).trans HX1.out); clear hx2 hg2)
            | refine wpList_load_row rfl 49 (.tmp 8) rfl wr.heap.size rfl 49 x.cells (0, 0) _ HX12.out Try.underlying49 rfl (by kernel_rfl) ?_
            | refine wpList_load_row rfl 49 (.tmp 9) rfl W1.heap.size rfl 49 y.cells (0, 0) _ HX2.out Try.underlying49 rfl (by kernel_rfl) ?_
            | (go_at_call 111; refine (vSame1_any x y _ (HVX.out.gr G2.out) (HVY.out.gr G2.out)).mono ?_; rintro r w3 ⟨rfl, g3⟩))
          go_ret
          rw [HN.out]
          exact ⟨rfl, HG.out.tr (G2.out.tr g3)⟩
      · have hk' : k = a.length := by omega
        subst hk'
        have HN : Hid (vsames a b = true) := Lib.hid (by have := hch.out; rw [List.drop_length, HL.out, List.drop_length] at this; exact this)
        go_wp2
        go_ret
        rw [HN.out]
        exact ⟨rfl, HG.out⟩
  · have hlb : ((a.length : Int) != (b.length : Int)) = true := by simp; omega
    have HN := Lib.hid (vsames_len a b hlen)
    clear hlen
    go_enter Try.func110, Try.ntmps110
    go_wp2
    go_ret
    rw [HN.out]
    exact ⟨rfl, hg0.out⟩
set_option maxRecDepth 100000 in
theorem vSames1_any (A B : Option Addr) (ca cb : Nat) (a b : List Vx) (w : World) (h1 : Vers w A a) (h2 : Vers w B b) :
    Calls Try.prog 58 #[.slice A a.length ca, .slice B b.length cb] w fun r w' => r = .returned (.bool (vsames a b)) ∧ Gr w w' := by
  have H := Lib.hid (vEqF_any A B ca cb a b w h1 h2)
  clear h1 h2
  go_enter Try.func58, Try.ntmps58
  go_wp2_with fail
  refine (H.out).mono ?_
  rintro r w1 ⟨rfl, g1⟩
  go_wp2
  go_ret
  exact ⟨rfl, g1⟩
end Go.Proofs.Ytfobnemocodomaa
set_option linter.unusedVariables false
set_option linter.unusedSimpArgs false
set_option maxHeartbeats 2000000
namespace Go.Proofs.Ytfobnemocodomaa
open Go.RowKit Go.Great

/-- a version's cells, one by one -/
def VAt (W : World) (a : Addr) (P C : Int) (A : Option Addr) (n c : Nat) (D : Bool) (T : ByteArray) : Prop :=
  W.cell? a = some (.int .i64 P) ∧ W.cell? ⟨a.block, a.off + 1, none⟩ = some (.int .i64 C) ∧ W.cell? ⟨a.block, a.off + 2, none⟩ = some (.slice A n c) ∧ W.cell? ⟨a.block, a.off + 3, none⟩ = some (.bool D) ∧ W.cell? ⟨a.block, a.off + 4, none⟩ = some (.string T)
theorem vat_of {W : World} {a : Addr} {x : Vx} (h : ∀ j v, x.cells[j]? = some v → W.cell? (a.add j) = some v) : VAt W a x.P x.C x.A x.pl.length x.pc x.D x.T :=
  ⟨h 0 (.int .i64 x.P) rfl, h 1 (.int .i64 x.C) rfl, h 2 (.slice x.A x.pl.length x.pc) rfl, h 3 (.bool x.D) rfl, h 4 (.string x.T) rfl⟩
theorem VAt.gr {W W' : World} {a : Addr} {P C : Int} {A : Option Addr} {n c : Nat} {D : Bool} {T : ByteArray} (h : VAt W a P C A n c D T) (g : Gr W W') : VAt W' a P C A n c D T :=
  ⟨g.cell h.1, g.cell h.2.1, g.cell h.2.2.1, g.cell h.2.2.2.1, g.cell h.2.2.2.2⟩

set_option maxRecDepth 100000 in
theorem vSames2_any (A B : Option Addr) (ca cb : Nat) (a b : List Vx) (w : World) (h1 : Vers w A a) (h2 : Vers w B b) :
    Calls Try.prog 34 #[.slice A a.length ca, .slice B b.length cb] w fun r w' => r = .returned (.bool (vsames a b)) ∧ Gr w w' := by
  have H1 := Lib.hid h1; clear h1
  have H2 := Lib.hid h2; clear h2
  have hm := H1.out.1
  have hg0 := Lib.hid (Gr.rfl' w)
  by_cases hlen : a.length = b.length
  · have hlb : ((a.length : Int) != (b.length : Int)) = false := by simp [hlen]
    have HL := Lib.hid hlen; clear hlen
    go_enter Try.func34, Try.ntmps34
    go_wp2
    go_loopw [5] (fun i wr => ∃ k : Nat, k ≤ a.length ∧ i = .int .i64 k ∧ Hid (vsames a b = vsames (a.drop k) (b.drop k)) ∧ Hid (Gr w wr)) (fun i _ => a.length - (intOf i).toNat)
    case atStart => exact ⟨0, Nat.zero_le _, rfl, Lib.hid rfl, hg0⟩
    case round =>
      clear hg0
      obtain ⟨k, hk, rfl, hch, HG⟩ := hrel
      by_cases hlt : k < a.length
      · have hlt2 : k < b.length := by rw [← HL.out]; exact hlt
        have hi1 : (k : Int) < (a.length : Int) := by omega
        have hi2 : (k : Int) < (b.length : Int) := by omega
        obtain ⟨ad, rfl, hvx, hcx⟩ := (H1.out.gr HG.out).2 k hlt
        obtain ⟨bd, rfl, hvy, hcy⟩ := (H2.out.gr HG.out).2 k hlt2
        have hst := vsames_step hlt hlt2
        rw [← hch.out] at hst
        obtain ⟨x, hx⟩ : ∃ x, a[k] = x := ⟨_, rfl⟩
        obtain ⟨y, hy⟩ : ∃ y, b[k] = y := ⟨_, rfl⟩
        rw [hx] at hvx hcx hst
        rw [hy] at hvy hcy hst
        have HVX := Lib.hid hvx
        have HVY := Lib.hid hvy
        have HST := Lib.hid hst
        have HCX := Lib.hid (vat_of hcx)
        have HCY := Lib.hid (vat_of hcy)
        have GD : Gr wr wr.drew := (Gr.rfl' wr).dr
        clear hvx hcx hvy hcy hst hx hy hch
        by_cases hs : vsame x y = true
        · have HN : Hid (vsames a b = vsames (a.drop (k + 1)) (b.drop (k + 1))) := Lib.hid (by rw [HST.out, hs]; simp)
          have HC := Lib.hid (fun (W : World) (g : Gr wr W) => vSame2_any x y W (HVX.out.gr g) (HVY.out.gr g))
          rw [hs] at HC
          clear hs HST HVX HVY
          obtain ⟨xP, xC, xA, xl, xc, xD, xT⟩ := x
          obtain ⟨yP, yC, yA, yl, yc, yD, yT⟩ := y
          unfold Vx.cells at HC
          dsimp only at HC HCX HCY
          go_upto_region 6 with (fail)
          go_region_held3 (fun w' => w'.cell? (ad.add (k * 5)) = some (.int .i64 xP) ∧ w'.cell? ⟨(ad.add (k * 5)).block, (ad.add (k * 5)).off + 1, none⟩ = some (.int .i64 xC) ∧ w'.cell? ⟨(ad.add (k * 5)).block, (ad.add (k * 5)).off + 2, none⟩ = some (.slice xA xl.length xc) ∧ w'.cell? ⟨(ad.add (k * 5)).block, (ad.add (k * 5)).off + 3, none⟩ = some (.bool xD) ∧ w'.cell? ⟨(ad.add (k * 5)).block, (ad.add (k * 5)).off + 4, none⟩ = some (.string xT) ∧ w'.cell? (bd.add (k * 5)) = some (.int .i64 yP) ∧ w'.cell? ⟨(bd.add (k * 5)).block, (bd.add (k * 5)).off + 1, none⟩ = some (.int .i64 yC) ∧ w'.cell? ⟨(bd.add (k * 5)).block, (bd.add (k * 5)).off + 2, none⟩ = some (.slice yA yl.length yc) ∧ w'.cell? ⟨(bd.add (k * 5)).block, (bd.add (k * 5)).off + 3, none⟩ = some (.bool yD) ∧ w'.cell? ⟨(bd.add (k * 5)).block, (bd.add (k * 5)).off + 4, none⟩ = some (.string yT)) (exact (have h1 := HCX.out.gr GD; have h2 := HCY.out.gr GD; ⟨h1.1, h1.2.1, h1.2.2.1, h1.2.2.2.1, h1.2.2.2.2, h2.1, h2.2.1, h2.2.2.1, h2.2.2.2.1, h2.2.2.2.2⟩)) (first
            | (go_at_call 47; refine (HC.out _ GD).mono ?_; rintro r wc ⟨rfl, hgc⟩; replace GD := GD.tr hgc; clear hgc))
          go_wp2
          go_roundw
          case rel => exact ⟨k + 1, by omega, by go_num, HN, Lib.hid (HG.out.tr GD)⟩
          case measure => simp [intOf]; omega
        · have hs : vsame x y = false := by simpa using hs
          have HN : Hid (vsames a b = false) := Lib.hid (by rw [HST.out, hs]; simp)
          have HC := Lib.hid (fun (W : World) (g : Gr wr W) => vSame2_any x y W (HVX.out.gr g) (HVY.out.gr g))
          rw [hs] at HC
          clear hs HST HVX HVY
          obtain ⟨xP, xC, xA, xl, xc, xD, xT⟩ := x
          obtain ⟨yP, yC, yA, yl, yc, yD, yT⟩ := y
          unfold Vx.cells at HC
          dsimp only at HC HCX HCY
          go_upto_region 6 with (fail)
          go_region_held3 (fun w' => w'.cell? (ad.add (k * 5)) = some (.int .i64 xP) ∧ w'.cell? ⟨(ad.add (k * 5)).block, (ad.add (k * 5)).off + 1, none⟩ = some (.int .i64 xC) ∧ w'.cell? ⟨(ad.add (k * 5)).block, (ad.add (k * 5)).off + 2, none⟩ = some (.slice xA xl.length xc) ∧ w'.cell? ⟨(ad.add (k * 5)).block, (ad.add (k * 5)).off + 3, none⟩ = some (.bool xD) ∧ w'.cell? ⟨(ad.add (k * 5)).block, (ad.add (k * 5)).off + 4, none⟩ = some (.string xT) ∧ w'.cell? (bd.add (k * 5)) = some (.int .i64 yP) ∧ w'.cell? ⟨(bd.add (k * 5)).block, (bd.add (k * 5)).off + 1, none⟩ = some (.int .i64 yC) ∧ w'.cell? ⟨(bd.add (k * 5)).block, (bd.add (k * 5)).off + 2, none⟩ = some (.slice yA yl.length yc) ∧ w'.cell? ⟨(bd.add (k * 5)).block, (bd.add (k * 5)).off + 3, none⟩ = some (.bool yD) ∧ w'.cell? ⟨(bd.add (k * 5)).block, (bd.add (k * 5)).off + 4, none⟩ = some (.string yT)) (exact (have h1 := HCX.out.gr GD; have h2 := HCY.out.gr GD; ⟨h1.1, h1.2.1, h1.2.2.1, h1.2.2.2.1, h1.2.2.2.2, h2.1, h2.2.1, h2.2.2.1, h2.2.2.2.1, h2.2.2.2.2⟩)) (first
            | (go_at_call 47; refine (HC.out _ GD).mono ?_; rintro r wc ⟨rfl, hgc⟩; replace GD := GD.tr hgc; clear hgc))
          go_wp2
          go_ret
          rw [HN.out]
          exact ⟨rfl, HG.out.tr GD⟩
      · have hk' : k = a.length := by omega
        subst hk'
        have HN : Hid (vsames a b = true) := Lib.hid (by have := hch.out; rw [List.drop_length, HL.out, List.drop_length] at this; exact this)
        go_wp2
        go_ret
        rw [HN.out]
        exact ⟨rfl, HG.out⟩
  · have hlb : ((a.length : Int) != (b.length : Int)) = true := by simp; omega
    have HN := Lib.hid (vsames_len a b hlen)
    clear hlen
    go_enter Try.func34, Try.ntmps34
    go_wp2
    go_ret
    rw [HN.out]
    exact ⟨rfl, hg0.out⟩
end Go.Proofs.Ytfobnemocodomaa
set_option linter.unusedVariables false
set_option linter.unusedSimpArgs false
set_option maxHeartbeats 4000000
namespace Go.Proofs.Ytfobnemocodomaa
open Go.RowKit Go.Great

def vCells (l : List Vx) : List Value := l.flatMap fun x => x.cells.toList
theorem vCells_len (l : List Vx) : (vCells l).length = l.length * 5 := by
  induction l with
  | nil => rfl
  | cons x r ih =>
    have e : (vCells (x :: r)).length = 5 + (vCells r).length := by simp [vCells, Vx.cells]; omega
    rw [e, ih, List.length_cons]; omega
theorem vCells_app (l m : List Vx) : vCells (l ++ m) = vCells l ++ vCells m := by simp [vCells]
theorem vCells_at : ∀ (l : List Vx) (i j : Nat) (h : i < l.length) (v : Value), l[i].cells[j]? = some v → (vCells l)[i * 5 + j]? = some v
  | [], i, j, h, v, hv => by simp at h
  | x :: r, i, j, h, v, hv => by
    have e : vCells (x :: r) = x.cells.toList ++ vCells r := by simp [vCells]
    have hl : x.cells.toList.length = 5 := rfl
    rw [e]
    cases i with
    | zero =>
      simp only [List.getElem_cons_zero] at hv
      have hj : j < 5 := (Array.getElem?_eq_some_iff.1 hv).1
      rw [List.getElem?_append_left (by rw [hl]; omega), Nat.zero_mul, Nat.zero_add]
      simpa using hv
    | succ i =>
      simp only [List.getElem_cons_succ] at hv
      rw [List.getElem?_append_right (by rw [hl]; omega), hl, show (i + 1) * 5 + j - 5 = i * 5 + j by omega]
      exact vCells_at r i j (by simpa using h) v hv
theorem vOnes (l : List Vx) : ∀ u ∈ vCells l, u.oneCell' = true := by
  intro u hu
  unfold vCells at hu
  rw [List.mem_flatMap] at hu
  obtain ⟨x, _, hu⟩ := hu
  have := vOne x
  rw [Array.all_eq_true_iff_forall_mem] at this
  exact this u (by simpa using hu)
theorem infoV : (Try.prog.info? 49).map (fun i => (i.zero, i.size, i.bytes)) = some (some (.agg Z5), 5, 64) := by kernel_rfl
/-- versions in a row of one's own -/
def OwnV (W : World) (B : Nat) (v : Value) (l : List Vx) : Prop := (v = .slice none 0 0 ∧ l = []) ∨ ∃ g, B ≤ g ∧ OwnG 49 5 W g v l.length (vCells l)
theorem OwnV.gr {W W' : World} {B : Nat} {v : Value} {l : List Vx} (h : OwnV W B v l) (k : Gr W W') : OwnV W' B v l := by
  rcases h with h | ⟨g, h1, h2⟩
  · exact Or.inl h
  · exact Or.inr ⟨g, h1, h2.gr k⟩

theorem vNew (w : World) (x : Vx) : ∀ j u, x.cells.toList[j]? = some u → (w.alloc (.cells x.cells 49)).cell? ((⟨w.heap.size, 0, none⟩ : Addr).add j) = some u := by
  intro j u hj
  have hn := World.alloc_heap_new w (.cells x.cells 49)
  have e : (⟨w.heap.size, 0, none⟩ : Addr).add j = ⟨w.heap.size, j, none⟩ := by unfold Addr.add; split <;> simp_all
  rw [e]
  simp only [World.cell?, hn]
  simpa using hj

def vsOk (W : World) (l : List Vx) : Prop := ∀ x ∈ l, VxOk W x
theorem vsOk.gr {W W' : World} {l : List Vx} (h : vsOk W l) (g : Gr W W') : vsOk W' l := fun x hx => (h x hx).gr g
theorem Vers.oks {W : World} {A : Option Addr} {l : List Vx} (h : Vers W A l) : vsOk W l := fun x hx => by
  obtain ⟨i, hi, rfl⟩ := List.getElem_of_mem hx
  obtain ⟨_, _, h, _⟩ := h.2 i hi; exact h
theorem OwnV.vers {W : World} {B : Nat} {v : Value} {l : List Vx} (h : OwnV W B v l) (ht : vsOk W l) : ∃ A c, v = .slice A l.length c ∧ l.length ≤ c ∧ Vers W A l := by
  rcases h with ⟨rfl, rfl⟩ | ⟨g, _, h⟩
  · exact ⟨none, 0, rfl, Nat.le_refl _, by simp, fun i hi => absurd hi (by simp)⟩
  · obtain ⟨c, rfl, h1, h2⟩ := h.shape
    refine ⟨_, c, rfl, h1, by unfold maxLen at h2; omega, fun i hi => ⟨_, rfl, ht _ (List.getElem_mem hi), fun j u hj => ?_⟩⟩
    have e : (((⟨g, 0, none⟩ : Addr).add (i * 5)).add j) = ⟨g, i * 5 + j, none⟩ := by
      unfold Addr.add
      split <;> split <;> simp_all
    rw [e]
    exact (h.cell _ u (vCells_at l i j hi u hj)).1
theorem OwnV.shp {W : World} {B : Nat} {v : Value} {l : List Vx} (h : OwnV W B v l) : ∃ A n c, v = .slice A n c ∧ Hid (n = l.length) ∧ Hid (∀ D, A = some D → D.block < W.heap.size) := by
  rcases h with ⟨rfl, rfl⟩ | ⟨g, _, hog⟩
  · exact ⟨none, 0, 0, rfl, Lib.hid rfl, Lib.hid (fun _ h => by cases h)⟩
  · obtain ⟨c, h, _⟩ := hog.shape; exact ⟨_, _, c, h, Lib.hid rfl, Lib.hid (fun D hD => by cases hD; exact hog.lt)⟩
theorem OwnV.nil (W : World) (B : Nat) : OwnV W B (.slice none 0 0) [] := Or.inl ⟨rfl, rfl⟩
theorem OwnV.mono {W : World} {B B' : Nat} {v : Value} {l : List Vx} (h : OwnV W B v l) (k : B' ≤ B) : OwnV W B' v l := by
  rcases h with h | ⟨g, h1, h2⟩
  · exact Or.inl h
  · exact Or.inr ⟨g, by omega, h2⟩
def liveL (l : List Vx) : List Vx := l.filter fun x => !x.D
theorem live_step {l : List Vx} {k : Nat} (h : k < l.length) : liveL (l.take (k + 1)) = liveL (l.take k) ++ (if l[k].D = true then [] else [l[k]]) := by
  unfold liveL
  rw [List.take_succ_eq_append_getElem h, List.filter_append]
  congr 1
  cases hd : l[k].D <;> simp [hd]
theorem live_len (l : List Vx) : (liveL l).length ≤ l.length := List.length_filter_le _ _

set_option maxRecDepth 100000 in
theorem vLive1_any (A : Option Addr) (cap : Nat) (l : List Vx) (w : World) (h : Vers w A l) (hlb : l.length ≤ 1000000000) :
    Calls Try.prog 48 #[.slice A l.length cap] w fun r w' => (∃ v, r = .returned v ∧ OwnV w' w.heap.size v (liveL l)) ∧ Gr w w' := by
  have H := Lib.hid h; clear h
  have HG0 := Lib.hid (Gr.rfl' w)
  obtain ⟨i0, hi, hz0, hzs, hz2⟩ := info_parts infoV
  go_enter Try.func48, Try.ntmps48
  go_wp2
  go_loopw [3, 8] (fun v i wr => ∃ k : Nat, k ≤ l.length ∧ i = .int .i64 k ∧ Hid (OwnV wr w.heap.size v (liveL (l.take k))) ∧ Hid (Gr w wr)) (fun _ i _ => l.length - (intOf i).toNat)
  case atStart => exact ⟨0, Nat.zero_le _, rfl, Lib.hid (OwnV.nil _ _), HG0⟩
  case round =>
    clear HG0
    obtain ⟨k, hk, rfl, HO, HG⟩ := hrel
    obtain ⟨Av, ln, cvv, rfl, HLN, HGL⟩ := HO.out.shp
    by_cases hlt : k < l.length
    · have hki : (k : Int) < l.length := by omega
      obtain ⟨ad, rfl, _, hcx⟩ := (H.out.gr HG.out).2 k hlt
      have hst := live_step hlt
      have hrl := live_len (l.take k)
      rw [List.length_take] at hrl
      obtain ⟨r, hr⟩ : ∃ r, liveL (l.take k) = r := ⟨_, rfl⟩
      rw [hr] at hst hrl HO
      obtain ⟨x, hx⟩ : ∃ x, l[k] = x := ⟨_, rfl⟩
      rw [hx] at hcx hst
      have hrl2 : r.length ≤ 1000000000 := by omega
      obtain ⟨P, C, Ax, pl, pc, D, T⟩ := x
      have HCX := Lib.hid hcx
      have HST := Lib.hid hst
      clear hcx hst hx hr hrl HLN HGL
      cases D
      · rw [if_neg (by simp)] at HST
        have HCL0 : Hid (∀ j v, (#[.int .i64 P, .int .i64 C, .slice Ax pl.length pc, .bool false, .string T] : Array Value).toList[j]? = some v → wr.cell? ((ad.add (k * 5)).add j) = some v) := Lib.hid fun j v hj => HCX.out j v (by simpa [Vx.cells] using hj)
        clear HCX
        go_upto_region 6 with (first
          | refine ld_at rfl 49 (.tmp 10) rfl _ rfl [.int .i64 P, .int .i64 C, .slice Ax pl.length pc, .bool false, .string T] _ HCL0.out Try.underlying49 rfl (by kernel_rfl) ?_
          | refine allocV rfl rfl ?_
          | (refine storeV ⟨P, C, Ax, pl, pc, false, T⟩ rfl (.tmp 5) _ rfl rfl rfl rfl ?_; intro wt hx1 hg1; obtain ⟨gX, hgX⟩ : ∃ g, wr.heap.size = g := ⟨_, rfl⟩; rw [hgX] at hx1 ⊢; have HX1 := Lib.hid hx1; have d3 : wt.cell? ⟨gX, 3, none⟩ = some (.bool false) := (by simp only [World.cell?, hx1]; rfl); have GT := Lib.hid (HG.out.tr hg1); replace HO := Lib.hid (HO.out.gr hg1); clear hx1 hg1 hgX HG HCL0))
        rcases HO.out with ⟨hvn, hrn⟩ | ⟨g, hgB, hog⟩
        · cases hvn
          have HA : Hid (Gr wt (wt.alloc (.cells #[.int .i64 P, .int .i64 C, .slice Ax pl.length pc, .bool false, .string T] 49))) := Lib.hid ((Gr.rfl' _).al _)
          have hnw : ∀ (j : Nat) (u : Value), [.int .i64 P, .int .i64 C, .slice Ax pl.length pc, .bool false, .string T][j]? = some u → (wt.alloc (.cells #[.int .i64 P, .int .i64 C, .slice Ax pl.length pc, .bool false, .string T] 49)).cell? ((⟨wt.heap.size, 0, none⟩ : Addr).add j) = some u := vNew wt ⟨P, C, Ax, pl, pc, false, T⟩
          have HNW := Lib.hid hnw
          have HCL : Hid ([.int .i64 P, .int .i64 C, .slice Ax pl.length pc, .bool false, .string T] = vCells [⟨P, C, Ax, pl, pc, false, T⟩]) := Lib.hid (by simp [vCells, Vx.cells])
          have HO1 : Hid (∀ u ∈ ([.int .i64 P, .int .i64 C, .slice Ax pl.length pc, .bool false, .string T] : List Value), u.oneCell' = true) := Lib.hid (by rw [HCL.out]; exact vOnes _)
          have HGA := Lib.hid (GT.out.tr HA.out)
          have HASZ : Hid ((wt.alloc (.cells #[.int .i64 P, .int .i64 C, .slice Ax pl.length pc, .bool false, .string T] 49)).heap.size = wt.heap.size + 1) := Lib.hid (by simp)
          have hwsz := GT.out.size
          clear hnw
          go_wp2_with (first | refine wpList_load_row rfl 49 (.tmp 5) rfl gX rfl 49 #[.int .i64 P, .int .i64 C, .slice Ax pl.length pc, .bool false, .string T] (0, 0) _ HX1.out Try.underlying49 rfl (by kernel_rfl) ?_ | (at_builtin; go_loud (refine wp_appendN rfl _ _ 22 rfl 49 i0 (.agg Z5) 5 64 Try.underlying22 hi hz0 hzs hz2 rfl (by decide) rfl ⟨_, 0, none⟩ 1 1 _ rfl rfl HNW.out HO1.out (by decide) (by decide) (by decide) ?_); intro v' w4 g' hown' hg' hgrow; have hgq : Gr (wt.alloc (.cells #[.int .i64 P, .int .i64 C, .slice Ax pl.length pc, .bool false, .string T] 49)) w4 := ⟨hgrow.os, hgrow.tape, hgrow.output, hgrow.size, fun k hk => hgrow.block k hk (by simp)⟩; have GT4 := Lib.hid (HGA.out.tr hgq); have HO4 : Hid (OwnV w4 w.heap.size v' (r ++ [⟨P, C, Ax, pl, pc, false, T⟩])) := Lib.hid (Or.inr ⟨g', by have := HASZ.out; omega, by rw [hrn]; rw [HCL.out] at hown'; exact hown'⟩); clear hown' hg' hgrow hgq))
          go_roundw
          case rel => exact ⟨k + 1, by omega, by go_num, Lib.hid (by rw [HST.out]; exact HO4.out), GT4⟩
          case measure => simp [intOf]; omega
        · obtain ⟨cv, hcv, hcv1, hcv2⟩ := hog.shape
          cases hcv
          have hgw : g < wt.heap.size := hog.lt
          have HA : Hid (Gr wt (wt.alloc (.cells #[.int .i64 P, .int .i64 C, .slice Ax pl.length pc, .bool false, .string T] 49))) := Lib.hid ((Gr.rfl' _).al _)
          have HOG := Lib.hid (hog.gr HA.out)
          have hnw : ∀ (j : Nat) (u : Value), [.int .i64 P, .int .i64 C, .slice Ax pl.length pc, .bool false, .string T][j]? = some u → (wt.alloc (.cells #[.int .i64 P, .int .i64 C, .slice Ax pl.length pc, .bool false, .string T] 49)).cell? ((⟨wt.heap.size, 0, none⟩ : Addr).add j) = some u := vNew wt ⟨P, C, Ax, pl, pc, false, T⟩
          have HNW := Lib.hid hnw
          have HCL : Hid ([.int .i64 P, .int .i64 C, .slice Ax pl.length pc, .bool false, .string T] = vCells [⟨P, C, Ax, pl, pc, false, T⟩]) := Lib.hid (by simp [vCells, Vx.cells])
          have HO1 : Hid (∀ u ∈ ([.int .i64 P, .int .i64 C, .slice Ax pl.length pc, .bool false, .string T] : List Value), u.oneCell' = true) := Lib.hid (by rw [HCL.out]; exact vOnes _)
          have HGA := Lib.hid (GT.out.tr HA.out)
          have HASZ : Hid ((wt.alloc (.cells #[.int .i64 P, .int .i64 C, .slice Ax pl.length pc, .bool false, .string T] 49)).heap.size = wt.heap.size + 1) := Lib.hid (by simp)
          have hwsz := GT.out.size
          clear hnw hog
          go_wp2_with (first | refine wpList_load_row rfl 49 (.tmp 5) rfl gX rfl 49 #[.int .i64 P, .int .i64 C, .slice Ax pl.length pc, .bool false, .string T] (0, 0) _ HX1.out Try.underlying49 rfl (by kernel_rfl) ?_ | (at_builtin; go_loud (refine wp_appendG rfl _ _ 22 rfl 49 i0 (.agg Z5) 5 64 Try.underlying22 hi hz0 hzs hz2 rfl (by decide) g _ _ _ rfl HOG.out ⟨_, 0, none⟩ 1 1 _ rfl rfl HNW.out HO1.out (by simp only [maxLen]; omega) (by omega) ?_); intro v' w4 g' hown' hg' hgrow; have GT4 := Lib.hid (HGA.out.grown hgrow HGA.out.size (fun j e => by cases e; omega)); have HO4 : Hid (OwnV w4 w.heap.size v' (r ++ [⟨P, C, Ax, pl, pc, false, T⟩])) := Lib.hid (Or.inr ⟨g', by have := HASZ.out; rcases hg' with rfl | hg' <;> omega, by rw [HCL.out] at hown'; rw [vCells_app]; simpa using hown'⟩); clear hown' hg' hgrow))
          go_roundw
          case rel => exact ⟨k + 1, by omega, by go_num, Lib.hid (by rw [HST.out]; exact HO4.out), GT4⟩
          case measure => simp [intOf]; omega
      · rw [if_pos rfl, List.append_nil] at HST
        have HCL0 : Hid (∀ j v, (#[.int .i64 P, .int .i64 C, .slice Ax pl.length pc, .bool true, .string T] : Array Value).toList[j]? = some v → wr.cell? ((ad.add (k * 5)).add j) = some v) := Lib.hid fun j v hj => HCX.out j v (by simpa [Vx.cells] using hj)
        clear HCX
        go_wp2_with (first
          | refine ld_at rfl 49 (.tmp 10) rfl _ rfl [.int .i64 P, .int .i64 C, .slice Ax pl.length pc, .bool true, .string T] _ HCL0.out Try.underlying49 rfl (by kernel_rfl) ?_
          | refine allocV rfl rfl ?_
          | (refine storeV ⟨P, C, Ax, pl, pc, true, T⟩ rfl (.tmp 5) _ rfl rfl rfl rfl ?_; intro wt hx1 hg1; obtain ⟨gX, hgX⟩ : ∃ g, wr.heap.size = g := ⟨_, rfl⟩; rw [hgX] at hx1 ⊢; have HX1 := Lib.hid hx1; have d3 : wt.cell? ⟨gX, 3, none⟩ = some (.bool true) := (by simp only [World.cell?, hx1]; rfl); have GT := Lib.hid (HG.out.tr hg1); replace HO := Lib.hid (HO.out.gr hg1); clear hx1 hg1 hgX HG HCL0))
        go_roundw
        case rel => exact ⟨k + 1, by omega, by go_num, Lib.hid (by rw [HST.out]; exact HO.out), GT⟩
        case measure => simp [intOf]; omega
    · have hki : ¬ (k : Int) < l.length := by omega
      have hkk : k = l.length := by omega
      subst hkk
      rw [List.take_length] at HO
      go_wp2
      refine bodyPost_ret (v := .slice Av ln cvv) (by simp [results, Try.results48, go_sem]) rfl ?_
      exact ⟨⟨_, rfl, HO.out⟩, HG.out⟩
set_option maxRecDepth 100000 in
theorem vLive2_any (A : Option Addr) (cap : Nat) (l : List Vx) (w : World) (h : Vers w A l) (hlb : l.length ≤ 1000000000) :
    Calls Try.prog 25 #[.slice A l.length cap] w fun r w' => (∃ v, r = .returned v ∧ OwnV w' w.heap.size v (liveL l)) ∧ Gr w w' := by
  have H := Lib.hid h; clear h
  have HG0 := Lib.hid (Gr.rfl' w)
  obtain ⟨i0, hi, hz0, hzs, hz2⟩ := info_parts infoV
  go_enter Try.func25, Try.ntmps25
  go_wp2
  go_loopw [3, 4] (fun v i wr => ∃ k : Nat, k ≤ l.length ∧ i = .int .i64 k ∧ Hid (OwnV wr w.heap.size v (liveL (l.take k))) ∧ Hid (Gr w wr)) (fun _ i _ => l.length - (intOf i).toNat)
  case atStart => exact ⟨0, Nat.zero_le _, rfl, Lib.hid (OwnV.nil _ _), HG0⟩
  case round =>
    clear HG0
    obtain ⟨k, hk, rfl, HO, HG⟩ := hrel
    obtain ⟨Av, ln, cvv, rfl, HLN, HGL⟩ := HO.out.shp
    by_cases hlt : k < l.length
    · have hki : (k : Int) < l.length := by omega
      obtain ⟨ad, rfl, _, hcx⟩ := (H.out.gr HG.out).2 k hlt
      have hst := live_step hlt
      have hrl := live_len (l.take k)
      rw [List.length_take] at hrl
      obtain ⟨r, hr⟩ : ∃ r, liveL (l.take k) = r := ⟨_, rfl⟩
      rw [hr] at hst hrl HO
      obtain ⟨x, hx⟩ : ∃ x, l[k] = x := ⟨_, rfl⟩
      rw [hx] at hcx hst
      have hrl2 : r.length ≤ 1000000000 := by omega
      obtain ⟨P, C, Ax, pl, pc, D, T⟩ := x
      have HCX := Lib.hid hcx
      have HST := Lib.hid hst
      clear hcx hst hx hr hrl HLN HGL
      cases D
      · rw [if_neg (by simp)] at HST
        have HCL0 : Hid (∀ j v, (#[.int .i64 P, .int .i64 C, .slice Ax pl.length pc, .bool false, .string T] : Array Value).toList[j]? = some v → wr.cell? ((ad.add (k * 5)).add j) = some v) := Lib.hid fun j v hj => HCX.out j v (by simpa [Vx.cells] using hj)
        have d3 : wr.cell? ⟨(ad.add (k * 5)).block, (ad.add (k * 5)).off + 3, none⟩ = some (.bool false) := (vat_of HCX.out).2.2.2.1
        clear HCX
        obtain ⟨wt, hwt⟩ : ∃ wt, wr = wt := ⟨_, rfl⟩
        subst hwt
        have GT := HG
        rcases HO.out with ⟨hvn, hrn⟩ | ⟨g, hgB, hog⟩
        · cases hvn
          have HA : Hid (Gr wr (wr.alloc (.cells #[.int .i64 P, .int .i64 C, .slice Ax pl.length pc, .bool false, .string T] 49))) := Lib.hid ((Gr.rfl' _).al _)
          have hnw : ∀ (j : Nat) (u : Value), [.int .i64 P, .int .i64 C, .slice Ax pl.length pc, .bool false, .string T][j]? = some u → (wr.alloc (.cells #[.int .i64 P, .int .i64 C, .slice Ax pl.length pc, .bool false, .string T] 49)).cell? ((⟨wr.heap.size, 0, none⟩ : Addr).add j) = some u := vNew wr ⟨P, C, Ax, pl, pc, false, T⟩
          have HNW := Lib.hid hnw
          have HCL : Hid ([.int .i64 P, .int .i64 C, .slice Ax pl.length pc, .bool false, .string T] = vCells [⟨P, C, Ax, pl, pc, false, T⟩]) := Lib.hid (by simp [vCells, Vx.cells])
          have HO1 : Hid (∀ u ∈ ([.int .i64 P, .int .i64 C, .slice Ax pl.length pc, .bool false, .string T] : List Value), u.oneCell' = true) := Lib.hid (by rw [HCL.out]; exact vOnes _)
          have HGA := Lib.hid (GT.out.tr HA.out)
          have HASZ : Hid ((wr.alloc (.cells #[.int .i64 P, .int .i64 C, .slice Ax pl.length pc, .bool false, .string T] 49)).heap.size = wr.heap.size + 1) := Lib.hid (by simp)
          have hwsz := GT.out.size
          clear hnw
          go_wp2_with (first | refine ld_at rfl 49 (.tmp 20) rfl _ rfl [.int .i64 P, .int .i64 C, .slice Ax pl.length pc, .bool false, .string T] _ HCL0.out Try.underlying49 rfl (by kernel_rfl) ?_ | (at_builtin; go_loud (refine wp_appendN rfl _ _ 22 rfl 49 i0 (.agg Z5) 5 64 Try.underlying22 hi hz0 hzs hz2 rfl (by decide) rfl ⟨_, 0, none⟩ 1 1 _ rfl rfl HNW.out HO1.out (by decide) (by decide) (by decide) ?_); intro v' w4 g' hown' hg' hgrow; have hgq : Gr (wr.alloc (.cells #[.int .i64 P, .int .i64 C, .slice Ax pl.length pc, .bool false, .string T] 49)) w4 := ⟨hgrow.os, hgrow.tape, hgrow.output, hgrow.size, fun k hk => hgrow.block k hk (by simp)⟩; have GT4 := Lib.hid (HGA.out.tr hgq); have HO4 : Hid (OwnV w4 w.heap.size v' (r ++ [⟨P, C, Ax, pl, pc, false, T⟩])) := Lib.hid (Or.inr ⟨g', by have := HASZ.out; omega, by rw [hrn]; rw [HCL.out] at hown'; exact hown'⟩); clear hown' hg' hgrow hgq))
          go_roundw
          case rel => exact ⟨k + 1, by omega, by go_num, Lib.hid (by rw [HST.out]; exact HO4.out), GT4⟩
          case measure => simp [intOf]; omega
        · obtain ⟨cv, hcv, hcv1, hcv2⟩ := hog.shape
          cases hcv
          have hgw : g < wr.heap.size := hog.lt
          have HA : Hid (Gr wr (wr.alloc (.cells #[.int .i64 P, .int .i64 C, .slice Ax pl.length pc, .bool false, .string T] 49))) := Lib.hid ((Gr.rfl' _).al _)
          have HOG := Lib.hid (hog.gr HA.out)
          have hnw : ∀ (j : Nat) (u : Value), [.int .i64 P, .int .i64 C, .slice Ax pl.length pc, .bool false, .string T][j]? = some u → (wr.alloc (.cells #[.int .i64 P, .int .i64 C, .slice Ax pl.length pc, .bool false, .string T] 49)).cell? ((⟨wr.heap.size, 0, none⟩ : Addr).add j) = some u := vNew wr ⟨P, C, Ax, pl, pc, false, T⟩
          have HNW := Lib.hid hnw
          have HCL : Hid ([.int .i64 P, .int .i64 C, .slice Ax pl.length pc, .bool false, .string T] = vCells [⟨P, C, Ax, pl, pc, false, T⟩]) := Lib.hid (by simp [vCells, Vx.cells])
          have HO1 : Hid (∀ u ∈ ([.int .i64 P, .int .i64 C, .slice Ax pl.length pc, .bool false, .string T] : List Value), u.oneCell' = true) := Lib.hid (by rw [HCL.out]; exact vOnes _)
          have HGA := Lib.hid (GT.out.tr HA.out)
          have HASZ : Hid ((wr.alloc (.cells #[.int .i64 P, .int .i64 C, .slice Ax pl.length pc, .bool false, .string T] 49)).heap.size = wr.heap.size + 1) := Lib.hid (by simp)
          have hwsz := GT.out.size
          clear hnw hog
          go_wp2_with (first | refine ld_at rfl 49 (.tmp 20) rfl _ rfl [.int .i64 P, .int .i64 C, .slice Ax pl.length pc, .bool false, .string T] _ HCL0.out Try.underlying49 rfl (by kernel_rfl) ?_ | (at_builtin; go_loud (refine wp_appendG rfl _ _ 22 rfl 49 i0 (.agg Z5) 5 64 Try.underlying22 hi hz0 hzs hz2 rfl (by decide) g _ _ _ rfl HOG.out ⟨_, 0, none⟩ 1 1 _ rfl rfl HNW.out HO1.out (by simp only [maxLen]; omega) (by omega) ?_); intro v' w4 g' hown' hg' hgrow; have GT4 := Lib.hid (HGA.out.grown hgrow HGA.out.size (fun j e => by cases e; omega)); have HO4 : Hid (OwnV w4 w.heap.size v' (r ++ [⟨P, C, Ax, pl, pc, false, T⟩])) := Lib.hid (Or.inr ⟨g', by have := HASZ.out; rcases hg' with rfl | hg' <;> omega, by rw [HCL.out] at hown'; rw [vCells_app]; simpa using hown'⟩); clear hown' hg' hgrow))
          go_roundw
          case rel => exact ⟨k + 1, by omega, by go_num, Lib.hid (by rw [HST.out]; exact HO4.out), GT4⟩
          case measure => simp [intOf]; omega
      · rw [if_pos rfl, List.append_nil] at HST
        have d3 : wr.cell? ⟨(ad.add (k * 5)).block, (ad.add (k * 5)).off + 3, none⟩ = some (.bool true) := (vat_of HCX.out).2.2.2.1
        have GT := HG
        clear HCX
        go_wp2
        go_roundw
        case rel => exact ⟨k + 1, by omega, by go_num, Lib.hid (by rw [HST.out]; exact HO.out), GT⟩
        case measure => simp [intOf]; omega
    · have hki : ¬ (k : Int) < l.length := by omega
      have hkk : k = l.length := by omega
      subst hkk
      rw [List.take_length] at HO
      go_wp2
      refine bodyPost_ret (v := .slice Av ln cvv) (by simp [results, Try.results25, go_sem]) rfl ?_
      exact ⟨⟨_, rfl, HO.out⟩, HG.out⟩
end Go.Proofs.Ytfobnemocodomaa
set_option linter.unusedVariables false
set_option linter.unusedSimpArgs false
set_option maxHeartbeats 4000000
namespace Go.Proofs.Ytfobnemocodomaa
open Go.RowKit Go.Great

/-- a leaf among others: the slice's header and what it leads to -/
structure VRow where
  A : Option Addr
  cap : Nat
  l : List Vx
def VRows (w : World) (A : Option Addr) (rs : List VRow) : Prop :=
  rs.length ≤ 9223372036854775807 ∧ ∀ i (h : i < rs.length), ∃ ad, A = some ad ∧ w.cell? (ad.add i) = some (.slice rs[i].A rs[i].l.length rs[i].cap) ∧ Vers w rs[i].A rs[i].l
theorem VRows.gr {w w' : World} {A : Option Addr} {rs : List VRow} (h : VRows w A rs) (g : Gr w w') : VRows w' A rs :=
  ⟨h.1, fun i hi => let ⟨ad, e, a, b⟩ := h.2 i hi; ⟨ad, e, g.cell a, b.gr g⟩⟩
theorem VRows.one {w : World} {A : Option Addr} {cap : Nat} {l : List Vx} (h : Vers w A l) (t : TypeId) : VRows (w.alloc (.cells #[.slice A l.length cap] t)) (some ⟨w.heap.size, 0, none⟩) [⟨A, cap, l⟩] := by
  refine ⟨by simp, fun i hi => ⟨_, rfl, ?_, ?_⟩⟩
  · obtain rfl : i = 0 := by simpa using hi
    have hn := World.alloc_heap_new w (.cells #[.slice A l.length cap] t)
    have e : (⟨w.heap.size, 0, none⟩ : Addr).add 0 = ⟨w.heap.size, 0, none⟩ := by unfold Addr.add; rw [if_pos rfl]
    rw [e]
    simp only [World.cell?, hn]
    rfl
  · obtain rfl : i = 0 := by simpa using hi
    exact h.gr ((Gr.rfl' w).al _)

set_option maxRecDepth 100000 in
theorem vGreat_any (A : Option Addr) (cap : Nat) (rs : List VRow) (w : World) (h : VRows w A rs) :
    Calls Try.prog 18 #[.slice A rs.length cap] w fun r w' => ((r = .returned (.bool false) ∧ ∀ x ∈ rs, x.l.length ≤ 70) ∨ r = .returned (.bool true)) ∧ Gr w w' := by
  have H := Lib.hid h; clear h
  have hm := H.out.1
  have HG0 := Lib.hid (Gr.rfl' w)
  go_enter Try.func18, Try.ntmps18
  go_wp2
  go_loopw [3] (fun i wr => ∃ k : Nat, k ≤ rs.length ∧ i = .int .i64 k ∧ Hid (∀ j (h : j < rs.length), j < k → rs[j].l.length ≤ 70) ∧ Hid (Gr w wr)) (fun i _ => rs.length - (intOf i).toNat)
  case atStart => exact ⟨0, Nat.zero_le _, rfl, Lib.hid (fun j h hj => by omega), HG0⟩
  case round =>
    clear HG0
    obtain ⟨k, hk, rfl, HK, HG⟩ := hrel
    by_cases hlt : k < rs.length
    · have hki : (k : Int) < rs.length := by omega
      obtain ⟨ad, rfl, hc, hv⟩ := (H.out.gr HG.out).2 k hlt
      have HV := Lib.hid hv
      have hvl := hv.1
      by_cases h70 : 70 < rs[k].l.length
      · obtain ⟨x, hx⟩ : ∃ x, rs[k] = x := ⟨_, rfl⟩
        rw [hx] at hc h70 hvl
        obtain ⟨Ax, cx, lx⟩ := x
        dsimp only at hc h70 hvl
        have h70i : (70 : Int) < lx.length := by omega
        clear hx hv HV
        go_wp2
        go_ret
        exact ⟨.inr rfl, HG.out⟩
      · have HK' : Hid (∀ j (h : j < rs.length), j < k + 1 → rs[j].l.length ≤ 70) := Lib.hid (fun j h hj => by
          by_cases e : j = k
          · subst e; omega
          · exact HK.out j h (by omega))
        obtain ⟨x, hx⟩ : ∃ x, rs[k] = x := ⟨_, rfl⟩
        rw [hx] at hc h70 hvl HV
        obtain ⟨Ax, cx, lx⟩ := x
        dsimp only at hc h70 hvl HV
        have h70i : ¬ (70 : Int) < lx.length := by omega
        clear hx hv HK
        go_wp2
        go_loopw [4, 5] (fun n i wi => ∃ (q : Nat) (v : Int), q ≤ lx.length ∧ n = .int .i64 v ∧ i = .int .i64 q ∧ Hid (Gr wr wi)) (fun _ i _ => lx.length - (intOf i).toNat)
        case atStart => exact ⟨0, 0, Nat.zero_le _, rfl, rfl, Lib.hid (Gr.rfl' _)⟩
        case round =>
          obtain ⟨q, v, hq, rfl, rfl, HI⟩ := hrel
          have hci := HI.out.cell hc
          by_cases hlq : q < lx.length
          · have hqi : (q : Int) < lx.length := by omega
            obtain ⟨bd, rfl, hvx, hcx⟩ := (HV.out.gr HI.out).2 q hlq
            obtain ⟨_, d1, d2, d3, d4⟩ := vat_of hcx
            have hpl := hvx.1.1
            have hts := hvx.2
            clear hcx hvx
            go_wp2
            all_goals first
              | (go_ret; exact ⟨.inr rfl, HG.out.tr HI.out⟩)
              | exact ⟨⟨q + 1, _, by omega, rfl, by go_num, HI⟩, by simp [intOf]; omega⟩
          · have hqi : ¬ (q : Int) < lx.length := by omega
            go_wp2
            go_roundw
            case rel => exact ⟨k + 1, by omega, by go_num, HK', Lib.hid (HG.out.tr HI.out)⟩
            case measure => simp [intOf]; omega
    · have hki : ¬ (k : Int) < rs.length := by omega
      go_wp2
      go_ret
      refine ⟨.inl ⟨rfl, fun x hx => ?_⟩, HG.out⟩
      obtain ⟨j, hj, rfl⟩ := List.getElem_of_mem hx
      exact HK.out j hj (by omega)
end Go.Proofs.Ytfobnemocodomaa
