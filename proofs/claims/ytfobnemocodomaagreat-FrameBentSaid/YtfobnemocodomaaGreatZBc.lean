/- Joined texts: SibA SibB SibC SibD SibE. -/
import Derived.Test.YtfobnemocodomaaGreatZBb
import Derived.Test.YtfobnemocodomaaGreatZBa
import Derived.Lib.Strings
import Derived.Deep.WholeRow
import Derived.Great.Walk
set_option linter.unusedVariables false
set_option linter.unusedSimpArgs false
set_option maxHeartbeats 1000000
namespace Go.Proofs.YtfobnemocodomaaGreat
open Go.RowKit

structure Vx where
  P : Int
  C : Int
  A : Option Addr
  pl : List Dot
  pc : Nat
  D : Bool
  T : ByteArray
def Vx.cells (x : Vx) : Array Value := #[.int .i64 x.P, .int .i64 x.C, .slice x.A x.pl.length x.pc, .bool x.D, .string x.T]
/-- what a version points to -/
def VxOk (w : World) (x : Vx) : Prop := Dots w x.A x.pl ∧ x.T.size ≤ 9223372036854775807
theorem VxOk.gr {w w' : World} {x : Vx} (h : VxOk w x) (g : Gr w w') : VxOk w' x := ⟨h.1.gr g, h.2⟩
/-- versions in a row -/
def Vers (w : World) (A : Option Addr) (l : List Vx) : Prop :=
  l.length ≤ 9223372036854775807 ∧ ∀ i (h : i < l.length), ∃ ad, A = some ad ∧ VxOk w l[i] ∧ ∀ j v, l[i].cells[j]? = some v → w.cell? ((ad.add (i * 5)).add j) = some v
theorem Vers.gr {w w' : World} {A : Option Addr} {l : List Vx} (h : Vers w A l) (g : Gr w w') : Vers w' A l :=
  ⟨h.1, fun i hi => let ⟨ad, e, a, b⟩ := h.2 i hi; ⟨ad, e, a.gr g, fun j v hj => g.cell (b j v hj)⟩⟩
theorem Vers.nil (w : World) (A : Option Addr) : Vers w A [] := ⟨by simp, fun i h => by simp at h⟩
theorem vOne (x : Vx) : x.cells.all Value.oneCell' = true := by simp [Vx.cells, Value.oneCell']
/-- are two versions the same -/
def vsame (x y : Vx) : Bool := (x.P == y.P && x.C == y.C) && (x.D == y.D && (decide (x.T = y.T) && decide (x.pl = y.pl)))
/-- are two lists of versions the same -/
def vsames : List Vx → List Vx → Bool
  | [], [] => true
  | x :: a, y :: b => vsame x y && vsames a b
  | _, _ => false

set_option maxRecDepth 100000 in
theorem vSame2_any (x y : Vx) (w : World) (hx : VxOk w x) (hy : VxOk w y) :
    Calls Tryz.prog 80 #[.agg x.cells, .agg y.cells] w fun r w' => r = .returned (.bool (vsame x y)) ∧ Gr w w' := by
  have HX := Lib.hid hx
  have HY := Lib.hid hy
  obtain ⟨P, C, A, pl, pc, D, T⟩ := x
  obtain ⟨Q, E, B, ql, qc, F, U⟩ := y
  clear hx hy
  unfold Vx.cells
  dsimp only
  have hg0 : Gr w (w.alloc (.cells #[.int .i64 P, .int .i64 C, .slice A pl.length pc, .bool D, .string T] 114)) := (Gr.rfl' w).al _
  have hg1 := hg0.al (.cells #[.int .i64 Q, .int .i64 E, .slice B ql.length qc, .bool F, .string U] 114)
  have HG := Lib.hid hg1
  clear hg0 hg1
  by_cases h1 : (P == Q && C == E) = true
  · have hEq : ∀ w, (Op.equalIn 10000 112 (.agg #[.int .i64 P, .int .i64 C]) (.agg #[.int .i64 Q, .int .i64 E])).run Tryz.prog w = .ok true w := fun w => by rw [eqDot 9998, h1]
    by_cases h2 : D = F
    · subst h2
      by_cases h3 : T = U
      · subst h3
        have HS := Lib.hid (refSame_any A B pc qc pl ql _ (HX.out.1.gr HG.out) (HY.out.1.gr HG.out))
        have hv : Hid (vsame ⟨P, C, A, pl, pc, D, T⟩ ⟨Q, E, B, ql, qc, D, T⟩ = decide (pl = ql)) := Lib.hid (by unfold vsame; rw [h1]; simp)
        clear h1
        go_enter Tryz.func80, Tryz.ntmps80
        go_wp2_with fail
        refine (HS.out).mono ?_
        rintro r w1 ⟨rfl, g1⟩
        go_wp2
        go_ret
        rw [hv.out]
        exact ⟨rfl, HG.out.tr g1⟩
      · have hTU : (T.toList == U.toList) = false := by simp; intro h; exact h3 (by apply ByteArray.ext; rw [Lib.toList_data, Lib.toList_data] at h; exact Array.ext' h)
        have hv : Hid (vsame ⟨P, C, A, pl, pc, D, T⟩ ⟨Q, E, B, ql, qc, D, U⟩ = false) := Lib.hid (by unfold vsame; rw [h1]; simp [h3])
        clear h1
        go_enter Tryz.func80, Tryz.ntmps80
        go_wp2
        go_ret
        rw [hv.out]
        exact ⟨rfl, HG.out⟩
    · have hDF : (D == F) = false := by simpa using h2
      have hv : Hid (vsame ⟨P, C, A, pl, pc, D, T⟩ ⟨Q, E, B, ql, qc, F, U⟩ = false) := Lib.hid (by unfold vsame; rw [h1]; simp [h2])
      clear h1
      go_enter Tryz.func80, Tryz.ntmps80
      go_wp2
      go_ret
      rw [hv.out]
      exact ⟨rfl, HG.out⟩
  · have hEq : ∀ w, (Op.equalIn 10000 112 (.agg #[.int .i64 P, .int .i64 C]) (.agg #[.int .i64 Q, .int .i64 E])).run Tryz.prog w = .ok false w := fun w => by rw [eqDot 9998]; simp at h1; simp; exact h1
    have hv : Hid (vsame ⟨P, C, A, pl, pc, D, T⟩ ⟨Q, E, B, ql, qc, F, U⟩ = false) := Lib.hid (by unfold vsame; simp at h1; simp; intro a b; exact absurd b (h1 a))
    clear h1
    go_enter Tryz.func80, Tryz.ntmps80
    go_wp2
    go_ret
    rw [hv.out]
    exact ⟨rfl, HG.out⟩
end Go.Proofs.YtfobnemocodomaaGreat
set_option linter.unusedVariables false
set_option linter.unusedSimpArgs false
set_option maxHeartbeats 2000000
namespace Go.Proofs.YtfobnemocodomaaGreat
open Go.RowKit Go.Great

/-- a variable of several cells, read whole, wherever it lies -/
theorem ldv_run {P : Program} (w : World) (a : Addr) (ty : TypeId) (cs : List Value) (d : TypeDesc) (hc : ∀ j v, cs[j]? = some v → w.cell? (a.add j) = some v)
    (hu : P.underlying ty = some d) (hd : d.isRow = true) (hi : (P.info? ty).map (·.size) = some cs.length) :
    (loadVar ty a).run P w = .ok (.agg cs.toArray) w := by
  have hl : (loadCells a cs.length).run P w = .ok cs.toArray w := run_loadCells_list (P := P) w a cs hc
  cases hq : P.info? ty with
  | none => simp [hq] at hi
  | some i =>
    have hs : i.size = cs.length := by simpa [hq] using hi
    have hagg : (isAgg ty).run P w = .ok true w := by
      unfold isAgg
      rw [Sem.run_bind, run_underlying hu w]
      cases d <;> simp_all
    simp [loadVar, Sem.run_bind, hagg, sizeOf, typeInfo, hq, hs, hl]
theorem ld_at {P : Program} {ops : Array Oper} {rest : List Oper} {op : Oper} {a : Act} {w : World} {Q : Exit → Act → World → Prop} (hgd : op.guard = none) (ty : TypeId) (x : Operand) (ho : op.op = .load ty x)
    (ad : Addr) (hx : a.eval x = .pointer (some ad)) (cs : List Value) (d : TypeDesc) (hc : ∀ j v, cs[j]? = some v → w.cell? (ad.add j) = some v)
    (hu : P.underlying ty = some d) (hd : d.isRow = true) (hi : (P.info? ty).map (·.size) = some cs.length)
    (h : wpList P ops Q rest (a.put op.dst (.agg cs.toArray)) w) : wpList P ops Q (op :: rest) a w := by
  refine wpList_plain hgd fun _ hK => ?_
  unfold Oper.wp execOp
  simp only [ho, hx, Instr.loadAt, Instr.sureAddr, Sem.run_bind, Sem.run_pure, Result.andThen_ok, ldv_run w ad ty cs d hc hu hd hi]
  exact hK _ _ h

def Z5 : Array Value := #[.int .i64 0, .int .i64 0, .slice none 0 0, .bool false, .string ⟨#[]⟩]
theorem Z5_info : (Tryz.prog.info? 114).map (fun i => (i.zero, i.size)) = some (some (.agg Z5), 5) := by kernel_rfl
theorem allocV {ops : Array Oper} {rest : List Oper} {o : Oper} {a : Act} {w : World} {Q : Exit → Act → World → Prop} (hg : o.guard = none) (ho : o.op = .alloc 114)
    (h : wpList Tryz.prog ops Q rest (a.put o.dst (.pointer (some ⟨w.heap.size, 0, none⟩))) (w.alloc (.cells Z5 114))) : wpList Tryz.prog ops Q (o :: rest) a w := by
  refine wpList_allocTo hg o.dst rfl _ (.cells Z5 114) ?_ h
  have hz := (zero_of_info Z5_info).1
  unfold execOp
  simp [ho, Instr.alloc, hz, Value.cells, go_sem]
theorem storeV {ops : Array Oper} {rest : List Oper} {o : Oper} {a : Act} {w : World} {Q : Exit → Act → World → Prop} (c : Vx) (hg : o.guard = none) (x y : Operand) (ho : o.op = .store 114 x y) (hd : o.dst = none)
    (hx : a.eval x = .pointer (some ⟨w.heap.size, 0, none⟩)) (hy : a.eval y = .agg c.cells)
    (h : ∀ wt : World, wt.heap[w.heap.size]? = some (.cells c.cells 114 (0, 0)) → Gr w wt → wpList Tryz.prog ops Q rest a wt) : wpList Tryz.prog ops Q (o :: rest) a (w.alloc (.cells Z5 114)) := by
  refine wpList_store_row hg 114 x y ho w.heap.size c.cells hx hy 114 Z5 (World.alloc_heap_new w _) (by kernel_rfl) (by rfl) (vOne c) ?_
  rw [World.setRow_alloc_new, hd]
  exact h _ (World.alloc_heap_new _ _) ((Gr.rfl' w).al _)

theorem vsames_len : ∀ (a b : List Vx), a.length ≠ b.length → vsames a b = false
  | [], [], h => absurd rfl h
  | [], _ :: _, _ => rfl
  | _ :: _, [], _ => rfl
  | x :: a, y :: b, h => by
    unfold vsames
    rw [vsames_len a b (fun e => h (by simp [e]))]; simp
theorem vsames_step {a b : List Vx} {k : Nat} (h1 : k < a.length) (h2 : k < b.length) : vsames (a.drop k) (b.drop k) = (vsame a[k] b[k] && vsames (a.drop (k + 1)) (b.drop (k + 1))) := by
  rw [List.drop_eq_getElem_cons h1, List.drop_eq_getElem_cons h2]; rfl

end Go.Proofs.YtfobnemocodomaaGreat
set_option linter.unusedVariables false
set_option linter.unusedSimpArgs false
set_option maxHeartbeats 2000000
namespace Go.Proofs.YtfobnemocodomaaGreat
open Go.RowKit Go.Great

/-- a version's cells, one by one -/
def VAt (W : World) (a : Addr) (P C : Int) (A : Option Addr) (n c : Nat) (D : Bool) (T : ByteArray) : Prop :=
  W.cell? a = some (.int .i64 P) ∧ W.cell? ⟨a.block, a.off + 1, none⟩ = some (.int .i64 C) ∧ W.cell? ⟨a.block, a.off + 2, none⟩ = some (.slice A n c) ∧ W.cell? ⟨a.block, a.off + 3, none⟩ = some (.bool D) ∧ W.cell? ⟨a.block, a.off + 4, none⟩ = some (.string T)
theorem vat_of {W : World} {a : Addr} {x : Vx} (h : ∀ j v, x.cells[j]? = some v → W.cell? (a.add j) = some v) : VAt W a x.P x.C x.A x.pl.length x.pc x.D x.T :=
  ⟨h 0 (.int .i64 x.P) rfl, h 1 (.int .i64 x.C) rfl, h 2 (.slice x.A x.pl.length x.pc) rfl, h 3 (.bool x.D) rfl, h 4 (.string x.T) rfl⟩
theorem VAt.gr {W W' : World} {a : Addr} {P C : Int} {A : Option Addr} {n c : Nat} {D : Bool} {T : ByteArray} (h : VAt W a P C A n c D T) (g : Gr W W') : VAt W' a P C A n c D T :=
  ⟨g.cell h.1, g.cell h.2.1, g.cell h.2.2.1, g.cell h.2.2.2.1, g.cell h.2.2.2.2⟩

set_option maxRecDepth 100000 in
theorem vSames2_any (A B : Option Addr) (ca cb : Nat) (a b : List Vx) (w : World) (h1 : Vers w A a) (h2 : Vers w B b) :
    Calls Tryz.prog 43 #[.slice A a.length ca, .slice B b.length cb] w fun r w' => r = .returned (.bool (vsames a b)) ∧ Gr w w' := by
  have H1 := Lib.hid h1; clear h1
  have H2 := Lib.hid h2; clear h2
  have hm := H1.out.1
  have hg0 := Lib.hid (Gr.rfl' w)
  by_cases hlen : a.length = b.length
  · have hlb : ((a.length : Int) != (b.length : Int)) = false := by simp [hlen]
    have HL := Lib.hid hlen; clear hlen
    go_enter Tryz.func43, Tryz.ntmps43
    go_wp2
    go_loopw [5] (fun i wr => ∃ k : Nat, k ≤ a.length ∧ i = .int .i64 k ∧ Hid (vsames a b = vsames (a.drop k) (b.drop k)) ∧ Hid (Gr w wr)) (fun i _ => a.length - (intOf i).toNat)
    case atStart => exact ⟨0, Nat.zero_le _, rfl, Lib.hid rfl, hg0⟩
    case round =>
      clear hg0
      obtain ⟨k, hk, rfl, hch, HG⟩ := hrel
      by_cases hlt : k < a.length
      · have hlt2 : k < b.length := by rw [← HL.out]; exact hlt
        have hi1 : (k : Int) < (a.length : Int) := by omega
        have hi2 : (k : Int) < (b.length : Int) := by omega
        obtain ⟨ad, rfl, hvx, hcx⟩ := (H1.out.gr HG.out).2 k hlt
        obtain ⟨bd, rfl, hvy, hcy⟩ := (H2.out.gr HG.out).2 k hlt2
        have hst := vsames_step hlt hlt2
        rw [← hch.out] at hst
        obtain ⟨x, hx⟩ : ∃ x, a[k] = x := ⟨_, rfl⟩
        obtain ⟨y, hy⟩ : ∃ y, b[k] = y := ⟨_, rfl⟩
        rw [hx] at hvx hcx hst
        rw [hy] at hvy hcy hst
        have HVX := Lib.hid hvx
        have HVY := Lib.hid hvy
        have HST := Lib.hid hst
        have HCX := Lib.hid (vat_of hcx)
        have HCY := Lib.hid (vat_of hcy)
        have GD : Gr wr wr.drew := (Gr.rfl' wr).dr
        clear hvx hcx hvy hcy hst hx hy hch
        by_cases hs : vsame x y = true
        · have HN : Hid (vsames a b = vsames (a.drop (k + 1)) (b.drop (k + 1))) := Lib.hid (by rw [HST.out, hs]; simp)
          have HC := Lib.hid (fun (W : World) (g : Gr wr W) => vSame2_any x y W (HVX.out.gr g) (HVY.out.gr g))
          rw [hs] at HC
          clear hs HST HVX HVY
          obtain ⟨xP, xC, xA, xl, xc, xD, xT⟩ := x
          obtain ⟨yP, yC, yA, yl, yc, yD, yT⟩ := y
          unfold Vx.cells at HC
          dsimp only at HC HCX HCY
          go_upto_region 6 with (fail)
          go_region_held3 (fun w' => w'.cell? (ad.add (k * 5)) = some (.int .i64 xP) ∧ w'.cell? ⟨(ad.add (k * 5)).block, (ad.add (k * 5)).off + 1, none⟩ = some (.int .i64 xC) ∧ w'.cell? ⟨(ad.add (k * 5)).block, (ad.add (k * 5)).off + 2, none⟩ = some (.slice xA xl.length xc) ∧ w'.cell? ⟨(ad.add (k * 5)).block, (ad.add (k * 5)).off + 3, none⟩ = some (.bool xD) ∧ w'.cell? ⟨(ad.add (k * 5)).block, (ad.add (k * 5)).off + 4, none⟩ = some (.string xT) ∧ w'.cell? (bd.add (k * 5)) = some (.int .i64 yP) ∧ w'.cell? ⟨(bd.add (k * 5)).block, (bd.add (k * 5)).off + 1, none⟩ = some (.int .i64 yC) ∧ w'.cell? ⟨(bd.add (k * 5)).block, (bd.add (k * 5)).off + 2, none⟩ = some (.slice yA yl.length yc) ∧ w'.cell? ⟨(bd.add (k * 5)).block, (bd.add (k * 5)).off + 3, none⟩ = some (.bool yD) ∧ w'.cell? ⟨(bd.add (k * 5)).block, (bd.add (k * 5)).off + 4, none⟩ = some (.string yT)) (exact (have h1 := HCX.out.gr GD; have h2 := HCY.out.gr GD; ⟨h1.1, h1.2.1, h1.2.2.1, h1.2.2.2.1, h1.2.2.2.2, h2.1, h2.2.1, h2.2.2.1, h2.2.2.2.1, h2.2.2.2.2⟩)) (first
            | (go_at_call 80; refine (HC.out _ GD).mono ?_; rintro r wc ⟨rfl, hgc⟩; replace GD := GD.tr hgc; clear hgc))
          go_wp2
          go_roundw
          case rel => exact ⟨k + 1, by omega, by go_num, HN, Lib.hid (HG.out.tr GD)⟩
          case measure => simp [intOf]; omega
        · have hs : vsame x y = false := by simpa using hs
          have HN : Hid (vsames a b = false) := Lib.hid (by rw [HST.out, hs]; simp)
          have HC := Lib.hid (fun (W : World) (g : Gr wr W) => vSame2_any x y W (HVX.out.gr g) (HVY.out.gr g))
          rw [hs] at HC
          clear hs HST HVX HVY
          obtain ⟨xP, xC, xA, xl, xc, xD, xT⟩ := x
          obtain ⟨yP, yC, yA, yl, yc, yD, yT⟩ := y
          unfold Vx.cells at HC
          dsimp only at HC HCX HCY
          go_upto_region 6 with (fail)
          go_region_held3 (fun w' => w'.cell? (ad.add (k * 5)) = some (.int .i64 xP) ∧ w'.cell? ⟨(ad.add (k * 5)).block, (ad.add (k * 5)).off + 1, none⟩ = some (.int .i64 xC) ∧ w'.cell? ⟨(ad.add (k * 5)).block, (ad.add (k * 5)).off + 2, none⟩ = some (.slice xA xl.length xc) ∧ w'.cell? ⟨(ad.add (k * 5)).block, (ad.add (k * 5)).off + 3, none⟩ = some (.bool xD) ∧ w'.cell? ⟨(ad.add (k * 5)).block, (ad.add (k * 5)).off + 4, none⟩ = some (.string xT) ∧ w'.cell? (bd.add (k * 5)) = some (.int .i64 yP) ∧ w'.cell? ⟨(bd.add (k * 5)).block, (bd.add (k * 5)).off + 1, none⟩ = some (.int .i64 yC) ∧ w'.cell? ⟨(bd.add (k * 5)).block, (bd.add (k * 5)).off + 2, none⟩ = some (.slice yA yl.length yc) ∧ w'.cell? ⟨(bd.add (k * 5)).block, (bd.add (k * 5)).off + 3, none⟩ = some (.bool yD) ∧ w'.cell? ⟨(bd.add (k * 5)).block, (bd.add (k * 5)).off + 4, none⟩ = some (.string yT)) (exact (have h1 := HCX.out.gr GD; have h2 := HCY.out.gr GD; ⟨h1.1, h1.2.1, h1.2.2.1, h1.2.2.2.1, h1.2.2.2.2, h2.1, h2.2.1, h2.2.2.1, h2.2.2.2.1, h2.2.2.2.2⟩)) (first
            | (go_at_call 80; refine (HC.out _ GD).mono ?_; rintro r wc ⟨rfl, hgc⟩; replace GD := GD.tr hgc; clear hgc))
          go_wp2
          go_ret
          rw [HN.out]
          exact ⟨rfl, HG.out.tr GD⟩
      · have hk' : k = a.length := by omega
        subst hk'
        have HN : Hid (vsames a b = true) := Lib.hid (by have := hch.out; rw [List.drop_length, HL.out, List.drop_length] at this; exact this)
        go_wp2
        go_ret
        rw [HN.out]
        exact ⟨rfl, HG.out⟩
  · have hlb : ((a.length : Int) != (b.length : Int)) = true := by simp; omega
    have HN := Lib.hid (vsames_len a b hlen)
    clear hlen
    go_enter Tryz.func43, Tryz.ntmps43
    go_wp2
    go_ret
    rw [HN.out]
    exact ⟨rfl, hg0.out⟩
end Go.Proofs.YtfobnemocodomaaGreat
set_option linter.unusedVariables false
set_option linter.unusedSimpArgs false
set_option maxHeartbeats 4000000
namespace Go.Proofs.YtfobnemocodomaaGreat
open Go.RowKit Go.Great

def vCells (l : List Vx) : List Value := l.flatMap fun x => x.cells.toList
theorem vCells_len (l : List Vx) : (vCells l).length = l.length * 5 := by
  induction l with
  | nil => rfl
  | cons x r ih =>
    have e : (vCells (x :: r)).length = 5 + (vCells r).length := by simp [vCells, Vx.cells]; omega
    rw [e, ih, List.length_cons]; omega
theorem vCells_app (l m : List Vx) : vCells (l ++ m) = vCells l ++ vCells m := by simp [vCells]
theorem vCells_at : ∀ (l : List Vx) (i j : Nat) (h : i < l.length) (v : Value), l[i].cells[j]? = some v → (vCells l)[i * 5 + j]? = some v
  | [], i, j, h, v, hv => by simp at h
  | x :: r, i, j, h, v, hv => by
    have e : vCells (x :: r) = x.cells.toList ++ vCells r := by simp [vCells]
    have hl : x.cells.toList.length = 5 := rfl
    rw [e]
    cases i with
    | zero =>
      simp only [List.getElem_cons_zero] at hv
      have hj : j < 5 := (Array.getElem?_eq_some_iff.1 hv).1
      rw [List.getElem?_append_left (by rw [hl]; omega), Nat.zero_mul, Nat.zero_add]
      simpa using hv
    | succ i =>
      simp only [List.getElem_cons_succ] at hv
      rw [List.getElem?_append_right (by rw [hl]; omega), hl, show (i + 1) * 5 + j - 5 = i * 5 + j by omega]
      exact vCells_at r i j (by simpa using h) v hv
theorem vOnes (l : List Vx) : ∀ u ∈ vCells l, u.oneCell' = true := by
  intro u hu
  unfold vCells at hu
  rw [List.mem_flatMap] at hu
  obtain ⟨x, _, hu⟩ := hu
  have := vOne x
  rw [Array.all_eq_true_iff_forall_mem] at this
  exact this u (by simpa using hu)
theorem infoV : (Tryz.prog.info? 114).map (fun i => (i.zero, i.size, i.bytes)) = some (some (.agg Z5), 5, 64) := by kernel_rfl
/-- versions in a row of one's own -/
def OwnV (W : World) (B : Nat) (v : Value) (l : List Vx) : Prop := (v = .slice none 0 0 ∧ l = []) ∨ ∃ g, B ≤ g ∧ OwnG 114 5 W g v l.length (vCells l)
theorem OwnV.gr {W W' : World} {B : Nat} {v : Value} {l : List Vx} (h : OwnV W B v l) (k : Gr W W') : OwnV W' B v l := by
  rcases h with h | ⟨g, h1, h2⟩
  · exact Or.inl h
  · exact Or.inr ⟨g, h1, h2.gr k⟩

theorem vNew (w : World) (x : Vx) : ∀ j u, x.cells.toList[j]? = some u → (w.alloc (.cells x.cells 114)).cell? ((⟨w.heap.size, 0, none⟩ : Addr).add j) = some u := by
  intro j u hj
  have hn := World.alloc_heap_new w (.cells x.cells 114)
  have e : (⟨w.heap.size, 0, none⟩ : Addr).add j = ⟨w.heap.size, j, none⟩ := by unfold Addr.add; split <;> simp_all
  rw [e]
  simp only [World.cell?, hn]
  simpa using hj

def vsOk (W : World) (l : List Vx) : Prop := ∀ x ∈ l, VxOk W x
theorem vsOk.gr {W W' : World} {l : List Vx} (h : vsOk W l) (g : Gr W W') : vsOk W' l := fun x hx => (h x hx).gr g
theorem Vers.oks {W : World} {A : Option Addr} {l : List Vx} (h : Vers W A l) : vsOk W l := fun x hx => by
  obtain ⟨i, hi, rfl⟩ := List.getElem_of_mem hx
  obtain ⟨_, _, h, _⟩ := h.2 i hi; exact h
theorem OwnV.vers {W : World} {B : Nat} {v : Value} {l : List Vx} (h : OwnV W B v l) (ht : vsOk W l) : ∃ A c, v = .slice A l.length c ∧ l.length ≤ c ∧ Vers W A l := by
  rcases h with ⟨rfl, rfl⟩ | ⟨g, _, h⟩
  · exact ⟨none, 0, rfl, Nat.le_refl _, by simp, fun i hi => absurd hi (by simp)⟩
  · obtain ⟨c, rfl, h1, h2⟩ := h.shape
    refine ⟨_, c, rfl, h1, by unfold maxLen at h2; omega, fun i hi => ⟨_, rfl, ht _ (List.getElem_mem hi), fun j u hj => ?_⟩⟩
    have e : (((⟨g, 0, none⟩ : Addr).add (i * 5)).add j) = ⟨g, i * 5 + j, none⟩ := by
      unfold Addr.add
      split <;> split <;> simp_all
    rw [e]
    exact (h.cell _ u (vCells_at l i j hi u hj)).1
theorem OwnV.shp {W : World} {B : Nat} {v : Value} {l : List Vx} (h : OwnV W B v l) : ∃ A n c, v = .slice A n c ∧ Hid (n = l.length) ∧ Hid (∀ D, A = some D → D.block < W.heap.size) := by
  rcases h with ⟨rfl, rfl⟩ | ⟨g, _, hog⟩
  · exact ⟨none, 0, 0, rfl, Lib.hid rfl, Lib.hid (fun _ h => by cases h)⟩
  · obtain ⟨c, h, _⟩ := hog.shape; exact ⟨_, _, c, h, Lib.hid rfl, Lib.hid (fun D hD => by cases hD; exact hog.lt)⟩
theorem OwnV.nil (W : World) (B : Nat) : OwnV W B (.slice none 0 0) [] := Or.inl ⟨rfl, rfl⟩
theorem OwnV.mono {W : World} {B B' : Nat} {v : Value} {l : List Vx} (h : OwnV W B v l) (k : B' ≤ B) : OwnV W B' v l := by
  rcases h with h | ⟨g, h1, h2⟩
  · exact Or.inl h
  · exact Or.inr ⟨g, by omega, h2⟩
def liveL (l : List Vx) : List Vx := l.filter fun x => !x.D
theorem live_step {l : List Vx} {k : Nat} (h : k < l.length) : liveL (l.take (k + 1)) = liveL (l.take k) ++ (if l[k].D = true then [] else [l[k]]) := by
  unfold liveL
  rw [List.take_succ_eq_append_getElem h, List.filter_append]
  congr 1
  cases hd : l[k].D <;> simp [hd]
theorem live_len (l : List Vx) : (liveL l).length ≤ l.length := List.length_filter_le _ _

end Go.Proofs.YtfobnemocodomaaGreat
set_option linter.unusedVariables false
set_option linter.unusedSimpArgs false
set_option maxHeartbeats 4000000
namespace Go.Proofs.YtfobnemocodomaaGreat
open Go.RowKit Go.Great

/-- a leaf among others: the slice's header and what it leads to -/
structure VRow where
  A : Option Addr
  cap : Nat
  l : List Vx
def VRows (w : World) (A : Option Addr) (rs : List VRow) : Prop :=
  rs.length ≤ 9223372036854775807 ∧ ∀ i (h : i < rs.length), ∃ ad, A = some ad ∧ w.cell? (ad.add i) = some (.slice rs[i].A rs[i].l.length rs[i].cap) ∧ Vers w rs[i].A rs[i].l
theorem VRows.gr {w w' : World} {A : Option Addr} {rs : List VRow} (h : VRows w A rs) (g : Gr w w') : VRows w' A rs :=
  ⟨h.1, fun i hi => let ⟨ad, e, a, b⟩ := h.2 i hi; ⟨ad, e, g.cell a, b.gr g⟩⟩
theorem VRows.one {w : World} {A : Option Addr} {cap : Nat} {l : List Vx} (h : Vers w A l) (t : TypeId) : VRows (w.alloc (.cells #[.slice A l.length cap] t)) (some ⟨w.heap.size, 0, none⟩) [⟨A, cap, l⟩] := by
  refine ⟨by simp, fun i hi => ⟨_, rfl, ?_, ?_⟩⟩
  · obtain rfl : i = 0 := by simpa using hi
    have hn := World.alloc_heap_new w (.cells #[.slice A l.length cap] t)
    have e : (⟨w.heap.size, 0, none⟩ : Addr).add 0 = ⟨w.heap.size, 0, none⟩ := by unfold Addr.add; rw [if_pos rfl]
    rw [e]
    simp only [World.cell?, hn]
    rfl
  · obtain rfl : i = 0 := by simpa using hi
    exact h.gr ((Gr.rfl' w).al _)

end Go.Proofs.YtfobnemocodomaaGreat
