/- Joined texts: Base Open RegT RegU RowG Iter. -/
import Derived.Test.YtfobnemocodomaaGreatProg
import Derived.WalkKit
import Derived.WalkSpells
import Derived.WalkLawsBesides
import Derived.BigQuiet
import Derived.Deep.QuietTactic
import Derived.Deep.RegionHeld3
import Derived.Lib.Hide
import Derived.Deep.LoopGhost
import Derived.Deep.CutBlock
import Derived.Deep.DeepCutAuto
import Derived.Test.YtfobnemocodomaaGreatRows
import Derived.ProofKit
import Derived.OpenShut
import Derived.ShutString
import Derived.ChangeOld
import Derived.Below
import Derived.Deep.SlicePairs
import Derived.Lib.SmallJoins
import Derived.StillTail
import Derived.OrdersHeld
import Derived.Deep.MidRow
import Derived.ArgAppend
import Derived.OwnWalk
import Derived.OwnWalkIn
import Derived.RangeFuncBox
import Derived.RangeFuncNested
import Derived.RangeFuncBound
import Derived.RangeFuncCalls
import Derived.RangeFuncLeaves
import Derived.Shelf.Abstract
import Derived.Shelf.RegionOpen
import Derived.TacticsInMore
import Derived.LoopNIn
import Derived.LoopIn
set_option maxHeartbeats 200000
set_option linter.unusedVariables false
set_option linter.unusedSimpArgs false
namespace Go.Proofs.YtfobnemocodomaaGreat
open Go.RowKit

/-- The world has grown: nothing that was there has turned. -/
abbrev Gr (w w' : World) : Prop := Below w.heap.size w w'
theorem Gr.rfl' (w : World) : Gr w w := Below.refl _ _
theorem Gr.tr {a b c : World} (h : Gr a b) (k : Gr b c) : Gr a c := h.trans (k.mono h.size)
theorem Gr.al {a b : World} (h : Gr a b) (o : Obj) : Gr a (b.alloc o) := Below.alloc h h.size o
theorem Gr.dr {a b : World} (h : Gr a b) : Gr a b.drew := Below.drew h
theorem Gr.drN {a b : World} (h : Gr a b) (n : Nat) : Gr a (b.drewN n) := ⟨h.os, h.tape, h.output, h.size, h.block⟩
theorem Gr.cell {w w' : World} (h : Gr w w') {p : Addr} {v : Value} (hc : w.cell? p = some v) : w'.cell? p = some v :=
  (Below.cell h (World.block_lt_of_cell? w p hc)).trans hc
theorem Gr.set {a b : World} (h : Gr a b) {p : Addr} (hp : a.heap.size ≤ p.block) (u : Value) : Gr a (b.setCell p u) := Below.setCell h hp u
theorem Gr.gb {a b : World} (h : Gr a b) : a.grownBy b none := ⟨h.os, h.tape, h.output, h.size, fun k hk _ => h.block k hk⟩

theorem bcell {W w1 : World} (hb : Gr W w1) : (∀ b o, b < W.heap.size → w1.cell? ⟨b, o, none⟩ = W.cell? ⟨b, o, none⟩) ∧ (∀ b o, b < W.heap.size → w1.frozen? ⟨b, o, none⟩ = W.frozen? ⟨b, o, none⟩) :=
  ⟨fun b o h => Below.cell (p := ⟨b, o, none⟩) hb h, fun b o h => Below.frozen (p := ⟨b, o, none⟩) hb h⟩
theorem ret_int {k : IntKind} {a b : Int} (h : a = b) : Ending.returned (.int k a) = .returned (.int k b) := by rw [h]
theorem ret_bool {a b : Bool} (h : a = b) : Ending.returned (.bool a) = .returned (.bool b) := by rw [h]

abbrev Dot := Int × Int

/-- A dot's two cells. -/
def Dots (w : World) (A : Option Addr) (l : List Dot) : Prop :=
  l.length ≤ 9223372036854775807 ∧ ∀ i (h : i < l.length), ∃ ad, A = some ad ∧ w.cell? (ad.add (i * 2)) = some (.int .i64 l[i].1) ∧
    w.cell? ⟨(ad.add (i * 2)).block, (ad.add (i * 2)).off + 1, none⟩ = some (.int .i64 l[i].2)
theorem Dots.gr {w w' : World} {A : Option Addr} {l : List Dot} (h : Dots w A l) (g : Gr w w') : Dots w' A l :=
  ⟨h.1, fun i hi => let ⟨ad, e, a, b⟩ := h.2 i hi; ⟨ad, e, g.cell a, g.cell b⟩⟩
theorem Dots.nil (w : World) (A : Option Addr) : Dots w A [] := ⟨by simp, fun i h => by simp at h⟩

/-! the plain words -/
def dotChk (p c : Int) : Int := if p < 0 ∨ 64 ≤ p then 11 else if c < 1 ∨ 1048576 < c then 12 else 0
def chkGo (last : Int) : List Dot → Int
  | [] => 0
  | d :: r => if dotChk d.1 d.2 ≠ 0 then dotChk d.1 d.2 else if d.1 ≤ last then 8 else chkGo d.1 r
def chk (l : List Dot) : Int := chkGo (-1) l

end Go.Proofs.YtfobnemocodomaaGreat
set_option maxHeartbeats 200000
set_option linter.unusedVariables false
set_option linter.unusedSimpArgs false
namespace Go.Proofs.YtfobnemocodomaaGreat
open Go.ChangeShapes Go.WideShapes Go.ChangeAt Go.RowKit Go.Deep Go.Joins

theorem own : ownKnob Tryz.prog.godebug = none := by kernel_rfl
theorem laidOut : laidOutB Tryz.prog = true := by kernel_rfl

theorem open_dots {H : Type} {enc : TypeId × Value → H} {W : World} {A : Option Addr} {n c : Nat} {d : DataW H} {p : List MemPlace} (h : DataW.Trod enc Tryz.prog W 0 (fun _ => true) true 34 (.slice A n c) d p) :
    ∃ l : List Dot, n = l.length ∧ l.length ≤ c ∧ Dots W A l := by
  obtain ⟨fuel, hf⟩ := h
  rcases open_slice_pairs (f0 := _) (f1 := _) Tryz.underlying34 Tryz.underlying112 (by kernel_rfl) rfl rfl (by kernel_rfl) (by kernel_rfl) hf with ⟨hcs, _⟩ | ⟨a, len, cap, m, k, V0, V1, D0, D1, P0, P1, hcs, _, hl, hm, hmm, _, hx⟩
  · simp [Value.cells] at hcs
    obtain ⟨rfl, rfl, rfl⟩ := hcs
    exact ⟨[], rfl, by simp, Dots.nil _ _⟩
  · simp [Value.cells] at hcs
    obtain ⟨rfl, rfl, rfl⟩ := hcs
    have hmc : m = c := by simpa using hmm
    subst hmc
    have hv : ∀ i, i < m → V0 i = .int .i64 (intOf (V0 i)) ∧ V1 i = .int .i64 (intOf (V1 i)) := by
      intro i hi
      obtain ⟨_, _, h3, h4⟩ := hx i hi
      obtain ⟨n0, e0, _⟩ := DataW.trod_int Tryz.underlying3 h3
      obtain ⟨n1, e1, _⟩ := DataW.trod_int Tryz.underlying3 h4
      simp only [List.cons.injEq, and_true] at e0 e1
      rw [e0, e1]
      exact ⟨rfl, rfl⟩
    refine ⟨(List.range n).map fun i => (intOf (V0 i), intOf (V1 i)), by simp, by simpa using hl, by simp only [List.length_map, List.length_range, maxLen] at *; omega, fun i hi => ?_⟩
    have hin : i < n := by simpa using hi
    obtain ⟨h1, h2, _, _⟩ := hx i (by omega)
    obtain ⟨e1, e2⟩ := hv i (by omega)
    refine ⟨a, rfl, ?_, ?_⟩
    · rw [h1, e1]; simp [intOf]
    · have : (⟨(a.add (i * 2)).block, (a.add (i * 2)).off + 1, none⟩ : Addr) = a.add (i * 2 + 1) := by
        unfold Addr.add
        by_cases h0 : i * 2 = 0
        · rw [if_pos h0, if_neg (by omega), h0]
        · rw [if_neg h0, if_neg (by omega)]; rfl
      rw [this, h2, e2]; simp [intOf]

set_option maxRecDepth 100000 in
theorem open_dot {H : Type} {enc : TypeId × Value → H} {W : World} {b0 : Nat} {r : Reach} {v : Value} {d : DataW H} {p : List MemPlace} (hv : Value.okWide Tryz.prog W r b0 112 v) (h : DataW.Trod enc Tryz.prog W 0 (fun _ => true) true 112 v d p) :
    ∃ x y : Int, v = .agg #[.int .i64 x, .int .i64 y] ∧ (Lit.int .i64 x).wf = true ∧ (Lit.int .i64 y).wf = true := by
  obtain ⟨v0, v1, y0, y1, k, rfl, _, _, h0, h1⟩ := open_agg2 Tryz.underlying112 (by kernel_rfl) (by kernel_rfl) hv h
  obtain ⟨n0, e0, _, w0⟩ := DataW.trod_int Tryz.underlying3 h0
  obtain ⟨n1, e1, _, w1⟩ := DataW.trod_int Tryz.underlying3 h1
  simp only [List.cons.injEq, and_true] at e0 e1
  rw [e0, e1]
  exact ⟨_, _, rfl, w0, w1⟩
end Go.Proofs.YtfobnemocodomaaGreat
set_option maxHeartbeats 200000
set_option linter.unusedVariables false
set_option linter.unusedSimpArgs false
namespace Go.Proofs.YtfobnemocodomaaGreat
section
variable {P : Program} {ops : Array Oper} {Q : Exit → Act → World → Prop} {md : Region.Mode} {S : World → Prop}

/-- Whatever order is picked, and S holds behind each operation but number s. -/
def anyT (P : Program) (md : Region.Mode) (ops : Array Oper) (Q : Exit → Act → World → Prop) (s : Nat) (S : World → Prop) : Nat → Array Bool → Act → World → Prop
  | 0, listed, a, w => Region.ready md ops listed = [] ∧ Q .normal a w
  | f + 1, listed, a, w => (Region.ready md ops listed = [] → Q .normal a w) ∧
    ∀ i ∈ Region.ready md ops listed, wpOp P ops Q i (fun a' w' => (i ≠ s → S w') ∧ anyT P md ops Q s S f (listed.setIfInBounds i true) a' w') a w
theorem any_of_T {s : Nat} : ∀ (f : Nat) (listed : Array Bool) (a : Act) (w : World), anyT P md ops Q s S f listed a w → wpAny P md ops Q f listed a w
  | 0, _, _, _, h => h
  | f + 1, _, _, _, h => ⟨h.1, fun i hi => wpOp_mono (fun a' w' h' => any_of_T f _ a' w' h'.2) (h.2 i hi)⟩

def closedT (md : Region.Mode) (ops : Array Oper) (listed : Array Bool) : Bool :=
  (List.range ops.size).all fun j => !listed.getD j false || (match ops[j]? with | some oj => oj.after.all (fun e => !Region.binds md e || listed.getD e.on false) | none => true)
/-- number i may be taken first: all that is asked of the region's text -/
def takeT (md : Region.Mode) (ops : Array Oper) (s : Nat) (listed : Array Bool) (i : Nat) : Bool :=
  Region.noSelect ops && Region.free md ops listed i && (Region.ready md ops listed).contains i && Region.sinkB md ops s && Region.chainB md ops s && decide (ops.size = s + 1) && decide (i < s) &&
    decide (listed.size = ops.size) && closedT md ops listed && !listed.getD s true
theorem closedT_spec {listed : Array Bool} (h : closedT md ops listed = true) : ∀ j oj, ops[j]? = some oj → listed.getD j false = true → ∀ e ∈ oj.after, Region.binds md e = true → listed.getD e.on false = true := by
  intro j oj hj hl e he hb
  have h1 := List.all_eq_true.1 h j (List.mem_range.2 (Array.getElem?_eq_some_iff.1 hj).1)
  simp only [hj, hl, Bool.not_true, Bool.false_or] at h1
  have h2 := Array.all_eq_true_iff_forall_mem.1 h1 e he
  simpa [hb] using h2

theorem anyT_first {s i : Nat} {oi : Oper} {v : Value} (hi : ops[i]? = some oi) (hsel : ∀ (j : Nat) (o : Oper) cs b, ops[j]? = some o → o.op ≠ .select cs b)
    (hs : Region.sinkB md ops s = true) (hc : Region.chainB md ops s = true) (hn : ops.size = s + 1) (his : i < s)
    (hQ : ∀ c a w, Q (.panic c) (a.put oi.dst v) w → Q (.panic c) a w) :
    ∀ (f : Nat) (listed : Array Bool) (a : Act) (w : World), HeadInv md ops s listed →
      (∀ j oj, ops[j]? = some oj → j ≠ i → listed.getD j true = false → (∀ e ∈ oj.after, Region.binds md e = true → e.on ≠ i) → oi.apart ops oj = true) →
      i ∈ Region.ready md ops listed → YieldsIf P ops S oi v a → S w →
      anyT P md ops Q s S f (listed.setIfInBounds i true) (a.put oi.dst v) w → anyT P md ops Q s S (f + 1) listed a w := by
  intro f
  induction f with
  | zero =>
    intro listed a w inv _ hr hy hS H
    refine ⟨fun h => (by rw [h] at hr; cases hr), fun j hj => ?_⟩
    by_cases hji : j = i
    · subst hji; exact hy.wpOp hi hS ⟨fun _ => hS, H⟩
    · have := ready_mono hj hji
      rw [H.1] at this
      cases this
  | succ f ih =>
    intro listed a w inv hfree hr hy hS H
    refine ⟨fun h => (by rw [h] at hr; cases hr), fun j hj => ?_⟩
    have hun := (mem_ready.1 hr).1
    by_cases hji : j = i
    · subst hji; exact hy.wpOp hi hS ⟨fun _ => hS, H⟩
    · have h1 := H.2 j (ready_mono hj hji)
      obtain ⟨hjun, oj, hoj, hall⟩ := mem_ready.1 hj
      have hjsz : j < ops.size := (Array.getElem?_eq_some_iff.1 hoj).1
      have hjs : j < s := by
        rcases Nat.lt_or_ge j s with h | h
        · exact h
        · exact absurd hj (tail_waits hs hc (by omega) inv _ i rfl his hun j h)
      have hnot : ∀ e ∈ oj.after, Region.binds md e = true → e.on ≠ i := fun e he hb heq => by
        have h1 := hall e he hb
        rw [heq, getD_both hun] at h1
        cases h1
      have h2 := wpOp_putIf hoj (hfree j oj hoj hji hjun hnot) (fun cs b => hsel i oi cs b hi) (fun cs b => hsel j oj cs b hoj) hQ hy h1
      have hfree' : ∀ k ok, ops[k]? = some ok → k ≠ i → (listed.setIfInBounds j true).getD k true = false →
          (∀ e ∈ ok.after, Region.binds md e = true → e.on ≠ i) → oi.apart ops ok = true := fun k ok hk hki hun hno => by
        refine hfree k ok hk hki ?_ hno
        by_cases hjk : j = k
        · subst hjk; exact hjun
        · rw [getD_set_ne true hjk] at hun; exact hun
      refine wpOp_mono (fun a' w' h3 => ⟨h3.2.1, ih (listed.setIfInBounds j true) a' w' (inv.set hj hjs) hfree' (ready_mono hr (Ne.symm hji)) h3.1 (h3.2.1 (by omega)) ?_⟩) h2
      rw [Array.setIfInBounds_comm _ _ hji]
      exact h3.2.2

theorem anyT_take {s i : Nat} {oi : Oper} {v : Value} {f : Nat} {listed : Array Bool} {a : Act} {w : World} (d : Option Tmp) (hi : ops[i]? = some oi) (hd : oi.dst = d) (ht : takeT md ops s listed i = true)
    (hQ : ∀ c a w, Q (.panic c) (a.put d v) w → Q (.panic c) a w) (hy : YieldsIf P ops S oi v a) (hS : S w)
    (h : anyT P md ops Q s S f (listed.setIfInBounds i true) (a.put d v) w) : anyT P md ops Q s S (f + 1) listed a w := by
  subst hd
  unfold takeT at ht
  simp only [Bool.and_eq_true, decide_eq_true_eq, Bool.not_eq_true'] at ht
  obtain ⟨⟨⟨⟨⟨⟨⟨⟨⟨h1, h2⟩, h3⟩, h4⟩, h5⟩, h6⟩, h7⟩, h8⟩, h9⟩, h10⟩ := ht
  refine anyT_first hi (Region.noSelect_spec h1) h4 h5 h6 h7 hQ f listed a w ⟨h8, closedT_spec h9, fun t ht ht' => ?_⟩ (Region.free_spec hi h2) (by simpa using h3) hy hS h
  obtain rfl : t = s := by omega
  exact h10
/-- one operation alone may come up -/
theorem anyT_one {s i : Nat} {o : Oper} {f : Nat} {listed : Array Bool} {a : Act} {w : World} (hr : Region.ready md ops listed = [i]) (ho : ops[i]? = some o) (hg : o.guard = none)
    (h : o.wp P a w (fun a' w' => (i ≠ s → S w') ∧ anyT P md ops Q s S f (listed.setIfInBounds i true) a' w') Q) : anyT P md ops Q s S (f + 1) listed a w := by
  refine ⟨fun h0 => (by rw [hr] at h0; cases h0), fun j hj => ?_⟩
  rw [hr] at hj
  obtain rfl : j = i := by simpa using hj
  have hw : Region.wanted o (yielded ops a.tmps) = true := by simp [Region.wanted, hg]
  unfold wpOp
  simp only [ho, hw, if_true]
  exact .inl h
/-- one operation alone may come up; its guard lets it -/
theorem anyT_oneG {s i : Nat} {o : Oper} {f : Nat} {listed : Array Bool} {a : Act} {w : World} (hr : Region.ready md ops listed = [i]) (ho : ops[i]? = some o) (hw : Region.wanted o (yielded ops a.tmps) = true)
    (h : o.wp P a w (fun a' w' => (i ≠ s → S w') ∧ anyT P md ops Q s S f (listed.setIfInBounds i true) a' w') Q) : anyT P md ops Q s S (f + 1) listed a w := by
  refine ⟨fun h0 => (by rw [hr] at h0; cases h0), fun j hj => ?_⟩
  rw [hr] at hj
  obtain rfl : j = i := by simpa using hj
  unfold wpOp
  simp only [ho, hw, if_true]
  exact .inl h
theorem anyT_done {s : Nat} {listed : Array Bool} {a : Act} {w : World} (hr : Region.ready md ops listed = []) (h : Q .normal a w) : ∀ f, anyT P md ops Q s S f listed a w
  | 0 => ⟨hr, h⟩
  | _ + 1 => ⟨fun _ => h, by rw [hr]; simp⟩
/-- a call of a Go function, met by its contract -/
theorem anyT_call {s i : Nat} {o : Oper} {f : Nat} {listed : Array Bool} {a : Act} {w : World} (d : Option Tmp) (g : FuncId) (args : Array Value) (hr : Region.ready md ops listed = [i]) (ho : ops[i]? = some o) (hg : o.guard = none) (hd : o.dst = d)
    (he : (execOp a.eval o).run P w = .ok (.enter g args) w)
    (hc : Calls P g args w fun e w' => ∃ v, e = .returned v ∧ (i ≠ s → S w') ∧ anyT P md ops Q s S f (listed.setIfInBounds i true) (a.put d v) w') : anyT P md ops Q s S (f + 1) listed a w := by
  refine anyT_one hr ho hg ?_
  subst hd
  unfold Oper.wp
  rw [he, Oper.upon_enter]
  refine hc.mono ?_
  rintro e w' ⟨v, rfl, h1, h2⟩
  exact ⟨h1, h2⟩
theorem anyT_callG {s i : Nat} {o : Oper} {f : Nat} {listed : Array Bool} {a : Act} {w : World} (d : Option Tmp) (g : FuncId) (args : Array Value) (hr : Region.ready md ops listed = [i]) (ho : ops[i]? = some o) (hw : Region.wanted o (yielded ops a.tmps) = true) (hd : o.dst = d)
    (he : (execOp a.eval o).run P w = .ok (.enter g args) w)
    (hc : Calls P g args w fun e w' => ∃ v, e = .returned v ∧ (i ≠ s → S w') ∧ anyT P md ops Q s S f (listed.setIfInBounds i true) (a.put d v) w') : anyT P md ops Q s S (f + 1) listed a w := by
  refine anyT_oneG hr ho hw ?_
  subst hd
  unfold Oper.wp
  rw [he, Oper.upon_enter]
  refine hc.mono ?_
  rintro e w' ⟨v, rfl, h1, h2⟩
  exact ⟨h1, h2⟩
/-- the last operation, which yields a value -/
theorem anyT_last {s : Nat} {o : Oper} {f : Nat} {listed : Array Bool} {a : Act} {w : World} (d : Option Tmp) (v : Value) (hr : Region.ready md ops listed = [s]) (hr' : Region.ready md ops (listed.setIfInBounds s true) = []) (ho : ops[s]? = some o) (hw : Region.wanted o (yielded ops a.tmps) = true) (hd : o.dst = d)
    (he : (execOp a.eval o).run P w = .ok (.value v) w) (h : Q .normal (a.put d v) w) : anyT P md ops Q s S (f + 1) listed a w := by
  refine anyT_oneG hr ho hw ?_
  subst hd
  unfold Oper.wp
  rw [he, Oper.upon_value]
  exact ⟨fun h0 => absurd rfl h0, anyT_done hr' h f⟩
/-- the last operation, a store of a whole row into the midst of a block -/
theorem anyT_store {s : Nat} {o : Oper} {f : Nat} {listed : Array Bool} {a : Act} {w : World} (ty : TypeId) (x y : Operand) (hr : Region.ready md ops listed = [s]) (hr' : Region.ready md ops (listed.setIfInBounds s true) = []) (ho : ops[s]? = some o) (hg : o.guard = none) (hd : o.dst = none)
    (hop : o.op = .store ty x y) (b off : Nat) (cells : Array Value) (hx : a.eval x = .pointer (some ⟨b, off, none⟩)) (hy : a.eval y = .agg cells)
    (ht : w.there b off cells.size) (hi : (P.info? ty).map (·.size) = some cells.size) (h1 : cells.all (·.oneCell') = true) (h : Q .normal a (w.setCells b off cells.toList)) : anyT P md ops Q s S (f + 1) listed a w := by
  refine anyT_one hr ho hg (wp_store_mid ty x y hop b off cells hx hy ht hi h1 ⟨fun h0 => absurd rfl h0, ?_⟩)
  rw [hd]
  exact anyT_done hr' h f
/-- guards: the operation that stands next is this store, this load ('with_reducible refine at_st 30 x y ?_') -/
theorem at_st {dst : Option Tmp} {ty : TypeId} {pos : String} {after : Array Edge} {guard : Option (Nat × Bool)} {rest : List Oper} {a : Act} {w : World} (t : TypeId) (x y : Operand)
    (h : wpList P ops Q ({ dst := dst, op := .store t x y, type := ty, pos := pos, after := after, guard := guard } :: rest) a w) : wpList P ops Q ({ dst := dst, op := .store t x y, type := ty, pos := pos, after := after, guard := guard } :: rest) a w := h
theorem at_ld {dst : Option Tmp} {ty : TypeId} {pos : String} {after : Array Edge} {guard : Option (Nat × Bool)} {rest : List Oper} {a : Act} {w : World} (t : TypeId) (x : Operand)
    (h : wpList P ops Q ({ dst := dst, op := .load t x, type := ty, pos := pos, after := after, guard := guard } :: rest) a w) : wpList P ops Q ({ dst := dst, op := .load t x, type := ty, pos := pos, after := after, guard := guard } :: rest) a w := h
/-- an operation whose guard lets it -/
theorem list_G {o : Oper} {rest : List Oper} {a : Act} {w : World} (hw : Region.wanted o (yielded ops a.tmps) = true)
    (h : ∀ K : Act → World → Prop, (∀ a w, wpList P ops Q rest a w → K a w) → o.wp P a w K Q) : wpList P ops Q (o :: rest) a w :=
  wpList_step fun K hK => by simp only [hw, if_true]; exact h K hK
theorem region_T {id : Nat} {a : Act} {w : World} (s : Nat) (S : World → Prop) (hm : P.follows .mixedOrders = true)
    (h : anyT P .any ops Q s S ops.size (Array.replicate ops.size false) a w.drew) : (Code.region id ops true).wp P Q a w :=
  wp_region_any hm (any_of_T _ _ _ _ h)
end
end Go.Proofs.YtfobnemocodomaaGreat
set_option maxHeartbeats 200000
set_option linter.unusedVariables false
set_option linter.unusedSimpArgs false
namespace Go.Proofs.YtfobnemocodomaaGreat
section
variable {P : Program} {ops : Array Oper} {Q : Exit → Act → World → Prop} {md : Region.Mode} {S : World → Prop}
/-- two operations may come up -/
theorem anyT_two {s i j f : Nat} {listed : Array Bool} {a : Act} {w : World} (hr : Region.ready md ops listed = [i, j])
    (h1 : wpOp P ops Q i (fun a' w' => (i ≠ s → S w') ∧ anyT P md ops Q s S f (listed.setIfInBounds i true) a' w') a w)
    (h2 : wpOp P ops Q j (fun a' w' => (j ≠ s → S w') ∧ anyT P md ops Q s S f (listed.setIfInBounds j true) a' w') a w) : anyT P md ops Q s S (f + 1) listed a w := by
  refine ⟨fun h0 => (by rw [hr] at h0; cases h0), fun k hk => ?_⟩
  rw [hr] at hk
  simp only [List.mem_cons, List.not_mem_nil, or_false] at hk
  rcases hk with rfl | rfl
  · exact h1
  · exact h2
theorem anyT_its {s i f : Nat} {listed : Array Bool} {a : Act} {w : World} (hr : Region.ready md ops listed = [i])
    (h : wpOp P ops Q i (fun a' w' => (i ≠ s → S w') ∧ anyT P md ops Q s S f (listed.setIfInBounds i true) a' w') a w) : anyT P md ops Q s S (f + 1) listed a w := by
  refine ⟨fun h0 => (by rw [hr] at h0; cases h0), fun k hk => ?_⟩
  rw [hr] at hk
  obtain rfl : k = i := by simpa using hk
  exact h
theorem wpOp_call {i : Nat} {o : Oper} {a : Act} {w : World} {K : Act → World → Prop} (d : Option Tmp) (g : FuncId) (args : Array Value) (ho : ops[i]? = some o) (hw : Region.wanted o (yielded ops a.tmps) = true) (hd : o.dst = d)
    (he : (execOp a.eval o).run P w = .ok (.enter g args) w)
    (hc : Calls P g args w fun e w' => ∃ v, e = .returned v ∧ K (a.put d v) w') : wpOp P ops Q i K a w := by
  unfold wpOp
  simp only [ho, hw, if_true]
  left
  subst hd
  unfold Oper.wp
  rw [he, Oper.upon_enter]
  refine hc.mono ?_
  rintro e w' ⟨v, rfl, h2⟩
  exact h2
theorem wpOp_val {i : Nat} {o : Oper} {a : Act} {w w' : World} {K : Act → World → Prop} (d : Option Tmp) (v : Value) (ho : ops[i]? = some o) (hw : Region.wanted o (yielded ops a.tmps) = true) (hd : o.dst = d)
    (he : (execOp a.eval o).run P w = .ok (.value v) w') (h : K (a.put d v) w') : wpOp P ops Q i K a w := by
  unfold wpOp
  simp only [ho, hw, if_true]
  left
  subst hd
  unfold Oper.wp
  rw [he, Oper.upon_value]
  exact h
end
end Go.Proofs.YtfobnemocodomaaGreat
set_option maxHeartbeats 200000
set_option linter.unusedVariables false
set_option linter.unusedSimpArgs false
namespace Go.Proofs.YtfobnemocodomaaGreat
open Go.RowKit

theorem rg_set_same {W : World} {b o : Nat} {cs : Array Value} {t : TypeId} {fr : Nat × Nat} (h : W.heap[b]? = some (.cells cs t fr)) (u : Value) : (W.setCell ⟨b, o, none⟩ u).heap[b]? = some (.cells (cs.setIfInBounds o u) t fr) := by
  simp [World.setCell, Array.getElem?_modify, h]
theorem rg_other {b k : Nat} (h : k ≠ b) : ∀ (vs : List Value) (o : Nat) (W : World), (W.setCells b o vs).heap[k]? = W.heap[k]?
  | [], _, _ => rfl
  | v :: r, o, W => by rw [World.setCells, rg_other h r (o + 1)]; exact Below.heap_setCell _ _ _ _ h
theorem rg_size {b : Nat} : ∀ (vs : List Value) (o : Nat) (W : World), (W.setCells b o vs).heap.size = W.heap.size
  | [], _, _ => rfl
  | v :: r, o, W => by rw [World.setCells, rg_size r (o + 1)]; simp [World.setCell]
theorem rg_os {b : Nat} : ∀ (vs : List Value) (o : Nat) (W : World), (W.setCells b o vs).os = W.os ∧ (W.setCells b o vs).tape = W.tape ∧ (W.setCells b o vs).output = W.output
  | [], _, _ => ⟨rfl, rfl, rfl⟩
  | v :: r, o, W => by rw [World.setCells]; exact rg_os r (o + 1) _
theorem rg_grown (b o : Nat) (vs : List Value) (W : World) : W.grownBy (W.setCells b o vs) (some b) :=
  ⟨(rg_os vs o W).1, (rg_os vs o W).2.1, (rg_os vs o W).2.2, by rw [rg_size]; exact Nat.le_refl _, fun k _ hk => rg_other (fun e => hk (by rw [e])) _ _ _⟩
theorem rg_same {b : Nat} {t : TypeId} {fr : Nat × Nat} : ∀ (vs : List Value) (o : Nat) (W : World) (cs : Array Value), W.heap[b]? = some (.cells cs t fr) → o + vs.length ≤ cs.size →
    ∃ cs', (W.setCells b o vs).heap[b]? = some (.cells cs' t fr) ∧ cs'.size = cs.size ∧ (∀ j, j < o → cs'[j]? = cs[j]?) ∧ (∀ j, j < vs.length → cs'[o + j]? = vs[j]?) ∧ (∀ j, o + vs.length ≤ j → cs'[j]? = cs[j]?)
  | [], o, W, cs, h, _ => ⟨cs, h, rfl, fun _ _ => rfl, fun _ h => by simp at h, fun _ _ => rfl⟩
  | v :: r, o, W, cs, h, hl => by
    simp only [List.length_cons] at hl
    obtain ⟨cs', h1, h2, h3, h4, h5⟩ := rg_same r (o + 1) (W.setCell ⟨b, o, none⟩ v) _ (rg_set_same h v) (by simp only [Array.size_setIfInBounds]; omega)
    refine ⟨cs', h1, by rw [h2, Array.size_setIfInBounds], fun j hj => ?_, fun j hj => ?_, fun j hj => ?_⟩
    · rw [h3 j (by omega), Array.getElem?_setIfInBounds, if_neg (by omega)]
    · cases j with
      | zero =>
        rw [Nat.add_zero, h3 o (by omega), Array.getElem?_setIfInBounds, if_pos rfl, if_pos (by omega)]
        rfl
      | succ j =>
        have := h4 j (by simp only [List.length_cons] at hj; omega)
        rw [show o + (j + 1) = o + 1 + j by omega, this]
        rfl
    · simp only [List.length_cons] at hj
      rw [h5 j (by omega), Array.getElem?_setIfInBounds, if_neg (by omega)]
/-- a row of one's own in the block g -/
def OwnG (E : TypeId) (sz : Nat) (W : World) (g : Nat) (v : Value) (n : Nat) (xs : List Value) : Prop :=
  ∃ cap cur, v = .slice (some ⟨g, 0, none⟩) n cap ∧ W.heap[g]? = some (.cells cur E (0, 0)) ∧ n ≤ cap ∧ cap ≤ maxLen ∧ cap * sz ≤ cur.size ∧ xs.length = n * sz ∧ cur.toList.take (n * sz) = xs
section
variable {E : TypeId} {sz : Nat} {W W' : World} {g : Nat} {v : Value} {n : Nat} {xs : List Value}
theorem OwnG.shape (h : OwnG E sz W g v n xs) : ∃ cap, v = .slice (some ⟨g, 0, none⟩) n cap ∧ n ≤ cap ∧ cap ≤ maxLen := by
  obtain ⟨cap, cur, rfl, _, h1, h2, _⟩ := h; exact ⟨_, rfl, h1, h2⟩
theorem OwnG.lt (h : OwnG E sz W g v n xs) : g < W.heap.size := by
  obtain ⟨cap, cur, rfl, h1, _⟩ := h; exact (Array.getElem?_eq_some_iff.1 h1).1
theorem OwnG.same (h : OwnG E sz W g v n xs) (e : W'.heap[g]? = W.heap[g]?) : OwnG E sz W' g v n xs := by
  obtain ⟨cap, cur, hv, h1, r⟩ := h; exact ⟨cap, cur, hv, e.trans h1, r⟩
theorem OwnG.gr (h : OwnG E sz W g v n xs) (k : Gr W W') : OwnG E sz W' g v n xs := h.same (k.block g h.lt)
theorem OwnG.by (h : OwnG E sz W g v n xs) {r : Option Nat} (k : W.grownBy W' r) (hr : some g ≠ r) : OwnG E sz W' g v n xs := h.same (k.block g h.lt hr)
theorem OwnG.cell (h : OwnG E sz W g v n xs) (j : Nat) (u : Value) (hj : xs[j]? = some u) : W.cell? ⟨g, j, none⟩ = some u ∧ W.frozen? ⟨g, j, none⟩ = false := by
  obtain ⟨cap, cur, hv, h1, h2, h3, h4, h5, h6⟩ := h
  have hlt := (List.getElem?_eq_some_iff.1 hj).1
  have h7 : (cur.toList.take (n * sz))[j]? = some u := by rw [h6]; exact hj
  rw [List.getElem?_take_of_lt (by omega)] at h7
  refine ⟨by simp only [World.cell?, h1]; simpa using h7, by simp [World.frozen?, h1]⟩
theorem ownG_of (base : Nat) (h : W.ownsRow base E sz v n xs) (hn : 0 < n) : ∃ g, base ≤ g ∧ OwnG E sz W g v n xs := by
  obtain ⟨h1, h2⟩ := h
  rcases h2 with ⟨k1, k2⟩ | ⟨g, cap, cur, rfl, hg, hh, hc, hm, hs, ht⟩
  · omega
  · exact ⟨g, hg, cap, cur, rfl, hh, hc, hm, by omega, h1, ht⟩
theorem ownG_some (base : Nat) (h : W.ownsRow base E sz v n xs) (hv : v ≠ .slice none 0 0) : ∃ g, base ≤ g ∧ OwnG E sz W g v n xs := by
  obtain ⟨h1, h2⟩ := h
  rcases h2 with ⟨k1, k2⟩ | ⟨g, cap, cur, rfl, hg, hh, hc, hm, hs, ht⟩
  · exact absurd k1 hv
  · exact ⟨g, hg, cap, cur, rfl, hh, hc, hm, by omega, h1, ht⟩
theorem OwnG.owns (h : OwnG E sz W g v n xs) {base : Nat} (hb : base ≤ g) (hs : ∀ cap cur, v = .slice (some ⟨g, 0, none⟩) n cap → W.heap[g]? = some (.cells cur E (0, 0)) → cap * sz = cur.size) : W.ownsRow base E sz v n xs := by
  obtain ⟨cap, cur, rfl, h1, h2, h3, h4, h5, h6⟩ := h
  exact ⟨h5, .inr ⟨g, cap, cur, rfl, hb, h1, h2, h3, by have := hs cap cur rfl h1; omega, h6⟩⟩
/-- cells of a row turned in place -/
theorem OwnG.put (h : OwnG E sz W g v n xs) (o : Nat) (us : List Value) (hl : o + us.length ≤ n * sz) : OwnG E sz (W.setCells g o us) g v n (xs.take o ++ us ++ xs.drop (o + us.length)) := by
  obtain ⟨cap, cur, hv, h1, h2, h3, h4, h5, h6⟩ := h
  have hns : n * sz ≤ cap * sz := Nat.mul_le_mul_right _ h2
  obtain ⟨cs', k1, k2, k3, k4, k5⟩ := rg_same us o W cur h1 (by omega)
  refine ⟨cap, cs', hv, k1, h2, h3, by omega, by simp; omega, ?_⟩
  apply List.ext_getElem?
  intro j
  by_cases hj : j < n * sz
  · rw [List.getElem?_take_of_lt hj, Array.getElem?_toList]
    have hcur : cur[j]? = xs[j]? := by
      have : (cur.toList.take (n * sz))[j]? = xs[j]? := by rw [h6]
      rw [List.getElem?_take_of_lt hj] at this
      simpa using this
    by_cases c1 : j < o
    · rw [k3 j c1, hcur, List.append_assoc, List.getElem?_append_left (by simp; omega), List.getElem?_take_of_lt c1]
    · by_cases c2 : j < o + us.length
      · have := k4 (j - o) (by omega)
        rw [show o + (j - o) = j by omega] at this
        rw [this, List.append_assoc, List.getElem?_append_right (by simp; omega)]
        simp only [List.length_take]
        rw [show j - min o xs.length = j - o by omega, List.getElem?_append_left (by omega)]
      · rw [k5 j (by omega), hcur, List.getElem?_append_right (by simp; omega), List.getElem?_drop]
        congr 1
        simp; omega
  · rw [List.getElem?_eq_none (by simp; omega), List.getElem?_eq_none (by simp; omega)]
end
section
variable {P : Program}
theorem run_appendG (w : World) (t ty E : TypeId) (i : TypeInfo) (z : Value) (sz bytes : Nat) (ht : P.underlying t = some (.slice E)) (hi : P.info? E = some i) (hz : i.zero = some z)
    (hsize : i.size = sz) (hby : i.bytes = bytes) (hzs : z.cells.size = sz) (hsz : 0 < sz) (g : Nat) (v : Value) (n : Nat) (xs : List Value) (hown : OwnG E sz w g v n xs)
    (ad : Addr) (m c : Nat) (news : List Value) (hl : news.length = m * sz) (hnews : ∀ j u, news[j]? = some u → w.cell? (ad.add j) = some u) (h1 : ∀ u ∈ news, u.oneCell' = true)
    (h63 : n + m ≤ maxLen) (hbytes : (n + m) * bytes ≤ 140737488355328) :
    ∃ v' w' g', (Builtin.append_ #[t, t] ty #[v, .slice (some ad) m c]).run P w = .ok v' w' ∧ OwnG E sz w' g' v' (n + m) (xs ++ news) ∧ (g' = g ∨ w.heap.size ≤ g') ∧ w.grownBy w' (some g) := by
  have hlt := hown.lt
  obtain ⟨cap, cur, rfl, k1, k2, k3, k4, k5, k6⟩ := hown
  by_cases hroom : n + m ≤ cap
  · have hnm : (n + m) * sz ≤ cap * sz := Nat.mul_le_mul_right _ hroom
    have e1 : (n + m) * sz = n * sz + m * sz := Nat.add_mul _ _ _
    have hr := run_append_room_cells (P := P) w t ty E i ht hi g 0 n cap ad m c news (by rw [hsize]; exact hl) hnews h1 hroom
      (fun j hj => by
        rw [hsize, Nat.zero_add]
        have : n * sz + j < cur.size := by omega
        simp [World.cell?, k1, this])
      (fun j hj => by simp [World.frozen?, k1])
    rw [hsize, Nat.zero_add] at hr
    obtain ⟨cs', q1, q2, q3, q4, q5⟩ := rg_same news (n * sz) w cur k1 (by omega)
    refine ⟨_, _, g, hr, ⟨cap, cs', rfl, q1, hroom, k3, by omega, by simp; omega, ?_⟩, Or.inl rfl, rg_grown _ _ _ _⟩
    apply List.ext_getElem?
    intro j
    by_cases hj : j < (n + m) * sz
    · rw [List.getElem?_take_of_lt hj, Array.getElem?_toList]
      by_cases c1 : j < n * sz
      · have : (cur.toList.take (n * sz))[j]? = xs[j]? := by rw [k6]
        rw [List.getElem?_take_of_lt c1] at this
        rw [q3 j c1, List.getElem?_append_left (by omega)]
        simpa using this
      · have := q4 (j - n * sz) (by omega)
        rw [show n * sz + (j - n * sz) = j by omega] at this
        rw [this, List.getElem?_append_right (by omega), k5]
    · rw [List.getElem?_eq_none (by simp; omega), List.getElem?_eq_none (by simp; omega)]
  · obtain ⟨v', w', hr, ho, hg⟩ := run_append_arg_grows (P := P) w t ty E i z sz bytes ht hi hz hsize hby hzs hsz ⟨g, 0, none⟩ n cap xs k5
      (fun j u hj => by
        have hlt := (List.getElem?_eq_some_iff.1 hj).1
        have e : (⟨g, 0, none⟩ : Addr).add j = ⟨g, j, none⟩ := by unfold Addr.add; split <;> simp_all
        rw [e]
        have h7 : (cur.toList.take (n * sz))[j]? = some u := by rw [k6]; exact hj
        rw [List.getElem?_take_of_lt (by omega)] at h7
        simp only [World.cell?, k1]; simpa using h7) ad m c news hl hnews (by omega) h63 hbytes
    obtain ⟨g', hg', ho'⟩ := ownG_of _ ho (by omega)
    exact ⟨v', w', g', hr, ho', Or.inr hg', ⟨hg.os, hg.tape, hg.output, hg.size, fun k hk _ => hg.block k hk (by simp)⟩⟩
theorem wp_appendG {w : World} {ops : Array Oper} {rest : List Oper} {o : Oper} {a : Act} {Q : Exit → Act → World → Prop} (hgd : o.guard = none) (s x : Operand) (t : TypeId)
    (ho : o.op = .call { callee := .builtin .append, args := #[s, x], argTypes := #[t, t] })
    (E : TypeId) (i : TypeInfo) (z : Value) (sz bytes : Nat) (ht : P.underlying t = some (.slice E)) (hi : P.info? E = some i) (hz : i.zero = some z)
    (hsize : i.size = sz) (hby : i.bytes = bytes) (hzs : z.cells.size = sz) (hsz : 0 < sz) (g : Nat) (v : Value) (n : Nat) (xs : List Value) (hs : a.eval s = v) (hown : OwnG E sz w g v n xs)
    (ad : Addr) (m c : Nat) (news : List Value) (hx : a.eval x = .slice (some ad) m c) (hl : news.length = m * sz) (hnews : ∀ j u, news[j]? = some u → w.cell? (ad.add j) = some u) (h1 : ∀ u ∈ news, u.oneCell' = true)
    (h63 : n + m ≤ maxLen) (hbytes : (n + m) * bytes ≤ 140737488355328)
    (h : ∀ v' w' g', OwnG E sz w' g' v' (n + m) (xs ++ news) → (g' = g ∨ w.heap.size ≤ g') → w.grownBy w' (some g) → wpList P ops Q rest (a.put o.dst v') w') : wpList P ops Q (o :: rest) a w := by
  refine wpList_plain hgd fun K hK => ?_
  obtain ⟨v', w', g', hr, h2, h3, h4⟩ := run_appendG (P := P) w t o.type E i z sz bytes ht hi hz hsize hby hzs hsz g v n xs hown ad m c news hl hnews h1 h63 hbytes
  unfold Oper.wp execOp
  simp only [ho, resolve, invoke, builtin, Sem.run_bind, Sem.run_pure, Result.andThen_ok, List.map_toArray, List.map_cons, List.map_nil, hs, hx, hr]
  exact hK _ _ (h v' w' g' h2 h3 h4)
/-- to a nil row -/
theorem wp_appendN {w : World} {ops : Array Oper} {rest : List Oper} {o : Oper} {a : Act} {Q : Exit → Act → World → Prop} (hgd : o.guard = none) (s x : Operand) (t : TypeId)
    (ho : o.op = .call { callee := .builtin .append, args := #[s, x], argTypes := #[t, t] })
    (E : TypeId) (i : TypeInfo) (z : Value) (sz bytes : Nat) (ht : P.underlying t = some (.slice E)) (hi : P.info? E = some i) (hz : i.zero = some z)
    (hsize : i.size = sz) (hby : i.bytes = bytes) (hzs : z.cells.size = sz) (hsz : 0 < sz) (hs : a.eval s = .slice none 0 0)
    (ad : Addr) (m c : Nat) (news : List Value) (hx : a.eval x = .slice (some ad) m c) (hl : news.length = m * sz) (hnews : ∀ j u, news[j]? = some u → w.cell? (ad.add j) = some u) (h1 : ∀ u ∈ news, u.oneCell' = true)
    (h0 : 0 < m) (h63 : m ≤ maxLen) (hbytes : m * bytes ≤ 140737488355328)
    (h : ∀ v' w' g', OwnG E sz w' g' v' m news → w.heap.size ≤ g' → w.grownBy w' none → wpList P ops Q rest (a.put o.dst v') w') : wpList P ops Q (o :: rest) a w := by
  refine wpList_append_own _ hgd s x t ho w.heap.size E i z sz bytes ht hi hz hsize hby hzs hsz _ 0 [] hs (World.ownsRow_nil _ _ _ _) ad m c news hx hl hnews h1 (by omega) (by simpa using hbytes) (Nat.le_refl _) ?_
  intro v' w' h2 h3 _
  rw [Nat.zero_add, List.nil_append] at h2
  obtain ⟨g', hg', ho'⟩ := ownG_of _ h2 h0
  exact h v' w' g' ho' hg' h3
end
end Go.Proofs.YtfobnemocodomaaGreat
set_option maxHeartbeats 200000
set_option linter.unusedVariables false
set_option linter.unusedSimpArgs false
namespace Go.Proofs.YtfobnemocodomaaGreat
open Go.RowKit

def isLoop : Obj → Bool
  | .loop _ => true
  | _ => false

/-- What the iterator and the loop's own book-keeping may do to the caller's world: blocks of S, loops' records from B on, new blocks. -/
structure Mv (S : Nat → Prop) (B : Nat) (A W : World) : Prop where
  os : W.os = A.os
  tape : W.tape = A.tape
  output : W.output = A.output
  size : A.heap.size ≤ W.heap.size
  keep : ∀ k o, A.heap[k]? = some o → ¬ S k → (k < B ∨ isLoop o = false) → W.heap[k]? = some o

/-- What a round keeps for the iterator. -/
structure Kp (S : Nat → Prop) (n0 : Nat) (A W : World) : Prop where
  os : W.os = A.os
  tape : W.tape = A.tape
  output : W.output = A.output
  size : A.heap.size ≤ W.heap.size
  keep : ∀ k, (k < n0 ∨ S k) → k < A.heap.size → W.heap[k]? = A.heap[k]?

theorem Mv.refl (S : Nat → Prop) (B : Nat) (A : World) : Mv S B A A := ⟨rfl, rfl, rfl, Nat.le_refl _, fun _ _ h _ _ => h⟩
theorem Mv.alloc {S : Nat → Prop} {B : Nat} {A W : World} (h : Mv S B A W) (o : Obj) : Mv S B A (W.alloc o) :=
  ⟨h.os, h.tape, h.output, Nat.le_trans h.size (by simp), fun k o' hk hs hb => (Below.heap_alloc _ _ _ (Array.getElem?_eq_some_iff.1 (h.keep k o' hk hs hb)).1).trans (h.keep k o' hk hs hb)⟩
theorem Mv.drew {S : Nat → Prop} {B : Nat} {A W : World} (h : Mv S B A W) : Mv S B A W.drew := ⟨h.os, h.tape, h.output, h.size, h.keep⟩
theorem Mv.drewN {S : Nat → Prop} {B : Nat} {A W : World} (h : Mv S B A W) (n : Nat) : Mv S B A (W.drewN n) := ⟨h.os, h.tape, h.output, h.size, h.keep⟩
/-- a store into a block of S, or into a block that A did not have -/
theorem Mv.setCell {S : Nat → Prop} {B : Nat} {A W : World} (h : Mv S B A W) {p : Addr} (hp : S p.block ∨ A.heap.size ≤ p.block) (u : Value) : Mv S B A (W.setCell p u) :=
  ⟨h.os, h.tape, h.output, by show A.heap.size ≤ (W.heap.modify _ _).size; rw [Array.size_modify]; exact h.size, fun k o' hk hs hb => by
    have h1 := h.keep k o' hk hs hb
    have hne : k ≠ p.block := by
      rintro rfl
      rcases hp with hp | hp
      · exact hs hp
      · have := (Array.getElem?_eq_some_iff.1 hk).1; omega
    rw [Below.heap_setCell _ _ _ _ hne]; exact h1⟩
theorem Mv.putLoop {S : Nat → Prop} {B : Nat} {A : World} {l : Nat} {r : Loop} (hl : A.heap[l]? = some (.loop r)) (hB : B ≤ l) (o' : Obj) : Mv S B A (A.putObj l o') :=
  ⟨rfl, rfl, rfl, by simp, fun k o hk hs hb => by
    by_cases e : k = l
    · subst e; rw [hl] at hk; cases hk; rcases hb with hb | hb
      · omega
      · cases hb
    · rw [World.putObj_heap_other e]; exact hk⟩
theorem Mv.trans {S : Nat → Prop} {B : Nat} {X Y Z : World} (h : Mv S B X Y) (k : Mv S B Y Z) : Mv S B X Z :=
  ⟨k.os.trans h.os, k.tape.trans h.tape, k.output.trans h.output, Nat.le_trans h.size k.size, fun i o hi hs hb => k.keep i o (h.keep i o hi hs hb) hs hb⟩
theorem Mv.weak {S : Nat → Prop} {B : Nat} {A W : World} (h : Mv S A.heap.size A W) : Mv S B A W :=
  ⟨h.os, h.tape, h.output, h.size, fun k o hk hs _ => h.keep k o hk hs (.inl (Array.getElem?_eq_some_iff.1 hk).1)⟩
theorem Mv.any {S : Nat → Prop} {A W : World} (h : Mv S A.heap.size A W) {k : Nat} {o : Obj} (hk : A.heap[k]? = some o) (hs : ¬ S k) : W.heap[k]? = some o := h.keep k o hk hs (.inl (Array.getElem?_eq_some_iff.1 hk).1)
/-- what lies outside S and below B, or is no loop's record, is there still -/
theorem Mv.below {S : Nat → Prop} {B n : Nat} {w0 A W : World} (h : Mv S B A W) (hb : Below n w0 A) (hn : n ≤ B) (hw : n ≤ w0.heap.size) (hS : ∀ k, S k → n ≤ k) : Below n w0 W :=
  ⟨h.os.trans hb.os, h.tape.trans hb.tape, h.output.trans hb.output, Nat.le_trans hb.size h.size, fun k hk => by
    have h1 := hb.block k hk
    have hlt : k < A.heap.size := Nat.lt_of_lt_of_le hk (Nat.le_trans hw hb.size)
    rw [← h1, h.keep k _ (Array.getElem?_eq_getElem hlt) (fun hs => by have := hS k hs; omega) (.inl (by omega)), Array.getElem?_eq_getElem hlt]⟩
theorem Mv.cell {S : Nat → Prop} {B : Nat} {A W : World} (h : Mv S B A W) {p : Addr} {v : Value} (hc : A.cell? p = some v) (hs : ¬ S p.block) : W.cell? p = some v := by
  have hc' := hc
  unfold World.cell? at hc
  cases ho : A.heap[p.block]? with
  | none => simp [ho] at hc
  | some o =>
    have hl : isLoop o = false := by cases o <;> simp_all [isLoop]
    rw [← hc']
    exact World.cell?_of_block ((h.keep _ o ho hs (.inr hl)).trans ho.symm)
theorem Mv.same {S : Nat → Prop} {B : Nat} {A W : World} (h : Mv S B A W) {k : Nat} {o : Obj} (ho : A.heap[k]? = some o) (hl : isLoop o = false) (hs : ¬ S k) : W.heap[k]? = some o := h.keep k o ho hs (.inr hl)
theorem Mv.ownsRow {S : Nat → Prop} {B : Nat} {A W : World} {base : Nat} {e : TypeId} {size n : Nat} {v : Value} {xs : List Value} (h : Mv S B A W) (ho : A.ownsRow base e size v n xs) (hs : ∀ k, v.ownBlock = some k → ¬ S k) : W.ownsRow base e size v n xs := by
  obtain ⟨h1, h2⟩ := ho
  refine ⟨h1, ?_⟩
  rcases h2 with h2 | ⟨g, cap, cur, rfl, hg, hh, r⟩
  · exact .inl h2
  · exact .inr ⟨g, cap, cur, rfl, hg, h.same hh rfl (hs g rfl), r⟩
theorem Mv.boxed {S : Nat → Prop} {B : Nat} {A W : World} {b : Nat} {t : TypeId} {v : Value} (h : Mv S B A W) (ho : Boxed A b t v) (hs : ¬ S b) : Boxed W b t v := h.same ho rfl hs

theorem Kp.refl (S : Nat → Prop) (n0 : Nat) (A : World) : Kp S n0 A A := ⟨rfl, rfl, rfl, Nat.le_refl _, fun _ _ _ => rfl⟩
theorem Kp.trans {S : Nat → Prop} {n0 : Nat} {X Y Z : World} (h : Kp S n0 X Y) (k : Kp S n0 Y Z) : Kp S n0 X Z :=
  ⟨k.os.trans h.os, k.tape.trans h.tape, k.output.trans h.output, Nat.le_trans h.size k.size, fun i hi hlt => (k.keep i hi (Nat.lt_of_lt_of_le hlt h.size)).trans (h.keep i hi hlt)⟩
theorem Kp.alloc {S : Nat → Prop} {n0 : Nat} {A W : World} (h : Kp S n0 A W) (o : Obj) : Kp S n0 A (W.alloc o) :=
  ⟨h.os, h.tape, h.output, Nat.le_trans h.size (by simp), fun k hk hlt => (Below.heap_alloc _ _ _ (Nat.lt_of_lt_of_le hlt h.size)).trans (h.keep k hk hlt)⟩
theorem Kp.setCell {S : Nat → Prop} {n0 : Nat} {A W : World} (h : Kp S n0 A W) {p : Addr} (hp : n0 ≤ p.block ∧ ¬ S p.block) (u : Value) : Kp S n0 A (W.setCell p u) :=
  ⟨h.os, h.tape, h.output, by show A.heap.size ≤ (W.heap.modify _ _).size; rw [Array.size_modify]; exact h.size, fun k hk hlt => (Below.heap_setCell _ _ _ _ (by rintro rfl; rcases hk with hk | hk; omega; exact hp.2 hk)).trans (h.keep k hk hlt)⟩
theorem Kp.drew {S : Nat → Prop} {n0 : Nat} {A W : World} (h : Kp S n0 A W) : Kp S n0 A W.drew := ⟨h.os, h.tape, h.output, h.size, h.keep⟩
theorem Kp.gr {S : Nat → Prop} {n0 : Nat} {A W W' : World} (h : Kp S n0 A W) (g : Gr W W') : Kp S n0 A W' :=
  h.trans ⟨g.os, g.tape, g.output, g.size, fun k _ hlt => g.block k hlt⟩
theorem Kp.grown {S : Nat → Prop} {n0 : Nat} {A W W' : World} {row : Option Nat} (h : Kp S n0 A W) (g : W.grownBy W' row) (hr : ∀ k, row = some k → n0 ≤ k ∧ ¬ S k) : Kp S n0 A W' :=
  h.trans ⟨g.os, g.tape, g.output, g.size, fun k hk hlt => g.block k hlt (fun e => by have := hr k e.symm; rcases hk with hk | hk; omega; exact this.2 hk)⟩
theorem Kp.putObj {S : Nat → Prop} {n0 : Nat} {A W : World} (h : Kp S n0 A W) {l : Nat} (hl : n0 ≤ l ∧ ¬ S l) (o : Obj) : Kp S n0 A (W.putObj l o) :=
  ⟨h.os, h.tape, h.output, by simpa using h.size, fun k hk hlt => (World.putObj_heap_other (by rintro rfl; rcases hk with hk | hk; omega; exact hl.2 hk)).trans (h.keep k hk hlt)⟩
theorem Kp.cell {S : Nat → Prop} {n0 : Nat} {A W : World} (h : Kp S n0 A W) {p : Addr} {v : Value} (hc : A.cell? p = some v) (hp : p.block < n0 ∨ S p.block) : W.cell? p = some v :=
  (World.cell?_of_block (h.keep _ hp (World.block_lt_of_cell? A p hc))).trans hc
theorem Kp.below {S : Nat → Prop} {n0 : Nat} {w0 A W : World} (h : Kp S n0 A W) (hb : Below n0 w0 A) (hw : n0 ≤ w0.heap.size) : Below n0 w0 W :=
  ⟨h.os.trans hb.os, h.tape.trans hb.tape, h.output.trans hb.output, Nat.le_trans hb.size h.size, fun k hk => (h.keep k (.inl hk) (Nat.lt_of_lt_of_le hk (Nat.le_trans hw hb.size))).trans (hb.block k hk)⟩
theorem Kp.boxed {S : Nat → Prop} {n0 : Nat} {A W : World} (h : Kp S n0 A W) {b : Nat} {t : TypeId} {v : Value} (hc : Boxed A b t v) (hp : b < n0 ∨ S b) : Boxed W b t v :=
  (h.keep _ hp (Array.getElem?_eq_some_iff.1 hc).1).trans hc

def Iter {α : Type} (n : Nat) (P : Program) (gf : Nat) (lb : Array Value) (encs : α → Array Value) (xs : List α) (S : Nat → Prop) (n0 : Nat) (w : World) : Prop :=
  ∀ (l : Nat) (J Jx : List α → World → Prop) (W : World), Gr w W →
    (∀ pre A B, J pre A → Mv S A.heap.size A B → J pre B) → (∀ pre A B, Jx pre A → Mv S A.heap.size A B → Jx pre B) →
    (∀ pre x W1, J pre W1 → (pre ++ [x]) <+: xs → YieldAt Fence.wide (n - 1) P l (encs x) W1 fun e W' =>
      Kp S n0 W1 W' ∧ ((e = .returned (.bool true) ∧ J (pre ++ [x]) W') ∨ (e = .returned (.bool false) ∧ Jx (pre ++ [x]) W'))) →
    J [] W →
    CallsIn Fence.wide n P gf (#[.func (.yield l) #[] #[]] ++ lb) W fun e W' => (∃ v, e = .returned v) ∧ (J xs W' ∨ ∃ pre, pre <+: xs ∧ Jx pre W')

/-- How a round's body may be left. -/
def rpost {α : Type} (S : Nat → Prop) (n0 B : Nat) (I : List α → World → Prop) (Ix : Code → List α → World → Prop) (pre : List α) (W : World) : Exit → Act → World → Prop
  | .normal, _, W' => KeepsFrom B W W' ∧ Kp S n0 W W' ∧ I pre W'
  | .ret, _, W' => KeepsFrom B W W' ∧ Kp S n0 W W' ∧ Ix .ret pre W'
  | .exit id, _, W' => KeepsFrom B W W' ∧ Kp S n0 W W' ∧ Ix (.exit id) pre W'
  | .goto t, _, W' => KeepsFrom B W W' ∧ Kp S n0 W W' ∧ Ix (.goto t) pre W'
  | .panic _, _, _ => False
  | .outgrown, _, _ => False

theorem wpIn_range {α : Type} {n : Nat} {P : Program} {g : Operand} {ps : Array Tmp} {assign body : Code} {Q : Exit → Act → World → Prop} {a : Act} {w : World}
    {gf : Nat} {lb : Array Value} (hg : a.eval g = .func (.func gf) #[] lb) (eg : ∀ args w, (callFunc gf args).run P w = .ok (.enter gf args) w)
    {encs : α → Array Value} {xs : List α} {S : Nat → Prop} {n0 : Nat} (hit : Iter (n - 1) P gf lb encs xs S n0 w) (hS : ∀ k, S k → k < w.heap.size) (hn0 : n0 ≤ w.heap.size) (hps : ∀ x, (encs x).size = ps.size)
    (I : List α → World → Prop) (Ix : Code → List α → World → Prop) (Ax : List α → α → Act → World → Prop)
    (hI : ∀ pre A B, I pre A → Mv S w.heap.size A B → I pre B) (hIx : ∀ c pre A B, Ix c pre A → Mv S w.heap.size A B → Ix c pre B) (hAx : ∀ pre x a' A B, Ax pre x a' A → Mv S w.heap.size A B → Ax pre x a' B)
    (h0 : I [] w)
    (hassign : ∀ (l : Nat) (pre : List α) (x : α) (W : World) (K : Act → World → Prop), I pre W → (pre ++ [x]) <+: xs → w.heap.size ≤ l → l < W.heap.size →
      (∀ a' W', KeepsFrom w.heap.size W W' → Kp S n0 W W' → Ax pre x a' W' → K a' W') →
      assign.wpIn (Fence.wide.inRound l) (n - 1 - 1) P (Exit.then K (fun _ _ _ => False)) { tmps := (ps.zip (encs x)).foldl (fun t (p, v) => t.setIfInBounds p v) a.tmps, defers := [] } W)
    (hbody : ∀ (l : Nat) (pre : List α) (x : α) (a' : Act) (W : World), w.heap.size ≤ l → (∃ r, W.heap[l]? = some (.loop r)) → (pre ++ [x]) <+: xs → Ax pre x a' W →
      body.wpIn (Fence.wide.inRound l) (n - 1 - 1) P (rpost S n0 w.heap.size I Ix (pre ++ [x]) W) a' W)
    (hdone : ∀ (D : Nat) (W : World), w.heap.size ≤ D → I xs W → W.heap[D]? = some (.deferred (some [])) → Q .normal { a with defers := { target := .collected D, args := #[] } :: a.defers } W)
    (hstop : ∀ (D : Nat) (c : Code) (pre : List α) (W : World), w.heap.size ≤ D → pre <+: xs → Ix c pre W → W.heap[D]? = some (.deferred (some [])) → c.wpIn Fence.wide n P Q { a with defers := { target := .collected D, args := #[] } :: a.defers } W) :
    (Code.rangeFunc g ps assign body).wpIn Fence.wide n P Q a w := by
  refine wpIn_rangeFunc ?_
  intro fn hfn
  rw [show Fence.wide.round = none from rfl]
  obtain ⟨rec, hrec⟩ : ∃ rec : LoopState → Option Code → Loop, rec = fun st pe => { state := st, pending := pe, fn, tmps := a.tmps, params := ps, assign, body, defers := w.heap.size } := ⟨_, rfl⟩
  obtain ⟨W1, hW1⟩ : ∃ W1, (w.alloc (.deferred (some []))).alloc (.loop (rec .ready none)) = W1 := ⟨_, rfl⟩
  obtain ⟨L, hL⟩ : ∃ L, L = w.heap.size + 1 := ⟨_, rfl⟩
  obtain ⟨Dk, hDk⟩ : ∃ Dk, Dk = w.heap.size := ⟨_, rfl⟩
  have hL1 : W1.heap[L]? = some (.loop (rec .ready none)) := by
    rw [← hW1, hL]; have := World.alloc_heap_new (w.alloc (.deferred (some []))) (.loop (rec .ready none)); rwa [World.size_alloc] at this
  have hK1 : W1.heap[Dk]? = some (.deferred (some [])) := by
    rw [← hW1, hDk]; exact (Below.heap_alloc _ _ _ (by simp)).trans (World.alloc_heap_new w _)
  have hm1 : Mv S w.heap.size w W1 := by rw [← hW1]; exact ((Mv.refl _ _ _).alloc _).alloc _
  have hg1 : Gr w W1 := by rw [← hW1]; exact ((Gr.rfl' w).al _).al _
  have hSL : ¬ S L := fun h => by have := hS _ h; omega
  have hSD : ¬ S Dk := fun h => by have := hS _ h; omega
  have hBL : w.heap.size ≤ L := by omega
  refine ⟨L, [{ target := .collected Dk, args := #[] }], W1, { target := .fn (.func gf) lb, args := #[.func (.yield L) #[] #[]] }, W1, gf,
    #[.func (.yield L) #[] #[]] ++ lb, W1, ?_, ?_, fun _ _ => trivial, ?_, fun h => absurd h (by simp [Fence.wide]), ?_⟩
  · rw [← hW1, hrec, hL, hDk]; exact run_enterLoop_outer _ _ _ _ _
  · simp only [resolve, hg]
    simp [go_sem]
  · simp [invoke, go_sem, eg]
  · refine (hit L
      (fun pre W => I pre W ∧ W.heap[L]? = some (.loop (rec .ready none)) ∧ W.heap[Dk]? = some (.deferred (some [])))
      (fun pre W => ∃ c, Ix c pre W ∧ W.heap[L]? = some (.loop (rec .done (some c))) ∧ W.heap[Dk]? = some (.deferred (some [])))
      W1 hg1 ?_ ?_ ?_ ⟨hI _ _ _ h0 hm1, hL1, hK1⟩).mono ?_
    · rintro pre A B ⟨hi, hl, hk⟩ hm
      exact ⟨hI _ _ _ hi hm.weak, hm.any hl hSL, hm.any hk hSD⟩
    · rintro pre A B ⟨c, hi, hl, hk⟩ hm
      exact ⟨c, hIx _ _ _ _ hi hm.weak, hm.any hl hSL, hm.any hk hSD⟩
    · -- one round
      rintro pre x W ⟨hi, hl, hk⟩ hpre
      have hlt : L < W.heap.size := (Array.getElem?_eq_some_iff.1 hl).1
      have hy := run_yield (P := P) (args := encs x) hl (by rw [hrec]; exact hps x)
      rw [hrec] at hy
      refine ⟨fn, _, assign, body, hy, roundIn_of_wpIn hfn (hassign _ pre x W _ hi hpre hBL hlt ?_)⟩
      clear hy
      intro a' Wa hkfa hkpa hax
      have hla := hkfa.same _ _ hBL hl rfl
      have hka := hkfa.same _ _ (by omega) hk rfl
      have hlta : L < Wa.heap.size := (Array.getElem?_eq_some_iff.1 hla).1
      refine ⟨_, run_beginRound hla (by rw [hrec]), ?_⟩
      have hl2 : (Wa.putObj L (.loop { rec .ready none with state := .busy })).heap[L]? = some (.loop { rec .ready none with state := .busy }) := World.putObj_heap_same hlta
      have hk2 : (Wa.putObj L (.loop { rec .ready none with state := .busy })).heap[Dk]? = some (.deferred (some [])) := (World.putObj_heap_other (by omega)).trans hka
      have hm2 : Mv S w.heap.size Wa (Wa.putObj L (.loop { rec .ready none with state := .busy })) := Mv.putLoop hla hBL _
      have hp2 : Kp S n0 W (Wa.putObj L (.loop { rec .ready none with state := .busy })) := hkpa.putObj ⟨by omega, hSL⟩ _
      refine wpIn_mono (hbody _ pre x a' _ hBL ⟨_, hl2⟩ hpre (hAx _ _ _ _ _ hax hm2)) ?_
      generalize hW2 : Wa.putObj L (.loop { rec .ready none with state := .busy }) = W2 at *
      have fin : ∀ (jump : Option Code) (W3 : World), KeepsFrom w.heap.size W2 W3 → Kp S n0 W2 W3 → ∃ W4,
          (Instr.endRound L jump).run P W3 = .ok (.bool jump.isNone) W4 ∧ Mv S w.heap.size W3 W4 ∧ Kp S n0 W W4 ∧
          W4.heap[L]? = some (.loop (rec (if jump.isNone then .ready else .done) jump)) ∧ W4.heap[Dk]? = some (.deferred (some [])) := fun jump W3 hk3 hp3 => by
        have hl3 := hk3.same _ _ hBL hl2 rfl
        have hd3 := hk3.same _ _ (by omega) hk2 rfl
        have hr := run_endRound (P := P) jump hl3
        refine ⟨_, hr, Mv.putLoop hl3 hBL _, (hp2.trans hp3).putObj ⟨by omega, hSL⟩ _, ?_, (World.putObj_heap_other (by omega)).trans hd3⟩
        rw [World.putObj_heap_same (Array.getElem?_eq_some_iff.1 hl3).1, hrec]
      rintro e a3 W3 hp
      cases e with
      | normal =>
        obtain ⟨hk3, hkp3, hi3⟩ := hp
        obtain ⟨W4, hr, hm4, hp4, hl4, hd4⟩ := fin none W3 hk3 hkp3
        exact ⟨_, W4, hr, hp4, .inl ⟨rfl, hI _ _ _ hi3 hm4, hl4, hd4⟩⟩
      | ret =>
        obtain ⟨hk3, hkp3, hi3⟩ := hp
        obtain ⟨W4, hr, hm4, hp4, hl4, hd4⟩ := fin (some .ret) W3 hk3 hkp3
        exact ⟨_, W4, hr, hp4, .inr ⟨rfl, .ret, hIx _ _ _ _ hi3 hm4, hl4, hd4⟩⟩
      | exit id =>
        obtain ⟨hk3, hkp3, hi3⟩ := hp
        obtain ⟨W4, hr, hm4, hp4, hl4, hd4⟩ := fin (some (.exit id)) W3 hk3 hkp3
        exact ⟨_, W4, hr, hp4, .inr ⟨rfl, .exit id, hIx _ _ _ _ hi3 hm4, hl4, hd4⟩⟩
      | goto t =>
        obtain ⟨hk3, hkp3, hi3⟩ := hp
        obtain ⟨W4, hr, hm4, hp4, hl4, hd4⟩ := fin (some (.goto t)) W3 hk3 hkp3
        exact ⟨_, W4, hr, hp4, .inr ⟨rfl, .goto t, hIx _ _ _ _ hi3 hm4, hl4, hd4⟩⟩
      | panic ch => exact hp.elim
      | outgrown => exact hp.elim
    · -- behind the iterator
      rintro e W2 ⟨⟨v, rfl⟩, (⟨hi, hl, hk⟩ | ⟨pre, hpre, c, hi, hl, hk⟩)⟩
      · have hr := run_endLoop (P := P) hl (by rw [hrec]; simp)
        rw [hrec] at hr
        exact ⟨none, _, hr, hdone Dk _ (by omega) (hI _ _ _ hi (Mv.putLoop hl hBL _)) ((World.putObj_heap_other (by omega)).trans hk)⟩
      · have hr := run_endLoop (P := P) hl (by rw [hrec]; simp)
        rw [hrec] at hr
        exact ⟨some c, _, hr, hstop Dk c pre _ (by omega) hpre (hIx _ _ _ _ hi (Mv.putLoop hl hBL _)) ((World.putObj_heap_other (by omega)).trans hk)⟩
end Go.Proofs.YtfobnemocodomaaGreat
