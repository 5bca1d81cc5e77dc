/- What an argument of operations reads as; what the listed variable holds. -/
import Derived.Test.YtjjdgmabgiembaaDoorRows
import Derived.Test.YtjjdgmabgiembaaDoorOpsG
import Derived.ProofKit
import Derived.OpenShut
import Derived.ShutString
import Derived.ChangeOld
import Derived.Below
import Derived.Deep.Slices
import Derived.Lib.SmallJoins
import Derived.LaidMore
import Derived.Lay
import Derived.MakeChecks
set_option linter.unusedVariables false
set_option linter.unusedSimpArgs false
namespace Go.Proofs.YtjjdgmabgiembaaDoor
open Go.ChangeShapes Go.WideShapes Go.ChangeAt Go.RowKit Go.Deep Go.Joins

theorem own : ownKnob Tryd.prog.godebug = none := by kernel_rfl
theorem laidOut : laidOutB Tryd.prog = true := by kernel_rfl
theorem gF : Tryd.prog.globalNamed "hearsay/ops.fields" = some 0 := by kernel_rfl
theorem tF : (Tryd.prog.globals[0]?).map (·.type) = some 65 := by kernel_rfl
theorem cInt : Tryd.prog.cellsOf 3 = 1 := by kernel_rfl
theorem cStr : Tryd.prog.cellsOf 9 = 1 := by kernel_rfl
theorem cOp : Tryd.prog.cellsOf 23 = 8 := by kernel_rfl

theorem of_laid {W : World} (h : laidMetH Tryd.prog [("hearsay/ops.fields", Rows.laid_hearsay_ops_fields)] W) : Fl W := by
  rw [MakeChecks.laidMetH_plain _ _ _ (by kernel_rfl)] at h
  obtain ⟨ps, ⟨g0, t0, cs0, f0, p0, q0, hg0, ht0, hv0, hd0, _, _⟩, _, _⟩ := h
  obtain rfl := Option.some.inj (gF.symm.trans hg0)
  obtain rfl := Option.some.inj (tF.symm.trans ht0)
  obtain ⟨xs, m1, rfl, hx1, hlen, hn, hel⟩ := DataW.trod_array Tryd.underlying65 hd0
  simp only [Prod.mk.injEq, Rows.laid_hearsay_ops_fields, DataW.agg.injEq] at hx1
  intro j hj
  have hj13 : j < xs.length := by rw [hn]; exact hj
  have h0 := hel j hj
  rw [List.getElem?_eq_getElem hj13] at h0
  obtain ⟨n, e1, e2, _⟩ := DataW.trod_int Tryd.underlying3 h0
  have hv : (xs.map (·.1))[j]? = some (.lit (.int .i64 n)) := by simp [List.getElem?_eq_getElem hj13, e2]
  rw [← hx1.1] at hv
  have hc := World.var?_cell hg0 hv0 j
  rw [cInt, Nat.mul_one] at e1
  have h2 : ((cs0.toList.drop j).take 1)[0]? = some (.int .i64 n) := by rw [e1]; rfl
  rw [List.getElem?_take_of_lt (by omega), List.getElem?_drop, Nat.add_zero] at h2
  have h3 : cs0[j]? = some (.int .i64 n) := by simpa using h2
  rw [hc, h3]
  have hj' : j = 0 ∨ j = 1 ∨ j = 2 ∨ j = 3 ∨ j = 4 ∨ j = 5 ∨ j = 6 ∨ j = 7 ∨ j = 8 ∨ j = 9 ∨ j = 10 ∨ j = 11 ∨ j = 12 := by omega
  rcases hj' with rfl | rfl | rfl | rfl | rfl | rfl | rfl | rfl | rfl | rfl | rfl | rfl | rfl
  all_goals
    simp at hv
    subst hv
    rfl

theorem open_op {H : Type} {enc : TypeId × Value → H} {W : World} {base : Nat} {sp : Nat → Bool} {held : Bool} {n : Nat} {cs : List Value} {x : DataW H × List MemPlace} (h : DataW.trod enc Tryd.prog W base sp held n 23 cs = some x) :
    ∃ q : Opx, (q.Pa.size ≤ 9223372036854775807 ∧ q.Da.size ≤ 9223372036854775807) ∧ cs = q.cells.toList := by
  obtain ⟨xs, m, rfl, _, hl, hx, hf⟩ := DataW.trod_struct Tryd.underlying23 h
  rw [cOp] at hl
  have hx8 : xs.length = 8 := hx
  have g0 := hf 0 _ rfl
  change DataW.trod enc Tryd.prog W base sp held m 3 ((cs.drop 0).take (Tryd.prog.cellsOf 3)) = _ at g0
  rw [cInt, List.getElem?_eq_getElem (by omega)] at g0
  have g1 := hf 1 _ rfl
  change DataW.trod enc Tryd.prog W base sp held m 3 ((cs.drop 1).take (Tryd.prog.cellsOf 3)) = _ at g1
  rw [cInt, List.getElem?_eq_getElem (by omega)] at g1
  have g2 := hf 2 _ rfl
  change DataW.trod enc Tryd.prog W base sp held m 3 ((cs.drop 2).take (Tryd.prog.cellsOf 3)) = _ at g2
  rw [cInt, List.getElem?_eq_getElem (by omega)] at g2
  have g3 := hf 3 _ rfl
  change DataW.trod enc Tryd.prog W base sp held m 3 ((cs.drop 3).take (Tryd.prog.cellsOf 3)) = _ at g3
  rw [cInt, List.getElem?_eq_getElem (by omega)] at g3
  have g4 := hf 4 _ rfl
  change DataW.trod enc Tryd.prog W base sp held m 3 ((cs.drop 4).take (Tryd.prog.cellsOf 3)) = _ at g4
  rw [cInt, List.getElem?_eq_getElem (by omega)] at g4
  have g5 := hf 5 _ rfl
  change DataW.trod enc Tryd.prog W base sp held m 3 ((cs.drop 5).take (Tryd.prog.cellsOf 3)) = _ at g5
  rw [cInt, List.getElem?_eq_getElem (by omega)] at g5
  have g6 := hf 6 _ rfl
  change DataW.trod enc Tryd.prog W base sp held m 9 ((cs.drop 6).take (Tryd.prog.cellsOf 9)) = _ at g6
  rw [cStr, List.getElem?_eq_getElem (by omega)] at g6
  have g7 := hf 7 _ rfl
  change DataW.trod enc Tryd.prog W base sp held m 9 ((cs.drop 7).take (Tryd.prog.cellsOf 9)) = _ at g7
  rw [cStr, List.getElem?_eq_getElem (by omega)] at g7
  obtain ⟨k0, e0, _, _⟩ := DataW.trod_int Tryd.underlying3 g0
  obtain ⟨k1, e1, _, _⟩ := DataW.trod_int Tryd.underlying3 g1
  obtain ⟨k2, e2, _, _⟩ := DataW.trod_int Tryd.underlying3 g2
  obtain ⟨k3, e3, _, _⟩ := DataW.trod_int Tryd.underlying3 g3
  obtain ⟨k4, e4, _, _⟩ := DataW.trod_int Tryd.underlying3 g4
  obtain ⟨k5, e5, _, _⟩ := DataW.trod_int Tryd.underlying3 g5
  obtain ⟨s6, e6, _, z6⟩ := DataW.trod_string Tryd.underlying9 g6
  obtain ⟨s7, e7, _, z7⟩ := DataW.trod_string Tryd.underlying9 g7
  refine ⟨⟨k0, k1, k2, k3, k4, k5, s6, s7⟩, ⟨z6, z7⟩, ?_⟩
  have h0 : cs = (cs.drop 0).take 1 ++ ((cs.drop 1).take 1 ++ ((cs.drop 2).take 1 ++ ((cs.drop 3).take 1 ++ ((cs.drop 4).take 1 ++ ((cs.drop 5).take 1 ++ ((cs.drop 6).take 1 ++ (cs.drop 7).take 1)))))) := by
    match cs, hl with
    | [c0, c1, c2, c3, c4, c5, c6, c7], _ => rfl
  rw [h0, e0, e1, e2, e3, e4, e5, e6, e7]
  rfl
theorem open_opv {H : Type} {enc : TypeId × Value → H} {W : World} {b0 : Nat} {r : Reach} {v : Value} {d : DataW H} {p : List MemPlace} (hv : Value.okWide Tryd.prog W r b0 23 v) (h : DataW.Trod enc Tryd.prog W 0 (fun _ => true) true 23 v d p) :
    ∃ x : Opx, v = .agg x.cells := by
  obtain ⟨cs, rfl, hsz⟩ := okWide_struct Tryd.underlying23 hv
  obtain ⟨fuel, hf⟩ := h
  obtain ⟨q, hq, he⟩ := open_op hf
  have he' : cs.toList = q.cells.toList := by simpa [Value.cells] using he
  exact ⟨q, by rw [Array.toList_inj.1 he']⟩
theorem open_oxs {H : Type} {enc : TypeId × Value → H} {W : World} {A : Option Addr} {n c : Nat} {d : DataW H} {p : List MemPlace} (h : DataW.Trod enc Tryd.prog W 0 (fun _ => true) true 28 (.slice A n c) d p) :
    ∃ l : List Opx, n = l.length ∧ l.length ≤ c ∧ Oxs W A l := by
  obtain ⟨fuel, hf⟩ := h
  rcases open_slice Tryd.underlying28 hf with ⟨hcs, _⟩ | ⟨a, len, cap, m, k, D, Pl, hcs, _, hl, hm, hmm, _, hx⟩
  · simp [Value.cells] at hcs
    obtain ⟨rfl, rfl, rfl⟩ := hcs
    exact ⟨[], rfl, by simp, by simp, fun i hi => by simp at hi⟩
  · simp [Value.cells] at hcs
    obtain ⟨rfl, rfl, rfl⟩ := hcs
    have hmc : m = c := by simpa using hmm
    subst hmc
    have each : ∀ i, i < m → ∃ q : Opx, (q.Pa.size ≤ 9223372036854775807 ∧ q.Da.size ≤ 9223372036854775807) ∧ ∀ j v, q.cells[j]? = some v → W.cell? ((a.add (i * 8)).add j) = some v := by
      intro i hi
      obtain ⟨cs', h1, h2⟩ := hx i hi
      rw [cOp] at h1
      obtain ⟨_, hlen, hcell⟩ := World.cells?_some h1
      obtain ⟨q, hq, rfl⟩ := open_op h2
      refine ⟨q, hq, fun j v hj => ?_⟩
      have hj' := (Array.getElem?_eq_some_iff.1 hj).1
      have h8 : q.cells.size = 8 := rfl
      rw [hcell j (by omega)]
      simpa using hj
    refine ⟨(List.range n).map fun i => if h : i < m then (each i h).choose else ⟨0, 0, 0, 0, 0, 0, ⟨#[]⟩, ⟨#[]⟩⟩, by simp, by simpa using hl, by simp only [List.length_map, List.length_range, maxLen] at *; omega, fun i hi => ?_⟩
    have hin : i < n := by simpa using hi
    have him : i < m := by omega
    refine ⟨a, rfl, ?_⟩
    simp only [List.getElem_map, List.getElem_range, him, dite_true]
    exact (each i him).choose_spec
end Go.Proofs.YtjjdgmabgiembaaDoor
