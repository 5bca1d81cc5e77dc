/- What rows of dots, rows of rows, facts read as. -/
import Derived.Test.YtpaogcighlfelaaOpen
import Derived.Deep.Slices
import Derived.Test.YtpaogcighlfelaaMatH
set_option linter.unusedVariables false
set_option linter.unusedSimpArgs false
namespace Go.Proofs.Ytpaogcighlfelaa
open Go.ChangeShapes Go.WideShapes Go.ChangeAt Go.RowKit Go.Deep Go.Joins

theorem cInt : Try.prog.cellsOf 3 = 1 := by kernel_rfl
theorem cBool : Try.prog.cellsOf 4 = 1 := by kernel_rfl
theorem cRow : Try.prog.cellsOf 28 = 1 := by kernel_rfl
theorem cRows : Try.prog.cellsOf 31 = 1 := by kernel_rfl
theorem open_dots0 {H : Type} {enc : TypeId × Value → H} {W : World} {n : Nat} {cs : List Value} {x : DataW H × List MemPlace} (h : DataW.trod enc Try.prog W 0 (fun _ => true) true n 28 cs = some x) :
    ∃ d : DRow, cs = [d.val] ∧ d.l.length ≤ d.cap ∧ Dots W d.A d.l := by
  rcases open_slice Try.underlying28 h with ⟨hcs, _⟩ | ⟨a, len, cap, m, k, D, Pl, hcs, _⟩
  · exact ⟨⟨none, 0, []⟩, hcs, by simp, Dots.nil _ _⟩
  · subst hcs
    obtain ⟨l, e, hc, hd⟩ := open_dots (A := some a) (n := len) (c := cap) (d := x.1) (p := x.2) ⟨n, h⟩
    subst e
    exact ⟨⟨some a, cap, l⟩, rfl, hc, hd⟩
theorem open_rows0 {H : Type} {enc : TypeId × Value → H} {W : World} {n : Nat} {cs : List Value} {x : DataW H × List MemPlace} (h : DataW.trod enc Try.prog W 0 (fun _ => true) true n 31 cs = some x) :
    ∃ (A : Option Addr) (c : Nat) (ds : List DRow), cs = [.slice A ds.length c] ∧ ds.length ≤ c ∧ DRows W A ds ∧ ∀ d ∈ ds, d.l.length ≤ d.cap := by
  rcases open_slice Try.underlying31 h with ⟨hcs, _⟩ | ⟨a, len, cap, m, k, D, Pl, hcs, _, hl, hm, hmm, _, hx⟩
  · exact ⟨none, 0, [], hcs, by simp, ⟨by simp, fun i hi => absurd hi (by simp)⟩, fun d hd => absurd hd (by simp)⟩
  · have hmc : m = cap := by simpa using hmm
    subst hmc
    have each : ∀ i, i < m → ∃ d : DRow, W.cell? (a.add i) = some d.val ∧ d.l.length ≤ d.cap ∧ Dots W d.A d.l := by
      intro i hi
      obtain ⟨cs', h1, h2⟩ := hx i hi
      rw [cRow, Nat.mul_one] at h1
      obtain ⟨_, hlen, hcell⟩ := World.cells?_some h1
      obtain ⟨d, rfl, h3, h4⟩ := open_dots0 h2
      refine ⟨d, ?_, h3, h4⟩
      have := hcell 0 (by omega)
      have e0 : (a.add i).add 0 = a.add i := by unfold Addr.add; simp
      rw [e0] at this
      rw [this]; rfl
    refine ⟨some a, m, (List.range len).map fun i => if h : i < m then (each i h).choose else ⟨none, 0, []⟩, by rw [hcs]; simp, by simpa using hl, ⟨by simp only [List.length_map, List.length_range, maxLen] at *; omega, fun i hi => ?_⟩, fun d hd => ?_⟩
    · have hin : i < len := by simpa using hi
      have him : i < m := by omega
      refine ⟨a, rfl, ?_⟩
      simp only [List.getElem_map, List.getElem_range, him, dite_true]
      exact ⟨(each i him).choose_spec.1, (each i him).choose_spec.2.2⟩
    · rw [List.mem_map] at hd
      obtain ⟨i, hi, rfl⟩ := hd
      have him : i < m := by have := List.mem_range.1 hi; omega
      simp only [him, dite_true]
      exact (each i him).choose_spec.2.1
theorem cFact : Try.prog.cellsOf 33 = 4 := by kernel_rfl
def FRow.cells (f : FRow) : List Value := [.int .i64 f.P, .slice f.A f.v.length f.cap, .bool f.all, .slice f.RA f.rows.length f.rcap]
theorem open_fact0 {H : Type} {enc : TypeId × Value → H} {W : World} {n : Nat} {cs : List Value} {x : DataW H × List MemPlace} (h : DataW.trod enc Try.prog W 0 (fun _ => true) true n 33 cs = some x) :
    ∃ f : FRow, f.good W ∧ cs = f.cells := by
  obtain ⟨xs, m, rfl, _, hl, hx, hf⟩ := DataW.trod_struct Try.underlying33 h
  rw [cFact] at hl
  have hx4 : xs.length = 4 := hx
  have g0 := hf 0 _ rfl
  have g1 := hf 1 _ rfl
  have g2 := hf 2 _ rfl
  have g3 := hf 3 _ rfl
  change DataW.trod enc Try.prog W 0 (fun _ => true) true m 3 ((cs.drop 0).take (Try.prog.cellsOf 3)) = _ at g0
  change DataW.trod enc Try.prog W 0 (fun _ => true) true m 28 ((cs.drop 1).take (Try.prog.cellsOf 28)) = _ at g1
  change DataW.trod enc Try.prog W 0 (fun _ => true) true m 4 ((cs.drop 2).take (Try.prog.cellsOf 4)) = _ at g2
  change DataW.trod enc Try.prog W 0 (fun _ => true) true m 31 ((cs.drop 3).take (Try.prog.cellsOf 31)) = _ at g3
  rw [cInt] at g0
  rw [cRow] at g1
  rw [cBool] at g2
  rw [cRows] at g3
  rw [List.getElem?_eq_getElem (by omega)] at g0 g1 g2 g3
  obtain ⟨k0, e0, _, _⟩ := DataW.trod_int Try.underlying3 g0
  obtain ⟨d, e1, hd1, hd2⟩ := open_dots0 g1
  obtain ⟨b, e2, _⟩ := DataW.trod_bool Try.underlying4 g2
  obtain ⟨A, c, ds, e3, hc3, hd3, hd4⟩ := open_rows0 g3
  refine ⟨⟨k0, d.A, d.cap, d.l, b, A, c, ds⟩, ⟨hd2, hd1, hd3, hd4⟩, ?_⟩
  have h0 : cs = (cs.drop 0).take 1 ++ ((cs.drop 1).take 1 ++ ((cs.drop 2).take 1 ++ (cs.drop 3).take 1)) := by
    match cs, hl with
    | [c0, c1, c2, c3], hl => rfl
  rw [h0, e0, e1, e2, e3]
  rfl
theorem open_facts {H : Type} {enc : TypeId × Value → H} {W : World} {A : Option Addr} {n c : Nat} {d : DataW H} {p : List MemPlace} (h : DataW.Trod enc Try.prog W 0 (fun _ => true) true 22 (.slice A n c) d p) :
    ∃ l : List FRow, n = l.length ∧ l.length ≤ c ∧ Facts W A l := by
  obtain ⟨fuel, hf⟩ := h
  rcases open_slice Try.underlying22 hf with ⟨hcs, _⟩ | ⟨a, len, cap, m, k, D, Pl, hcs, _, hl, hm, hmm, _, hx⟩
  · simp [Value.cells] at hcs
    obtain ⟨rfl, rfl, rfl⟩ := hcs
    exact ⟨[], rfl, by simp, by simp, fun i hi => by simp at hi⟩
  · simp [Value.cells] at hcs
    obtain ⟨rfl, rfl, rfl⟩ := hcs
    have hmc : m = c := by simpa using hmm
    subst hmc
    have each : ∀ i, i < m → ∃ q : FRow, q.good W ∧ ∀ j v, q.cells[j]? = some v → W.cell? ((a.add (i * 4)).add j) = some v := by
      intro i hi
      obtain ⟨cs', h1, h2⟩ := hx i hi
      rw [cFact] at h1
      obtain ⟨_, hlen, hcell⟩ := World.cells?_some h1
      obtain ⟨q, hq, rfl⟩ := open_fact0 h2
      refine ⟨q, hq, fun j v hj => ?_⟩
      have hj' := (List.getElem?_eq_some_iff.1 hj).1
      rw [hcell j (by omega)]
      exact hj
    refine ⟨(List.range n).map fun i => if h : i < m then (each i h).choose else ⟨0, none, 0, [], false, none, 0, []⟩, by simp, by simpa using hl, by simp only [List.length_map, List.length_range, maxLen] at *; omega, fun i hi => ?_⟩
    have hin : i < n := by simpa using hi
    have him : i < m := by omega
    refine ⟨a, rfl, ?_⟩
    simp only [List.getElem_map, List.getElem_range, him, dite_true]
    obtain ⟨hg, hc⟩ := (each i him).choose_spec
    have e : ∀ j, j ≠ 0 → (⟨(a.add (i * 4)).block, (a.add (i * 4)).off + j, none⟩ : Addr) = (a.add (i * 4)).add j := fun j hj => by generalize a.add (i * 4) = q; unfold Addr.add; rw [if_neg hj]
    refine ⟨?_, ?_, ?_, ?_, hg⟩
    · have := hc 0 _ rfl
      have e0 : (a.add (i * 4)).add 0 = a.add (i * 4) := by generalize a.add (i * 4) = q; unfold Addr.add; simp
      rwa [e0] at this
    · rw [e 1 (by decide)]; exact hc 1 _ rfl
    · rw [e 2 (by decide)]; exact hc 2 _ rfl
    · rw [e 3 (by decide)]; exact hc 3 _ rfl
end Go.Proofs.Ytpaogcighlfelaa
