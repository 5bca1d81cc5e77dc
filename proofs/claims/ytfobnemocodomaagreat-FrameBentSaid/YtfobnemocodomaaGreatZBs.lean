/- Joined texts: OpenV OpenL. -/
import Derived.Test.YtfobnemocodomaaGreatRows
import Derived.Test.YtfobnemocodomaaGreatZBc
import Derived.ProofKit
import Derived.OpenShut
import Derived.ShutString
import Derived.ChangeOld
import Derived.ChangeArms
import Derived.Below
import Derived.Deep.Slices
import Derived.Deep.SlicePairs
import Derived.Lib.SmallJoins
import Derived.Test.YtfobnemocodomaaGreatZBa
set_option maxHeartbeats 200000
set_option linter.unusedVariables false
set_option linter.unusedSimpArgs false
namespace Go.Proofs.YtfobnemocodomaaGreat
open Go.ChangeShapes Go.WideShapes Go.ChangeAt Go.RowKit Go.Deep Go.Joins

theorem vown : ownKnob Tryz.prog.godebug = none := by kernel_rfl
theorem vlaidOut : laidOutB Tryz.prog = true := by kernel_rfl
theorem vcInt : Tryz.prog.cellsOf 3 = 1 := by kernel_rfl
theorem vcStr : Tryz.prog.cellsOf 9 = 1 := by kernel_rfl
theorem vcBool : Tryz.prog.cellsOf 4 = 1 := by kernel_rfl
theorem vcDots : Tryz.prog.cellsOf 34 = 1 := by kernel_rfl
theorem vcDot : Tryz.prog.cellsOf 112 = 2 := by kernel_rfl
theorem vcVer : Tryz.prog.cellsOf 114 = 5 := by kernel_rfl

theorem open_dotsL {H : Type} {enc : TypeId × Value → H} {W : World} {base : Nat} {sp : Nat → Bool} {held : Bool} {n : Nat} {cs : List Value} {x : DataW H × List MemPlace} (h : DataW.trod enc Tryz.prog W base sp held n 34 cs = some x) :
    ∃ (A : Option Addr) (l : List Dot) (c : Nat), cs = [.slice A l.length c] ∧ l.length ≤ c ∧ Dots W A l := by
  rcases open_slice_pairs (f0 := _) (f1 := _) Tryz.underlying34 Tryz.underlying112 (by kernel_rfl) rfl rfl (by kernel_rfl) (by kernel_rfl) h with ⟨hcs, _⟩ | ⟨a, len, cap, m, k, V0, V1, D0, D1, P0, P1, hcs, _, hl, hm, hmm, _, hx⟩
  · exact ⟨none, [], 0, by rw [hcs]; rfl, by simp, Dots.nil _ _⟩
  · have hv : ∀ i, i < m → V0 i = .int .i64 (intOf (V0 i)) ∧ V1 i = .int .i64 (intOf (V1 i)) := by
      intro i hi
      obtain ⟨_, _, h3, h4⟩ := hx i hi
      obtain ⟨n0, e0, _⟩ := DataW.trod_int Tryz.underlying3 h3
      obtain ⟨n1, e1, _⟩ := DataW.trod_int Tryz.underlying3 h4
      simp only [List.cons.injEq, and_true] at e0 e1
      rw [e0, e1]
      exact ⟨rfl, rfl⟩
    have hlm : len ≤ m := by rw [hmm]; split <;> omega
    refine ⟨some a, (List.range len).map fun i => (intOf (V0 i), intOf (V1 i)), cap, by rw [hcs]; simp, by simpa using hl, by simp only [List.length_map, List.length_range, maxLen] at *; omega, fun i hi => ?_⟩
    have hin : i < len := by simpa using hi
    obtain ⟨h1, h2, _, _⟩ := hx i (by omega)
    obtain ⟨e1, e2⟩ := hv i (by omega)
    refine ⟨a, rfl, ?_, ?_⟩
    · rw [h1, e1]; simp [intOf]
    · have : (⟨(a.add (i * 2)).block, (a.add (i * 2)).off + 1, none⟩ : Addr) = a.add (i * 2 + 1) := by
        unfold Addr.add
        by_cases h0 : i * 2 = 0
        · rw [if_pos h0, if_neg (by omega), h0]
        · rw [if_neg h0, if_neg (by omega)]; rfl
      rw [this, h2, e2]; simp [intOf]

set_option maxRecDepth 100000 in
theorem open_dotL {H : Type} {enc : TypeId × Value → H} {W : World} {base : Nat} {sp : Nat → Bool} {held : Bool} {n : Nat} {cs : List Value} {x : DataW H × List MemPlace} (h : DataW.trod enc Tryz.prog W base sp held n 112 cs = some x) :
    ∃ p c : Int, cs = [.int .i64 p, .int .i64 c] := by
  obtain ⟨xs, m, rfl, _, hl, hx, hf⟩ := DataW.trod_struct Tryz.underlying112 h
  rw [vcDot] at hl
  have hx2 : xs.length = 2 := hx
  have g0 := hf 0 _ rfl
  change DataW.trod enc Tryz.prog W base sp held m 3 ((cs.drop 0).take (Tryz.prog.cellsOf 3)) = _ at g0
  rw [vcInt, List.getElem?_eq_getElem (by omega)] at g0
  have g1 := hf 1 _ rfl
  change DataW.trod enc Tryz.prog W base sp held m 3 ((cs.drop 1).take (Tryz.prog.cellsOf 3)) = _ at g1
  rw [vcInt, List.getElem?_eq_getElem (by omega)] at g1
  obtain ⟨k0, e0, _, _⟩ := DataW.trod_int Tryz.underlying3 g0
  obtain ⟨k1, e1, _, _⟩ := DataW.trod_int Tryz.underlying3 g1
  refine ⟨k0, k1, ?_⟩
  have h0 : cs = (cs.drop 0).take 1 ++ (cs.drop 1).take 1 := by
    match cs, hl with
    | [c0, c1], _ => rfl
  rw [h0, e0, e1]
  rfl

set_option maxRecDepth 100000 in
theorem open_ver {H : Type} {enc : TypeId × Value → H} {W : World} {base : Nat} {sp : Nat → Bool} {held : Bool} {n : Nat} {cs : List Value} {x : DataW H × List MemPlace} (h : DataW.trod enc Tryz.prog W base sp held n 114 cs = some x) :
    ∃ q : Vx, VxOk W q ∧ q.pl.length ≤ q.pc ∧ cs = q.cells.toList := by
  obtain ⟨xs, m, rfl, _, hl, hx, hf⟩ := DataW.trod_struct Tryz.underlying114 h
  rw [vcVer] at hl
  have hx4 : xs.length = 4 := hx
  have g0 := hf 0 _ rfl
  change DataW.trod enc Tryz.prog W base sp held m 112 ((cs.drop 0).take (Tryz.prog.cellsOf 112)) = _ at g0
  rw [vcDot, List.getElem?_eq_getElem (by omega)] at g0
  have g1 := hf 1 _ rfl
  change DataW.trod enc Tryz.prog W base sp held m 34 ((cs.drop 2).take (Tryz.prog.cellsOf 34)) = _ at g1
  rw [vcDots, List.getElem?_eq_getElem (by omega)] at g1
  have g2 := hf 2 _ rfl
  change DataW.trod enc Tryz.prog W base sp held m 4 ((cs.drop 3).take (Tryz.prog.cellsOf 4)) = _ at g2
  rw [vcBool, List.getElem?_eq_getElem (by omega)] at g2
  have g3 := hf 3 _ rfl
  change DataW.trod enc Tryz.prog W base sp held m 9 ((cs.drop 4).take (Tryz.prog.cellsOf 9)) = _ at g3
  rw [vcStr, List.getElem?_eq_getElem (by omega)] at g3
  obtain ⟨p, c, e0⟩ := open_dotL g0
  obtain ⟨A, l, cap, e1, hcap, hd⟩ := open_dotsL g1
  obtain ⟨b, e2, _⟩ := DataW.trod_bool Tryz.underlying4 g2
  obtain ⟨s, e3, _, z3⟩ := DataW.trod_string Tryz.underlying9 g3
  refine ⟨⟨p, c, A, l, cap, b, s⟩, ⟨hd, z3⟩, hcap, ?_⟩
  have h0 : cs = (cs.drop 0).take 2 ++ ((cs.drop 2).take 1 ++ ((cs.drop 3).take 1 ++ (cs.drop 4).take 1)) := by
    match cs, hl with
    | [c0, c1, c2, c3, c4], _ => rfl
  rw [h0, e0, e1, e2, e3]
  rfl
theorem open_versL {H : Type} {enc : TypeId × Value → H} {W : World} {base : Nat} {sp : Nat → Bool} {held : Bool} {n : Nat} {cs : List Value} {x : DataW H × List MemPlace} (h : DataW.trod enc Tryz.prog W base sp held n 23 cs = some x) :
    ∃ (A : Option Addr) (l : List Vx) (c : Nat), cs = [.slice A l.length c] ∧ l.length ≤ c ∧ Vers W A l ∧ ∀ x ∈ l, x.pl.length ≤ x.pc := by
  rcases open_slice Tryz.underlying23 h with ⟨hcs, _⟩ | ⟨a, len, cap, m, k, D, Pl, hcs, _, hl, hm, hmm, _, hx⟩
  · exact ⟨none, [], 0, by rw [hcs]; rfl, by simp, Vers.nil _ _, by simp⟩
  · have each : ∀ i, i < m → ∃ q : Vx, (VxOk W q ∧ q.pl.length ≤ q.pc) ∧ ∀ j v, q.cells[j]? = some v → W.cell? ((a.add (i * 5)).add j) = some v := by
      intro i hi
      obtain ⟨cs', h1, h2⟩ := hx i hi
      rw [vcVer] at h1
      obtain ⟨_, hlen, hcell⟩ := World.cells?_some h1
      obtain ⟨q, hq, hqc, rfl⟩ := open_ver h2
      refine ⟨q, ⟨hq, hqc⟩, fun j v hj => ?_⟩
      have hj' := (Array.getElem?_eq_some_iff.1 hj).1
      have h5 : q.cells.size = 5 := rfl
      rw [hcell j (by omega)]
      simpa using hj
    have hlm : len ≤ m := by rw [hmm]; split <;> omega
    refine ⟨some a, (List.range len).map fun i => if h : i < m then (each i h).choose else ⟨0, 0, none, [], 0, false, ⟨#[]⟩⟩, cap, by rw [hcs]; simp, by simpa using hl, ⟨by simp only [List.length_map, List.length_range, maxLen] at *; omega, fun i hi => ?_⟩, fun x hx => ?_⟩
    · have hin : i < len := by simpa using hi
      have him : i < m := by omega
      refine ⟨a, rfl, ?_⟩
      simp only [List.getElem_map, List.getElem_range, him, dite_true]
      exact ⟨(each i him).choose_spec.1.1, (each i him).choose_spec.2⟩
    · obtain ⟨i, hi, rfl⟩ := List.mem_map.1 hx
      have him : i < m := by have := List.mem_range.1 hi; omega
      simp only [him, dite_true]
      exact (each i him).choose_spec.1.2
end Go.Proofs.YtfobnemocodomaaGreat
set_option maxHeartbeats 200000
set_option linter.unusedVariables false
set_option linter.unusedSimpArgs false
namespace Go.Proofs.YtfobnemocodomaaGreat
open Go.ChangeShapes Go.WideShapes Go.ChangeAt Go.RowKit Go.Deep Go.Joins

set_option maxRecDepth 100000 in
theorem open_verv {H : Type} {enc : TypeId × Value → H} {W : World} {b0 : Nat} {r : Reach} {v : Value} {d : DataW H} {p : List MemPlace} (hv : Value.okWide Tryz.prog W r b0 114 v) (h : DataW.Trod enc Tryz.prog W 0 (fun _ => true) true 114 v d p) :
    ∃ x : Vx, v = .agg x.cells ∧ VxOk W x ∧ x.pl.length ≤ x.pc := by
  obtain ⟨cs, rfl, hsz⟩ := okWide_struct Tryz.underlying114 hv
  obtain ⟨fuel, hf⟩ := h
  obtain ⟨q, h1, h2, e⟩ := open_ver hf
  have he : cs.toList = q.cells.toList := by simpa [Value.cells] using e
  exact ⟨q, by rw [Array.ext' he], h1, h2⟩
set_option maxRecDepth 100000 in
theorem open_vers {H : Type} {enc : TypeId × Value → H} {W : World} {A : Option Addr} {n c : Nat} {d : DataW H} {p : List MemPlace} (h : DataW.Trod enc Tryz.prog W 0 (fun _ => true) true 23 (.slice A n c) d p) :
    ∃ l : List Vx, n = l.length ∧ l.length ≤ c ∧ Vers W A l ∧ ∀ x ∈ l, x.pl.length ≤ x.pc := by
  obtain ⟨fuel, hf⟩ := h
  obtain ⟨A', l, c', e, h1, h2, h3⟩ := open_versL hf
  have e' : [Value.slice A n c] = [.slice A' l.length c'] := by simpa [Value.cells] using e
  simp only [List.cons.injEq, Value.slice.injEq, and_true] at e'
  obtain ⟨rfl, rfl, rfl⟩ := e'
  exact ⟨l, rfl, h1, h2, h3⟩
set_option maxRecDepth 100000 in
theorem open_strA {H : Type} {enc : TypeId × Value → H} {W : World} {b0 : Nat} {r : Reach} {v : Value} {d : DataW H} {p : List MemPlace} (hv : Value.okWide Tryz.prog W r b0 9 v) (h : DataW.Trod enc Tryz.prog W 0 (fun _ => true) true 9 v d p) :
    ∃ s : ByteArray, v = .string s ∧ d = .lit (.string s.data.toList) ∧ p = [] ∧ s.size ≤ maxLen := by
  obtain ⟨fuel, hf⟩ := h
  obtain ⟨s, hc, hx, hs⟩ := DataW.trod_string Tryz.underlying9 hf
  simp only [Prod.mk.injEq] at hx
  refine ⟨s, ?_, hx.1, hx.2, hs⟩
  cases v <;> simp_all [Value.cells, Value.okWide, Tryz.underlying9, Cell.okWide, Cell.ok]
theorem shut_strA {H : Type} {enc : TypeId × Value → H} {W : World} {sp : Nat → Bool} {s : ByteArray} (h : s.size ≤ maxLen) : DataW.Trod enc Tryz.prog W 0 sp true 9 (.string s) (.lit (.string s.data.toList)) [] := ⟨1, by simp [DataW.trod, Value.cells, Tryz.underlying9, h]⟩
end Go.Proofs.YtfobnemocodomaaGreat
