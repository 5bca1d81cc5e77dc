/- What an argument of pieces reads as. -/
import Derived.Test.YtgbpolejjfipgaaRows
import Derived.Test.YtgbpolejjfipgaaPiece
import Derived.ProofKit
import Derived.OpenShut
import Derived.ShutString
import Derived.ChangeOld
import Derived.Below
import Derived.Deep.Slices
import Derived.Lib.SmallJoins
set_option linter.unusedVariables false
set_option linter.unusedSimpArgs false
namespace Go.Proofs.Ytgbpolejjfipgaa
open Go.ChangeShapes Go.WideShapes Go.ChangeAt Go.RowKit Go.Deep Go.Joins

theorem own : ownKnob Try.prog.godebug = none := by kernel_rfl
theorem laidOut : laidOutB Try.prog = true := by kernel_rfl

theorem u8_wf {n : Int} (h : (Lit.int .u8 n).wf = true) : 0 ≤ n ∧ n < 256 := by
  simp [Lit.wf, IntKind.min, IntKind.max, IntKind.signed, IntKind.bits] at h
  omega

theorem cInt : Try.prog.cellsOf 3 = 1 := by kernel_rfl
theorem cStr : Try.prog.cellsOf 9 = 1 := by kernel_rfl
theorem cU8 : Try.prog.cellsOf 5 = 1 := by kernel_rfl
theorem cDig : Try.prog.cellsOf 37 = 32 := by kernel_rfl
theorem cPc : Try.prog.cellsOf 39 = 35 := by kernel_rfl

theorem open_dig {H : Type} {enc : TypeId × Value → H} {W : World} {base : Nat} {sp : Nat → Bool} {held : Bool} {n : Nat} {cs : List Value} {x : DataW H × List MemPlace} (h : DataW.trod enc Try.prog W base sp held n 37 cs = some x) :
    ∃ D : List UInt8, D.length = 32 ∧ cs = D.map fun b => Value.int .u8 b.toNat := by
  obtain ⟨xs, m, rfl, _, hl, hx, hf⟩ := DataW.trod_array Try.underlying37 h
  rw [cDig] at hl
  have each : ∀ i, i < 32 → ∃ b : UInt8, cs[i]? = some (.int .u8 b.toNat) := by
    intro i hi
    have g := hf i hi
    rw [cU8, Nat.mul_one, List.getElem?_eq_getElem (by omega)] at g
    obtain ⟨k, e, _, hw⟩ := DataW.trod_int Try.underlying5 g
    have hb := u8_wf hw
    refine ⟨UInt8.ofNat k.toNat, ?_⟩
    have h1 : ((cs.drop i).take 1)[0]? = some (.int .u8 k) := by rw [e]; rfl
    rw [List.getElem?_take_of_lt (by omega), List.getElem?_drop] at h1
    rw [show i + 0 = i by omega] at h1
    rw [h1, UInt8.toNat_ofNat']
    congr 2
    omega
  refine ⟨(List.range 32).map fun i => if h : i < 32 then (each i h).choose else 0, by simp, ?_⟩
  apply List.ext_getElem?
  intro i
  by_cases hi : i < 32
  · rw [(each i hi).choose_spec]
    simp [hi]
  · rw [List.getElem?_eq_none (by omega), List.getElem?_eq_none (by simp; omega)]

theorem open_pc {H : Type} {enc : TypeId × Value → H} {W : World} {base : Nat} {sp : Nat → Bool} {held : Bool} {n : Nat} {cs : List Value} {x : DataW H × List MemPlace} (h : DataW.trod enc Try.prog W base sp held n 39 cs = some x) :
    ∃ p : Pc, p.ok ∧ cs = p.cells := by
  obtain ⟨xs, m, rfl, _, hl, hx, hf⟩ := DataW.trod_struct Try.underlying39 h
  rw [cPc] at hl
  have hx4 : xs.length = 4 := hx
  have g0 := hf 0 _ rfl
  have g1 := hf 1 _ rfl
  have g2 := hf 2 _ rfl
  have g3 := hf 3 _ rfl
  change DataW.trod enc Try.prog W base sp held m 3 ((cs.drop 0).take (Try.prog.cellsOf 3)) = _ at g0
  change DataW.trod enc Try.prog W base sp held m 3 ((cs.drop 1).take (Try.prog.cellsOf 3)) = _ at g1
  change DataW.trod enc Try.prog W base sp held m 9 ((cs.drop 2).take (Try.prog.cellsOf 9)) = _ at g2
  change DataW.trod enc Try.prog W base sp held m 37 ((cs.drop 3).take (Try.prog.cellsOf 37)) = _ at g3
  rw [cInt] at g0 g1
  rw [cStr] at g2
  rw [cDig] at g3
  rw [List.getElem?_eq_getElem (by omega)] at g0 g1 g2 g3
  obtain ⟨k0, e0, _, _⟩ := DataW.trod_int Try.underlying3 g0
  obtain ⟨k1, e1, _, _⟩ := DataW.trod_int Try.underlying3 g1
  obtain ⟨s2, e2, _, hs⟩ := DataW.trod_string Try.underlying9 g2
  obtain ⟨D, hD, e3⟩ := open_dig g3
  refine ⟨⟨k0, k1, s2, D⟩, ⟨hD, hs⟩, ?_⟩
  have h0 : cs = (cs.drop 0).take 1 ++ ((cs.drop 1).take 1 ++ ((cs.drop 2).take 1 ++ (cs.drop 3).take 32)) := by
    match cs, hl with
    | c0 :: c1 :: c2 :: r, hl =>
      simp only [List.drop_succ_cons, List.drop_zero, List.take_succ_cons, List.take_zero, List.cons_append, List.nil_append]
      rw [List.take_of_length_le (by simp at hl; omega)]
  rw [h0, e0, e1, e2, e3]
  rfl

theorem open_pcs {H : Type} {enc : TypeId × Value → H} {W : World} {A : Option Addr} {n c : Nat} {d : DataW H} {p : List MemPlace} (h : DataW.Trod enc Try.prog W 0 (fun _ => true) true 22 (.slice A n c) d p) :
    ∃ l : List Pc, n = l.length ∧ l.length ≤ c ∧ Pcs W A l := by
  obtain ⟨fuel, hf⟩ := h
  rcases open_slice Try.underlying22 hf with ⟨hcs, _⟩ | ⟨a, len, cap, m, k, D, Pl, hcs, _, hl, hm, hmm, _, hx⟩
  · simp [Value.cells] at hcs
    obtain ⟨rfl, rfl, rfl⟩ := hcs
    exact ⟨[], rfl, by simp, by simp, fun i hi => by simp at hi⟩
  · simp [Value.cells] at hcs
    obtain ⟨rfl, rfl, rfl⟩ := hcs
    have hmc : m = c := by simpa using hmm
    subst hmc
    have each : ∀ i, i < m → ∃ q : Pc, q.ok ∧ ∀ j v, q.cells[j]? = some v → W.cell? ((a.add (i * 35)).add j) = some v := by
      intro i hi
      obtain ⟨cs', h1, h2⟩ := hx i hi
      rw [cPc] at h1
      obtain ⟨_, hlen, hcell⟩ := World.cells?_some h1
      obtain ⟨q, hq, rfl⟩ := open_pc h2
      refine ⟨q, hq, fun j v hj => ?_⟩
      have hj' := (List.getElem?_eq_some_iff.1 hj).1
      rw [hcell j (by omega)]
      exact hj
    refine ⟨(List.range n).map fun i => if h : i < m then (each i h).choose else ⟨0, 0, ⟨#[]⟩, []⟩, by simp, by simpa using hl, by simp only [List.length_map, List.length_range, maxLen] at *; omega, fun i hi => ?_⟩
    have hin : i < n := by simpa using hi
    have him : i < m := by omega
    refine ⟨a, rfl, ?_⟩
    simp only [List.getElem_map, List.getElem_range, him, dite_true]
    exact (each i him).choose_spec
theorem open_pcv {H : Type} {enc : TypeId × Value → H} {W : World} {b0 : Nat} {r : Reach} {v : Value} {d : DataW H} {p : List MemPlace} (hv : Value.okWide Try.prog W r b0 39 v) (h : DataW.Trod enc Try.prog W 0 (fun _ => true) true 39 v d p) :
    ∃ x : Pc, v = .agg x.cells.toArray ∧ x.ok := by
  obtain ⟨cs, rfl, hsz⟩ := okWide_struct Try.underlying39 hv
  obtain ⟨fuel, hf⟩ := h
  obtain ⟨q, hq, he⟩ := open_pc hf
  have he' : cs.toList = q.cells := by simpa [Value.cells] using he
  exact ⟨q, by rw [← he'], hq⟩

theorem open_str {H : Type} {enc : TypeId × Value → H} {W : World} {b0 : Nat} {r : Reach} {v : Value} {d : DataW H} {p : List MemPlace} (hv : Value.okWide Try.prog W r b0 9 v) (h : DataW.Trod enc Try.prog W 0 (fun _ => true) true 9 v d p) :
    ∃ s : ByteArray, v = .string s ∧ d = .lit (.string s.data.toList) ∧ p = [] ∧ s.size ≤ maxLen := by
  obtain ⟨fuel, hf⟩ := h
  obtain ⟨s, hc, hx, hs⟩ := DataW.trod_string Try.underlying9 hf
  simp only [Prod.mk.injEq] at hx
  refine ⟨s, ?_, hx.1, hx.2, hs⟩
  cases v <;> simp_all [Value.cells, Value.okWide, Try.underlying9, Cell.okWide, Cell.ok]
theorem shut_str {H : Type} {enc : TypeId × Value → H} {W : World} {sp : Nat → Bool} {s : ByteArray} (h : s.size ≤ maxLen) : DataW.Trod enc Try.prog W 0 sp true 9 (.string s) (.lit (.string s.data.toList)) [] := ⟨1, by simp [DataW.trod, Value.cells, Try.underlying9, h]⟩
end Go.Proofs.Ytgbpolejjfipgaa
