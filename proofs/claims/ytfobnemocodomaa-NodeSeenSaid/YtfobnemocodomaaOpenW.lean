/- What an argument of a node reads as. -/
import Derived.Test.YtfobnemocodomaaOpenV
import Derived.Test.YtfobnemocodomaaKidE
set_option linter.unusedVariables false
set_option linter.unusedSimpArgs false
namespace Go.Proofs.Ytfobnemocodomaa
open Go.ChangeShapes Go.WideShapes Go.ChangeAt Go.RowKit Go.Deep Go.Joins

theorem vcKid : Try.prog.cellsOf 88 = 33 := by kernel_rfl
theorem vcByte : Try.prog.cellsOf 5 = 1 := by kernel_rfl
theorem vcVers : Try.prog.cellsOf 22 = 1 := by kernel_rfl
theorem vcKids : Try.prog.cellsOf 29 = 1 := by kernel_rfl
theorem vcNode : Try.prog.cellsOf 31 = 2 := by kernel_rfl
set_option maxRecDepth 100000 in
theorem open_nodeL {H : Type} {enc : TypeId × Value → H} {W : World} {base : Nat} {sp : Nat → Bool} {held : Bool} {n : Nat} {cs : List Value} {x : DataW H × List MemPlace} (h : DataW.trod enc Try.prog W base sp held n 31 cs = some x)
    (hk : ∀ (m : Nat) (cs' : List Value) (y : DataW H × List MemPlace), DataW.trod enc Try.prog W base sp held m 29 cs' = some y → ∃ (A : Option Addr) (l : List Kx) (c : Nat), cs' = [.slice A l.length c] ∧ l.length ≤ c ∧ Kids W A l) :
    ∃ (A B : Option Addr) (l : List Vx) (k : List Kx) (c d : Nat), cs = [.slice A l.length c, .slice B k.length d] ∧ Vers W A l ∧ Kids W B k := by
  obtain ⟨xs, m, rfl, _, hl, hx, hf⟩ := DataW.trod_struct Try.underlying31 h
  rw [vcNode] at hl
  have hx2 : xs.length = 2 := hx
  have g0 := hf 0 _ rfl
  change DataW.trod enc Try.prog W base sp held m 22 ((cs.drop 0).take (Try.prog.cellsOf 22)) = _ at g0
  rw [vcVers, List.getElem?_eq_getElem (by omega)] at g0
  have g1 := hf 1 _ rfl
  change DataW.trod enc Try.prog W base sp held m 29 ((cs.drop 1).take (Try.prog.cellsOf 29)) = _ at g1
  rw [vcKids, List.getElem?_eq_getElem (by omega)] at g1
  obtain ⟨A, l, c, e0, _, hv, _⟩ := open_versL g0
  obtain ⟨B, k, d, e1, _, hw⟩ := hk _ _ _ g1
  refine ⟨A, B, l, k, c, d, ?_, hv, hw⟩
  have h0 : cs = (cs.drop 0).take 1 ++ (cs.drop 1).take 1 := by
    match cs, hl with
    | [c0, c1], _ => rfl
  rw [h0, e0, e1]
  rfl
theorem ku8_wf {n : Int} (h : (Lit.int .u8 n).wf = true) : 0 ≤ n ∧ n < 256 := by
  simp [Lit.wf, IntKind.min, IntKind.max, IntKind.signed, IntKind.bits] at h
  omega

set_option maxRecDepth 100000 in
theorem kopen_dig {H : Type} {enc : TypeId × Value → H} {W : World} {base : Nat} {sp : Nat → Bool} {held : Bool} {n : Nat} {cs : List Value} {x : DataW H × List MemPlace} (h : DataW.trod enc Try.prog W base sp held n 71 cs = some x) :
    ∃ D : List UInt8, D.length = 32 ∧ cs = D.map fun b => Value.int .u8 b.toNat := by
  obtain ⟨xs, m, rfl, _, hl, hx, hf⟩ := DataW.trod_array Try.underlying71 h
  rw [cDig] at hl
  have each : ∀ i, i < 32 → ∃ b : UInt8, cs[i]? = some (.int .u8 b.toNat) := by
    intro i hi
    have g := hf i hi
    rw [vcByte, Nat.mul_one, List.getElem?_eq_getElem (by omega)] at g
    obtain ⟨k, e, _, hw⟩ := DataW.trod_int Try.underlying5 g
    have hb := ku8_wf hw
    refine ⟨UInt8.ofNat k.toNat, ?_⟩
    have h1 : ((cs.drop i).take 1)[0]? = some (.int .u8 k) := by rw [e]; rfl
    rw [List.getElem?_take_of_lt (by omega), List.getElem?_drop] at h1
    rw [show i + 0 = i by omega] at h1
    rw [h1, UInt8.toNat_ofNat']
    congr 2
    omega
  refine ⟨(List.range 32).map fun i => if h : i < 32 then (each i h).choose else 0, by simp, ?_⟩
  apply List.ext_getElem?
  intro i
  by_cases hi : i < 32
  · rw [(each i hi).choose_spec]
    simp [hi]
  · rw [List.getElem?_eq_none (by omega), List.getElem?_eq_none (by simp; omega)]

set_option maxRecDepth 100000 in
theorem open_kid {H : Type} {enc : TypeId × Value → H} {W : World} {base : Nat} {sp : Nat → Bool} {held : Bool} {n : Nat} {cs : List Value} {x : DataW H × List MemPlace} (h : DataW.trod enc Try.prog W base sp held n 88 cs = some x) :
    ∃ p : Kx, p.ok ∧ cs = p.cells := by
  obtain ⟨xs, m, rfl, _, hl, hx, hf⟩ := DataW.trod_struct Try.underlying88 h
  rw [vcKid] at hl
  have hx2 : xs.length = 2 := hx
  have g0 := hf 0 _ rfl
  have g1 := hf 1 _ rfl
  change DataW.trod enc Try.prog W base sp held m 9 ((cs.drop 0).take (Try.prog.cellsOf 9)) = _ at g0
  change DataW.trod enc Try.prog W base sp held m 71 ((cs.drop 1).take (Try.prog.cellsOf 71)) = _ at g1
  rw [vcStr] at g0
  rw [cDig] at g1
  rw [List.getElem?_eq_getElem (by omega)] at g0 g1
  obtain ⟨s, e0, _, hs⟩ := DataW.trod_string Try.underlying9 g0
  obtain ⟨D, hD, e1⟩ := kopen_dig g1
  refine ⟨⟨s, D⟩, ⟨hD, hs⟩, ?_⟩
  have h0 : cs = (cs.drop 0).take 1 ++ (cs.drop 1).take 32 := by
    match cs, hl with
    | c0 :: r, hl =>
      simp only [List.drop_succ_cons, List.drop_zero, List.take_succ_cons, List.take_zero, List.cons_append, List.nil_append]
      rw [List.take_of_length_le (by simp at hl; omega)]
  rw [h0, e0, e1]
  simp [Kx.cells, digC]
set_option maxRecDepth 100000 in
theorem open_kidsL {H : Type} {enc : TypeId × Value → H} {W : World} {base : Nat} {sp : Nat → Bool} {held : Bool} {n : Nat} {cs : List Value} {x : DataW H × List MemPlace} (h : DataW.trod enc Try.prog W base sp held n 29 cs = some x) :
    ∃ (A : Option Addr) (l : List Kx) (c : Nat), cs = [.slice A l.length c] ∧ l.length ≤ c ∧ Kids W A l := by
  rcases open_slice Try.underlying29 h with ⟨hcs, _⟩ | ⟨a, len, cap, m, k, D, Pl, hcs, _, hl, hm, hmm, _, hx⟩
  · exact ⟨none, [], 0, by rw [hcs]; rfl, by simp, Kids.nil _ _⟩
  · have each : ∀ i, i < m → ∃ q : Kx, q.ok ∧ ∀ j v, q.cells[j]? = some v → W.cell? ((a.add (i * 33)).add j) = some v := by
      intro i hi
      obtain ⟨cs', h1, h2⟩ := hx i hi
      rw [vcKid] at h1
      obtain ⟨_, hlen, hcell⟩ := World.cells?_some h1
      obtain ⟨q, hq, rfl⟩ := open_kid h2
      refine ⟨q, hq, fun j v hj => ?_⟩
      have hj' := (List.getElem?_eq_some_iff.1 hj).1
      rw [hcell j (by omega)]
      exact hj
    have hlm : len ≤ m := by rw [hmm]; split <;> omega
    refine ⟨some a, (List.range len).map fun i => if h : i < m then (each i h).choose else ⟨⟨#[]⟩, []⟩, cap, by rw [hcs]; simp, by simpa using hl, by simp only [List.length_map, List.length_range, maxLen] at *; omega, fun i hi => ?_⟩
    have hin : i < len := by simpa using hi
    have him : i < m := by omega
    refine ⟨a, rfl, ?_⟩
    simp only [List.getElem_map, List.getElem_range, him, dite_true]
    exact (each i him).choose_spec
end Go.Proofs.Ytfobnemocodomaa
