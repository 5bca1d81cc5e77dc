/- What an argument reads as: a message. -/
import Derived.Test.YtfobnemocodomaaGreatZBs
import Derived.Test.YtfobnemocodomaaGreatZBt
set_option linter.unusedVariables false
set_option linter.unusedSimpArgs false
set_option maxHeartbeats 1000000
namespace Go.Proofs.YtfobnemocodomaaGreat
open Go.ChangeShapes Go.WideShapes Go.ChangeAt Go.RowKit Go.Deep Go.Joins Go.Shelf

theorem u8_wfM {n : Int} (h : (Lit.int .u8 n).wf = true) : 0 ≤ n ∧ n < 256 := by
  simp [Lit.wf, IntKind.min, IntKind.max, IntKind.signed, IntKind.bits] at h
  omega
theorem cU8M : Tryz.prog.cellsOf 5 = 1 := by kernel_rfl
theorem cDigM : Tryz.prog.cellsOf 33 = 32 := by kernel_rfl
theorem cMsg : Tryz.prog.cellsOf 37 = 41 := by kernel_rfl
theorem cRowsM : Tryz.prog.cellsOf 35 = 1 := by kernel_rfl
theorem cDotsM : Tryz.prog.cellsOf 34 = 1 := by kernel_rfl
theorem cBoolM : Tryz.prog.cellsOf 4 = 1 := by kernel_rfl
theorem cIntM : Tryz.prog.cellsOf 3 = 1 := by kernel_rfl
theorem cStrM : Tryz.prog.cellsOf 9 = 1 := by kernel_rfl
set_option maxRecDepth 100000 in
theorem open_digM {H : Type} {enc : TypeId × Value → H} {W : World} {base : Nat} {sp : Nat → Bool} {held : Bool} {n : Nat} {cs : List Value} {x : DataW H × List MemPlace} (h : DataW.trod enc Tryz.prog W base sp held n 33 cs = some x) :
    ∃ D : List UInt8, D.length = 32 ∧ cs = D.map fun b => Value.int .u8 b.toNat := by
  obtain ⟨xs, m, rfl, _, hl, hx, hf⟩ := DataW.trod_array Tryz.underlying33 h
  rw [cDigM] at hl
  have each : ∀ i, i < 32 → ∃ b : UInt8, cs[i]? = some (.int .u8 b.toNat) := by
    intro i hi
    have g := hf i hi
    rw [cU8M, Nat.mul_one, List.getElem?_eq_getElem (by omega)] at g
    obtain ⟨k, e, _, hw⟩ := DataW.trod_int Tryz.underlying5 g
    have hb := u8_wfM hw
    refine ⟨UInt8.ofNat k.toNat, ?_⟩
    have h1 : ((cs.drop i).take 1)[0]? = some (.int .u8 k) := by rw [e]; rfl
    rw [List.getElem?_take_of_lt (by omega), List.getElem?_drop] at h1
    rw [show i + 0 = i by omega] at h1
    rw [h1, UInt8.toNat_ofNat']
    congr 2
    omega
  refine ⟨(List.range 32).map fun i => if h : i < 32 then (each i h).choose else 0, by simp, ?_⟩
  apply List.ext_getElem?
  intro i
  by_cases hi : i < 32
  · rw [(each i hi).choose_spec]
    simp [hi]
  · rw [List.getElem?_eq_none (by omega), List.getElem?_eq_none (by simp; omega)]
set_option maxRecDepth 100000 in
theorem open_rowsL {H : Type} {enc : TypeId × Value → H} {W : World} {base : Nat} {sp : Nat → Bool} {held : Bool} {n : Nat} {cs : List Value} {x : DataW H × List MemPlace} (h : DataW.trod enc Tryz.prog W base sp held n 35 cs = some x) :
    ∃ (A : Option Addr) (l : List DRow) (c : Nat), cs = [.slice A l.length c] ∧ l.length ≤ c ∧ DRows W A l ∧ ∀ d ∈ l, d.l.length ≤ d.cap := by
  rcases open_slice Tryz.underlying35 h with ⟨hcs, _⟩ | ⟨a, len, cap, m, k, D, Pl, hcs, _, hl, hm, hmm, _, hx⟩
  · exact ⟨none, [], 0, by rw [hcs]; rfl, by simp, ⟨by simp, fun i hi => by simp at hi⟩, by simp⟩
  · have each : ∀ i, i < m → ∃ q : DRow, (Dots W q.A q.l ∧ q.l.length ≤ q.cap) ∧ W.cell? (a.add i) = some (.slice q.A q.l.length q.cap) := by
      intro i hi
      obtain ⟨cs', h1, h2⟩ := hx i hi
      rw [cDotsM] at h1
      obtain ⟨_, hlen, hcell⟩ := World.cells?_some h1
      obtain ⟨A, l, c, e, hc, hd⟩ := open_dotsL h2
      refine ⟨⟨A, c, l⟩, ⟨hd, hc⟩, ?_⟩
      have := hcell 0 (by omega)
      rw [Nat.mul_one] at this
      have ad0 : ∀ b : Addr, b.add 0 = b := fun b => by unfold Addr.add; rw [if_pos rfl]
      rw [ad0] at this
      rw [this, e]; rfl
    have hlm : len ≤ m := by rw [hmm]; split <;> omega
    refine ⟨some a, (List.range len).map fun i => if h : i < m then (each i h).choose else ⟨none, 0, []⟩, cap, by rw [hcs]; simp, by simpa using hl, ⟨by simp only [List.length_map, List.length_range, maxLen] at *; omega, fun i hi => ?_⟩, fun x hx => ?_⟩
    · have hin : i < len := by simpa using hi
      have him : i < m := by omega
      refine ⟨a, rfl, ?_⟩
      simp only [List.getElem_map, List.getElem_range, him, dite_true]
      exact ⟨(each i him).choose_spec.2, (each i him).choose_spec.1.1⟩
    · obtain ⟨i, hi, rfl⟩ := List.mem_map.1 hx
      have him : i < m := by have := List.mem_range.1 hi; omega
      simp only [him, dite_true]
      exact (each i him).choose_spec.1.2
theorem drop_take_all (cs : List Value) (h : cs.length = 41) : cs = (cs.drop 0).take 1 ++ ((cs.drop 1).take 1 ++ ((cs.drop 2).take 1 ++ ((cs.drop 3).take 1 ++ ((cs.drop 4).take 1 ++ ((cs.drop 5).take 1 ++ ((cs.drop 6).take 32 ++ ((cs.drop 38).take 1 ++ ((cs.drop 39).take 1 ++ (cs.drop 40).take 1)))))))) := by
  have step : ∀ (k n : Nat) (t : List Value), (cs.drop (k + n)) = t → (cs.drop k).take n ++ t = cs.drop k := fun k n t ht => by
    rw [← ht, ← List.drop_drop, List.take_append_drop]
  have e40 : (cs.drop 40).take 1 = cs.drop 40 := List.take_of_length_le (by simp; omega)
  rw [e40, step 39 1 _ rfl, step 38 1 _ rfl, step 6 32 _ rfl, step 5 1 _ rfl, step 4 1 _ rfl, step 3 1 _ rfl, step 2 1 _ rfl, step 1 1 _ rfl, step 0 1 _ rfl]
  rfl
set_option maxRecDepth 100000 in
theorem open_msgL {H : Type} {enc : TypeId × Value → H} {W : World} {base : Nat} {sp : Nat → Bool} {held : Bool} {n : Nat} {cs : List Value} {x : DataW H × List MemPlace} (h : DataW.trod enc Tryz.prog W base sp held n 37 cs = some x) :
    ∃ q : Mx, MxOk W q ∧ (q.cl.length ≤ q.cc ∧ q.rs.length ≤ q.rc ∧ ∀ d ∈ q.rs, d.l.length ≤ d.cap) ∧ cs = q.list := by
  obtain ⟨xs, m, rfl, _, hl, hx, hf⟩ := DataW.trod_struct Tryz.underlying37 h
  rw [cMsg] at hl
  have hx10 : xs.length = 10 := hx
  have g0 := hf 0 _ rfl
  have g1 := hf 1 _ rfl
  have g2 := hf 2 _ rfl
  have g3 := hf 3 _ rfl
  have g4 := hf 4 _ rfl
  have g5 := hf 5 _ rfl
  have g6 := hf 6 _ rfl
  have g7 := hf 7 _ rfl
  have g8 := hf 8 _ rfl
  have g9 := hf 9 _ rfl
  change DataW.trod enc Tryz.prog W base sp held m 3 ((cs.drop 0).take (Tryz.prog.cellsOf 3)) = _ at g0
  change DataW.trod enc Tryz.prog W base sp held m 3 ((cs.drop 1).take (Tryz.prog.cellsOf 3)) = _ at g1
  change DataW.trod enc Tryz.prog W base sp held m 3 ((cs.drop 2).take (Tryz.prog.cellsOf 3)) = _ at g2
  change DataW.trod enc Tryz.prog W base sp held m 3 ((cs.drop 3).take (Tryz.prog.cellsOf 3)) = _ at g3
  change DataW.trod enc Tryz.prog W base sp held m 4 ((cs.drop 4).take (Tryz.prog.cellsOf 4)) = _ at g4
  change DataW.trod enc Tryz.prog W base sp held m 9 ((cs.drop 5).take (Tryz.prog.cellsOf 9)) = _ at g5
  change DataW.trod enc Tryz.prog W base sp held m 33 ((cs.drop 6).take (Tryz.prog.cellsOf 33)) = _ at g6
  change DataW.trod enc Tryz.prog W base sp held m 34 ((cs.drop 38).take (Tryz.prog.cellsOf 34)) = _ at g7
  change DataW.trod enc Tryz.prog W base sp held m 35 ((cs.drop 39).take (Tryz.prog.cellsOf 35)) = _ at g8
  change DataW.trod enc Tryz.prog W base sp held m 9 ((cs.drop 40).take (Tryz.prog.cellsOf 9)) = _ at g9
  rw [cIntM] at g0 g1 g2 g3
  rw [cBoolM] at g4
  rw [cStrM] at g5 g9
  rw [cDigM] at g6
  rw [cDotsM] at g7
  rw [cRowsM] at g8
  rw [List.getElem?_eq_getElem (by omega)] at g0 g1 g2 g3 g4 g5 g6 g7 g8 g9
  obtain ⟨k0, e0, _, _⟩ := DataW.trod_int Tryz.underlying3 g0
  obtain ⟨k1, e1, _, _⟩ := DataW.trod_int Tryz.underlying3 g1
  obtain ⟨k2, e2, _, _⟩ := DataW.trod_int Tryz.underlying3 g2
  obtain ⟨k3, e3, _, _⟩ := DataW.trod_int Tryz.underlying3 g3
  obtain ⟨b4, e4, _⟩ := DataW.trod_bool Tryz.underlying4 g4
  obtain ⟨s5, e5, _, z5⟩ := DataW.trod_string Tryz.underlying9 g5
  obtain ⟨D, hD, e6⟩ := open_digM g6
  obtain ⟨A, l, c, e7, hc, hd⟩ := open_dotsL g7
  obtain ⟨B, r, rc, e8, hrc, hr, hrd⟩ := open_rowsL g8
  obtain ⟨s9, e9, _, z9⟩ := DataW.trod_string Tryz.underlying9 g9
  refine ⟨⟨k0, k1, k2, k3, b4, s5, D, A, l, c, B, r, rc, s9⟩, ⟨hD, hd, hr, by unfold maxLen at z5; exact z5, by unfold maxLen at z9; exact z9⟩, ⟨hc, hrc, hrd⟩, ?_⟩
  rw [drop_take_all cs hl, e0, e1, e2, e3, e4, e5, e6, e7, e8, e9]
  rfl
set_option maxRecDepth 100000 in
theorem open_msg {H : Type} {enc : TypeId × Value → H} {W : World} {b0 : Nat} {r : Reach} {v : Value} {d : DataW H} {p : List MemPlace} (hv : Value.okWide Tryz.prog W r b0 37 v) (h : DataW.Trod enc Tryz.prog W 0 (fun _ => true) true 37 v d p) :
    ∃ q : Mx, v = .agg q.cells ∧ MxOk W q ∧ (q.cl.length ≤ q.cc ∧ q.rs.length ≤ q.rc ∧ ∀ d ∈ q.rs, d.l.length ≤ d.cap) := by
  obtain ⟨cs, rfl, hsz⟩ := okWide_struct Tryz.underlying37 hv
  obtain ⟨fuel, hf⟩ := h
  obtain ⟨q, h1, h2, e⟩ := open_msgL hf
  have he : cs.toList = q.cells.toList := by simpa [Value.cells, Mx.cells] using e
  exact ⟨q, by rw [Array.ext' he], h1, h2⟩
end Go.Proofs.YtfobnemocodomaaGreat
