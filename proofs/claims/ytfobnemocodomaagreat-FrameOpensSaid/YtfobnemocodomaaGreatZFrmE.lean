/- frame.Open: step by step. -/
import Derived.Test.YtfobnemocodomaaGreatZFrmD
set_option linter.unusedVariables false
set_option linter.unusedSimpArgs false
set_option maxHeartbeats 4000000
namespace Go.Proofs.YtfobnemocodomaaGreat
open Go.RowKit Go.Shelf Go.Great

def OAt (W : World) (o : Nat) (rest : ByteArray) (x : Mx) : Prop := W.heap[o]? = some (.cells (.string rest :: x.list).toArray 96 (0, 0))
theorem OAt.gr {W W' : World} {o : Nat} {r : ByteArray} {x : Mx} (h : OAt W o r x) (k : Gr W W') : OAt W' o r x := (k.block o (Array.getElem?_eq_some_iff.1 h).1).trans h
theorem OAt.cell {W : World} {o : Nat} {r : ByteArray} {x : Mx} (h : OAt W o r x) : W.cell? ⟨o, 0, none⟩ = some (.string r) ∧ W.frozen? ⟨o, 0, none⟩ = false := by
  have h' : W.heap[o]? = _ := h
  refine ⟨?_, by simp [World.frozen?, h']⟩
  simp only [World.cell?, h']; rfl
theorem OAt.put {W : World} {o : Nat} {r q : ByteArray} {x : Mx} (h : OAt W o r x) : OAt (W.setCell ⟨o, 0, none⟩ (.string q)) o q x := by
  have := heap_set_sameW (o := 0) h (.string q)
  exact this
theorem OAt.out {W : World} {o : Nat} {r : ByteArray} {x : Mx} (h : OAt W o r x) : ∀ j v, x.cells.toList[j]? = some v → W.cell? ((⟨o, 1, none⟩ : Addr).add j) = some v := fun j v hj => by
  rw [add_midM]
  have h' : W.heap[o]? = _ := h
  simp only [World.cell?, h']
  have hj' : x.list[j]? = some v := by simpa [Mx.cells] using hj
  rw [List.getElem?_toArray, show 1 + j = j + 1 by omega, List.getElem?_cons_succ]
  exact hj'
theorem OAt.there {W : World} {o : Nat} {r : ByteArray} {x : Mx} (h : OAt W o r x) (hx : x.R.length = 32) {y : Mx} (hy : y.R.length = 32) : W.there o 1 y.cells.size := fun q hq => by
  have h' : W.heap[o]? = _ := h
  have hs := Mx.size x hx
  have hsy := Mx.size y hy
  have hl : x.list.length = 41 := by simpa [Mx.cells] using hs
  refine ⟨?_, by simp [World.frozen?, h']⟩
  simp only [World.cell?, h']
  rw [List.getElem?_toArray, List.getElem?_eq_getElem (by rw [List.length_cons, hl]; omega)]
  rfl
theorem OAt.putX {W : World} {o : Nat} {r : ByteArray} {x : Mx} (h : OAt W o r x) (hx : x.R.length = 32) {y : Mx} (hy : y.R.length = 32) : OAt (W.setCells o 1 y.cells.toList) o r y := by
  have hl : x.list.length = 41 := by have := Mx.size x hx; simpa [Mx.cells] using this
  have hly : y.list.length = 41 := by have := Mx.size y hy; simpa [Mx.cells] using this
  have hc : y.cells.toList = y.list := by simp [Mx.cells]
  obtain ⟨cs', k1, k2, k3, k4, k5⟩ := rg_same (b := o) (t := 96) (fr := (0, 0)) y.cells.toList 1 W (Value.string r :: x.list).toArray h (by rw [hc, hly]; simp [hl])
  have e : cs' = (.string r :: y.list).toArray := by
    apply Array.ext_getElem?
    intro j
    have er : (Value.string r :: y.list).toArray[j]? = (Value.string r :: y.list)[j]? := List.getElem?_toArray
    rw [er]
    rcases (by omega : j = 0 ∨ 1 ≤ j) with rfl | hj
    · rw [k3 0 (by omega)]; rfl
    · by_cases h2 : j < 42
      · have := k4 (j - 1) (by rw [hc, hly]; omega)
        rw [show 1 + (j - 1) = j by omega, hc] at this
        rw [this]
        obtain ⟨i, rfl⟩ : ∃ i, j = i + 1 := ⟨j - 1, by omega⟩
        rw [List.getElem?_cons_succ]; rfl
      · rw [k5 j (by rw [hc, hly]; omega), List.getElem?_toArray, List.getElem?_eq_none (by rw [List.length_cons, hl]; omega), List.getElem?_eq_none (by rw [List.length_cons, hly]; omega)]
  unfold OAt
  rw [k1, e]
/-- what is left to do -/
def cont3 (q : ByteArray) : Mx × Int := if (openB q).2 ≠ 0 then (zMx, (openB q).2) else readM (openB q).1
def cont2 (t : ByteArray) : Mx × Int := if hdE t ≠ 0 then (zMx, hdE t) else cont3 (restT t)
def cont1 (r : ByteArray) : Mx × Int := if (unsV r).2 = false then (zMx, 9) else cont2 (unsV r).1
theorem openM_cont (S : ByteArray) : openM S = if 131072 < S.size then (zMx, 2) else cont1 S := rfl
set_option maxRecDepth 100000 in
theorem stSize_any (o : Nat) (r : ByteArray) (x : Mx) (W : World) (h : OAt W o r x) :
    Calls Tryz.prog 87 #[.pointer (some ⟨o, 0, none⟩)] W fun e w' => e = .returned (.int .i64 (if 131072 < r.size then 2 else 0)) ∧ w' = W := by
  have c0 := h.cell.1
  clear h
  by_cases hb : 131072 < r.size
  · have hbi : (131072 : Int) < r.size := by omega
    rw [if_pos hb]
    go_enter Tryz.func87, Tryz.ntmps87
    go_wp2
    go_ret
    exact ⟨rfl, rfl⟩
  · have hbi : ¬ (131072 : Int) < r.size := by omega
    rw [if_neg hb]
    go_enter Tryz.func87, Tryz.ntmps87
    go_wp2
    go_ret
    exact ⟨rfl, rfl⟩
theorem rm_set0 (o : Nat) (u : Value) (W : World) : Rm o W (W.setCell ⟨o, 0, none⟩ u) := rm_set o 0 u W
def SumR (o : Nat) (r : ByteArray) (x : Mx) (W : World) (e : Ending) (w' : World) : Prop := ((e = .returned (.int .i64 9) ∧ (unsV r).2 = false) ∨ (e = .returned (.int .i64 0) ∧ (unsV r).2 = true ∧ OAt w' o (unsV r).1 x)) ∧ Rm o W w'
set_option maxRecDepth 100000 in
theorem stSum_any (o : Nat) (r : ByteArray) (x : Mx) (W : World) (h : OAt W o r x) (hr : r.size ≤ 9223372036854775807) :
    Calls Tryz.prog 88 #[.pointer (some ⟨o, 0, none⟩)] W fun e w' => SumR o r x W e w' := by
  have c0 := h.cell.1
  have HO := Lib.hid h
  have HC := Lib.hid (cOpen_any r W hr)
  obtain ⟨t, ok, hu⟩ : ∃ t ok, unsV r = (t, ok) := ⟨_, _, rfl⟩
  have HU := Lib.hid hu
  simp only [hu] at HC
  clear h hu hr
  cases ok with
  | false =>
    go_enter Tryz.func88, Tryz.ntmps88
    go_wp2_with fail
    refine (HC.out).mono ?_
    rintro e w1 ⟨rfl, g1⟩
    go_wp2
    go_ret
    exact ⟨Or.inl ⟨rfl, by rw [HU.out]⟩, Rm.of g1⟩
  | true =>
    go_enter Tryz.func88, Tryz.ntmps88
    go_wp2_with fail
    refine (HC.out).mono ?_
    rintro e w1 ⟨rfl, g1⟩
    have HO1 := Lib.hid (HO.out.gr g1)
    have G1 := Lib.hid g1
    obtain ⟨c1, f1⟩ := HO1.out.cell
    clear g1 HC HO c0
    go_wp2
    go_ret
    exact ⟨Or.inr ⟨rfl, by rw [HU.out], by rw [HU.out]; exact HO1.out.put⟩, (Rm.of G1.out).trans (rm_set0 _ _ _)⟩
theorem ext2 (t : ByteArray) (h : 2 ≤ t.size) : (t.extract 0 2).toList = [t[0], t[1]] := by
  have h2 : (2 : Nat) ≤ t.data.toList.length := by have : t.data.toList.length = t.size := by rw [Lib.size_eq]
                                                   omega
  rw [Lib.toList_data, ByteArray.data_extract]
  have e : (t.data.extract 0 2).toList = t.data.toList.take 2 := by simp
  rw [e]
  match hl : t.data.toList, h2 with
  | a :: b :: l, _ =>
    have ha : t[0] = a := by
      rw [ByteArray.getElem_eq_getElem_data]
      have : t.data[0]? = some a := by rw [← Array.getElem?_toList, hl]; rfl
      exact (Array.getElem?_eq_some_iff.1 this).2
    have hb : t[1] = b := by
      rw [ByteArray.getElem_eq_getElem_data]
      have : t.data[1]? = some b := by rw [← Array.getElem?_toList, hl]; rfl
      exact (Array.getElem?_eq_some_iff.1 this).2
    rw [ha, hb]; rfl
end Go.Proofs.YtfobnemocodomaaGreat
