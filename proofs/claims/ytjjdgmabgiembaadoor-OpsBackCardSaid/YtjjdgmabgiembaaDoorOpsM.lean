/- ops.Read, and the document's. -/
import Derived.Test.YtjjdgmabgiembaaDoorOpsL
import Derived.Test.YtjjdgmabgiembaaDoorRowG
set_option linter.unusedVariables false
set_option linter.unusedSimpArgs false
set_option maxHeartbeats 4000000
namespace Go.Proofs.YtjjdgmabgiembaaDoor
open Go.RowKit Go.Shelf

theorem cutB_listM (S : ByteArray) (k : Nat) : (cutB S k).data.toList = S.data.toList.drop k := by
  unfold cutB
  rw [Lib.extract_data]
  apply List.take_of_length_le
  simp
theorem cutB_zero (S : ByteArray) : cutB S 0 = S := by
  apply ByteArray.ext
  apply Array.ext'
  rw [cutB_listM]; rfl
def opCells (l : List Opx) : List Value := l.flatMap fun x => x.cells.toList
theorem opCells_len (l : List Opx) : (opCells l).length = l.length * 8 := by
  induction l with
  | nil => rfl
  | cons x r ih =>
    have e : (opCells (x :: r)).length = 8 + (opCells r).length := by simp [opCells, Opx.cells]; omega
    rw [e, ih, List.length_cons]; omega
theorem opCells_app (l m : List Opx) : opCells (l ++ m) = opCells l ++ opCells m := by simp [opCells]
theorem opCells_at : ∀ (l : List Opx) (i j : Nat) (h : i < l.length) (v : Value), l[i].cells[j]? = some v → (opCells l)[i * 8 + j]? = some v
  | [], i, j, h, v, hv => by simp at h
  | x :: r, i, j, h, v, hv => by
    have e : opCells (x :: r) = x.cells.toList ++ opCells r := by simp [opCells]
    have hl : x.cells.toList.length = 8 := rfl
    rw [e]
    cases i with
    | zero =>
      simp only [List.getElem_cons_zero] at hv
      have hj : j < 8 := (Array.getElem?_eq_some_iff.1 hv).1
      rw [List.getElem?_append_left (by rw [hl]; omega), Nat.zero_mul, Nat.zero_add]
      simpa using hv
    | succ i =>
      simp only [List.getElem_cons_succ] at hv
      rw [List.getElem?_append_right (by rw [hl]; omega), hl, show (i + 1) * 8 + j - 8 = i * 8 + j by omega]
      exact opCells_at r i j (by simpa using h) v hv
theorem opOne (l : List Opx) : ∀ u ∈ opCells l, u.oneCell' = true := by
  intro u hu
  unfold opCells at hu
  rw [List.mem_flatMap] at hu
  obtain ⟨x, _, hu⟩ := hu
  have := oOne x
  rw [Array.all_eq_true_iff_forall_mem] at this
  exact this u (by simpa using hu)
theorem infoOp : (Tryd.prog.info? 23).map (fun i => (i.zero, i.size, i.bytes)) = some (some (.agg Z8), 8, 80) := by kernel_rfl
/-- operations in a row of one's own -/
def OwnO (W : World) (B : Nat) (v : Value) (l : List Opx) : Prop := (v = .slice none 0 0 ∧ l = []) ∨ ∃ g, B ≤ g ∧ OwnG 23 8 W g v l.length (opCells l)
theorem OwnO.gr {W W' : World} {B : Nat} {v : Value} {l : List Opx} (h : OwnO W B v l) (k : Gr W W') : OwnO W' B v l := by
  rcases h with h | ⟨g, h1, h2⟩
  · exact Or.inl h
  · exact Or.inr ⟨g, h1, h2.gr k⟩
theorem OwnO.rm {W W' : World} {B b : Nat} {v : Value} {l : List Opx} (h : OwnO W B v l) (k : Rm b W W') (hb : b < B) : OwnO W' B v l := by
  rcases h with h | ⟨g, h1, h2⟩
  · exact Or.inl h
  · exact Or.inr ⟨g, h1, h2.same (k.keep g h2.lt (by omega))⟩
def txOk (l : List Opx) : Prop := ∀ x ∈ l, x.Pa.size ≤ 9223372036854775807 ∧ x.Da.size ≤ 9223372036854775807
theorem txSnoc {l : List Opx} {x : Opx} (h : txOk l) (hx : x.Pa.size ≤ 9223372036854775807 ∧ x.Da.size ≤ 9223372036854775807) : txOk (l ++ [x]) := by
  intro y hy
  rcases List.mem_append.1 hy with hy | hy
  · exact h y hy
  · have : y = x := by simpa using hy
    subst this; exact hx
theorem OwnO.oxs {W : World} {B : Nat} {v : Value} {l : List Opx} (h : OwnO W B v l) (ht : txOk l) : ∃ A c, v = .slice A l.length c ∧ l.length ≤ c ∧ Oxs W A l := by
  rcases h with ⟨rfl, rfl⟩ | ⟨g, _, h⟩
  · exact ⟨none, 0, rfl, Nat.le_refl _, by simp, fun i hi => absurd hi (by simp)⟩
  · obtain ⟨c, rfl, h1, h2⟩ := h.shape
    refine ⟨_, c, rfl, h1, by unfold maxLen at h2; omega, fun i hi => ⟨_, rfl, ht _ (List.getElem_mem hi), fun j u hj => ?_⟩⟩
    have e : (((⟨g, 0, none⟩ : Addr).add (i * 8)).add j) = ⟨g, i * 8 + j, none⟩ := by
      unfold Addr.add
      split <;> split <;> simp_all
    rw [e]
    exact (h.cell _ u (opCells_at l i j hi u hj)).1
theorem opNew (w : World) (x : Opx) : ∀ j u, x.cells.toList[j]? = some u → (w.alloc (.cells x.cells 23)).cell? ((⟨w.heap.size, 0, none⟩ : Addr).add j) = some u := by
  intro j u hj
  have hn := World.alloc_heap_new w (.cells x.cells 23)
  have e : (⟨w.heap.size, 0, none⟩ : Addr).add j = ⟨w.heap.size, j, none⟩ := by unfold Addr.add; split <;> simp_all
  rw [e]
  simp only [World.cell?, hn]
  simpa using hj
/-- operations that are being taken -/
abbrev Rss := List Opx × ByteArray × Int
def adv (s : Rss) : Rss := (s.1 ++ [(otake s.2.1 s.2.2).1], (otake s.2.1 s.2.2).2)
def readGo : Nat → Rss → Rss
  | 0, s => s
  | k + 1, s => if s.2.2 ≠ 0 then s else readGo k (adv s)
theorem readGo_err (k : Nat) (s : Rss) (h : s.2.2 ≠ 0) : readGo k s = s := by
  cases k with
  | zero => rfl
  | succ k => rw [readGo, if_pos h]
theorem readGo_step (k : Nat) (s : Rss) (h : s.2.2 = 0) : readGo (k + 1) s = readGo k (adv s) := by rw [readGo, if_neg (by simpa using h)]
def readS (S : ByteArray) : Rss := readGo (numM 400 S 0).1.toNat ([], (numM 400 S 0).2.1, (numM 400 S 0).2.2)
/-- what reading comes to -/
def readV (S : ByteArray) : List Opx × Int := if rdDone (readS S).2.1 (readS S).2.2 ≠ 0 then ([], rdDone (readS S).2.1 (readS S).2.2) else ((readS S).1, 0)
/-- what stands behind is an end of what was there -/
def Suf (T S : ByteArray) : Prop := T.size ≤ S.size ∧ T = cutB S (S.size - T.size)
theorem cutB_cutB (S : ByteArray) (j k : Nat) : cutB (cutB S j) k = cutB S (j + k) := by
  apply ByteArray.ext
  apply Array.ext'
  rw [cutB_listM, cutB_listM, cutB_listM, List.drop_drop]
theorem cutB_sz (S : ByteArray) (k : Nat) : (cutB S k).size = S.size - k := by unfold cutB; rw [ByteArray.size_extract]; omega
theorem Suf.refl (S : ByteArray) : Suf S S := ⟨Nat.le_refl _, by rw [Nat.sub_self]; exact (cutB_zero S).symm⟩
theorem Suf.cut (S : ByteArray) (k : Nat) : Suf (cutB S k) S := by
  refine ⟨by rw [cutB_sz]; omega, ?_⟩
  rw [cutB_sz]
  by_cases h : k ≤ S.size
  · rw [show S.size - (S.size - k) = k by omega]
  · rw [show S.size - (S.size - k) = S.size by omega]
    apply ByteArray.ext
    apply Array.ext'
    rw [cutB_listM, cutB_listM, List.drop_of_length_le (by simp; omega), List.drop_of_length_le (by simp)]
theorem Suf.trans {A B C : ByteArray} (h : Suf A B) (k : Suf B C) : Suf A C := by
  refine ⟨Nat.le_trans h.1 k.1, ?_⟩
  have e : A = cutB (cutB C (C.size - B.size)) (B.size - A.size) := by rw [← k.2]; exact h.2
  rw [cutB_cutB] at e
  have := h.1
  have := k.1
  rw [show C.size - B.size + (B.size - A.size) = C.size - A.size by omega] at e
  exact e
theorem numM_suf (m : Int) (S : ByteArray) (e : Int) : Suf (numM m S e).2.1 S := by
  unfold numM
  split
  · exact Suf.refl S
  · split
    · exact Suf.refl S
    · exact Suf.cut _ _
theorem txtM_suf (m : Int) (S : ByteArray) (e : Int) : Suf (txtM m S e).2.1 S := by
  unfold txtM
  split
  · exact Suf.refl S
  · split
    · exact Suf.refl S
    · exact Suf.cut _ _
theorem ctnum_suf (b : Bool) (i : Nat) (m : Int) (s : Rst) : Suf (ctnum b i m s).2.1 s.2.1 := by unfold ctnum; split; exact numM_suf _ _ _; exact Suf.refl _
theorem cttxt_suf (b : Bool) (i : Nat) (m : Int) (s : Rst) : Suf (cttxt b i m s).2.1 s.2.1 := by unfold cttxt; split; exact txtM_suf _ _ _; exact Suf.refl _
theorem rnTo_suf (fl : Int) (s : Rst) : ∀ i, Suf (rnTo fl s i).2.1 s.2.1
  | 0 => Suf.refl _
  | i + 1 => (ctnum_suf _ _ _ _).trans (rnTo_suf fl s i)
theorem rtTo_suf (fl : Int) (s : Rst) : ∀ i, Suf (rtTo fl s i).2.1 s.2.1
  | 0 => Suf.refl _
  | i + 1 => (cttxt_suf _ _ _ _).trans (rtTo_suf fl s i)
theorem otake_suf (S : ByteArray) (e : Int) : Suf (otake S e).2.1 S := by
  unfold otake
  split
  · exact numM_suf _ _ _
  · split
    · exact numM_suf _ _ _
    · exact (rtTo_suf _ _ _).trans ((rnTo_suf _ _ _).trans ((ctnum_suf _ _ _ _).trans ((numM_suf _ _ _).trans (numM_suf _ _ _))))
def Tg (n : Nat) (s : Rst) : Prop := s.1.Pa.size ≤ n ∧ s.1.Da.size ≤ n ∧ s.2.1.size ≤ n
theorem txtM_one (m : Int) (S : ByteArray) (e : Int) : (txtM m S e).1.size ≤ S.size := by
  unfold txtM
  split
  · show 0 ≤ _; omega
  · split
    · show 0 ≤ _; omega
    · unfold txtP
      split
      · show 0 ≤ _; omega
      · split
        · show 0 ≤ _; omega
        · rw [ByteArray.size_extract]; omega
theorem ctnum_tg {n : Nat} {s : Rst} (h : Tg n s) (b : Bool) (i : Nat) (m : Int) : Tg n (ctnum b i m s) := by
  have h2 : (numM m s.2.1 s.2.2).2.1.size ≤ n := Nat.le_trans (numM_size _ _ _) h.2.2
  unfold ctnum
  split
  · unfold tnum setN
    split <;> exact ⟨h.1, h.2.1, h2⟩
  · exact h
theorem cttxt_tg {n : Nat} {s : Rst} (h : Tg n s) (b : Bool) (i : Nat) (m : Int) : Tg n (cttxt b i m s) := by
  have h1 : (txtM m s.2.1 s.2.2).1.size ≤ n := Nat.le_trans (txtM_one _ _ _) h.2.2
  have h2 : (txtM m s.2.1 s.2.2).2.1.size ≤ n := Nat.le_trans (txtM_size _ _ _) h.2.2
  unfold cttxt
  split
  · unfold ttxt setT
    split
    · exact ⟨h1, h.2.1, h2⟩
    · exact ⟨h.1, h1, h2⟩
  · exact h
theorem otake_txt (S : ByteArray) (e : Int) : (otake S e).1.Pa.size ≤ S.size ∧ (otake S e).1.Da.size ≤ S.size := by
  have hz : zOp.Pa.size ≤ S.size ∧ zOp.Da.size ≤ S.size := ⟨by show 0 ≤ _; omega, by show 0 ≤ _; omega⟩
  unfold otake
  split
  · exact hz
  · split
    · exact hz
    · have h0 : Tg S.size ({ zOp with K := (numM 1073741824 S e).1, P := (numM 63 (numM 1073741824 S e).2.1 0).1 }, (numM 63 (numM 1073741824 S e).2.1 0).2.1, (numM 63 (numM 1073741824 S e).2.1 0).2.2) := ⟨hz.1, hz.2, Nat.le_trans (numM_size _ _ _) (numM_size _ _ _)⟩
      have hN : ∀ fl s, Tg S.size s → ∀ i, Tg S.size (rnTo fl s i) := fun fl s h i => by
        induction i with
        | zero => exact h
        | succ i ih => exact ctnum_tg ih _ _ _
      have hT : ∀ fl s, Tg S.size s → ∀ i, Tg S.size (rtTo fl s i) := fun fl s h i => by
        induction i with
        | zero => exact h
        | succ i ih => exact cttxt_tg ih _ _ _
      have h9 := hT (flds.getD (numM 1073741824 S e).1.toNat 0) _ (hN (flds.getD (numM 1073741824 S e).1.toNat 0) _ (ctnum_tg h0 (bitB (flds.getD (numM 1073741824 S e).1.toNat 0) 1) 0 63) 3) 2
      exact ⟨h9.1, h9.2.1⟩
end Go.Proofs.YtjjdgmabgiembaaDoor
