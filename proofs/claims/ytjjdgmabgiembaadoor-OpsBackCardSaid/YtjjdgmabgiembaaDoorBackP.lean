/- What is put is taken again: the plain law. -/
import Derived.Test.YtjjdgmabgiembaaDoorRsB
import Derived.Test.YtjjdgmabgiembaaDoorRwA
set_option linter.unusedVariables false
set_option linter.unusedSimpArgs false
set_option maxHeartbeats 400000
namespace Go.Proofs.YtjjdgmabgiembaaDoor
open Go.RowKit Go.Shelf

theorem numFrom_grp : ∀ (f n : Nat), n ≤ f → ∀ (s : ByteArray) (i : Nat), (∀ j (h : j < (grpN n).length), byt s (i + j) = (grpN n)[j]) → numFrom s i (grpN n).length = n
  | f, n, hf, s, i, h => by
    by_cases c : 128 ≤ n
    · have hg := grpN_big c
      rw [hg] at h ⊢
      simp only [List.length_cons, numFrom]
      have h0 := h 0 (by simp)
      simp only [Nat.add_zero, List.getElem_cons_zero] at h0
      cases f with
      | zero => omega
      | succ f =>
        rw [numFrom_grp f (n / 128) (by omega) s (i + 1) (fun j hj => by
          have := h (j + 1) (by simpa using hj)
          simp only [List.getElem_cons_succ] at this
          rw [← this, show i + 1 + j = i + (j + 1) by omega]), h0]
        omega
    · have hg := grpN_small (n := n) (by omega)
      rw [hg] at h ⊢
      have h0 := h 0 (by simp)
      simp only [Nat.add_zero, List.getElem_cons_zero] at h0
      simp only [List.length_cons, List.length_nil, numFrom, h0]
      omega
theorem grp_end : ∀ (f n : Nat), n ≤ f → ∃ e, (grpN n).length = e + 1 ∧ (∀ j (h : j < (grpN n).length), j < e → 128 ≤ (grpN n)[j]) ∧ (∀ h : e < (grpN n).length, (grpN n)[e] < 128 ∧ (0 < e → (grpN n)[e] ≠ 0)) ∧ (0 < n → ∀ h : e < (grpN n).length, (grpN n)[e] ≠ 0)
  | f, n, hf => by
    by_cases c : 128 ≤ n
    · have hg := grpN_big c
      cases f with
      | zero => omega
      | succ f =>
        obtain ⟨e, h1, h2, h3, h4⟩ := grp_end f (n / 128) (by omega)
        refine ⟨e + 1, by rw [hg]; simp [h1], fun j hj hje => ?_, fun h => ?_, fun _ h => ?_⟩
        · rcases j with _ | j
          · simp only [hg, List.getElem_cons_zero]; omega
          · simp only [hg, List.getElem_cons_succ]
            exact h2 j (by rw [hg] at hj; simpa using hj) (by omega)
        · have he : e < (grpN (n / 128)).length := by omega
          have hx := h4 (by omega) he
          simp only [hg, List.getElem_cons_succ]
          exact ⟨(h3 he).1, fun _ => hx⟩
        · have he : e < (grpN (n / 128)).length := by omega
          simp only [hg, List.getElem_cons_succ]
          exact h4 (by omega) he
    · have hg := grpN_small (n := n) (by omega)
      refine ⟨0, by rw [hg]; simp, fun j hj hje => by omega, fun h => ?_, fun h0 h => ?_⟩
      · simp only [hg, List.getElem_cons_zero]; omega
      · simp only [hg, List.getElem_cons_zero]; omega

theorem putL_len (n : Nat) (h : n ≤ 1073741824) : (putS n).data.toList.length = (grpN n).length := by rw [putS_nat n h, strOfNums_data, List.length_map]
theorem byt_list (l : List UInt8) (j : Nat) (h : j < l.length) : byt ⟨l.toArray⟩ j = (l[j].toNat : Int) := by
  have hs : j < (⟨l.toArray⟩ : ByteArray).size := by rw [sizeL]; exact h
  rw [byt_at hs]
  rfl
theorem putL_byt (n : Nat) (hn : n ≤ 1073741824) (t : List UInt8) (j : Nat) (h : j < (grpN n).length) : byt ⟨((putS n).data.toList ++ t).toArray⟩ j = (grpN n)[j] := by
  have hl := putL_len n hn
  rw [byt_list _ j (by rw [List.length_append]; omega), List.getElem_append_left (by omega)]
  have hb := grpN_bd n n (Nat.le_refl _) _ (List.getElem_mem h)
  have e : (putS n).data.toList = (grpN n).map fun x => UInt8.ofNat x.toNat := by rw [putS_nat n hn]; rfl
  have e2 : (putS n).data.toList[j]'(by omega) = UInt8.ofNat ((grpN n)[j]).toNat := by
    simp only [e, List.getElem_map]
  rw [e2, UInt8.toNat_ofNat']
  omega
theorem take_put (n : Nat) (hn : n ≤ 1073741824) (t : List UInt8) : takeV ⟨((putS n).data.toList ++ t).toArray⟩ = ((n : Int), ((putS n).data.toList.length : Int), 0) := by
  obtain ⟨e, h1, h2, h3, h4⟩ := grp_end n n (Nat.le_refl _)
  have hl := putL_len n hn
  have hl5 := grpN_len5 n hn
  have hb := putL_byt n hn t
  have hsz : (⟨((putS n).data.toList ++ t).toArray⟩ : ByteArray).size = (putS n).data.toList.length + t.length := by rw [sizeL, List.length_append]
  have hE : endOf ⟨((putS n).data.toList ++ t).toArray⟩ = e := endOf_at (fun j hj => by rw [hb j (by omega)]; exact h2 j (by omega) hj) (by rw [hsz]; omega) (by omega) (by rw [hb e (by omega)]; exact (h3 (by omega)).1)
  have hN := numFrom_grp n n (Nat.le_refl _) ⟨((putS n).data.toList ++ t).toArray⟩ 0 (fun j hj => by rw [Nat.zero_add]; exact hb j hj)
  rw [h1] at hN
  unfold takeV
  rw [hE, if_neg (by omega)]
  simp only [Int.toNat_natCast]
  rw [if_neg (by rintro ⟨h5, h6⟩; rw [hb e (by omega)] at h5; exact (h3 (by omega)).2 (by omega) h5), hN, if_neg (by omega), hl, h1]
  simp

theorem cut_app (a t : List UInt8) : cutB ⟨(a ++ t).toArray⟩ a.length = ⟨t.toArray⟩ := by
  apply ByteArray.ext
  unfold cutB
  rw [sizeL, ByteArray.data_extract]
  simp
/-- a number's bytes are taken again -/
theorem num_back (n : Int) (h : numOk n = true) (t : List UInt8) : numM 1073741824 ⟨((putS n).data.toList ++ t).toArray⟩ 0 = (n, ⟨t.toArray⟩, 0) := by
  have h' : 0 ≤ n ∧ n ≤ 1073741824 := by simpa [numOk] using h
  obtain ⟨k, rfl⟩ : ∃ k : Nat, n = k := ⟨n.toNat, by omega⟩
  unfold numM
  rw [take_put k (by omega), if_neg (by simp)]
  have hE : numE 1073741824 (k : Int) 0 = 0 := by unfold numE; rw [if_neg (by omega)]
  simp only [hE, ne_eq, not_true_eq_false, if_false, Int.toNat_natCast, cut_app]
theorem ext_app (a b t : List UInt8) : (⟨(a ++ (b ++ t)).toArray⟩ : ByteArray).extract a.length (a.length + b.length) = ⟨b.toArray⟩ := by
  apply ByteArray.ext
  rw [ByteArray.data_extract]
  simp
theorem txt_back (s : ByteArray) (h : s.size ≤ 65536) (t : List UInt8) : txtM 65536 ⟨((putS s.size).data.toList ++ s.data.toList ++ t).toArray⟩ 0 = (s, ⟨t.toArray⟩, 0) := by
  rw [List.append_assoc]
  have hv := take_put s.size (by omega) (s.data.toList ++ t)
  have hE : numE 65536 (s.size : Int) 0 = 0 := by unfold numE; rw [if_neg (by omega)]
  have hsz : (⟨((putS s.size).data.toList ++ (s.data.toList ++ t)).toArray⟩ : ByteArray).size = (putS s.size).data.toList.length + (s.size + t.length) := by rw [sizeL, List.length_append, List.length_append, ← Lib.size_eq s]
  have hP : txtP 65536 ⟨((putS s.size).data.toList ++ (s.data.toList ++ t)).toArray⟩ = (s, (putS s.size).data.toList.length + s.size, 0) := by
    unfold txtP
    rw [hv]
    simp only [hE, ne_eq, not_true_eq_false, if_false, hsz, Int.toNat_natCast]
    rw [if_neg (by omega), show (((putS s.size).data.toList.length : Int) + (s.size : Int)).toNat = (putS s.size).data.toList.length + s.size by omega]
    have := ext_app (putS s.size).data.toList s.data.toList t
    rw [← Lib.size_eq s] at this
    rw [this, Lib.mk_data]
  unfold txtM
  rw [hP, if_neg (by simp), if_neg (by simp)]
  have := cut_app ((putS s.size).data.toList ++ s.data.toList) t
  rw [List.append_assoc, List.length_append, ← Lib.size_eq s] at this
  rw [this]
theorem flg_back (f : Bool) (t : List UInt8) : flgM ⟨([if f then 1 else 0] ++ t).toArray⟩ 0 = (f, ⟨t.toArray⟩, 0) := by
  have hb : byt ⟨([if f then 1 else 0] ++ t).toArray⟩ 0 = if f then 1 else 0 := by
    rw [byt_list _ 0 (by simp)]
    cases f <;> rfl
  have hs : ¬ (⟨([if f then 1 else 0] ++ t).toArray⟩ : ByteArray).size = 0 := by rw [sizeL]; simp
  rw [flgM_of, if_neg hs, hb, if_neg (by cases f <;> simp)]
  have := cut_app [if f then 1 else 0] t
  simp only [List.length_cons, List.length_nil, Nat.zero_add] at this
  rw [this]
  cases f <;> rfl
theorem dg_back (D : List UInt8) (hD : D.length = 32) (t : List UInt8) : dgM ⟨(D ++ t).toArray⟩ 0 = (D, ⟨t.toArray⟩, 0) := by
  have hs : ¬ (⟨(D ++ t).toArray⟩ : ByteArray).size < 32 := by rw [sizeL, List.length_append]; omega
  unfold dgM digP
  rw [if_neg (by simp), if_neg hs, if_neg (by simp)]
  have h1 := cut_app D t
  rw [hD] at h1
  simp only [h1]
  have : List.take 32 (D ++ t) = D := by rw [← hD, List.take_left']; rfl
  simp [this]
end Go.Proofs.YtjjdgmabgiembaaDoor
