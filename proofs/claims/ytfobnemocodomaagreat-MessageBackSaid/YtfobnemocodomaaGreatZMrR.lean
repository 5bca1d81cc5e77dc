/- What is read of bytes is what is put: in plain words. -/
import Derived.Test.YtfobnemocodomaaGreatZMrQ
import Derived.Test.YtfobnemocodomaaGreatZMrB
set_option linter.unusedVariables false
set_option linter.unusedSimpArgs false
set_option maxHeartbeats 1000000
namespace Go.Proofs.YtfobnemocodomaaGreat
open Go.RowKit Go.Shelf Go.Great

theorem num_can {m : Int} {s : Rst} (h : (numM m s.1 s.2).2.2 = 0) : s.2 = 0 ∧ s.1.data.toList = putL (numM m s.1 s.2).1 ++ (numM m s.1 s.2).2.1.data.toList ∧ 0 ≤ (numM m s.1 s.2).1 ∧ (numM m s.1 s.2).1 ≤ m ∧ (numM m s.1 s.2).1 ≤ 1073741824 := by
  have h0 : s.2 = 0 := Classical.byContradiction fun he => by rw [numM_err _ he] at h; exact he h
  rw [h0] at h ⊢
  obtain ⟨a, b, c, d⟩ := can_num h
  exact ⟨rfl, a, b, c, d⟩
theorem dig_can {s : Rst} (h : (dgM s.1 s.2).2.2 = 0) : s.2 = 0 ∧ s.1.data.toList = (dgM s.1 s.2).1 ++ (dgM s.1 s.2).2.1.data.toList := by
  have h0 : s.2 = 0 := Classical.byContradiction fun he => by
    unfold dgM at h; rw [if_pos he] at h; exact he h
  rw [h0] at h ⊢
  exact ⟨rfl, can_dig h⟩
theorem txt_can {m : Int} {s : Rst} (h : (txtM m s.1 s.2).2.2 = 0) : s.2 = 0 ∧ s.1.data.toList = txL (txtM m s.1 s.2).1 ++ (txtM m s.1 s.2).2.1.data.toList ∧ ((txtM m s.1 s.2).1.size : Int) ≤ m := by
  have h0 : s.2 = 0 := Classical.byContradiction fun he => by rw [txtM_err _ he] at h; exact he h
  rw [h0] at h ⊢
  obtain ⟨a, b⟩ := can_txt h
  exact ⟨rfl, a, b⟩
theorem rowsGoM_can : ∀ (n : Nat) (s : List (List Dot) × Rst), (rowsGoM n s).2.2 = 0 → s.2.2 = 0 ∧ ∃ l', (rowsGoM n s).1 = s.1 ++ l' ∧ l'.length = n ∧ s.2.1.data.toList = encRs l' ++ (rowsGoM n s).2.1.data.toList
  | 0, s, h => ⟨h, [], by simp [rowsGoM, encRs]⟩
  | n + 1, s, h => by
    have h0 : s.2.2 = 0 := Classical.byContradiction fun he => by rw [rowsGoM_err _ _ he] at h; exact he h
    unfold rowsGoM at h ⊢
    rw [if_neg (by simpa using h0)] at h ⊢
    obtain ⟨h1, l', e1, e2, e3⟩ := rowsGoM_can n _ h
    simp only at h1 e1 e3
    obtain ⟨_, _, k⟩ := vec_can h1
    refine ⟨h0, (vecM s.2).1 :: l', by rw [e1]; simp, by simp [e2], ?_⟩
    rw [k, e3]
    simp [encRs]
theorem rows_can {s : Rst} (h : (rowsM s).2.2 = 0) : s.2 = 0 ∧ s.1.data.toList = putL (rowsM s).1.length ++ (encRs (rowsM s).1 ++ (rowsM s).2.1.data.toList) := by
  unfold rowsM at h ⊢
  obtain ⟨h1, l', e1, e2, e3⟩ := rowsGoM_can _ _ h
  simp only [List.nil_append] at h1 e1 e3
  obtain ⟨h0, c1, c2, _, _⟩ := num_can h1
  refine ⟨h0, ?_⟩
  rw [c1, e3, e1, e2, show (((numM 64 s.1 s.2).1.toNat : Nat) : Int) = (numM 64 s.1 s.2).1 by omega]
theorem map_l_mkD (l : List (List Dot)) : (l.map mkD).map DRow.l = l := by rw [List.map_map]; show l.map (fun v => v) = l; simp
theorem body_can {x : Mx} {s : Rst} (hx : x.K ≤ 6) (h : (rdBody x s).2.2 = 0) : s.2 = 0 ∧ s.1.data.toList = encFd (rdBody x s).1 ++ (rdBody x s).2.1.data.toList := by
  by_cases k2 : x.K = 2
  · have e : rdBody x s = ({ x with R := (dgM s.1 s.2).1, cl := (vecM (dgM s.1 s.2).2).1, rs := (rowsM (vecM (dgM s.1 s.2).2).2).1.map mkD }, (rowsM (vecM (dgM s.1 s.2).2).2).2) := by unfold rdBody; rw [if_pos k2]
    rw [e] at h ⊢
    obtain ⟨h1, c1⟩ := rows_can h
    obtain ⟨h2, _, c2⟩ := vec_can h1
    obtain ⟨h3, c3⟩ := dig_can h2
    refine ⟨h3, ?_⟩
    unfold encFd
    rw [if_pos (show ({ x with R := (dgM s.1 s.2).1, cl := (vecM (dgM s.1 s.2).2).1, rs := (rowsM (vecM (dgM s.1 s.2).2).2).1.map mkD } : Mx).K = 2 from k2)]
    simp only [List.length_map, map_l_mkD]
    rw [c3, c2, c1]
    simp [List.append_assoc]
  by_cases k3 : x.K = 3
  · have e : rdBody x s = ({ x with R := (dgM s.1 s.2).1, Pa := (txtM 51 (dgM s.1 s.2).2.1 (dgM s.1 s.2).2.2).1 }, (txtM 51 (dgM s.1 s.2).2.1 (dgM s.1 s.2).2.2).2) := by unfold rdBody; rw [if_neg k2, if_pos k3]
    rw [e] at h ⊢
    obtain ⟨h1, c1, _⟩ := txt_can h
    obtain ⟨h3, c3⟩ := dig_can h1
    refine ⟨h3, ?_⟩
    unfold encFd
    simp only [k3]
    rw [c3, c1]
    simp [List.append_assoc]
  by_cases k4 : x.K = 4
  · have e : rdBody x s = ({ x with Pa := (txtM 51 s.1 s.2).1, Tx := (txtM 65536 (txtM 51 s.1 s.2).2.1 (txtM 51 s.1 s.2).2.2).1 }, (txtM 65536 (txtM 51 s.1 s.2).2.1 (txtM 51 s.1 s.2).2.2).2) := by unfold rdBody; rw [if_neg k2, if_neg k3, if_pos k4]
    rw [e] at h ⊢
    obtain ⟨h1, c1, _⟩ := txt_can h
    obtain ⟨h3, c3, _⟩ := txt_can h1
    refine ⟨h3, ?_⟩
    unfold encFd
    simp only [k4]
    rw [c3, c1]
    simp [List.append_assoc]
  by_cases k6 : x.K = 6
  · have e : rdBody x s = ({ x with Tn := (flgM s.1 s.2).1 }, (flgM s.1 s.2).2) := by unfold rdBody; rw [if_neg k2, if_neg k3, if_neg k4, if_pos k6]
    rw [e] at h ⊢
    obtain ⟨h3, c3⟩ := flg_can (s := s) h
    refine ⟨h3, ?_⟩
    unfold encFd
    simp only [k6]
    rw [c3]
    rfl
  have e : rdBody x s = (x, s) := by unfold rdBody; rw [if_neg k2, if_neg k3, if_neg k4, if_neg k6]
  rw [e] at h ⊢
  refine ⟨h, ?_⟩
  unfold encFd
  rw [if_neg k2, if_neg k3, if_neg k4, if_neg k6]
  rfl
theorem body_same (x : Mx) (s : Rst) : (rdBody x s).1.K = x.K ∧ (rdBody x s).1.F = x.F ∧ (rdBody x s).1.To = x.To ∧ (rdBody x s).1.Sd = x.Sd := by
  unfold rdBody
  split
  · exact ⟨rfl, rfl, rfl, rfl⟩
  · split
    · exact ⟨rfl, rfl, rfl, rfl⟩
    · split
      · exact ⟨rfl, rfl, rfl, rfl⟩
      · split
        · exact ⟨rfl, rfl, rfl, rfl⟩
        · exact ⟨rfl, rfl, rfl, rfl⟩
theorem kind_can {S : ByteArray} (h : (rdKind S).2.2 = 0) : S.data.toList = putL (rdKind S).1 ++ (rdKind S).2.1.data.toList ∧ 1 ≤ (rdKind S).1 ∧ (rdKind S).1 ≤ 6 := by
  unfold rdKind at h ⊢
  simp only at h ⊢
  by_cases he : (numM 1073741824 S 0).2.2 = 0
  · rw [if_pos he] at h
    by_cases hk : (numM 1073741824 S 0).1 < 1 ∨ 6 < (numM 1073741824 S 0).1
    · rw [if_pos hk] at h; cases h
    · obtain ⟨_, c, _⟩ := num_can (s := (S, 0)) he
      exact ⟨c, by omega, by omega⟩
  · rw [if_neg he] at h; exact absurd h he
theorem read_can {S : ByteArray} (h : (readM S).2 = 0) : mChk (readM S).1 = 0 ∧ S.data.toList = encM (readM S).1 := by
  by_cases hd : rdDone (rdAll S).2.1 (rdAll S).2.2 = 0; rotate_left
  · rw [show readM S = (zMx, rdDone (rdAll S).2.1 (rdAll S).2.2) by unfold readM; rw [if_pos hd]] at h; exact absurd h hd
  by_cases hc : mChk (rdAll S).1 = 0; rotate_left
  · rw [show readM S = (zMx, mChk (rdAll S).1) by unfold readM; rw [if_neg (by simpa using hd), if_pos hc]] at h; exact absurd h hc
  have e : readM S = ((rdAll S).1, 0) := by unfold readM; rw [if_neg (by simpa using hd), if_neg (by simpa using hc)]
  rw [e]
  refine ⟨hc, ?_⟩
  obtain ⟨d1, d2⟩ := rdDone_zero.1 hd
  have hnil : (rdAll S).2.1.data.toList = [] := by
    have := Lib.size_eq (rdAll S).2.1
    rw [d2] at this
    exact List.eq_nil_of_length_eq_zero this.symm
  have hb := body_same (rdHead S).1 (rdHead S).2
  have hK : ∀ (h4 : (rdHead S).2.2 = 0), (numM 1048576 (num2 63 63 (rdKind S).2).2.1 (num2 63 63 (rdKind S).2).2.2).2.2 = 0 := fun h4 => h4
  have hk6 : (rdHead S).1.K ≤ 6 := by
    have g := (mgood_of hc).k
    have : (rdAll S).1.K = (rdHead S).1.K := hb.1
    omega
  obtain ⟨h4, c4⟩ := body_can (x := (rdHead S).1) (s := (rdHead S).2) hk6 d1
  have h5 := hK h4
  obtain ⟨h6, c6, _⟩ := num_can h5
  have h7 : (numM 63 (numM 63 (rdKind S).2.1 (rdKind S).2.2).2.1 (numM 63 (rdKind S).2.1 (rdKind S).2.2).2.2).2.2 = 0 := h6
  obtain ⟨h8, c8, _⟩ := num_can (s := (numM 63 (rdKind S).2.1 (rdKind S).2.2).2) h7
  obtain ⟨h9, c9, _⟩ := num_can (s := (rdKind S).2) h8
  obtain ⟨c10, _⟩ := kind_can h9
  have eK : (rdAll S).1.K = (rdKind S).1 := hb.1
  have eF : (rdAll S).1.F = (numM 63 (rdKind S).2.1 (rdKind S).2.2).1 := hb.2.1
  have eT : (rdAll S).1.To = (numM 63 (numM 63 (rdKind S).2.1 (rdKind S).2.2).2.1 (numM 63 (rdKind S).2.1 (rdKind S).2.2).2.2).1 := hb.2.2.1
  have eS : (rdAll S).1.Sd = (numM 1048576 (num2 63 63 (rdKind S).2).2.1 (num2 63 63 (rdKind S).2).2.2).1 := hb.2.2.2
  unfold encM
  rw [eK, eF, eT, eS, c10, c9, c8]
  have c6' : (numM 63 (numM 63 (rdKind S).2.1 (rdKind S).2.2).2.1 (numM 63 (rdKind S).2.1 (rdKind S).2.2).2.2).2.1.data.toList = putL (numM 1048576 (num2 63 63 (rdKind S).2).2.1 (num2 63 63 (rdKind S).2).2.2).1 ++ (rdHead S).2.1.data.toList := c6
  have c4' : (rdHead S).2.1.data.toList = encFd (rdAll S).1 ++ (rdAll S).2.1.data.toList := c4
  rw [c6', c4', hnil, List.append_nil]
end Go.Proofs.YtfobnemocodomaaGreat
