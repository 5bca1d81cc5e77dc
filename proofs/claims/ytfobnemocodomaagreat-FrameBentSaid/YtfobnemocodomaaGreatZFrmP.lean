/- A frame opened gives back what was sealed, and the other way round: in plain words. -/
import Derived.Test.YtfobnemocodomaaGreatZBx
import Derived.Test.YtfobnemocodomaaGreatZFrmA
import Derived.Test.YtfobnemocodomaaGreatZBn2
set_option linter.unusedVariables false
set_option linter.unusedSimpArgs false
set_option maxHeartbeats 1000000
namespace Go.Proofs.YtfobnemocodomaaGreat
open Go.RowKit Go.Shelf Go.Great

theorem txt_backG (m : Int) (s : ByteArray) (h : s.size ≤ 1073741824) (hm : (s.size : Int) ≤ m) (t : List UInt8) : txtM m ⟨(txL s ++ t).toArray⟩ 0 = (s, ⟨t.toArray⟩, 0) := by
  rw [txtM_of, List.append_assoc, num_backM m s.size (by omega) hm]
  simp only [ne_eq, not_true_eq_false, if_false, Int.toNat_natCast]
  have hsz : (⟨(s.data.toList ++ t).toArray⟩ : ByteArray).size = s.size + t.length := by rw [sizeL, List.length_append, ← Lib.size_eq s]
  rw [hsz, if_neg (by omega)]
  have e1 : (⟨(s.data.toList ++ t).toArray⟩ : ByteArray).extract 0 s.size = s := by
    have := ext_app [] s.data.toList t
    simp only [List.nil_append, List.length_nil, Nat.zero_add, ← Lib.size_eq s] at this
    rw [this, Lib.mk_data]
  have e2 : (⟨(s.data.toList ++ t).toArray⟩ : ByteArray).extract s.size (s.size + t.length) = ⟨t.toArray⟩ := by
    have := cut_app s.data.toList t
    unfold cutB at this
    rw [hsz, ← Lib.size_eq s] at this
    exact this
  rw [e1, e2]
theorem ba_ext {a b : ByteArray} (h : a.data.toList = b.data.toList) : a = b := by
  apply ByteArray.ext
  exact Array.ext' h
theorem extract_list (s : ByteArray) (i j : Nat) : (s.extract i j).data.toList = (s.data.toList.take j).drop i := by
  rw [ByteArray.data_extract]; simp [List.drop_take]
theorem seal_size (s : ByteArray) : (sealV s).size = s.size + 4 := by unfold sealV; rw [ByteArray.size_append]; rfl
theorem unsV_seal (s : ByteArray) : unsV (sealV s) = (s, true) := by
  have hz := seal_size s
  have e : (sealV s).extract 0 ((sealV s).size - 4) = s := by
    apply ba_ext
    rw [extract_list, hz, List.drop_zero, Nat.add_sub_cancel]
    unfold sealV
    rw [ByteArray.data_append, Array.toList_append, List.take_append_of_le_length (by rw [Lib.size_eq]; exact Nat.le_refl _), Lib.size_eq, List.take_length]
  unfold unsV
  rw [if_neg (by omega), e, if_pos rfl]
theorem unsV_can {S : ByteArray} (h : (unsV S).2 = true) : S = sealV (unsV S).1 := by
  unfold unsV at h ⊢
  by_cases h4 : S.size < 4
  · rw [if_pos h4] at h; cases h
  · rw [if_neg h4] at h ⊢
    by_cases he : sealV (S.extract 0 (S.size - 4)) = S
    · rw [if_pos he]; exact he.symm
    · rw [if_neg he] at h; cases h
theorem at_ba (t : ByteArray) (i : Nat) (h : i < t.size) : t.data.toList[i]? = some t[i] := by
  rw [Array.getElem?_toList, ByteArray.getElem_eq_getElem_data]
  exact Array.getElem?_eq_getElem h
theorem hdE_hs (t : ByteArray) : hdE (hsV ++ t) = 0 ∧ restT (hsV ++ t) = t := by
  have hl : (hsV ++ t).data.toList = [104, 115, 1] ++ t.data.toList := by rw [ByteArray.data_append, Array.toList_append]; rfl
  have hz : (hsV ++ t).size = 3 + t.size := by rw [ByteArray.size_append]; rfl
  have h3 : ¬ (hsV ++ t).size < 3 := by omega
  have g0 := at_ba (hsV ++ t) 0 (by omega)
  have g1 := at_ba (hsV ++ t) 1 (by omega)
  have g2 := at_ba (hsV ++ t) 2 (by omega)
  rw [hl] at g0 g1 g2
  have k0 : (hsV ++ t)[0] = 104 := by simpa using g0.symm
  have k1 : (hsV ++ t)[1] = 115 := by simpa using g1.symm
  have k2 : (hsV ++ t)[2] = 1 := by simpa using g2.symm
  refine ⟨?_, ?_⟩
  · unfold hdE
    rw [dif_neg h3, if_neg (by rintro (k | k); exact k k0; exact k k1), if_neg (by simpa using k2)]
  · unfold restT
    apply ba_ext
    rw [extract_list, Lib.size_eq, List.take_length, hl]
    rfl
theorem hdE_can {t : ByteArray} (h : hdE t = 0) : t = hsV ++ restT t := by
  unfold hdE at h
  by_cases h3 : t.size < 3
  · rw [dif_pos h3] at h; cases h
  rw [dif_neg h3] at h
  by_cases p : t[0] ≠ 104 ∨ t[1] ≠ 115
  · rw [if_pos p] at h; cases h
  rw [if_neg p] at h
  by_cases p2 : t[2] ≠ 1
  · rw [if_pos p2] at h; cases h
  have q0 : t[0] = 104 := Classical.byContradiction fun k => p (Or.inl k)
  have q1 : t[1] = 115 := Classical.byContradiction fun k => p (Or.inr k)
  have q2 : t[2] = 1 := Classical.byContradiction fun k => p2 k
  have g0 := at_ba t 0 (by omega)
  have g1 := at_ba t 1 (by omega)
  have g2 := at_ba t 2 (by omega)
  rw [q0] at g0
  rw [q1] at g1
  rw [q2] at g2
  apply ba_ext
  rw [ByteArray.data_append, Array.toList_append]
  unfold restT
  rw [extract_list, Lib.size_eq, List.take_length]
  match hl : t.data.toList, g0, g1, g2 with
  | a :: b :: c :: r, g0, g1, g2 =>
    simp at g0 g1 g2
    rw [g0, g1, g2]; rfl
  | [], g0, _, _ => simp at g0
  | [_], _, g1, _ => simp at g1
  | [_, _], _, _, g2 => simp at g2
theorem openB_back (p : ByteArray) (h : p.size ≤ 131072) : openB (putS p.size ++ p) = (p, 0) := by
  have e : putS p.size ++ p = ⟨(txL p ++ []).toArray⟩ := by
    apply ba_ext
    rw [ByteArray.data_append, Array.toList_append]
    simp
  unfold openB
  rw [e, txt_backG 131072 p (by omega) (by omega)]
  simp [rdDone, sizeL]
theorem openB_can {q : ByteArray} (h : (openB q).2 = 0) : q = putS (openB q).1.size ++ (openB q).1 := by
  unfold openB at h ⊢
  obtain ⟨d1, d2⟩ := rdDone_zero.1 h
  obtain ⟨_, c, _⟩ := txt_can (s := (q, 0)) d1
  have hnil : (txtM 131072 q 0).2.1.data.toList = [] := by
    have := Lib.size_eq (txtM 131072 q 0).2.1
    rw [d2] at this
    exact List.eq_nil_of_length_eq_zero this.symm
  apply ba_ext
  rw [ByteArray.data_append, Array.toList_append]
  have c' : q.data.toList = txL (txtM 131072 q 0).1 ++ (txtM 131072 q 0).2.1.data.toList := c
  rw [c', hnil, List.append_nil]
theorem open_frame (p : ByteArray) (h : p.size ≤ 131000) : openM (sealV (hsV ++ putS p.size ++ p)) = readM p := by
  have hz : (sealV (hsV ++ putS p.size ++ p)).size ≤ 131072 := by
    rw [seal_size, ByteArray.size_append, ByteArray.size_append]
    have := putS_sz p.size
    show 3 + _ + _ + 4 ≤ _
    omega
  have ea : hsV ++ putS p.size ++ p = hsV ++ (putS p.size ++ p) := by
    apply ba_ext
    simp [ByteArray.data_append, List.append_assoc]
  have hh := hdE_hs (putS p.size ++ p)
  unfold openM
  rw [if_neg (by omega), unsV_seal, if_neg (by simp)]
  simp only [ea, hh.1, hh.2, openB_back p (by omega)]
  simp
theorem openM_a {S : ByteArray} (h1 : ¬ 131072 < S.size) : openM S = cont1 S := by rw [openM_cont, if_neg h1]
theorem openM_b {S : ByteArray} (h1 : 131072 < S.size) : (openM S).2 = 2 := by rw [openM_cont, if_pos h1]
theorem cont3_can {q : ByteArray} (h : (cont3 q).2 = 0) : ∃ p, q = putS p.size ++ p ∧ cont3 q = readM p := by
  unfold cont3 at h ⊢
  by_cases h4 : (openB q).2 = 0
  · rw [if_neg (fun k => k h4)]
    exact ⟨(openB q).1, openB_can h4, rfl⟩
  · rw [if_pos h4] at h; exact absurd h h4
theorem cont2_can {t : ByteArray} (h : (cont2 t).2 = 0) : ∃ p, t = hsV ++ putS p.size ++ p ∧ cont2 t = readM p := by
  unfold cont2 at h ⊢
  by_cases h3 : hdE t = 0
  · rw [if_neg (fun k => k h3)] at h ⊢
    obtain ⟨p, e1, e2⟩ := cont3_can h
    refine ⟨p, ?_, e2⟩
    have ea : hsV ++ putS p.size ++ p = hsV ++ (putS p.size ++ p) := by
      apply ba_ext
      simp [ByteArray.data_append, List.append_assoc]
    rw [ea, ← e1]
    exact hdE_can h3
  · rw [if_pos h3] at h; exact absurd h h3
theorem open_can {S : ByteArray} (h : (openM S).2 = 0) : ∃ p, S = sealV (hsV ++ putS p.size ++ p) ∧ openM S = readM p := by
  by_cases h1 : 131072 < S.size
  · rw [openM_b h1] at h; cases h
  rw [openM_a h1] at h ⊢
  unfold cont1 at h ⊢
  cases h2 : (unsV S).2 with
  | false => rw [if_pos h2] at h; cases h
  | true =>
    rw [if_neg (by rw [h2]; simp)] at h
    rw [if_neg (by simp)]
    obtain ⟨p, e1, e2⟩ := cont2_can h
    refine ⟨p, ?_, e2⟩
    rw [← e1]
    exact unsV_can h2
theorem encV_len {l : List Dot} (h : chk l = 0) : (encV l).length ≤ 645 := by
  have h1 := vputQ_len l ([], 0)
  rw [vput_put h] at h1
  have := okv_len h
  simp at h1
  omega
theorem encRs_len : ∀ (l : List (List Dot)), (∀ v ∈ l, chk v = 0) → (encRs l).length ≤ 645 * l.length
  | [], _ => by simp [encRs]
  | v :: r, h => by
    have h1 := encV_len (h v (by simp))
    have h2 := encRs_len r (fun y hy => h y (by simp [hy]))
    have e : encRs (v :: r) = encV v ++ encRs r := by simp [encRs]
    rw [e, List.length_append, List.length_cons]
    omega
theorem txL_len (s : ByteArray) : (txL s).length ≤ 5 + s.size := by
  rw [List.length_append]
  have h1 : (putL s.size).length ≤ 5 := putS_len s.size
  have h2 := Lib.size_eq s
  omega
theorem encM_len {x : Mx} (h : mChk x = 0) (hR : x.R.length = 32) : (encM x).length ≤ 131000 := by
  have g := mgood_of h
  have hf : (encFd x).length ≤ 100000 := by
    unfold encFd
    by_cases k2 : x.K = 2
    · obtain ⟨a, b, c, d, e, f⟩ := good2 g k2
      rw [if_pos k2, List.length_append, List.length_append, List.length_append]
      have h1 := encV_len d
      have h2 := encRs_len (x.rs.map DRow.l) (fun v hv => by obtain ⟨y, hy, rfl⟩ := List.mem_map.1 hv; exact f y hy)
      rw [List.length_map] at h2
      have h3 := putS_len x.rs.length
      show _ + (_ + ((putS x.rs.length).data.toList.length + _)) ≤ _
      omega
    rw [if_neg k2]
    by_cases k3 : x.K = 3
    · obtain ⟨a, b, c, d, e⟩ := good3 g k3
      rw [if_pos k3, List.length_append]
      have := txL_len x.Pa
      omega
    rw [if_neg k3]
    by_cases k4 : x.K = 4
    · obtain ⟨a, b, c, d, e, f⟩ := good4 g k4
      rw [if_pos k4, List.length_append]
      have := txL_len x.Pa
      have := txL_len x.Tx
      omega
    rw [if_neg k4]
    split
    · simp
    · simp
  unfold encM
  simp only [List.length_append]
  have h1 : (putL x.K).length ≤ 5 := putS_len x.K
  have h2 : (putL x.F).length ≤ 5 := putS_len x.F
  have h3 : (putL x.To).length ≤ 5 := putS_len x.To
  have h4 : (putL x.Sd).length ≤ 5 := putS_len x.Sd
  omega
theorem frame_e (x : Mx) : (mFrame x).2 = (mBytes x).2 := rfl
theorem frame_ok {x : Mx} (h : mChk x = 0) : mFrame x = (sealV (hsV ++ putS (bsq (encM x)).size ++ bsq (encM x)), 0) := by
  unfold mFrame
  rw [bytes_ok h]
  show (frmV (bsq (encM x)) 0, (0 : Int)) = _
  unfold frmV
  rw [if_neg (by simp)]
/-- what is sealed is opened -/
theorem frame_back {x : Mx} (h : mChk x = 0) (hR : x.R.length = 32) : openM (mFrame x).1 = (mst x, 0) := by
  rw [frame_ok h]
  show openM (sealV _) = _
  rw [open_frame _ (by rw [bsq_size]; exact encM_len h hR), read_back h hR]
/-- what is opened is what is sealed -/
theorem frame_can {S : ByteArray} {y : Mx} (h : (mst y, (0 : Int)) = openM S) : mChk y = 0 ∧ mFrame y = (S, 0) := by
  obtain ⟨p, e1, e2⟩ := open_can (S := S) (by rw [← h])
  rw [e2] at h
  obtain ⟨c1, c2⟩ := read_can (S := p) (by rw [← h])
  rw [← h] at c1 c2
  have c3 : mChk y = 0 := by rw [← mChk_mst]; exact c1
  refine ⟨c3, ?_⟩
  rw [frame_ok c3]
  have e3 : bsq (encM y) = p := by
    rw [← encM_mst]
    have c2' : p.data.toList = encM (mst y) := c2
    rw [← c2']; exact bsq_list p
  rw [e3, e1]
end Go.Proofs.YtfobnemocodomaaGreat
