/- The document's PutLeaf, Leaf; hearsaylaw11.RecordLeaves. -/
import Derived.Test.YtfobnemocodomaaLvA
import Derived.Test.YtfobnemocodomaaRecB
set_option linter.unusedVariables false
set_option linter.unusedSimpArgs false
set_option maxHeartbeats 1000000
namespace Go.Proofs.Ytfobnemocodomaa
open Go.RowKit Go.Shelf Go.Great

theorem wput_err (b : Bool) (t : List UInt8) (s : Ws) (h : s.2 ≠ 0) : wput b t s = s := by unfold wput; rw [if_pos h]
theorem wfail_err (f : Int) (s : Ws) (h : s.2 ≠ 0) : wfail f s = s := by unfold wfail; rw [if_pos h]
theorem vput_err (l : List Dot) (s : Ws) (h : s.2 ≠ 0) : vput l s = s := by
  unfold vput
  split
  · exact wfail_err _ _ h
  · rw [wnum_err _ _ h, vnum_err _ _ h]
theorem ver1_err (x : Vx) (s : Ws) (h : s.2 ≠ 0) : ver1 x s = s := by
  unfold ver1 wtext wflag
  rw [wnum_err _ _ h, wnum_err _ _ h, vput_err _ _ h, wput_err _ _ _ h, wput_err _ _ _ h]
theorem versW_err : ∀ (l : List Vx) (s : Ws), s.2 ≠ 0 → versW l s = s
  | [], s, _ => rfl
  | x :: l, s, h => by
    show versW l (ver1 x s) = s
    rw [ver1_err x s h, versW_err l s h]
theorem lput_ref (l : List Vx) (s : Ws) : versW l (wnum l.length (wfail (leafChk l) s)) = lput l s := by
  unfold lput
  by_cases h : leafChk l = 0
  · rw [if_neg (by simpa using h), h]
    have : wfail 0 s = s := by
      unfold wfail
      split
      · rfl
      · rename_i h0
        simp only [ne_eq, Decidable.not_not] at h0
        rw [← h0]
    rw [this]
  · rw [if_pos h]
    have he : (wfail (leafChk l) s).2 ≠ 0 := by
      unfold wfail
      split
      · assumption
      · exact h
    rw [wnum_err _ _ he, versW_err _ _ he]
/-- the writer's length stays small: a version may be, or nothing is put any more -/
theorem versW_small (l : List Vx) (s : Ws) (h : (∀ x ∈ l, verChk x = 0) ∨ s.2 ≠ 0) (k : Nat) (hk : k ≤ l.length) : (versW (l.take k) s).1.length ≤ s.1.length + 800 * k ∧ (s.2 ≠ 0 → versW (l.take k) s = s) := by
  refine ⟨?_, fun e => versW_err _ _ e⟩
  rcases h with h | h
  · exact versW_len l h s k hk
  · rw [versW_err _ _ h]; omega
/-- how long the parts of a version's bytes are -/
theorem ver_steps (x : Vx) (s : Ws) (h : verChk x = 0 ∨ s.2 ≠ 0) :
    (wnum x.P s).1.length ≤ s.1.length + 5 ∧ (wnum x.C (wnum x.P s)).1.length ≤ s.1.length + 10 ∧ (vput x.pl (wnum x.C (wnum x.P s))).1.length ≤ s.1.length + 700 ∧ (wflag x.D (vput x.pl (wnum x.C (wnum x.P s)))).1.length ≤ s.1.length + 701 := by
  rcases h with h | h
  · have hp := ver_parts h
    have h1 := wnum_len x.P s
    have h2 := wnum_len x.C (wnum x.P s)
    have h3 := vput_len x.pl (wnum x.C (wnum x.P s))
    have h4 := wflag_len x.D (vput x.pl (wnum x.C (wnum x.P s)))
    have h6 := okv_len hp.2.1
    omega
  · unfold wflag
    rw [wnum_err _ _ h, wnum_err _ _ h, vput_err _ _ h, wput_err _ _ _ h]
    omega
set_option maxRecDepth 100000 in
theorem refPutVecE_any (c : Nat) (s : Ws) (A : Option Addr) (cap : Nat) (l : List Dot) (w0 w : World) (hD : Dots w0 A l) (hg0 : Gr w0 w) (hc : w0.heap.size ≤ c) (h : Rw c ⟨s.1.toArray⟩ s.2 w) (hlen : s.1.length ≤ 10000000) (he : s.2 ≠ 0) :
    Calls Try.prog 133 #[.pointer (some ⟨c, 0, none⟩), .slice A l.length cap] w fun r w' => r = .returned (.tuple #[]) ∧ Rw c ⟨s.1.toArray⟩ s.2 w' ∧ Rm c w w' := by
  have HH := Lib.hid h; clear h
  have HD := Lib.hid hD; clear hD
  have hll := HD.out.1
  have HE : Hid (∀ n, wnum n s = s) := Lib.hid (fun n => wnum_err n s he)
  have HF := Lib.hid (wfail_err (chk l) s he)
  clear he
  go_enter Try.func133, Try.ntmps133
  go_wp2_with fail
  refine (refCheck_any A cap l _ (HD.out.gr hg0)).mono ?_
  rintro r w1 ⟨rfl, hg1⟩
  go_wp2_with fail
  refine (rFail_any c _ _ (chk l) _ (HH.out.gr hg1)).mono ?_
  rintro r w2 ⟨rfl, h2, m2⟩
  rw [rfail_eq, HF.out] at h2
  have H2 := Lib.hid h2
  have M2 := Lib.hid ((Rm.of hg1).trans m2)
  clear h2 m2 hg1
  go_wp2_with fail
  refine (rNum_any c s l.length _ H2.out (by omega)).mono ?_
  rintro r w3 ⟨rfl, h3, m3⟩
  rw [HE.out] at h3
  have H3 := Lib.hid h3
  have M3 := Lib.hid (M2.out.trans m3)
  clear h3 m3
  go_wp2
  go_loopw [4] (fun i wr => ∃ k : Nat, k ≤ l.length ∧ i = .int .i64 k ∧ Hid (Rw c ⟨s.1.toArray⟩ s.2 wr) ∧ Hid (Rm c w wr)) (fun i _ => l.length - (intOf i).toNat)
  case atStart => exact ⟨0, Nat.zero_le _, rfl, H3, M3⟩
  case round =>
    obtain ⟨k, hk, rfl, HW, HM⟩ := hrel
    clear H3 M3 H2 M2
    by_cases hlt : k < l.length
    · have hki : (k : Int) < l.length := by omega
      obtain ⟨ad, rfl, hx, hy⟩ := (HD.out.gr (HM.out.below hg0 hc)).2 k hlt
      go_wp2_with fail
      refine (rNum_any c s l[k].1 _ HW.out (by omega)).mono ?_
      rintro r w4 ⟨rfl, h4, m4⟩
      rw [HE.out] at h4
      have H4 := Lib.hid h4
      have M4 := Lib.hid (HM.out.trans m4)
      clear h4 m4 hx hy
      obtain ⟨ad', e', hx, hy⟩ := (HD.out.gr (M4.out.below hg0 hc)).2 k hlt
      cases e'
      go_wp2_with fail
      refine (rNum_any c s l[k].2 _ H4.out (by omega)).mono ?_
      rintro r w5 ⟨rfl, h5, m5⟩
      rw [HE.out] at h5
      have H5 := Lib.hid h5
      have M5 := Lib.hid (M4.out.trans m5)
      clear h5 m5 hx hy
      go_wp2
      go_roundw
      case rel => exact ⟨k + 1, by omega, by go_num, H5, M5⟩
      case measure => simp [intOf]; omega
    · have hkk : k = l.length := by omega
      subst hkk
      go_wp2
      go_end0
      exact ⟨rfl, HW.out, HM.out⟩
theorem refPutVecX_any (c : Nat) (s : Ws) (A : Option Addr) (cap : Nat) (l : List Dot) (w0 w : World) (hD : Dots w0 A l) (hg0 : Gr w0 w) (hc : w0.heap.size ≤ c) (h : Rw c ⟨s.1.toArray⟩ s.2 w) (hlen : s.1.length ≤ 10000000) (ho : l.length ≤ 64 ∨ s.2 ≠ 0) :
    Calls Try.prog 133 #[.pointer (some ⟨c, 0, none⟩), .slice A l.length cap] w fun r w' => r = .returned (.tuple #[]) ∧ Rw c ⟨(vput l s).1.toArray⟩ (vput l s).2 w' ∧ Rm c w w' := by
  by_cases he : s.2 ≠ 0
  · rw [vput_err l s he]
    exact refPutVecE_any c s A cap l w0 w hD hg0 hc h hlen he
  · have hl : l.length ≤ 64 := by
      rcases ho with h | h
      · exact h
      · exact absurd h he
    exact refPutVec_any c s A cap l w0 w hD hg0 hc h (by omega)
set_option maxRecDepth 100000 in
theorem refPutLeaf_any (c : Nat) (s : Ws) (A : Option Addr) (cap : Nat) (l : List Vx) (w0 w : World) (hD : Vers w0 A l) (hll : l.length ≤ 1000) (hg0 : Gr w0 w) (hc : w0.heap.size ≤ c) (h : Rw c ⟨s.1.toArray⟩ s.2 w) (hlen : s.1.length ≤ 1000000) :
    Calls Try.prog 74 #[.pointer (some ⟨c, 0, none⟩), .slice A l.length cap] w fun r w' => r = .returned (.tuple #[]) ∧ Rw c ⟨(lput l s).1.toArray⟩ (lput l s).2 w' ∧ Rm c w w' := by
  have HH := Lib.hid h; clear h
  have HD := Lib.hid hD; clear hD
  have hfl := wfail_lenL (leafChk l) s
  have h1l := wnum_len l.length (wfail (leafChk l) s)
  have hok : (∀ x ∈ l, verChk x = 0) ∨ (wnum l.length (wfail (leafChk l) s)).2 ≠ 0 := by
    by_cases h : leafChk l = 0
    · exact Or.inl ((leaf_zero l).1 h).1
    · right
      have he : (wfail (leafChk l) s).2 ≠ 0 := by
        unfold wfail
        split
        · assumption
        · exact h
      rw [wnum_err _ _ he]; exact he
  obtain ⟨s1, hs1⟩ : ∃ s1, wnum l.length (wfail (leafChk l) s) = s1 := ⟨_, rfl⟩
  have HREF := Lib.hid (lput_ref l s)
  have HS1 := Lib.hid hs1
  rw [hs1] at hok h1l
  have HV := Lib.hid (versW_small l s1 hok)
  have HOK := Lib.hid hok
  clear hok hs1
  go_enter Try.func74, Try.ntmps74
  go_wp2_with fail
  refine (refLeaf_any A cap l _ (HD.out.gr hg0)).mono ?_
  rintro r w1 ⟨rfl, hg1⟩
  go_wp2_with fail
  refine (rFail_any c _ _ (leafChk l) _ (HH.out.gr hg1)).mono ?_
  rintro r w2 ⟨rfl, h2, m2⟩
  rw [rfail_eq] at h2
  have H2 := Lib.hid h2
  have M2 := Lib.hid ((Rm.of hg1).trans m2)
  clear h2 m2 hg1
  go_wp2_with fail
  refine (rNum_any c (wfail (leafChk l) s) l.length _ H2.out (by omega)).mono ?_
  rintro r w3 ⟨rfl, h3, m3⟩
  rw [HS1.out] at h3
  have H3 := Lib.hid h3
  have M3 := Lib.hid (M2.out.trans m3)
  clear h3 m3
  go_wp2
  go_loopw [4] (fun i wr => ∃ k : Nat, k ≤ l.length ∧ i = .int .i64 k ∧ Hid (Rw c ⟨(versW (l.take k) s1).1.toArray⟩ (versW (l.take k) s1).2 wr) ∧ Hid (Rm c w wr)) (fun i _ => l.length - (intOf i).toNat)
  case atStart => exact ⟨0, Nat.zero_le _, rfl, H3, M3⟩
  case round =>
    obtain ⟨k, hk, rfl, HW, HM⟩ := hrel
    clear H3 M3 H2 M2
    by_cases hlt : k < l.length
    · have hki : (k : Int) < l.length := by omega
      have hvk := (HV.out k hk).1
      have hst := versW_take hlt s1
      obtain ⟨ad, rfl, hv0, _⟩ := HD.out.2 k hlt
      have hvw : ∀ W, Gr w0 W → VAt W (ad.add (k * 5)) l[k].P l[k].C l[k].A l[k].pl.length l[k].pc l[k].D l[k].T := fun W g => by
        obtain ⟨ad2, e2, _, h⟩ := (HD.out.gr g).2 k hlt
        cases e2
        exact vat_of h
      have hkx : verChk l[k] = 0 ∨ (versW (l.take k) s1).2 ≠ 0 := by
        rcases HOK.out with h | h
        · exact Or.inl (h _ (List.getElem_mem hlt))
        · right; rw [(HV.out k hk).2 h]; exact h
      obtain ⟨x, hx⟩ : ∃ x, l[k] = x := ⟨_, rfl⟩
      rw [hx] at hvw hst hv0 hkx
      obtain ⟨sk, hsk⟩ : ∃ sk, versW (l.take k) s1 = sk := ⟨_, rfl⟩
      rw [hsk] at hst hvk HW hkx
      obtain ⟨q1, q2, q3, q4⟩ := ver_steps x sk hkx
      have hor : x.pl.length ≤ 64 ∨ (wnum x.C (wnum x.P sk)).2 ≠ 0 := by
        rcases hkx with h | h
        · exact Or.inl (okv_len (ver_parts h).2.1)
        · right; rw [wnum_err _ _ h, wnum_err _ _ h]; exact h
      have HOR := Lib.hid hor
      clear hor
      have HST := Lib.hid hst
      have HV0 := Lib.hid hv0
      have HVW := Lib.hid hvw
      clear hst hx hv0 hsk hkx hvw
      obtain ⟨d, _, _, _, _⟩ := HVW.out _ (HM.out.below hg0 hc)
      go_wp2_with fail
      refine (rNum_any c sk x.P _ HW.out (by omega)).mono ?_
      rintro r w4 ⟨rfl, h4, m4⟩
      have H4 := Lib.hid h4
      have M4 := Lib.hid (HM.out.trans m4)
      clear h4 m4 d
      obtain ⟨_, d, _, _, _⟩ := HVW.out _ (M4.out.below hg0 hc)
      go_wp2_with fail
      refine (rNum_any c _ x.C _ H4.out (by omega)).mono ?_
      rintro r w5 ⟨rfl, h5, m5⟩
      have H5 := Lib.hid h5
      have M5 := Lib.hid (M4.out.trans m5)
      clear h5 m5 d
      obtain ⟨_, _, d, _, _⟩ := HVW.out _ (M5.out.below hg0 hc)
      go_wp2_with fail
      refine (refPutVecX_any c _ x.A x.pc x.pl w0 _ HV0.out.1 (M5.out.below hg0 hc) hc H5.out (by omega) HOR.out).mono ?_
      rintro r w6 ⟨rfl, h6, m6⟩
      have H6 := Lib.hid h6
      have M6 := Lib.hid (M5.out.trans m6)
      clear h6 m6 d
      obtain ⟨_, _, _, d, _⟩ := HVW.out _ (M6.out.below hg0 hc)
      go_wp2_with fail
      refine (rFlag_any c _ _ x.D _ H6.out (by rw [sizeL]; omega)).mono ?_
      rintro r w7 ⟨rfl, h7, m7⟩
      have e7 := rput_eq true ⟨#[if x.D then 1 else 0]⟩ (vput x.pl (wnum x.C (wnum x.P sk)))
      rw [e7] at h7
      have H7 : Hid (Rw c ⟨(wflag x.D (vput x.pl (wnum x.C (wnum x.P sk)))).1.toArray⟩ (wflag x.D (vput x.pl (wnum x.C (wnum x.P sk)))).2 w7) := h7
      have M7 := Lib.hid (M6.out.trans m7)
      clear h7 m7 d e7
      obtain ⟨_, _, _, _, d⟩ := HVW.out _ (M7.out.below hg0 hc)
      go_wp2_with fail
      refine (rText_any c _ _ x.T _ H7.out (by rw [sizeL]; omega) HV0.out.2).mono ?_
      rintro r w8 ⟨rfl, h8, m8⟩
      have e8 := rput_eq (decide (x.T.size ≤ 65536)) (putS x.T.size ++ x.T) (wflag x.D (vput x.pl (wnum x.C (wnum x.P sk))))
      have e9 : (putS x.T.size ++ x.T).data.toList = (putS x.T.size).data.toList ++ x.T.data.toList := by simp
      rw [e8, e9] at h8
      have H8 : Hid (Rw c ⟨(versW (l.take (k + 1)) s1).1.toArray⟩ (versW (l.take (k + 1)) s1).2 w8) := by show Rw _ _ _ _; rw [HST.out]; exact h8
      have M8 := Lib.hid (M7.out.trans m8)
      clear h8 m8 d e8 e9
      go_wp2
      go_roundw
      case rel => exact ⟨k + 1, by omega, by go_num, H8, M8⟩
      case measure => simp [intOf]; omega
    · have hkk : k = l.length := by omega
      subst hkk
      rw [List.take_length] at HW
      go_wp2
      go_end0
      have := HW.out
      rw [← HS1.out, HREF.out] at this
      exact ⟨rfl, this, HM.out⟩
set_option maxRecDepth 100000 in
theorem refLeafOf_any (A : Option Addr) (cap : Nat) (l : List Vx) (w : World) (hD : Vers w A l) (hll : l.length ≤ 1000) :
    Calls Try.prog 21 #[.slice A l.length cap] w fun r w' =>
      r = .returned (.tuple #[.string ⟨(doneV (lput l ([], 0))).1.toArray⟩, .int .i64 (doneV (lput l ([], 0))).2]) ∧ Gr w w' := by
  have HD := Lib.hid hD; clear hD
  have HW := Lib.hid (Rw.new w)
  have hga := Lib.hid ((Gr.rfl' w).al (.cells #[.string ⟨#[]⟩, .int .i64 0] 84))
  go_enter Try.func21, Try.ntmps21
  go_wp2_with fail
  refine (refPutLeaf_any _ ([], 0) A cap l w _ HD.out hll hga.out (Nat.le_refl _) HW.out (by simp)).mono ?_
  rintro r w1 ⟨rfl, h1, m1⟩
  have H1 := Lib.hid h1
  have hg1 := m1.below hga.out (Nat.le_refl _)
  clear h1 m1
  go_wp2_with fail
  refine (rDone_any _ _ _ _ H1.out).mono ?_
  rintro r w2 ⟨rfl, hg2⟩
  rw [rdone_eq]
  go_wp2
  go_ret2
  exact ⟨rfl, hg1.tr hg2⟩
end Go.Proofs.Ytfobnemocodomaa
