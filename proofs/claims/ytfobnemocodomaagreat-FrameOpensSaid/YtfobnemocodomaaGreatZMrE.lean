/- message.Read: the walk. -/
import Derived.Test.YtfobnemocodomaaGreatZBy
set_option linter.unusedVariables false
set_option linter.unusedSimpArgs false
set_option maxHeartbeats 4000000
namespace Go.Proofs.YtfobnemocodomaaGreat
open Go.RowKit Go.Shelf Go.Great

theorem rdHead_of {S : ByteArray} {k : Int} {s1 : Rst} {f : Int} {s2 : Rst} {t : Int} {s3 : Rst} {d : Int} {s4 : Rst} (hk : rdKind S = (k, s1)) (hf : numM 63 s1.1 s1.2 = (f, s2)) (ht : numM 63 s2.1 s2.2 = (t, s3)) (hd : numM 1048576 s3.1 s3.2 = (d, s4)) :
    rdHead S = ({ zMx with K := k, F := f, To := t, Sd := d }, s4) := by
  unfold rdHead num2
  simp only [hk, hf, ht, hd]
theorem readM_err {S : ByteArray} (h : rdDone (rdAll S).2.1 (rdAll S).2.2 ≠ 0) : readM S = (zMx, rdDone (rdAll S).2.1 (rdAll S).2.2) := by unfold readM; rw [if_pos h]
theorem readM_bad {S : ByteArray} (h0 : rdDone (rdAll S).2.1 (rdAll S).2.2 = 0) (h : mChk (rdAll S).1 ≠ 0) : readM S = (zMx, mChk (rdAll S).1) := by unfold readM; rw [if_neg (by simpa using h0), if_pos h]
theorem readM_ok {S : ByteArray} (h0 : rdDone (rdAll S).2.1 (rdAll S).2.2 = 0) (h : mChk (rdAll S).1 = 0) : readM S = ((rdAll S).1, 0) := by unfold readM; rw [if_neg (by simpa using h0), if_neg (by simpa using h)]
set_option maxRecDepth 100000 in
theorem mReadN_any (S : ByteArray) (w : World) (hS : S.size ≤ 9223372036854775807) (hP : Pt.Mx w) :
    Calls Tryz.prog 14 #[.string S] w fun r w' => ReadN S w r w' := by
  obtain ⟨W0, hW0⟩ : ∃ W0, w.alloc (.cells zMx.cells 37) = W0 := ⟨_, rfl⟩
  have HR0 : Hid (MAt W0 w.heap.size zMx) := Lib.hid (by rw [← hW0]; exact World.alloc_heap_new w _)
  have HG0 : Hid (Gr w W0) := Lib.hid (by rw [← hW0]; exact (Gr.rfl' w).al _)
  have HPP := Lib.hid (hP.gr HG0.out)
  have HS := Lib.hid hS
  have HNW := Lib.hid (New_any S W0)
  have HRN : Hid (Sr 109 W0.heap.size S 0 (W0.alloc (.cells #[.string S, .int .i64 0] 109))) := Lib.hid (Sr.made W0 _ S)
  have HGN : Hid (Gr W0 (W0.alloc (.cells #[.string S, .int .i64 0] 109))) := Lib.hid ((Gr.rfl' W0).al _)
  obtain ⟨b, hb⟩ : ∃ b, W0.heap.size = b := ⟨_, rfl⟩
  have HBB : Hid (W0.heap.size = b ∧ w.heap.size < b) := Lib.hid ⟨hb, by have := (Array.getElem?_eq_some_iff.1 HR0.out).1; omega⟩
  rw [hb] at HNW HRN
  clear hP hS hb
  obtain ⟨W1, hW1⟩ : ∃ W1, W0.alloc (.cells #[.string S, .int .i64 0] 109) = W1 := ⟨_, rfl⟩
  rw [hW1] at HNW HRN HGN
  clear hW1
  have HN0 := Lib.hid (dNumber_any b S 0 1073741824 W1 HRN.out HS.out)
  have HZ0 := Lib.hid (numM_szR 1073741824 S 0)
  obtain ⟨k, Sa, e0, hk⟩ : ∃ k Sa e0, numM 1073741824 S 0 = (k, Sa, e0) := ⟨_, _, _, rfl⟩
  have HKD : Hid (rdKind S = (k, Sa, if e0 = 0 then (if k < 1 ∨ 6 < k then 15 else 0) else e0)) := Lib.hid (by unfold rdKind; simp only [hk])
  simp only [hk] at HN0 HZ0
  clear hk
  go_enter Tryz.func14, Tryz.ntmps14
  go_wp2_with (first
    | refine allocM rfl rfl ?_)
  clear hW0
  refine (HNW.out).mono ?_
  rintro r wn ⟨rfl, rfl⟩
  go_wp2_with fail
  refine (HN0.out).mono ?_
  rintro r w1 ⟨rfl, h1, m1⟩
  have HS1 := Lib.hid h1
  have HG1 := Lib.hid (m1.below HGN.out (Nat.le_of_eq HBB.out.1))
  clear h1 m1 HN0 HNW HRN HGN
  go_upto_region 3 with (first
    | refine buildK k _ rfl rfl rfl ?_
    | refine allocM rfl rfl ?_
    | (refine storeM ({ zMx with K := k } : Mx) Z32L_len rfl (.tmp 5) _ rfl rfl rfl rfl ?_; intro w2 hx1 hg1; have HX1 := Lib.hid hx1; have HX2 := Lib.hid hg1; clear hx1 hg1))
  obtain ⟨g, hg⟩ : ∃ g, w1.heap.size = g := ⟨_, rfl⟩
  rw [hg] at HX1 ⊢
  have HGB : Hid (b < g) := Lib.hid (by have := (Array.getElem?_eq_some_iff.1 HS1.out).1; omega)
  obtain ⟨B, hB⟩ : ∃ B, g + 1 = B := ⟨_, rfl⟩
  have HT : Hid (TK 109 W0 b B g { zMx with K := k } (Sa, e0) w2) := Lib.hid (by
    have hl := (Array.getElem?_eq_some_iff.1 HX1.out).1
    have hgb := HGB.out
    refine ⟨(HX2.out.block b (Array.getElem?_eq_some_iff.1 HS1.out).1).trans HS1.out, Nat.le_trans HZ0.out HS.out, ⟨HX1.out, Z32L_len, by show (⟨#[]⟩ : ByteArray).size ≤ _; decide, by show (⟨#[]⟩ : ByteArray).size ≤ _; decide, Dots.nil _ _, Nat.le_refl _, (fun D hD => by cases hD), RowW.nil _ _, fun D hD => by cases hD⟩, by omega, by omega, by omega, by omega, HG1.out.tr HX2.out, Nat.le_of_eq HBB.out.1, by have := HBB.out.1; omega⟩)
  clear hg hB HS1 HG1 HX1 HX2 HZ0 HS
  have HER := Lib.hid (Err_any b Sa e0 w2 HT.out.rd)
  have c0 := (mxAt HT.out.ms.lies HT.out.ms.dig).c0
  go_wp2_with fail
  refine (HER.out).mono ?_
  rintro r w3 ⟨rfl, rfl⟩
  clear HER
  by_cases he0 : e0 = 0; rotate_left
  · have heb : (e0 == 0) = false := by simpa using he0
    obtain ⟨s1, hs1⟩ : ∃ s1 : Rst, (Sa, e0) = s1 := ⟨_, rfl⟩
    have HKK : Hid (rdKind S = (k, s1)) := Lib.hid (by rw [HKD.out, if_neg he0, hs1])
    rw [hs1] at HT
    clear he0 hs1 HKD
    have HN1 := Lib.hid (dNumber_any b s1.1 s1.2 63 _ HT.out.rd HT.out.sz)
    have HZ1 := Lib.hid (numM_szR 63 s1.1 s1.2)
    obtain ⟨f, s2, hf⟩ : ∃ f s2, numM 63 s1.1 s1.2 = (f, s2) := ⟨_, _, rfl⟩
    simp only [hf] at HN1 HZ1
    have HF := Lib.hid hf
    clear hf
    go_wp2_with fail
    refine (HN1.out).mono ?_
    rintro r w4 ⟨rfl, h4, m4⟩
    have HT4 := Lib.hid (HT.out.take (s' := s2) h4 HZ1.out m4)
    clear h4 m4 HN1 HZ1 HT
    have HN2 := Lib.hid (dNumber_any b s2.1 s2.2 63 w4 HT4.out.rd HT4.out.sz)
    have HZ2 := Lib.hid (numM_szR 63 s2.1 s2.2)
    obtain ⟨tt, s3, ht⟩ : ∃ tt s3, numM 63 s2.1 s2.2 = (tt, s3) := ⟨_, _, rfl⟩
    simp only [ht] at HN2 HZ2
    have HTT := Lib.hid ht
    clear ht
    go_wp2_with fail
    refine (HN2.out).mono ?_
    rintro r w5 ⟨rfl, h5, m5⟩
    have HT5 := Lib.hid (HT4.out.take (s' := s3) h5 HZ2.out m5)
    clear h5 m5 HN2 HZ2 HT4
    have HA := mxAt HT5.out.ms.lies HT5.out.ms.dig
    have c1 := HA.c1
    have c2 := HA.c2
    have f1 := mat_frz HT5.out.ms.lies 1
    have f2 := mat_frz HT5.out.ms.lies 2
    have HT6 := Lib.hid ((HT5.out.setF f).setTo tt)
    clear HA HT5
    go_upto_region 6 with (fail)
    clear c1 c2 f1 f2
    generalize (w5.setCell ⟨g, 1, none⟩ (.int .i64 f)).setCell ⟨g, 2, none⟩ (.int .i64 tt) = w6 at HT6 ⊢
    have HN3 := Lib.hid (dNumber_any b s3.1 s3.2 1048576 w6 HT6.out.rd HT6.out.sz)
    have HZ3 := Lib.hid (numM_szR 1048576 s3.1 s3.2)
    obtain ⟨sd, s4, hd⟩ : ∃ sd s4, numM 1048576 s3.1 s3.2 = (sd, s4) := ⟨_, _, rfl⟩
    simp only [hd] at HN3 HZ3
    have HRH := Lib.hid (rdHead_of HKK.out HF.out HTT.out hd)
    clear hd HF HTT
    go_wp2_with fail
    refine (HN3.out).mono ?_
    rintro r w7 ⟨rfl, h7, m7⟩
    have HT7 := Lib.hid (HT6.out.take (s' := s4) h7 HZ3.out m7)
    clear h7 m7 HN3 HZ3 HT6
    have c3 := (mxAt HT7.out.ms.lies HT7.out.ms.dig).c3
    have f3 := mat_frz HT7.out.ms.lies 3
    have HT8 := Lib.hid (HT7.out.setSd sd)
    clear HT7
    go_upto_region 7 with (fail)
    clear c3 f3
    generalize w7.setCell ⟨g, 3, none⟩ (.int .i64 sd) = w8 at HT8 ⊢
    have HOW := Lib.hid (ownT_any HT8.out ⟨rfl, rfl, rfl⟩)
    go_wp2_with fail
    refine (HOW.out).mono ?_
    rintro r w9 ⟨rfl, y, hy, h9⟩
    have HAL : Hid (rdAll S = (mst y, (rdBody (rdHead S).1 (rdHead S).2).2)) := Lib.hid (by
      unfold rdAll
      rw [HRH.out]
      exact Prod.ext hy.symm rfl)
    have HT9 : Hid (TK 109 W0 b B g y (rdBody (rdHead S).1 (rdHead S).2).2 w9) := Lib.hid (by rw [HRH.out]; exact h9)
    clear hy h9 HOW HT8 HRH HKK
    obtain ⟨s9, hs9⟩ : ∃ s9, (rdBody (rdHead S).1 (rdHead S).2).2 = s9 := ⟨_, rfl⟩
    rw [hs9] at HAL HT9
    clear hs9
    have HPA : Hid (y.Pa.size ≤ 51) := Lib.hid (by have h1 := rdAll_pa S; rw [HAL.out] at h1; exact h1)
    have HRX : Hid (MAt w9 w.heap.size zMx) := Lib.hid (mat_gr HR0.out HT9.out.gr)
    have HGX : Hid (Gr w w9) := Lib.hid (HG0.out.tr HT9.out.gr)
    have HDN := Lib.hid (dDone_any b s9.1 s9.2 w9 HT9.out.rd)
    go_wp2_with fail
    refine (HDN.out).mono ?_
    rintro r w10 ⟨rfl, rfl⟩
    clear HDN
    by_cases he : rdDone s9.1 s9.2 = 0; rotate_left
    · have heb : (rdDone s9.1 s9.2 == 0) = false := by simpa using he
      have heb2 : (rdDone s9.1 s9.2 != 0) = true := by simpa using he
      have HRD : Hid (readM S = (zMx, rdDone s9.1 s9.2)) := Lib.hid (by
        have h1 := readM_err (S := S) (by rw [HAL.out]; exact he)
        rw [h1, HAL.out])
      clear he
      obtain ⟨ev, hev⟩ : ∃ ev, rdDone s9.1 s9.2 = ev := ⟨_, rfl⟩
      rw [hev] at heb heb2 HRD ⊢
      clear hev
      go_wp2_with (first
        | refine buildZM rfl rfl ?_
        | ((with_reducible refine at_st 37 (.tmp 2) (.tmp 48) ?_); refine storeMR zMx zMx Z32L_len Z32L_len w.heap.size rfl _ _ rfl rfl rfl rfl HRX.out ?_; intro wz hz1 hz2; have HZ1 := Lib.hid hz1; have HZ2 := Lib.hid hz2; clear hz1 hz2))
      have hld := ldMsg HZ1.out Z32L_len
      refine bodyPost_ret (v := .tuple #[.agg zMx.cells, .int .i64 ev]) ?_ rfl ?_
      · simp [results, Tryz.results14, Act.put, asAR, hld]
      exact ⟨zMx, ev, rfl, by rw [HRD.out]; rfl, zMx_ok _, HZ2.out.below HGX.out (Nat.le_refl _), fun _ _ => zMx_ok _⟩
    have HE0 := Lib.hid he
    rw [he]
    clear he
    have HPX := Lib.hid (HPP.out.gr HT9.out.gr)
    have HCK := Lib.hid (mCheck_any y _ HPX.out (by have := HPA.out; omega) HT9.out.ms.ok)
    go_wp2_with (first
      | ((with_reducible refine at_ld 37 (.tmp 5) ?_); refine loadM y HT9.out.ms.dig rfl (.tmp 5) rfl g rfl HT9.out.ms.lies ?_))
    refine (HCK.out).mono ?_
    rintro r w11 ⟨rfl, g11⟩
    replace HRX := Lib.hid (mat_gr HRX.out g11)
    replace HGX := Lib.hid (HGX.out.tr g11)
    have HT11 := Lib.hid (HT9.out.more g11)
    clear g11 HCK HPX HT9
    by_cases hc : mChk y = 0; rotate_left
    · have heb2 : (mChk y != 0) = true := by simpa using hc
      have HRD : Hid (readM S = (zMx, mChk y)) := Lib.hid (by
        have h1 := readM_bad (S := S) (by rw [HAL.out]; exact HE0.out) (by rw [HAL.out]; show mChk (mst y) ≠ 0; rw [mChk_mst]; exact hc)
        rw [h1, HAL.out]
        show (zMx, mChk (mst y)) = _
        rw [mChk_mst])
      clear hc
      obtain ⟨ev, hev⟩ : ∃ ev, mChk y = ev := ⟨_, rfl⟩
      rw [hev] at heb2 HRD ⊢
      clear hev
      go_wp2_with (first
        | refine buildZM rfl rfl ?_
        | ((with_reducible refine at_st 37 (.tmp 2) (.tmp 48) ?_); refine storeMR zMx zMx Z32L_len Z32L_len w.heap.size rfl _ _ rfl rfl rfl rfl HRX.out ?_; intro wz hz1 hz2; have HZ1 := Lib.hid hz1; have HZ2 := Lib.hid hz2; clear hz1 hz2))
      have hld := ldMsg HZ1.out Z32L_len
      refine bodyPost_ret (v := .tuple #[.agg zMx.cells, .int .i64 ev]) ?_ rfl ?_
      · simp [results, Tryz.results14, Act.put, asAR, hld]
      exact ⟨zMx, ev, rfl, by rw [HRD.out]; rfl, zMx_ok _, HZ2.out.below HGX.out (Nat.le_refl _), fun _ _ => zMx_ok _⟩
    have HRD : Hid (readM S = (mst y, 0)) := Lib.hid (by
      have h1 := readM_ok (S := S) (by rw [HAL.out]; exact HE0.out) (by rw [HAL.out]; show mChk (mst y) = 0; rw [mChk_mst]; exact hc)
      rw [h1, HAL.out])
    rw [hc]
    clear hc
    go_wp2_with (first
      | ((with_reducible refine at_ld 37 (.tmp 5) ?_); refine loadM y HT11.out.ms.dig rfl (.tmp 5) rfl g rfl HT11.out.ms.lies ?_)
      | ((with_reducible refine at_st 37 (.tmp 2) (.tmp 50) ?_); refine storeMR y zMx HT11.out.ms.dig Z32L_len w.heap.size rfl _ _ rfl rfl rfl rfl HRX.out ?_; intro wz hz1 hz2; have HZ1 := Lib.hid hz1; have HZ2 := Lib.hid hz2; clear hz1 hz2))
    have hld := ldMsg HZ1.out HT11.out.ms.dig
    refine bodyPost_ret (v := .tuple #[.agg y.cells, .int .i64 0]) ?_ rfl ?_
    · simp [results, Tryz.results14, Act.put, asAR, hld]
    exact ⟨y, 0, rfl, HRD.out.symm, (HT11.out.ms.rm HZ2.out (by have := HBB.out; have := HT11.out.hb; omega) (by have := HBB.out; have := HGB.out; omega)).ok, HZ2.out.below HGX.out (Nat.le_refl _), fun W2 h2 => (HT11.out.ms.rm HZ2.out (by have := HBB.out; have := HT11.out.hb; omega) (by have := HBB.out; have := HGB.out; omega)).keep (fun j h1 h3 => h2 j (by have := HBB.out; have := HT11.out.hb; omega) h3)⟩
  subst he0
  by_cases k1 : k < 1
  · have HFL := Lib.hid (dFail_any b Sa 0 15 w3 HT.out.rd)
    have HKK : Hid (rdKind S = (k, Sa, 15)) := Lib.hid (by rw [HKD.out, if_pos rfl, if_pos (Or.inl k1)])
    clear HKD
    go_wp2_with fail
    refine (HFL.out).mono ?_
    rintro r wf ⟨rfl, hf1, mf1⟩
    replace HT := Lib.hid (HT.out.take (s' := (Sa, 15)) hf1 (Nat.le_refl _) mf1)
    clear hf1 mf1 HFL c0
    obtain ⟨s1, hs1⟩ : ∃ s1 : Rst, (Sa, (15 : Int)) = s1 := ⟨_, rfl⟩
    rw [hs1] at HT HKK
    clear hs1
    have HN1 := Lib.hid (dNumber_any b s1.1 s1.2 63 _ HT.out.rd HT.out.sz)
    have HZ1 := Lib.hid (numM_szR 63 s1.1 s1.2)
    obtain ⟨f, s2, hf⟩ : ∃ f s2, numM 63 s1.1 s1.2 = (f, s2) := ⟨_, _, rfl⟩
    simp only [hf] at HN1 HZ1
    have HF := Lib.hid hf
    clear hf
    go_wp2_with fail
    refine (HN1.out).mono ?_
    rintro r w4 ⟨rfl, h4, m4⟩
    have HT4 := Lib.hid (HT.out.take (s' := s2) h4 HZ1.out m4)
    clear h4 m4 HN1 HZ1 HT
    have HN2 := Lib.hid (dNumber_any b s2.1 s2.2 63 w4 HT4.out.rd HT4.out.sz)
    have HZ2 := Lib.hid (numM_szR 63 s2.1 s2.2)
    obtain ⟨tt, s3, ht⟩ : ∃ tt s3, numM 63 s2.1 s2.2 = (tt, s3) := ⟨_, _, rfl⟩
    simp only [ht] at HN2 HZ2
    have HTT := Lib.hid ht
    clear ht
    go_wp2_with fail
    refine (HN2.out).mono ?_
    rintro r w5 ⟨rfl, h5, m5⟩
    have HT5 := Lib.hid (HT4.out.take (s' := s3) h5 HZ2.out m5)
    clear h5 m5 HN2 HZ2 HT4
    have HA := mxAt HT5.out.ms.lies HT5.out.ms.dig
    have c1 := HA.c1
    have c2 := HA.c2
    have f1 := mat_frz HT5.out.ms.lies 1
    have f2 := mat_frz HT5.out.ms.lies 2
    have HT6 := Lib.hid ((HT5.out.setF f).setTo tt)
    clear HA HT5
    go_upto_region 6 with (fail)
    clear c1 c2 f1 f2
    generalize (w5.setCell ⟨g, 1, none⟩ (.int .i64 f)).setCell ⟨g, 2, none⟩ (.int .i64 tt) = w6 at HT6 ⊢
    have HN3 := Lib.hid (dNumber_any b s3.1 s3.2 1048576 w6 HT6.out.rd HT6.out.sz)
    have HZ3 := Lib.hid (numM_szR 1048576 s3.1 s3.2)
    obtain ⟨sd, s4, hd⟩ : ∃ sd s4, numM 1048576 s3.1 s3.2 = (sd, s4) := ⟨_, _, rfl⟩
    simp only [hd] at HN3 HZ3
    have HRH := Lib.hid (rdHead_of HKK.out HF.out HTT.out hd)
    clear hd HF HTT
    go_wp2_with fail
    refine (HN3.out).mono ?_
    rintro r w7 ⟨rfl, h7, m7⟩
    have HT7 := Lib.hid (HT6.out.take (s' := s4) h7 HZ3.out m7)
    clear h7 m7 HN3 HZ3 HT6
    have c3 := (mxAt HT7.out.ms.lies HT7.out.ms.dig).c3
    have f3 := mat_frz HT7.out.ms.lies 3
    have HT8 := Lib.hid (HT7.out.setSd sd)
    clear HT7
    go_upto_region 7 with (fail)
    clear c3 f3
    generalize w7.setCell ⟨g, 3, none⟩ (.int .i64 sd) = w8 at HT8 ⊢
    have HOW := Lib.hid (ownT_any HT8.out ⟨rfl, rfl, rfl⟩)
    go_wp2_with fail
    refine (HOW.out).mono ?_
    rintro r w9 ⟨rfl, y, hy, h9⟩
    have HAL : Hid (rdAll S = (mst y, (rdBody (rdHead S).1 (rdHead S).2).2)) := Lib.hid (by
      unfold rdAll
      rw [HRH.out]
      exact Prod.ext hy.symm rfl)
    have HT9 : Hid (TK 109 W0 b B g y (rdBody (rdHead S).1 (rdHead S).2).2 w9) := Lib.hid (by rw [HRH.out]; exact h9)
    clear hy h9 HOW HT8 HRH HKK
    obtain ⟨s9, hs9⟩ : ∃ s9, (rdBody (rdHead S).1 (rdHead S).2).2 = s9 := ⟨_, rfl⟩
    rw [hs9] at HAL HT9
    clear hs9
    have HPA : Hid (y.Pa.size ≤ 51) := Lib.hid (by have h1 := rdAll_pa S; rw [HAL.out] at h1; exact h1)
    have HRX : Hid (MAt w9 w.heap.size zMx) := Lib.hid (mat_gr HR0.out HT9.out.gr)
    have HGX : Hid (Gr w w9) := Lib.hid (HG0.out.tr HT9.out.gr)
    have HDN := Lib.hid (dDone_any b s9.1 s9.2 w9 HT9.out.rd)
    go_wp2_with fail
    refine (HDN.out).mono ?_
    rintro r w10 ⟨rfl, rfl⟩
    clear HDN
    by_cases he : rdDone s9.1 s9.2 = 0; rotate_left
    · have heb : (rdDone s9.1 s9.2 == 0) = false := by simpa using he
      have heb2 : (rdDone s9.1 s9.2 != 0) = true := by simpa using he
      have HRD : Hid (readM S = (zMx, rdDone s9.1 s9.2)) := Lib.hid (by
        have h1 := readM_err (S := S) (by rw [HAL.out]; exact he)
        rw [h1, HAL.out])
      clear he
      obtain ⟨ev, hev⟩ : ∃ ev, rdDone s9.1 s9.2 = ev := ⟨_, rfl⟩
      rw [hev] at heb heb2 HRD ⊢
      clear hev
      go_wp2_with (first
        | refine buildZM rfl rfl ?_
        | ((with_reducible refine at_st 37 (.tmp 2) (.tmp 48) ?_); refine storeMR zMx zMx Z32L_len Z32L_len w.heap.size rfl _ _ rfl rfl rfl rfl HRX.out ?_; intro wz hz1 hz2; have HZ1 := Lib.hid hz1; have HZ2 := Lib.hid hz2; clear hz1 hz2))
      have hld := ldMsg HZ1.out Z32L_len
      refine bodyPost_ret (v := .tuple #[.agg zMx.cells, .int .i64 ev]) ?_ rfl ?_
      · simp [results, Tryz.results14, Act.put, asAR, hld]
      exact ⟨zMx, ev, rfl, by rw [HRD.out]; rfl, zMx_ok _, HZ2.out.below HGX.out (Nat.le_refl _), fun _ _ => zMx_ok _⟩
    have HE0 := Lib.hid he
    rw [he]
    clear he
    have HPX := Lib.hid (HPP.out.gr HT9.out.gr)
    have HCK := Lib.hid (mCheck_any y _ HPX.out (by have := HPA.out; omega) HT9.out.ms.ok)
    go_wp2_with (first
      | ((with_reducible refine at_ld 37 (.tmp 5) ?_); refine loadM y HT9.out.ms.dig rfl (.tmp 5) rfl g rfl HT9.out.ms.lies ?_))
    refine (HCK.out).mono ?_
    rintro r w11 ⟨rfl, g11⟩
    replace HRX := Lib.hid (mat_gr HRX.out g11)
    replace HGX := Lib.hid (HGX.out.tr g11)
    have HT11 := Lib.hid (HT9.out.more g11)
    clear g11 HCK HPX HT9
    by_cases hc : mChk y = 0; rotate_left
    · have heb2 : (mChk y != 0) = true := by simpa using hc
      have HRD : Hid (readM S = (zMx, mChk y)) := Lib.hid (by
        have h1 := readM_bad (S := S) (by rw [HAL.out]; exact HE0.out) (by rw [HAL.out]; show mChk (mst y) ≠ 0; rw [mChk_mst]; exact hc)
        rw [h1, HAL.out]
        show (zMx, mChk (mst y)) = _
        rw [mChk_mst])
      clear hc
      obtain ⟨ev, hev⟩ : ∃ ev, mChk y = ev := ⟨_, rfl⟩
      rw [hev] at heb2 HRD ⊢
      clear hev
      go_wp2_with (first
        | refine buildZM rfl rfl ?_
        | ((with_reducible refine at_st 37 (.tmp 2) (.tmp 48) ?_); refine storeMR zMx zMx Z32L_len Z32L_len w.heap.size rfl _ _ rfl rfl rfl rfl HRX.out ?_; intro wz hz1 hz2; have HZ1 := Lib.hid hz1; have HZ2 := Lib.hid hz2; clear hz1 hz2))
      have hld := ldMsg HZ1.out Z32L_len
      refine bodyPost_ret (v := .tuple #[.agg zMx.cells, .int .i64 ev]) ?_ rfl ?_
      · simp [results, Tryz.results14, Act.put, asAR, hld]
      exact ⟨zMx, ev, rfl, by rw [HRD.out]; rfl, zMx_ok _, HZ2.out.below HGX.out (Nat.le_refl _), fun _ _ => zMx_ok _⟩
    have HRD : Hid (readM S = (mst y, 0)) := Lib.hid (by
      have h1 := readM_ok (S := S) (by rw [HAL.out]; exact HE0.out) (by rw [HAL.out]; show mChk (mst y) = 0; rw [mChk_mst]; exact hc)
      rw [h1, HAL.out])
    rw [hc]
    clear hc
    go_wp2_with (first
      | ((with_reducible refine at_ld 37 (.tmp 5) ?_); refine loadM y HT11.out.ms.dig rfl (.tmp 5) rfl g rfl HT11.out.ms.lies ?_)
      | ((with_reducible refine at_st 37 (.tmp 2) (.tmp 50) ?_); refine storeMR y zMx HT11.out.ms.dig Z32L_len w.heap.size rfl _ _ rfl rfl rfl rfl HRX.out ?_; intro wz hz1 hz2; have HZ1 := Lib.hid hz1; have HZ2 := Lib.hid hz2; clear hz1 hz2))
    have hld := ldMsg HZ1.out HT11.out.ms.dig
    refine bodyPost_ret (v := .tuple #[.agg y.cells, .int .i64 0]) ?_ rfl ?_
    · simp [results, Tryz.results14, Act.put, asAR, hld]
    exact ⟨y, 0, rfl, HRD.out.symm, (HT11.out.ms.rm HZ2.out (by have := HBB.out; have := HT11.out.hb; omega) (by have := HBB.out; have := HGB.out; omega)).ok, HZ2.out.below HGX.out (Nat.le_refl _), fun W2 h2 => (HT11.out.ms.rm HZ2.out (by have := HBB.out; have := HT11.out.hb; omega) (by have := HBB.out; have := HGB.out; omega)).keep (fun j h1 h3 => h2 j (by have := HBB.out; have := HT11.out.hb; omega) h3)⟩
  by_cases k6 : 6 < k
  · have HFL := Lib.hid (dFail_any b Sa 0 15 w3 HT.out.rd)
    have HKK : Hid (rdKind S = (k, Sa, 15)) := Lib.hid (by rw [HKD.out, if_pos rfl, if_pos (Or.inr k6)])
    clear HKD
    go_wp2_with fail
    refine (HFL.out).mono ?_
    rintro r wf ⟨rfl, hf1, mf1⟩
    replace HT := Lib.hid (HT.out.take (s' := (Sa, 15)) hf1 (Nat.le_refl _) mf1)
    clear hf1 mf1 HFL c0
    obtain ⟨s1, hs1⟩ : ∃ s1 : Rst, (Sa, (15 : Int)) = s1 := ⟨_, rfl⟩
    rw [hs1] at HT HKK
    clear hs1
    have HN1 := Lib.hid (dNumber_any b s1.1 s1.2 63 _ HT.out.rd HT.out.sz)
    have HZ1 := Lib.hid (numM_szR 63 s1.1 s1.2)
    obtain ⟨f, s2, hf⟩ : ∃ f s2, numM 63 s1.1 s1.2 = (f, s2) := ⟨_, _, rfl⟩
    simp only [hf] at HN1 HZ1
    have HF := Lib.hid hf
    clear hf
    go_wp2_with fail
    refine (HN1.out).mono ?_
    rintro r w4 ⟨rfl, h4, m4⟩
    have HT4 := Lib.hid (HT.out.take (s' := s2) h4 HZ1.out m4)
    clear h4 m4 HN1 HZ1 HT
    have HN2 := Lib.hid (dNumber_any b s2.1 s2.2 63 w4 HT4.out.rd HT4.out.sz)
    have HZ2 := Lib.hid (numM_szR 63 s2.1 s2.2)
    obtain ⟨tt, s3, ht⟩ : ∃ tt s3, numM 63 s2.1 s2.2 = (tt, s3) := ⟨_, _, rfl⟩
    simp only [ht] at HN2 HZ2
    have HTT := Lib.hid ht
    clear ht
    go_wp2_with fail
    refine (HN2.out).mono ?_
    rintro r w5 ⟨rfl, h5, m5⟩
    have HT5 := Lib.hid (HT4.out.take (s' := s3) h5 HZ2.out m5)
    clear h5 m5 HN2 HZ2 HT4
    have HA := mxAt HT5.out.ms.lies HT5.out.ms.dig
    have c1 := HA.c1
    have c2 := HA.c2
    have f1 := mat_frz HT5.out.ms.lies 1
    have f2 := mat_frz HT5.out.ms.lies 2
    have HT6 := Lib.hid ((HT5.out.setF f).setTo tt)
    clear HA HT5
    go_upto_region 6 with (fail)
    clear c1 c2 f1 f2
    generalize (w5.setCell ⟨g, 1, none⟩ (.int .i64 f)).setCell ⟨g, 2, none⟩ (.int .i64 tt) = w6 at HT6 ⊢
    have HN3 := Lib.hid (dNumber_any b s3.1 s3.2 1048576 w6 HT6.out.rd HT6.out.sz)
    have HZ3 := Lib.hid (numM_szR 1048576 s3.1 s3.2)
    obtain ⟨sd, s4, hd⟩ : ∃ sd s4, numM 1048576 s3.1 s3.2 = (sd, s4) := ⟨_, _, rfl⟩
    simp only [hd] at HN3 HZ3
    have HRH := Lib.hid (rdHead_of HKK.out HF.out HTT.out hd)
    clear hd HF HTT
    go_wp2_with fail
    refine (HN3.out).mono ?_
    rintro r w7 ⟨rfl, h7, m7⟩
    have HT7 := Lib.hid (HT6.out.take (s' := s4) h7 HZ3.out m7)
    clear h7 m7 HN3 HZ3 HT6
    have c3 := (mxAt HT7.out.ms.lies HT7.out.ms.dig).c3
    have f3 := mat_frz HT7.out.ms.lies 3
    have HT8 := Lib.hid (HT7.out.setSd sd)
    clear HT7
    go_upto_region 7 with (fail)
    clear c3 f3
    generalize w7.setCell ⟨g, 3, none⟩ (.int .i64 sd) = w8 at HT8 ⊢
    have HOW := Lib.hid (ownT_any HT8.out ⟨rfl, rfl, rfl⟩)
    go_wp2_with fail
    refine (HOW.out).mono ?_
    rintro r w9 ⟨rfl, y, hy, h9⟩
    have HAL : Hid (rdAll S = (mst y, (rdBody (rdHead S).1 (rdHead S).2).2)) := Lib.hid (by
      unfold rdAll
      rw [HRH.out]
      exact Prod.ext hy.symm rfl)
    have HT9 : Hid (TK 109 W0 b B g y (rdBody (rdHead S).1 (rdHead S).2).2 w9) := Lib.hid (by rw [HRH.out]; exact h9)
    clear hy h9 HOW HT8 HRH HKK
    obtain ⟨s9, hs9⟩ : ∃ s9, (rdBody (rdHead S).1 (rdHead S).2).2 = s9 := ⟨_, rfl⟩
    rw [hs9] at HAL HT9
    clear hs9
    have HPA : Hid (y.Pa.size ≤ 51) := Lib.hid (by have h1 := rdAll_pa S; rw [HAL.out] at h1; exact h1)
    have HRX : Hid (MAt w9 w.heap.size zMx) := Lib.hid (mat_gr HR0.out HT9.out.gr)
    have HGX : Hid (Gr w w9) := Lib.hid (HG0.out.tr HT9.out.gr)
    have HDN := Lib.hid (dDone_any b s9.1 s9.2 w9 HT9.out.rd)
    go_wp2_with fail
    refine (HDN.out).mono ?_
    rintro r w10 ⟨rfl, rfl⟩
    clear HDN
    by_cases he : rdDone s9.1 s9.2 = 0; rotate_left
    · have heb : (rdDone s9.1 s9.2 == 0) = false := by simpa using he
      have heb2 : (rdDone s9.1 s9.2 != 0) = true := by simpa using he
      have HRD : Hid (readM S = (zMx, rdDone s9.1 s9.2)) := Lib.hid (by
        have h1 := readM_err (S := S) (by rw [HAL.out]; exact he)
        rw [h1, HAL.out])
      clear he
      obtain ⟨ev, hev⟩ : ∃ ev, rdDone s9.1 s9.2 = ev := ⟨_, rfl⟩
      rw [hev] at heb heb2 HRD ⊢
      clear hev
      go_wp2_with (first
        | refine buildZM rfl rfl ?_
        | ((with_reducible refine at_st 37 (.tmp 2) (.tmp 48) ?_); refine storeMR zMx zMx Z32L_len Z32L_len w.heap.size rfl _ _ rfl rfl rfl rfl HRX.out ?_; intro wz hz1 hz2; have HZ1 := Lib.hid hz1; have HZ2 := Lib.hid hz2; clear hz1 hz2))
      have hld := ldMsg HZ1.out Z32L_len
      refine bodyPost_ret (v := .tuple #[.agg zMx.cells, .int .i64 ev]) ?_ rfl ?_
      · simp [results, Tryz.results14, Act.put, asAR, hld]
      exact ⟨zMx, ev, rfl, by rw [HRD.out]; rfl, zMx_ok _, HZ2.out.below HGX.out (Nat.le_refl _), fun _ _ => zMx_ok _⟩
    have HE0 := Lib.hid he
    rw [he]
    clear he
    have HPX := Lib.hid (HPP.out.gr HT9.out.gr)
    have HCK := Lib.hid (mCheck_any y _ HPX.out (by have := HPA.out; omega) HT9.out.ms.ok)
    go_wp2_with (first
      | ((with_reducible refine at_ld 37 (.tmp 5) ?_); refine loadM y HT9.out.ms.dig rfl (.tmp 5) rfl g rfl HT9.out.ms.lies ?_))
    refine (HCK.out).mono ?_
    rintro r w11 ⟨rfl, g11⟩
    replace HRX := Lib.hid (mat_gr HRX.out g11)
    replace HGX := Lib.hid (HGX.out.tr g11)
    have HT11 := Lib.hid (HT9.out.more g11)
    clear g11 HCK HPX HT9
    by_cases hc : mChk y = 0; rotate_left
    · have heb2 : (mChk y != 0) = true := by simpa using hc
      have HRD : Hid (readM S = (zMx, mChk y)) := Lib.hid (by
        have h1 := readM_bad (S := S) (by rw [HAL.out]; exact HE0.out) (by rw [HAL.out]; show mChk (mst y) ≠ 0; rw [mChk_mst]; exact hc)
        rw [h1, HAL.out]
        show (zMx, mChk (mst y)) = _
        rw [mChk_mst])
      clear hc
      obtain ⟨ev, hev⟩ : ∃ ev, mChk y = ev := ⟨_, rfl⟩
      rw [hev] at heb2 HRD ⊢
      clear hev
      go_wp2_with (first
        | refine buildZM rfl rfl ?_
        | ((with_reducible refine at_st 37 (.tmp 2) (.tmp 48) ?_); refine storeMR zMx zMx Z32L_len Z32L_len w.heap.size rfl _ _ rfl rfl rfl rfl HRX.out ?_; intro wz hz1 hz2; have HZ1 := Lib.hid hz1; have HZ2 := Lib.hid hz2; clear hz1 hz2))
      have hld := ldMsg HZ1.out Z32L_len
      refine bodyPost_ret (v := .tuple #[.agg zMx.cells, .int .i64 ev]) ?_ rfl ?_
      · simp [results, Tryz.results14, Act.put, asAR, hld]
      exact ⟨zMx, ev, rfl, by rw [HRD.out]; rfl, zMx_ok _, HZ2.out.below HGX.out (Nat.le_refl _), fun _ _ => zMx_ok _⟩
    have HRD : Hid (readM S = (mst y, 0)) := Lib.hid (by
      have h1 := readM_ok (S := S) (by rw [HAL.out]; exact HE0.out) (by rw [HAL.out]; show mChk (mst y) = 0; rw [mChk_mst]; exact hc)
      rw [h1, HAL.out])
    rw [hc]
    clear hc
    go_wp2_with (first
      | ((with_reducible refine at_ld 37 (.tmp 5) ?_); refine loadM y HT11.out.ms.dig rfl (.tmp 5) rfl g rfl HT11.out.ms.lies ?_)
      | ((with_reducible refine at_st 37 (.tmp 2) (.tmp 50) ?_); refine storeMR y zMx HT11.out.ms.dig Z32L_len w.heap.size rfl _ _ rfl rfl rfl rfl HRX.out ?_; intro wz hz1 hz2; have HZ1 := Lib.hid hz1; have HZ2 := Lib.hid hz2; clear hz1 hz2))
    have hld := ldMsg HZ1.out HT11.out.ms.dig
    refine bodyPost_ret (v := .tuple #[.agg y.cells, .int .i64 0]) ?_ rfl ?_
    · simp [results, Tryz.results14, Act.put, asAR, hld]
    exact ⟨y, 0, rfl, HRD.out.symm, (HT11.out.ms.rm HZ2.out (by have := HBB.out; have := HT11.out.hb; omega) (by have := HBB.out; have := HGB.out; omega)).ok, HZ2.out.below HGX.out (Nat.le_refl _), fun W2 h2 => (HT11.out.ms.rm HZ2.out (by have := HBB.out; have := HT11.out.hb; omega) (by have := HBB.out; have := HGB.out; omega)).keep (fun j h1 h3 => h2 j (by have := HBB.out; have := HT11.out.hb; omega) h3)⟩
  obtain ⟨s1, hs1⟩ : ∃ s1 : Rst, (Sa, 0) = s1 := ⟨_, rfl⟩
  have HKK : Hid (rdKind S = (k, s1)) := Lib.hid (by rw [HKD.out, if_pos rfl, if_neg (by omega), hs1])
  rw [hs1] at HT
  clear hs1 HKD
  have HN1 := Lib.hid (dNumber_any b s1.1 s1.2 63 _ HT.out.rd HT.out.sz)
  have HZ1 := Lib.hid (numM_szR 63 s1.1 s1.2)
  obtain ⟨f, s2, hf⟩ : ∃ f s2, numM 63 s1.1 s1.2 = (f, s2) := ⟨_, _, rfl⟩
  simp only [hf] at HN1 HZ1
  have HF := Lib.hid hf
  clear hf
  go_wp2_with fail
  refine (HN1.out).mono ?_
  rintro r w4 ⟨rfl, h4, m4⟩
  have HT4 := Lib.hid (HT.out.take (s' := s2) h4 HZ1.out m4)
  clear h4 m4 HN1 HZ1 HT
  have HN2 := Lib.hid (dNumber_any b s2.1 s2.2 63 w4 HT4.out.rd HT4.out.sz)
  have HZ2 := Lib.hid (numM_szR 63 s2.1 s2.2)
  obtain ⟨tt, s3, ht⟩ : ∃ tt s3, numM 63 s2.1 s2.2 = (tt, s3) := ⟨_, _, rfl⟩
  simp only [ht] at HN2 HZ2
  have HTT := Lib.hid ht
  clear ht
  go_wp2_with fail
  refine (HN2.out).mono ?_
  rintro r w5 ⟨rfl, h5, m5⟩
  have HT5 := Lib.hid (HT4.out.take (s' := s3) h5 HZ2.out m5)
  clear h5 m5 HN2 HZ2 HT4
  have HA := mxAt HT5.out.ms.lies HT5.out.ms.dig
  have c1 := HA.c1
  have c2 := HA.c2
  have f1 := mat_frz HT5.out.ms.lies 1
  have f2 := mat_frz HT5.out.ms.lies 2
  have HT6 := Lib.hid ((HT5.out.setF f).setTo tt)
  clear HA HT5
  go_upto_region 6 with (fail)
  clear c1 c2 f1 f2
  generalize (w5.setCell ⟨g, 1, none⟩ (.int .i64 f)).setCell ⟨g, 2, none⟩ (.int .i64 tt) = w6 at HT6 ⊢
  have HN3 := Lib.hid (dNumber_any b s3.1 s3.2 1048576 w6 HT6.out.rd HT6.out.sz)
  have HZ3 := Lib.hid (numM_szR 1048576 s3.1 s3.2)
  obtain ⟨sd, s4, hd⟩ : ∃ sd s4, numM 1048576 s3.1 s3.2 = (sd, s4) := ⟨_, _, rfl⟩
  simp only [hd] at HN3 HZ3
  have HRH := Lib.hid (rdHead_of HKK.out HF.out HTT.out hd)
  clear hd HF HTT
  go_wp2_with fail
  refine (HN3.out).mono ?_
  rintro r w7 ⟨rfl, h7, m7⟩
  have HT7 := Lib.hid (HT6.out.take (s' := s4) h7 HZ3.out m7)
  clear h7 m7 HN3 HZ3 HT6
  have c3 := (mxAt HT7.out.ms.lies HT7.out.ms.dig).c3
  have f3 := mat_frz HT7.out.ms.lies 3
  have HT8 := Lib.hid (HT7.out.setSd sd)
  clear HT7
  go_upto_region 7 with (fail)
  clear c3 f3
  generalize w7.setCell ⟨g, 3, none⟩ (.int .i64 sd) = w8 at HT8 ⊢
  have HOW := Lib.hid (ownT_any HT8.out ⟨rfl, rfl, rfl⟩)
  go_wp2_with fail
  refine (HOW.out).mono ?_
  rintro r w9 ⟨rfl, y, hy, h9⟩
  have HAL : Hid (rdAll S = (mst y, (rdBody (rdHead S).1 (rdHead S).2).2)) := Lib.hid (by
    unfold rdAll
    rw [HRH.out]
    exact Prod.ext hy.symm rfl)
  have HT9 : Hid (TK 109 W0 b B g y (rdBody (rdHead S).1 (rdHead S).2).2 w9) := Lib.hid (by rw [HRH.out]; exact h9)
  clear hy h9 HOW HT8 HRH HKK
  obtain ⟨s9, hs9⟩ : ∃ s9, (rdBody (rdHead S).1 (rdHead S).2).2 = s9 := ⟨_, rfl⟩
  rw [hs9] at HAL HT9
  clear hs9
  have HPA : Hid (y.Pa.size ≤ 51) := Lib.hid (by have h1 := rdAll_pa S; rw [HAL.out] at h1; exact h1)
  have HRX : Hid (MAt w9 w.heap.size zMx) := Lib.hid (mat_gr HR0.out HT9.out.gr)
  have HGX : Hid (Gr w w9) := Lib.hid (HG0.out.tr HT9.out.gr)
  have HDN := Lib.hid (dDone_any b s9.1 s9.2 w9 HT9.out.rd)
  go_wp2_with fail
  refine (HDN.out).mono ?_
  rintro r w10 ⟨rfl, rfl⟩
  clear HDN
  by_cases he : rdDone s9.1 s9.2 = 0; rotate_left
  · have heb : (rdDone s9.1 s9.2 == 0) = false := by simpa using he
    have heb2 : (rdDone s9.1 s9.2 != 0) = true := by simpa using he
    have HRD : Hid (readM S = (zMx, rdDone s9.1 s9.2)) := Lib.hid (by
      have h1 := readM_err (S := S) (by rw [HAL.out]; exact he)
      rw [h1, HAL.out])
    clear he
    obtain ⟨ev, hev⟩ : ∃ ev, rdDone s9.1 s9.2 = ev := ⟨_, rfl⟩
    rw [hev] at heb heb2 HRD ⊢
    clear hev
    go_wp2_with (first
      | refine buildZM rfl rfl ?_
      | ((with_reducible refine at_st 37 (.tmp 2) (.tmp 48) ?_); refine storeMR zMx zMx Z32L_len Z32L_len w.heap.size rfl _ _ rfl rfl rfl rfl HRX.out ?_; intro wz hz1 hz2; have HZ1 := Lib.hid hz1; have HZ2 := Lib.hid hz2; clear hz1 hz2))
    have hld := ldMsg HZ1.out Z32L_len
    refine bodyPost_ret (v := .tuple #[.agg zMx.cells, .int .i64 ev]) ?_ rfl ?_
    · simp [results, Tryz.results14, Act.put, asAR, hld]
    exact ⟨zMx, ev, rfl, by rw [HRD.out]; rfl, zMx_ok _, HZ2.out.below HGX.out (Nat.le_refl _), fun _ _ => zMx_ok _⟩
  have HE0 := Lib.hid he
  rw [he]
  clear he
  have HPX := Lib.hid (HPP.out.gr HT9.out.gr)
  have HCK := Lib.hid (mCheck_any y _ HPX.out (by have := HPA.out; omega) HT9.out.ms.ok)
  go_wp2_with (first
    | ((with_reducible refine at_ld 37 (.tmp 5) ?_); refine loadM y HT9.out.ms.dig rfl (.tmp 5) rfl g rfl HT9.out.ms.lies ?_))
  refine (HCK.out).mono ?_
  rintro r w11 ⟨rfl, g11⟩
  replace HRX := Lib.hid (mat_gr HRX.out g11)
  replace HGX := Lib.hid (HGX.out.tr g11)
  have HT11 := Lib.hid (HT9.out.more g11)
  clear g11 HCK HPX HT9
  by_cases hc : mChk y = 0; rotate_left
  · have heb2 : (mChk y != 0) = true := by simpa using hc
    have HRD : Hid (readM S = (zMx, mChk y)) := Lib.hid (by
      have h1 := readM_bad (S := S) (by rw [HAL.out]; exact HE0.out) (by rw [HAL.out]; show mChk (mst y) ≠ 0; rw [mChk_mst]; exact hc)
      rw [h1, HAL.out]
      show (zMx, mChk (mst y)) = _
      rw [mChk_mst])
    clear hc
    obtain ⟨ev, hev⟩ : ∃ ev, mChk y = ev := ⟨_, rfl⟩
    rw [hev] at heb2 HRD ⊢
    clear hev
    go_wp2_with (first
      | refine buildZM rfl rfl ?_
      | ((with_reducible refine at_st 37 (.tmp 2) (.tmp 48) ?_); refine storeMR zMx zMx Z32L_len Z32L_len w.heap.size rfl _ _ rfl rfl rfl rfl HRX.out ?_; intro wz hz1 hz2; have HZ1 := Lib.hid hz1; have HZ2 := Lib.hid hz2; clear hz1 hz2))
    have hld := ldMsg HZ1.out Z32L_len
    refine bodyPost_ret (v := .tuple #[.agg zMx.cells, .int .i64 ev]) ?_ rfl ?_
    · simp [results, Tryz.results14, Act.put, asAR, hld]
    exact ⟨zMx, ev, rfl, by rw [HRD.out]; rfl, zMx_ok _, HZ2.out.below HGX.out (Nat.le_refl _), fun _ _ => zMx_ok _⟩
  have HRD : Hid (readM S = (mst y, 0)) := Lib.hid (by
    have h1 := readM_ok (S := S) (by rw [HAL.out]; exact HE0.out) (by rw [HAL.out]; show mChk (mst y) = 0; rw [mChk_mst]; exact hc)
    rw [h1, HAL.out])
  rw [hc]
  clear hc
  go_wp2_with (first
    | ((with_reducible refine at_ld 37 (.tmp 5) ?_); refine loadM y HT11.out.ms.dig rfl (.tmp 5) rfl g rfl HT11.out.ms.lies ?_)
    | ((with_reducible refine at_st 37 (.tmp 2) (.tmp 50) ?_); refine storeMR y zMx HT11.out.ms.dig Z32L_len w.heap.size rfl _ _ rfl rfl rfl rfl HRX.out ?_; intro wz hz1 hz2; have HZ1 := Lib.hid hz1; have HZ2 := Lib.hid hz2; clear hz1 hz2))
  have hld := ldMsg HZ1.out HT11.out.ms.dig
  refine bodyPost_ret (v := .tuple #[.agg y.cells, .int .i64 0]) ?_ rfl ?_
  · simp [results, Tryz.results14, Act.put, asAR, hld]
  exact ⟨y, 0, rfl, HRD.out.symm, (HT11.out.ms.rm HZ2.out (by have := HBB.out; have := HT11.out.hb; omega) (by have := HBB.out; have := HGB.out; omega)).ok, HZ2.out.below HGX.out (Nat.le_refl _), fun W2 h2 => (HT11.out.ms.rm HZ2.out (by have := HBB.out; have := HT11.out.hb; omega) (by have := HBB.out; have := HGB.out; omega)).keep (fun j h1 h3 => h2 j (by have := HBB.out; have := HT11.out.hb; omega) h3)⟩
theorem mRead_any (S : ByteArray) (w : World) (hS : S.size ≤ 9223372036854775807) (hP : Pt.Mx w) :
    Calls Tryz.prog 14 #[.string S] w fun r w' => ReadR S w r w' := (mReadN_any S w hS hP).mono fun _ _ h => h.toR
end Go.Proofs.YtfobnemocodomaaGreat
