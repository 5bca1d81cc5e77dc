/- hearsayref12.Read: the walk. -/
import Derived.Test.YtfobnemocodomaaGreatZBy
import Derived.Test.YtfobnemocodomaaGreatZBn
set_option linter.unusedVariables false
set_option linter.unusedSimpArgs false
set_option maxHeartbeats 4000000
namespace Go.Proofs.YtfobnemocodomaaGreat
open Go.RowKit Go.Shelf Go.Great

set_option maxRecDepth 100000 in
theorem refMReadN_any (S : ByteArray) (w : World) (hS : S.size ≤ 9223372036854775807) :
    Calls Tryz.prog 15 #[.string S] w fun r w' => ReadN S w r w' := by
  obtain ⟨W0, hW0⟩ : ∃ W0, w.alloc (.cells zMx.cells 37) = W0 := ⟨_, rfl⟩
  have HR0 : Hid (MAt W0 w.heap.size zMx) := Lib.hid (by rw [← hW0]; exact World.alloc_heap_new w _)
  have HG0 : Hid (Gr w W0) := Lib.hid (by rw [← hW0]; exact (Gr.rfl' w).al _)
  have HS := Lib.hid hS
  have HRN : Hid (Sr 66 W0.heap.size S 0 (W0.alloc (.cells #[.string S, .int .i64 0] 66))) := Lib.hid (Sr.made W0 _ S)
  have HGN : Hid (Gr W0 (W0.alloc (.cells #[.string S, .int .i64 0] 66))) := Lib.hid ((Gr.rfl' W0).al _)
  obtain ⟨b, hb⟩ : ∃ b, W0.heap.size = b := ⟨_, rfl⟩
  have HBB : Hid (W0.heap.size = b ∧ w.heap.size < b) := Lib.hid ⟨hb, by have := (Array.getElem?_eq_some_iff.1 HR0.out).1; omega⟩
  rw [hb] at HRN
  obtain ⟨W1, hW1⟩ : ∃ W1, W0.alloc (.cells #[.string S, .int .i64 0] 66) = W1 := ⟨_, rfl⟩
  rw [hW1] at HRN HGN
  have HN0 := Lib.hid (sNumber_any b S 0 1073741824 W1 HRN.out HS.out)
  have HZ0 := Lib.hid (numM_szR 1073741824 S 0)
  obtain ⟨k, Sa, e0, hk⟩ : ∃ k Sa e0, numM 1073741824 S 0 = (k, Sa, e0) := ⟨_, _, _, rfl⟩
  have HKD : Hid (rdKind S = (k, Sa, if e0 = 0 then (if k < 1 ∨ 6 < k then 15 else 0) else e0)) := Lib.hid (by unfold rdKind; simp only [hk])
  simp only [hk] at HN0 HZ0
  clear hk hS
  go_enter Tryz.func15, Tryz.ntmps15
  go_wp2_with (first
    | refine allocM rfl rfl ?_)
  clear hW0 hW1 hb
  refine (HN0.out).mono ?_
  rintro r w1 ⟨rfl, h1, m1⟩
  have HS1 := Lib.hid h1
  have HG1 := Lib.hid (m1.below HGN.out (Nat.le_of_eq HBB.out.1))
  clear h1 m1 HN0 HRN HGN
  go_upto_region 3 with (first
    | refine buildK k _ rfl rfl rfl ?_
    | refine allocM rfl rfl ?_
    | (refine storeM ({ zMx with K := k } : Mx) Z32L_len rfl (.tmp 5) _ rfl rfl rfl rfl ?_; intro w2 hx1 hg1; have HX1 := Lib.hid hx1; have HX2 := Lib.hid hg1; clear hx1 hg1))
  obtain ⟨g, hg⟩ : ∃ g, w1.heap.size = g := ⟨_, rfl⟩
  rw [hg] at HX1 ⊢
  have HGB : Hid (b < g) := Lib.hid (by have := (Array.getElem?_eq_some_iff.1 HS1.out).1; omega)
  obtain ⟨B, hB⟩ : ∃ B, g + 1 = B := ⟨_, rfl⟩
  have HT : Hid (TK 66 W0 b B g { zMx with K := k } (Sa, e0) w2) := Lib.hid (by
    have hl := (Array.getElem?_eq_some_iff.1 HX1.out).1
    have hgb := HGB.out
    refine ⟨(HX2.out.block b (Array.getElem?_eq_some_iff.1 HS1.out).1).trans HS1.out, Nat.le_trans HZ0.out HS.out, ⟨HX1.out, Z32L_len, by show (⟨#[]⟩ : ByteArray).size ≤ _; decide, by show (⟨#[]⟩ : ByteArray).size ≤ _; decide, Dots.nil _ _, Nat.le_refl _, (fun D hD => by cases hD), RowW.nil _ _, fun D hD => by cases hD⟩, by omega, by omega, by omega, by omega, HG1.out.tr HX2.out, Nat.le_of_eq HBB.out.1, by have := HBB.out.1; omega⟩)
  clear hg hB HS1 HG1 HX1 HX2 HZ0 HS
  have HC0 : Hid (w2.cell? ⟨g, 0, none⟩ = some (.int .i64 k)) := Lib.hid (mxAt HT.out.ms.lies HT.out.ms.dig).c0
  have HC1 : Hid (w2.cell? ⟨b, 1, none⟩ = some (.int .i64 e0)) := Lib.hid (Sr.cell1 HT.out.rd)
  obtain ⟨fb, hfb⟩ : ∃ fb : Bool, ((e0 == 0) && (decide (k < 1) || decide (6 < k))) = fb := ⟨_, rfl⟩
  have HFB := Lib.hid hfb
  clear hfb
  simp only [Act.put, List.setIfInBounds_toArray, List.set_cons_zero, List.set_cons_succ]
  go_cut [29] from 15 to 29 (fun s wx => s = .bool fb ∧ wx = w2)
  case first =>
    have c0 := HC0.out
    have c1 := HC1.out
    clear HC0 HC1 HT HKD
    by_cases he0 : e0 = 0; rotate_left
    · have heb : (e0 == 0) = false := by simpa using he0
      have hv : Hid (fb = false) := Lib.hid (by rw [← HFB.out, heb]; rfl)
      clear he0 HFB
      go_wp2
      go_meet
      exact ⟨by rw [hv.out], rfl⟩
    subst he0
    by_cases k1 : k < 1
    · have hv : Hid (fb = true) := Lib.hid (by rw [← HFB.out, decide_eq_true k1]; rfl)
      clear HFB
      go_wp2
      go_meet
      exact ⟨by rw [hv.out], rfl⟩
    by_cases k6 : 6 < k
    · have hv : Hid (fb = true) := Lib.hid (by rw [← HFB.out, decide_eq_true k6, Bool.or_true]; rfl)
      clear HFB
      go_wp2
      go_meet
      exact ⟨by rw [hv.out], rfl⟩
    have hv : Hid (fb = false) := Lib.hid (by rw [← HFB.out, decide_eq_false k1, decide_eq_false k6]; rfl)
    clear HFB
    go_wp2
    go_meet
    exact ⟨by rw [hv.out], rfl⟩
  obtain ⟨rfl, rfl⟩ := hcut
  clear HC0 HC1
  cases fb with
  | true =>
    have HFL := Lib.hid (sFail_any b Sa e0 15 _ HT.out.rd)
    have hfb := HFB.out
    have he0 : e0 = 0 := by revert hfb; cases h : (e0 == 0) <;> simp_all
    have hkk : k < 1 ∨ 6 < k := by rw [he0] at hfb; simpa using hfb
    have HKK : Hid (rdKind S = (k, Sa, 15)) := Lib.hid (by rw [HKD.out, if_pos he0, if_pos hkk])
    have HKN : Hid (k ≠ 2 ∧ k ≠ 3 ∧ k ≠ 4 ∧ k ≠ 6) := Lib.hid (by omega)
    subst he0
    clear HKD hfb hkk HFB
    go_wp2_with fail
    refine (HFL.out).mono ?_
    rintro r wf ⟨rfl, hf1, mf1⟩
    replace HT := Lib.hid (HT.out.take (s' := (Sa, 15)) hf1 (Nat.le_refl _) mf1)
    clear hf1 mf1 HFL
    obtain ⟨s1, hs1⟩ : ∃ s1 : Rst, (Sa, (15 : Int)) = s1 := ⟨_, rfl⟩
    rw [hs1] at HT HKK
    clear hs1
    have HN1 := Lib.hid (sNumber_any b s1.1 s1.2 63 _ HT.out.rd HT.out.sz)
    have HZ1 := Lib.hid (numM_szR 63 s1.1 s1.2)
    obtain ⟨f, s2, hf⟩ : ∃ f s2, numM 63 s1.1 s1.2 = (f, s2) := ⟨_, _, rfl⟩
    simp only [hf] at HN1 HZ1
    have HF := Lib.hid hf
    clear hf
    go_wp2_with fail
    refine (HN1.out).mono ?_
    rintro r w4 ⟨rfl, h4, m4⟩
    have HT4 := Lib.hid (HT.out.take (s' := s2) h4 HZ1.out m4)
    clear h4 m4 HN1 HZ1 HT
    have c1 := (mxAt HT4.out.ms.lies HT4.out.ms.dig).c1
    have f1 := mat_frz HT4.out.ms.lies 1
    have HT5 := Lib.hid (HT4.out.setF f)
    clear HT4
    go_upto_region 6 with (fail)
    clear c1 f1
    generalize w4.setCell ⟨g, 1, none⟩ (.int .i64 f) = w5 at HT5 ⊢
    have HN2 := Lib.hid (sNumber_any b s2.1 s2.2 63 w5 HT5.out.rd HT5.out.sz)
    have HZ2 := Lib.hid (numM_szR 63 s2.1 s2.2)
    obtain ⟨tt, s3, ht⟩ : ∃ tt s3, numM 63 s2.1 s2.2 = (tt, s3) := ⟨_, _, rfl⟩
    simp only [ht] at HN2 HZ2
    have HTT := Lib.hid ht
    clear ht
    go_wp2_with fail
    refine (HN2.out).mono ?_
    rintro r w6 ⟨rfl, h6, m6⟩
    have HT6 := Lib.hid (HT5.out.take (s' := s3) h6 HZ2.out m6)
    clear h6 m6 HN2 HZ2 HT5
    have c2 := (mxAt HT6.out.ms.lies HT6.out.ms.dig).c2
    have f2 := mat_frz HT6.out.ms.lies 2
    have HT7 := Lib.hid (HT6.out.setTo tt)
    clear HT6
    go_upto_region 7 with (fail)
    clear c2 f2
    generalize w6.setCell ⟨g, 2, none⟩ (.int .i64 tt) = w7 at HT7 ⊢
    have HN3 := Lib.hid (sNumber_any b s3.1 s3.2 1048576 w7 HT7.out.rd HT7.out.sz)
    have HZ3 := Lib.hid (numM_szR 1048576 s3.1 s3.2)
    obtain ⟨sd, s4, hd⟩ : ∃ sd s4, numM 1048576 s3.1 s3.2 = (sd, s4) := ⟨_, _, rfl⟩
    simp only [hd] at HN3 HZ3
    have HRH := Lib.hid (rdHead_of HKK.out HF.out HTT.out hd)
    clear hd HF HTT
    go_wp2_with fail
    refine (HN3.out).mono ?_
    rintro r w8 ⟨rfl, h8, m8⟩
    have HT8 := Lib.hid (HT7.out.take (s' := s4) h8 HZ3.out m8)
    clear h8 m8 HN3 HZ3 HT7
    have c3 := (mxAt HT8.out.ms.lies HT8.out.ms.dig).c3
    have f3 := mat_frz HT8.out.ms.lies 3
    have HT9 := Lib.hid (HT8.out.setSd sd)
    clear HT8
    go_upto_region 8 with (fail)
    clear c3 f3
    generalize w8.setCell ⟨g, 3, none⟩ (.int .i64 sd) = w9 at HT9 ⊢
    have c0 := (mxAt HT9.out.ms.lies HT9.out.ms.dig).c0
    obtain ⟨x9, hx9⟩ : ∃ x9 : Mx, ({ ({ ({ ({ zMx with K := k } : Mx) with F := f } : Mx) with To := tt } : Mx) with Sd := sd } : Mx) = x9 := ⟨_, rfl⟩
    have HX9 : Hid (x9.K = k ∧ x9.rA = none ∧ x9.rs = [] ∧ x9.rc = 0 ∧ (rdHead S) = (mst x9, s4)) := Lib.hid (by rw [HRH.out, ← hx9]; exact ⟨rfl, rfl, rfl, rfl, rfl⟩)
    have HT : Hid (TK 66 W0 b B g x9 s4 w9) := Lib.hid (by rw [← hx9]; exact HT9.out)
    replace c0 : w9.cell? ⟨g, 0, none⟩ = some (.int .i64 k) := c0
    clear HT9 HRH HKK hx9
    obtain ⟨k2, k3, k4, k6⟩ := HKN.out
    have HTO := Lib.hid (tkoN (by rw [HX9.out.1]; exact k2) (by rw [HX9.out.1]; exact k3) (by rw [HX9.out.1]; exact k4) (by rw [HX9.out.1]; exact k6) HT.out)
    have e2 : (k == 2) = false := by simpa using k2
    have e3 : (k == 3) = false := by simpa using k3
    have e4 : (k == 4) = false := by simpa using k4
    have e6 : (k == 6) = false := by simpa using k6
    clear HT HKN k2 k3 k4 k6
    obtain ⟨y, hy, h9⟩ := HTO.out
    have HAL : Hid (rdAll S = (mst y, (rdBody (rdHead S).1 (rdHead S).2).2)) := Lib.hid (by
      unfold rdAll
      rw [HX9.out.2.2.2.2]
      exact Prod.ext hy.symm rfl)
    have HT9 : Hid (TK 66 W0 b B g y (rdBody (rdHead S).1 (rdHead S).2).2 _) := Lib.hid (by rw [HX9.out.2.2.2.2]; exact h9)
    clear hy h9 HTO HX9
    obtain ⟨s9, hs9⟩ : ∃ s9, (rdBody (rdHead S).1 (rdHead S).2).2 = s9 := ⟨_, rfl⟩
    rw [hs9] at HAL HT9
    clear hs9
    have HPA : Hid (y.Pa.size ≤ 51) := Lib.hid (by have h1 := rdAll_pa S; rw [HAL.out] at h1; exact h1)
    have HRX : Hid (MAt _ w.heap.size zMx) := Lib.hid (mat_gr HR0.out HT9.out.gr)
    have HGX : Hid (Gr w _) := Lib.hid (HG0.out.tr HT9.out.gr)
    have HDN := Lib.hid (sDone_any b s9.1 s9.2 _ HT9.out.rd)
    go_wp2_with fail
    refine (HDN.out).mono ?_
    rintro r w10 ⟨rfl, rfl⟩
    clear HDN
    by_cases he : rdDone s9.1 s9.2 = 0; rotate_left
    · have heb : (rdDone s9.1 s9.2 == 0) = false := by simpa using he
      have heb2 : (rdDone s9.1 s9.2 != 0) = true := by simpa using he
      have HRD : Hid (readM S = (zMx, rdDone s9.1 s9.2)) := Lib.hid (by
        have h1 := readM_err (S := S) (by rw [HAL.out]; exact he)
        rw [h1, HAL.out])
      clear he
      obtain ⟨ev, hev⟩ : ∃ ev, rdDone s9.1 s9.2 = ev := ⟨_, rfl⟩
      rw [hev] at heb heb2 HRD ⊢
      clear hev
      go_wp2_with (first
        | refine buildZM rfl rfl ?_
        | ((with_reducible refine at_st 37 (.tmp 2) (.tmp 101) ?_); refine storeMR zMx zMx Z32L_len Z32L_len w.heap.size rfl _ _ rfl rfl rfl rfl HRX.out ?_; intro wz hz1 hz2; have HZ1 := Lib.hid hz1; have HZ2 := Lib.hid hz2; clear hz1 hz2))
      have hld := ldMsg HZ1.out Z32L_len
      refine bodyPost_ret (v := .tuple #[.agg zMx.cells, .int .i64 ev]) ?_ rfl ?_
      · simp [results, Tryz.results15, Act.put, asAR, hld]
      exact ⟨zMx, ev, rfl, by rw [HRD.out]; rfl, zMx_ok _, HZ2.out.below HGX.out (Nat.le_refl _), fun _ _ => zMx_ok _⟩
    have HE0 := Lib.hid he
    rw [he]
    clear he
    have HCK := Lib.hid (refMCheck_any y _ HT9.out.ms.ok (by have := HPA.out; omega))
    go_wp2_with (first
      | ((with_reducible refine at_ld 37 (.tmp 5) ?_); refine loadM y HT9.out.ms.dig rfl (.tmp 5) rfl g rfl HT9.out.ms.lies ?_))
    refine (HCK.out).mono ?_
    rintro r w11 ⟨rfl, g11⟩
    replace HRX := Lib.hid (mat_gr HRX.out g11)
    replace HGX := Lib.hid (HGX.out.tr g11)
    have HT11 := Lib.hid (HT9.out.more g11)
    clear g11 HCK HT9
    by_cases hc : mChk y = 0; rotate_left
    · have heb2 : (mChk y != 0) = true := by simpa using hc
      have HRD : Hid (readM S = (zMx, mChk y)) := Lib.hid (by
        have h1 := readM_bad (S := S) (by rw [HAL.out]; exact HE0.out) (by rw [HAL.out]; show mChk (mst y) ≠ 0; rw [mChk_mst]; exact hc)
        rw [h1, HAL.out]
        show (zMx, mChk (mst y)) = _
        rw [mChk_mst])
      clear hc
      obtain ⟨ev, hev⟩ : ∃ ev, mChk y = ev := ⟨_, rfl⟩
      rw [hev] at heb2 HRD ⊢
      clear hev
      go_wp2_with (first
        | refine buildZM rfl rfl ?_
        | ((with_reducible refine at_st 37 (.tmp 2) (.tmp 101) ?_); refine storeMR zMx zMx Z32L_len Z32L_len w.heap.size rfl _ _ rfl rfl rfl rfl HRX.out ?_; intro wz hz1 hz2; have HZ1 := Lib.hid hz1; have HZ2 := Lib.hid hz2; clear hz1 hz2))
      have hld := ldMsg HZ1.out Z32L_len
      refine bodyPost_ret (v := .tuple #[.agg zMx.cells, .int .i64 ev]) ?_ rfl ?_
      · simp [results, Tryz.results15, Act.put, asAR, hld]
      exact ⟨zMx, ev, rfl, by rw [HRD.out]; rfl, zMx_ok _, HZ2.out.below HGX.out (Nat.le_refl _), fun _ _ => zMx_ok _⟩
    have HRD : Hid (readM S = (mst y, 0)) := Lib.hid (by
      have h1 := readM_ok (S := S) (by rw [HAL.out]; exact HE0.out) (by rw [HAL.out]; show mChk (mst y) = 0; rw [mChk_mst]; exact hc)
      rw [h1, HAL.out])
    rw [hc]
    clear hc
    go_wp2_with (first
      | ((with_reducible refine at_ld 37 (.tmp 5) ?_); refine loadM y HT11.out.ms.dig rfl (.tmp 5) rfl g rfl HT11.out.ms.lies ?_)
      | ((with_reducible refine at_st 37 (.tmp 2) (.tmp 103) ?_); refine storeMR y zMx HT11.out.ms.dig Z32L_len w.heap.size rfl _ _ rfl rfl rfl rfl HRX.out ?_; intro wz hz1 hz2; have HZ1 := Lib.hid hz1; have HZ2 := Lib.hid hz2; clear hz1 hz2))
    have hld := ldMsg HZ1.out HT11.out.ms.dig
    refine bodyPost_ret (v := .tuple #[.agg y.cells, .int .i64 0]) ?_ rfl ?_
    · simp [results, Tryz.results15, Act.put, asAR, hld]
    exact ⟨y, 0, rfl, HRD.out.symm, (HT11.out.ms.rm HZ2.out (by have := HBB.out; have := HT11.out.hb; omega) (by have := HBB.out; have := HGB.out; omega)).ok, HZ2.out.below HGX.out (Nat.le_refl _), fun W2 h2 => (HT11.out.ms.rm HZ2.out (by have := HBB.out; have := HT11.out.hb; omega) (by have := HBB.out; have := HGB.out; omega)).keep (fun j h1 h3 => h2 j (by have := HBB.out; have := HT11.out.hb; omega) h3)⟩
  | false =>
    have hfb := HFB.out
    obtain ⟨s1, hs1⟩ : ∃ s1 : Rst, (Sa, e0) = s1 := ⟨_, rfl⟩
    have HKK : Hid (rdKind S = (k, s1)) := Lib.hid (by
      rw [HKD.out, ← hs1]
      by_cases he0 : e0 = 0
      · rw [if_pos he0, if_neg (by rw [he0] at hfb; simpa using hfb), he0]
      · rw [if_neg he0])
    rw [hs1] at HT
    clear hs1 hfb HFB HKD
    have HN1 := Lib.hid (sNumber_any b s1.1 s1.2 63 _ HT.out.rd HT.out.sz)
    have HZ1 := Lib.hid (numM_szR 63 s1.1 s1.2)
    obtain ⟨f, s2, hf⟩ : ∃ f s2, numM 63 s1.1 s1.2 = (f, s2) := ⟨_, _, rfl⟩
    simp only [hf] at HN1 HZ1
    have HF := Lib.hid hf
    clear hf
    go_wp2_with fail
    refine (HN1.out).mono ?_
    rintro r w4 ⟨rfl, h4, m4⟩
    have HT4 := Lib.hid (HT.out.take (s' := s2) h4 HZ1.out m4)
    clear h4 m4 HN1 HZ1 HT
    have c1 := (mxAt HT4.out.ms.lies HT4.out.ms.dig).c1
    have f1 := mat_frz HT4.out.ms.lies 1
    have HT5 := Lib.hid (HT4.out.setF f)
    clear HT4
    go_upto_region 6 with (fail)
    clear c1 f1
    generalize w4.setCell ⟨g, 1, none⟩ (.int .i64 f) = w5 at HT5 ⊢
    have HN2 := Lib.hid (sNumber_any b s2.1 s2.2 63 w5 HT5.out.rd HT5.out.sz)
    have HZ2 := Lib.hid (numM_szR 63 s2.1 s2.2)
    obtain ⟨tt, s3, ht⟩ : ∃ tt s3, numM 63 s2.1 s2.2 = (tt, s3) := ⟨_, _, rfl⟩
    simp only [ht] at HN2 HZ2
    have HTT := Lib.hid ht
    clear ht
    go_wp2_with fail
    refine (HN2.out).mono ?_
    rintro r w6 ⟨rfl, h6, m6⟩
    have HT6 := Lib.hid (HT5.out.take (s' := s3) h6 HZ2.out m6)
    clear h6 m6 HN2 HZ2 HT5
    have c2 := (mxAt HT6.out.ms.lies HT6.out.ms.dig).c2
    have f2 := mat_frz HT6.out.ms.lies 2
    have HT7 := Lib.hid (HT6.out.setTo tt)
    clear HT6
    go_upto_region 7 with (fail)
    clear c2 f2
    generalize w6.setCell ⟨g, 2, none⟩ (.int .i64 tt) = w7 at HT7 ⊢
    have HN3 := Lib.hid (sNumber_any b s3.1 s3.2 1048576 w7 HT7.out.rd HT7.out.sz)
    have HZ3 := Lib.hid (numM_szR 1048576 s3.1 s3.2)
    obtain ⟨sd, s4, hd⟩ : ∃ sd s4, numM 1048576 s3.1 s3.2 = (sd, s4) := ⟨_, _, rfl⟩
    simp only [hd] at HN3 HZ3
    have HRH := Lib.hid (rdHead_of HKK.out HF.out HTT.out hd)
    clear hd HF HTT
    go_wp2_with fail
    refine (HN3.out).mono ?_
    rintro r w8 ⟨rfl, h8, m8⟩
    have HT8 := Lib.hid (HT7.out.take (s' := s4) h8 HZ3.out m8)
    clear h8 m8 HN3 HZ3 HT7
    have c3 := (mxAt HT8.out.ms.lies HT8.out.ms.dig).c3
    have f3 := mat_frz HT8.out.ms.lies 3
    have HT9 := Lib.hid (HT8.out.setSd sd)
    clear HT8
    go_upto_region 8 with (fail)
    clear c3 f3
    generalize w8.setCell ⟨g, 3, none⟩ (.int .i64 sd) = w9 at HT9 ⊢
    have c0 := (mxAt HT9.out.ms.lies HT9.out.ms.dig).c0
    obtain ⟨x9, hx9⟩ : ∃ x9 : Mx, ({ ({ ({ ({ zMx with K := k } : Mx) with F := f } : Mx) with To := tt } : Mx) with Sd := sd } : Mx) = x9 := ⟨_, rfl⟩
    have HX9 : Hid (x9.K = k ∧ x9.rA = none ∧ x9.rs = [] ∧ x9.rc = 0 ∧ (rdHead S) = (mst x9, s4)) := Lib.hid (by rw [HRH.out, ← hx9]; exact ⟨rfl, rfl, rfl, rfl, rfl⟩)
    have HT : Hid (TK 66 W0 b B g x9 s4 w9) := Lib.hid (by rw [← hx9]; exact HT9.out)
    replace c0 : w9.cell? ⟨g, 0, none⟩ = some (.int .i64 k) := c0
    clear HT9 HRH HKK hx9
    by_cases k2 : k = 2
    · subst k2
      have HD := Lib.hid (sDigest_any b s4.1 s4.2 w9 HT.out.rd HT.out.sz)
      have HDL := Lib.hid (dgM_len s4.1 s4.2)
      have HSZ := Lib.hid (dgM_szM s4.1 s4.2)
      obtain ⟨D, s5, hd⟩ : ∃ D s5, dgM s4.1 s4.2 = (D, s5) := ⟨_, _, rfl⟩
      have HDG := Lib.hid hd
      simp only [hd] at HD HDL HSZ
      clear hd
      go_wp2_with fail
      refine (HD.out).mono ?_
      rintro r wd ⟨rfl, h2, m2⟩
      have HTD := Lib.hid (HT.out.take (s' := s5) h2 HSZ.out m2)
      clear h2 m2 HD HT HSZ
      go_upto_region 11 with (first
        | ((with_reducible refine at_st 33 (.tmp 47) (.tmp 46) ?_); refine wpList_store_mid rfl 33 _ _ rfl g 6 (digC D) rfl rfl (HTD.out.there D HDL.out) (by rw [digC_size, HDL.out]; exact sizeDig) (digC_one D) ?_))
      have HTE := Lib.hid (HTD.out.setR D HDL.out)
      generalize wd.setCells g 6 (digC D).toList = we at HTE ⊢
      clear HTD
      have HP := Lib.hid (refTakeVec_any b s5.1 s5.2 _ HTE.out.rd HTE.out.sz)
      have HSZ := Lib.hid (vecM_sz s5)
      have hse : (s5.1, s5.2) = s5 := rfl
      obtain ⟨cl, s6, hp⟩ : ∃ cl s6, vecM s5 = (cl, s6) := ⟨_, _, rfl⟩
      have HPX := Lib.hid hp
      simp only [hse, hp] at HP HSZ
      clear hp hse
      go_wp2_with fail
      refine (HP.out).mono ?_
      rintro r wf ⟨⟨v, rfl, ho⟩, h6, m6⟩
      obtain ⟨A, c, rfl, k1, k2, k3⟩ := ho.newD
      have HTF := Lib.hid (HTE.out.take (s' := s6) h6 HSZ.out m6)
      have HTG := Lib.hid (HTF.out.setC k2 k1 (fun D hD => Nat.le_trans HTE.out.B (k3 D hD)) HX9.out.2.1)
      clear h6 m6 HP HSZ HTE ho k1 k2 k3
      have c38 := (mxAt HTF.out.ms.lies HTF.out.ms.dig).c38
      have f38 := mat_frz HTF.out.ms.lies 38
      clear HTF
      go_upto_region 12 with (fail)
      generalize wf.setCell ⟨g, 38, none⟩ (.slice A cl.length c) = wg at HTG ⊢
      clear c38 f38
      obtain ⟨x8, hx8⟩ : ∃ x8 : Mx, ({ ({ x9 with R := D } : Mx) with cA := A, cl := cl, cc := c } : Mx) = x8 := ⟨_, rfl⟩
      have HX8 := Lib.hid hx8
      have HTH : Hid (TK 66 W0 b B g x8 s6 wg) := Lib.hid (by rw [← hx8]; exact HTG.out)
      have HRN : Hid (x8.rA = none ∧ x8.rs = [] ∧ x8.rc = 0) := Lib.hid (by rw [← hx8]; exact ⟨HX9.out.2.1, HX9.out.2.2.1, HX9.out.2.2.2.1⟩)
      clear hx8 HTG
      have HN := Lib.hid (sNumber_any b s6.1 s6.2 64 wg HTH.out.rd HTH.out.sz)
      have hrg := numM_rng (m := 64) (by decide) (by decide) s6.1 s6.2
      have HRM : Hid (rowsM s6 = rowsGoM (numM 64 s6.1 s6.2).1.toNat ([], (numM 64 s6.1 s6.2).2)) := Lib.hid rfl
      have HSZ := Lib.hid (numM_szR 64 s6.1 s6.2)
      obtain ⟨nI, s7, hn⟩ : ∃ nI s7, numM 64 s6.1 s6.2 = (nI, s7) := ⟨_, _, rfl⟩
      simp only [hn] at HN hrg HRM HSZ
      clear hn
      obtain ⟨n, rfl⟩ : ∃ n : Nat, nI = (n : Int) := ⟨nI.toNat, by omega⟩
      rw [Int.toNat_natCast] at HRM
      have hn64 : n ≤ 64 := by omega
      clear hrg
      go_wp2_with fail
      refine (HN.out).mono ?_
      rintro r w7 ⟨rfl, h7, m7⟩
      have HT1 : Hid (TK 66 W0 b B g { x8 with rA := none, rs := [], rc := 0 } s7 w7) := Lib.hid (by
        have h1 := HTH.out.take (s' := s7) h7 HSZ.out m7
        obtain ⟨e1, e2, e3⟩ := HRN.out
        have e : ({ x8 with rA := none, rs := [], rc := 0 } : Mx) = x8 := by rw [← e1, ← e2, ← e3]
        rw [e]; exact h1)
      clear h7 m7 HN HTH HSZ c0
      go_wp2
      go_loopw [7] (fun i wr => ∃ (l : List DRow) (A : Option Addr) (c : Nat) (s2 : Rst), l.length ≤ n ∧ i = .int .i64 l.length ∧ Hid (rowsGoM (n - l.length) (l.map DRow.l, s2) = rowsGoM n ([], s7)) ∧ Hid (TK 66 W0 b B g { x8 with rA := A, rs := l, rc := c } s2 wr)) (fun i _ => n - (intOf i).toNat)
      case atStart => exact ⟨[], none, 0, s7, Nat.zero_le _, rfl, Lib.hid rfl, HT1⟩
      case round =>
        clear HT1
        obtain ⟨l, Ar, cr, s2, hk, rfl, HG, HT⟩ := hrel
        have HEC := Lib.hid (Sr.cell1 HT.out.rd)
        have HC39 := Lib.hid (mxAt HT.out.ms.lies HT.out.ms.dig).c39
        by_cases hlt : l.length < n
        · have hki : (l.length : Int) < (n : Int) := by omega
          by_cases hs0 : s2.2 = 0
          · have hrg := HG.out
            rw [show n - l.length = n - (l.length + 1) + 1 by omega, rowsGoM_one _ _ hs0] at hrg
            have HV := Lib.hid (fun W (h : Sr 66 b s2.1 s2.2 W) => refTakeVec_any b s2.1 s2.2 W h HT.out.sz)
            have HSZ := Lib.hid (vecM_sz s2)
            have hse : (s2.1, s2.2) = s2 := rfl
            obtain ⟨d, s3, hd⟩ : ∃ d s3, vecM s2 = (d, s3) := ⟨_, _, rfl⟩
            simp only [hse, hd] at HV HSZ hrg
            have HRG := Lib.hid hrg
            have ce := HEC.out
            rw [hs0] at ce
            clear hse hd hrg hs0 HG
            go_upto_region 16 with (fail)
            clear ce
            have hSS : wr.drew.cell? ⟨g, 39, none⟩ = some (.slice Ar l.length cr) := HC39.out
            refine region_T 7 (fun w' => w'.cell? ⟨g, 39, none⟩ = some (.slice Ar l.length cr)) (by kernel_rfl) ?_
            refine anyT_take (i := 0) (v := ?_) (some 65) rfl rfl (by kernel_rfl) (fun _ _ _ h => h) (Or.inl ⟨by rfl, ?_⟩) hSS ?_
            rotate_left
            · intro w' hSw; go_simp; (try with_reducible rfl)
            simp only [Act.put, List.setIfInBounds_toArray, List.set_cons_zero, List.set_cons_succ]
            refine anyT_take (i := 1) (v := ?_) (some 66) rfl rfl (by kernel_rfl) (fun _ _ _ h => h) (Or.inl ⟨by rfl, ?_⟩) hSS ?_
            rotate_left
            · intro w' hSw; have c := hSw; go_simp; (try with_reducible rfl)
            simp only [Act.put, List.setIfInBounds_toArray, List.set_cons_zero, List.set_cons_succ]
            refine anyT_take (i := 2) (v := ?_) (some 67) rfl rfl (by kernel_rfl) (fun _ _ _ h => h) (Or.inl ⟨by rfl, ?_⟩) hSS ?_
            rotate_left
            · intro w' hSw; go_simp; (try with_reducible rfl)
            simp only [Act.put, List.setIfInBounds_toArray, List.set_cons_zero, List.set_cons_succ]
            have HTD := Lib.hid (HT.out.more ((Gr.rfl' wr).dr))
            refine anyT_call (i := 3) (some 68) 47 #[.pointer (some ⟨b, 0, none⟩)] (by kernel_rfl) rfl rfl rfl (by go_simp) ?_
            refine (HV.out wr.drew HTD.out.rd).mono ?_
            rintro r w2 ⟨⟨v, rfl, ho⟩, h2, m2⟩
            obtain ⟨A2, c2, rfl, k1, k2, k3⟩ := ho.newD
            have hS2 : w2.cell? ⟨g, 39, none⟩ = some (.slice Ar l.length cr) := rm_cell m2 HT.out.ne hSS
            have HT2 := Lib.hid (HTD.out.take (s' := s3) h2 HSZ.out m2)
            have HPU := Lib.hid (HT2.out.push (d := ⟨A2, c2, d⟩) k2 k1 (fun D hD => Nat.le_trans HTD.out.B (k3 D hD)) (fun D hD hp D2 hD2 => by
              have e1 := k3 D2 hD2
              rcases HT.out.ms.rows.own with ⟨e0, _⟩ | ⟨g2, _, o2, _⟩
              · have := (Value.slice.inj e0).1
                have hD' : Ar = some D := hD
                rw [show Ar = none from this] at hD'; cases hD'
              · obtain ⟨c9, e9, _⟩ := o2.shape
                have e8 : Ar = some ⟨g2, 0, none⟩ := (Value.slice.inj e9).1
                have hD' : Ar = some D := hD
                rw [e8] at hD'; cases hD'
                have := o2.lt
                have h5 : wr.drew.heap.size = wr.heap.size := rfl
                show D2.block ≠ g2
                omega) (by show l.length ≤ _; omega) 35)
            refine ⟨_, rfl, fun _ => hS2, ?_⟩
            simp only [Act.put, List.setIfInBounds_toArray, List.set_cons_zero, List.set_cons_succ]
            clear h2 m2 ho k1 k2 k3 HV HTD HT HC39 HEC
            have hSA : (w2.alloc (.cells #[.slice A2 d.length c2] 34)).cell? ⟨g, 39, none⟩ = some (.slice Ar l.length cr) := ((Gr.rfl' w2).al _).cell hS2
            refine anyT_its (i := 4) (by kernel_rfl) (wpOp_val (w' := w2.alloc (.cells #[.slice A2 d.length c2] 34)) (some 69) (.slice (some ⟨w2.heap.size, 0, none⟩) 1 1) rfl (by rfl) rfl (by go_simp) ⟨fun _ => hSA, ?_⟩)
            simp only [Act.put, List.setIfInBounds_toArray, List.set_cons_zero, List.set_cons_succ]
            obtain ⟨⟨A3, c3⟩, w3, hrun, ⟨q1, q2⟩, htk, hkeep⟩ := HPU.out
            have hrun' : (Builtin.append_ #[35, 35] 35 #[.slice Ar l.length cr, .slice (some ⟨w2.heap.size, 0, none⟩) 1 1]).run Tryz.prog (w2.alloc (.cells #[.slice A2 d.length c2] 34)) = .ok (.slice A3 (l ++ [(⟨A2, c2, d⟩ : DRow)]).length c3) w3 := hrun
            have HTK := Lib.hid htk
            have hS3 : w3.cell? ⟨g, 39, none⟩ = some (.slice Ar l.length cr) := q1
            refine anyT_its (i := 5) (by kernel_rfl) (wpOp_val (w' := w3) (some 70) (.slice A3 (l ++ [(⟨A2, c2, d⟩ : DRow)]).length c3) rfl (by rfl) rfl (app_slice (.tmp 66) (.tmp 69) 35 35 (.slice Ar l.length cr) (.slice (some ⟨w2.heap.size, 0, none⟩) 1 1) _ rfl rfl rfl rfl hrun') ⟨fun _ => hS3, ?_⟩)
            simp only [Act.put, List.setIfInBounds_toArray, List.set_cons_zero, List.set_cons_succ]
            replace hSS := hS3
            refine anyT_take (i := 6) (v := ?_) (some 71) rfl rfl (by kernel_rfl) (fun _ _ _ h => h) (Or.inl ⟨by rfl, ?_⟩) hSS ?_
            rotate_left
            · intro w' hSw; go_simp; (try with_reducible rfl)
            simp only [Act.put, List.setIfInBounds_toArray, List.set_cons_zero, List.set_cons_succ]
            clear hrun hrun' htk hkeep hSA hS2 HPU HT2
            obtain ⟨l2, hl2⟩ : ∃ l2, l ++ [(⟨A2, c2, d⟩ : DRow)] = l2 := ⟨_, rfl⟩
            have HLL : Hid (l2.length = l.length + 1) := Lib.hid (by rw [← hl2]; simp)
            have HLM : Hid (l2.map DRow.l = l.map DRow.l ++ [d]) := Lib.hid (by rw [← hl2, List.map_append]; rfl)
            simp only [hl2] at HTK ⊢
            clear hl2
            have hst : w3.cell? ⟨g, 39, none⟩ = some (.slice Ar l.length cr) ∧ w3.frozen? ⟨g, 39, none⟩ = false := ⟨q1, q2⟩
            refine anyT_lastStore (w' := w3.setCell ⟨g, 39, none⟩ (.slice A3 l2.length c3)) (by kernel_rfl) (by kernel_rfl) rfl rfl rfl (by go_simp) ?_
            clear q1 q2 hst hS3 hSS
            generalize w3.setCell ⟨g, 39, none⟩ (.slice A3 l2.length c3) = w4 at HTK ⊢
            go_wp2
            go_roundw
            case rel => exact ⟨l2, A3, c3, s3, by have := HLL.out; omega, by have := HLL.out; rw [this]; go_num, Lib.hid (by rw [HLL.out, HLM.out]; exact HRG.out), HTK⟩
            case measure => simp [intOf]; omega
          · have hsb : (s2.2 == 0) = false := by simpa using hs0
            have ce := HEC.out
            have hrw : rowsM s6 = (l.map DRow.l, s2) := by rw [HRM.out, ← HG.out, rowsGoM_err _ _ hs0]
            have HTO := Lib.hid (tko2 (t := 66) (w0 := W0) (b := b) (B := B) (g := g) (w := wr) (x := x9) (s := s4) (A := A) (c := c) (A2 := Ar) (rs := l) (c2 := cr) HX9.out.1 (by simp only [HDG.out, HPX.out, hrw]) (by
              have h1 := HT.out
              rw [← HX8.out] at h1
              simp only [HDG.out, HPX.out, hrw]
              exact h1))
            clear hs0 HEC HC39 HT HG hrw
            go_wp2_with fail
            obtain ⟨y, hy, h9⟩ := HTO.out
            have HAL : Hid (rdAll S = (mst y, (rdBody (rdHead S).1 (rdHead S).2).2)) := Lib.hid (by
              unfold rdAll
              rw [HX9.out.2.2.2.2]
              exact Prod.ext hy.symm rfl)
            have HT9 : Hid (TK 66 W0 b B g y (rdBody (rdHead S).1 (rdHead S).2).2 _) := Lib.hid (by rw [HX9.out.2.2.2.2]; exact h9)
            clear hy h9 HTO HX9
            obtain ⟨s9, hs9⟩ : ∃ s9, (rdBody (rdHead S).1 (rdHead S).2).2 = s9 := ⟨_, rfl⟩
            rw [hs9] at HAL HT9
            clear hs9
            have HPA : Hid (y.Pa.size ≤ 51) := Lib.hid (by have h1 := rdAll_pa S; rw [HAL.out] at h1; exact h1)
            have HRX : Hid (MAt _ w.heap.size zMx) := Lib.hid (mat_gr HR0.out HT9.out.gr)
            have HGX : Hid (Gr w _) := Lib.hid (HG0.out.tr HT9.out.gr)
            have HDN := Lib.hid (sDone_any b s9.1 s9.2 _ HT9.out.rd)
            go_wp2_with fail
            refine (HDN.out).mono ?_
            rintro r w10 ⟨rfl, rfl⟩
            clear HDN
            by_cases he : rdDone s9.1 s9.2 = 0; rotate_left
            · have heb : (rdDone s9.1 s9.2 == 0) = false := by simpa using he
              have heb2 : (rdDone s9.1 s9.2 != 0) = true := by simpa using he
              have HRD : Hid (readM S = (zMx, rdDone s9.1 s9.2)) := Lib.hid (by
                have h1 := readM_err (S := S) (by rw [HAL.out]; exact he)
                rw [h1, HAL.out])
              clear he
              obtain ⟨ev, hev⟩ : ∃ ev, rdDone s9.1 s9.2 = ev := ⟨_, rfl⟩
              rw [hev] at heb heb2 HRD ⊢
              clear hev
              go_wp2_with (first
                | refine buildZM rfl rfl ?_
                | ((with_reducible refine at_st 37 (.tmp 2) (.tmp 101) ?_); refine storeMR zMx zMx Z32L_len Z32L_len w.heap.size rfl _ _ rfl rfl rfl rfl HRX.out ?_; intro wz hz1 hz2; have HZ1 := Lib.hid hz1; have HZ2 := Lib.hid hz2; clear hz1 hz2))
              have hld := ldMsg HZ1.out Z32L_len
              refine bodyPost_ret (v := .tuple #[.agg zMx.cells, .int .i64 ev]) ?_ rfl ?_
              · simp [results, Tryz.results15, Act.put, asAR, hld]
              exact ⟨zMx, ev, rfl, by rw [HRD.out]; rfl, zMx_ok _, HZ2.out.below HGX.out (Nat.le_refl _), fun _ _ => zMx_ok _⟩
            have HE0 := Lib.hid he
            rw [he]
            clear he
            have HCK := Lib.hid (refMCheck_any y _ HT9.out.ms.ok (by have := HPA.out; omega))
            go_wp2_with (first
              | ((with_reducible refine at_ld 37 (.tmp 5) ?_); refine loadM y HT9.out.ms.dig rfl (.tmp 5) rfl g rfl HT9.out.ms.lies ?_))
            refine (HCK.out).mono ?_
            rintro r w11 ⟨rfl, g11⟩
            replace HRX := Lib.hid (mat_gr HRX.out g11)
            replace HGX := Lib.hid (HGX.out.tr g11)
            have HT11 := Lib.hid (HT9.out.more g11)
            clear g11 HCK HT9
            by_cases hc : mChk y = 0; rotate_left
            · have heb2 : (mChk y != 0) = true := by simpa using hc
              have HRD : Hid (readM S = (zMx, mChk y)) := Lib.hid (by
                have h1 := readM_bad (S := S) (by rw [HAL.out]; exact HE0.out) (by rw [HAL.out]; show mChk (mst y) ≠ 0; rw [mChk_mst]; exact hc)
                rw [h1, HAL.out]
                show (zMx, mChk (mst y)) = _
                rw [mChk_mst])
              clear hc
              obtain ⟨ev, hev⟩ : ∃ ev, mChk y = ev := ⟨_, rfl⟩
              rw [hev] at heb2 HRD ⊢
              clear hev
              go_wp2_with (first
                | refine buildZM rfl rfl ?_
                | ((with_reducible refine at_st 37 (.tmp 2) (.tmp 101) ?_); refine storeMR zMx zMx Z32L_len Z32L_len w.heap.size rfl _ _ rfl rfl rfl rfl HRX.out ?_; intro wz hz1 hz2; have HZ1 := Lib.hid hz1; have HZ2 := Lib.hid hz2; clear hz1 hz2))
              have hld := ldMsg HZ1.out Z32L_len
              refine bodyPost_ret (v := .tuple #[.agg zMx.cells, .int .i64 ev]) ?_ rfl ?_
              · simp [results, Tryz.results15, Act.put, asAR, hld]
              exact ⟨zMx, ev, rfl, by rw [HRD.out]; rfl, zMx_ok _, HZ2.out.below HGX.out (Nat.le_refl _), fun _ _ => zMx_ok _⟩
            have HRD : Hid (readM S = (mst y, 0)) := Lib.hid (by
              have h1 := readM_ok (S := S) (by rw [HAL.out]; exact HE0.out) (by rw [HAL.out]; show mChk (mst y) = 0; rw [mChk_mst]; exact hc)
              rw [h1, HAL.out])
            rw [hc]
            clear hc
            go_wp2_with (first
              | ((with_reducible refine at_ld 37 (.tmp 5) ?_); refine loadM y HT11.out.ms.dig rfl (.tmp 5) rfl g rfl HT11.out.ms.lies ?_)
              | ((with_reducible refine at_st 37 (.tmp 2) (.tmp 103) ?_); refine storeMR y zMx HT11.out.ms.dig Z32L_len w.heap.size rfl _ _ rfl rfl rfl rfl HRX.out ?_; intro wz hz1 hz2; have HZ1 := Lib.hid hz1; have HZ2 := Lib.hid hz2; clear hz1 hz2))
            have hld := ldMsg HZ1.out HT11.out.ms.dig
            refine bodyPost_ret (v := .tuple #[.agg y.cells, .int .i64 0]) ?_ rfl ?_
            · simp [results, Tryz.results15, Act.put, asAR, hld]
            exact ⟨y, 0, rfl, HRD.out.symm, (HT11.out.ms.rm HZ2.out (by have := HBB.out; have := HT11.out.hb; omega) (by have := HBB.out; have := HGB.out; omega)).ok, HZ2.out.below HGX.out (Nat.le_refl _), fun W2 h2 => (HT11.out.ms.rm HZ2.out (by have := HBB.out; have := HT11.out.hb; omega) (by have := HBB.out; have := HGB.out; omega)).keep (fun j h1 h3 => h2 j (by have := HBB.out; have := HT11.out.hb; omega) h3)⟩
        · have hki : ¬ ((l.length : Int) < (n : Int)) := by omega
          have hkn : l.length = n := by omega
          have hrw : rowsM s6 = (l.map DRow.l, s2) := by
            have h1 := HG.out
            rw [hkn, Nat.sub_self] at h1
            rw [HRM.out, ← h1]; rfl
          have HTO := Lib.hid (tko2 (t := 66) (w0 := W0) (b := b) (B := B) (g := g) (w := wr) (x := x9) (s := s4) (A := A) (c := c) (A2 := Ar) (rs := l) (c2 := cr) HX9.out.1 (by simp only [HDG.out, HPX.out, hrw]) (by
            have h1 := HT.out
            rw [← HX8.out] at h1
            simp only [HDG.out, HPX.out, hrw]
            exact h1))
          clear HEC HC39 HT HG hrw hkn
          go_wp2_with fail
          obtain ⟨y, hy, h9⟩ := HTO.out
          have HAL : Hid (rdAll S = (mst y, (rdBody (rdHead S).1 (rdHead S).2).2)) := Lib.hid (by
            unfold rdAll
            rw [HX9.out.2.2.2.2]
            exact Prod.ext hy.symm rfl)
          have HT9 : Hid (TK 66 W0 b B g y (rdBody (rdHead S).1 (rdHead S).2).2 _) := Lib.hid (by rw [HX9.out.2.2.2.2]; exact h9)
          clear hy h9 HTO HX9
          obtain ⟨s9, hs9⟩ : ∃ s9, (rdBody (rdHead S).1 (rdHead S).2).2 = s9 := ⟨_, rfl⟩
          rw [hs9] at HAL HT9
          clear hs9
          have HPA : Hid (y.Pa.size ≤ 51) := Lib.hid (by have h1 := rdAll_pa S; rw [HAL.out] at h1; exact h1)
          have HRX : Hid (MAt _ w.heap.size zMx) := Lib.hid (mat_gr HR0.out HT9.out.gr)
          have HGX : Hid (Gr w _) := Lib.hid (HG0.out.tr HT9.out.gr)
          have HDN := Lib.hid (sDone_any b s9.1 s9.2 _ HT9.out.rd)
          go_wp2_with fail
          refine (HDN.out).mono ?_
          rintro r w10 ⟨rfl, rfl⟩
          clear HDN
          by_cases he : rdDone s9.1 s9.2 = 0; rotate_left
          · have heb : (rdDone s9.1 s9.2 == 0) = false := by simpa using he
            have heb2 : (rdDone s9.1 s9.2 != 0) = true := by simpa using he
            have HRD : Hid (readM S = (zMx, rdDone s9.1 s9.2)) := Lib.hid (by
              have h1 := readM_err (S := S) (by rw [HAL.out]; exact he)
              rw [h1, HAL.out])
            clear he
            obtain ⟨ev, hev⟩ : ∃ ev, rdDone s9.1 s9.2 = ev := ⟨_, rfl⟩
            rw [hev] at heb heb2 HRD ⊢
            clear hev
            go_wp2_with (first
              | refine buildZM rfl rfl ?_
              | ((with_reducible refine at_st 37 (.tmp 2) (.tmp 101) ?_); refine storeMR zMx zMx Z32L_len Z32L_len w.heap.size rfl _ _ rfl rfl rfl rfl HRX.out ?_; intro wz hz1 hz2; have HZ1 := Lib.hid hz1; have HZ2 := Lib.hid hz2; clear hz1 hz2))
            have hld := ldMsg HZ1.out Z32L_len
            refine bodyPost_ret (v := .tuple #[.agg zMx.cells, .int .i64 ev]) ?_ rfl ?_
            · simp [results, Tryz.results15, Act.put, asAR, hld]
            exact ⟨zMx, ev, rfl, by rw [HRD.out]; rfl, zMx_ok _, HZ2.out.below HGX.out (Nat.le_refl _), fun _ _ => zMx_ok _⟩
          have HE0 := Lib.hid he
          rw [he]
          clear he
          have HCK := Lib.hid (refMCheck_any y _ HT9.out.ms.ok (by have := HPA.out; omega))
          go_wp2_with (first
            | ((with_reducible refine at_ld 37 (.tmp 5) ?_); refine loadM y HT9.out.ms.dig rfl (.tmp 5) rfl g rfl HT9.out.ms.lies ?_))
          refine (HCK.out).mono ?_
          rintro r w11 ⟨rfl, g11⟩
          replace HRX := Lib.hid (mat_gr HRX.out g11)
          replace HGX := Lib.hid (HGX.out.tr g11)
          have HT11 := Lib.hid (HT9.out.more g11)
          clear g11 HCK HT9
          by_cases hc : mChk y = 0; rotate_left
          · have heb2 : (mChk y != 0) = true := by simpa using hc
            have HRD : Hid (readM S = (zMx, mChk y)) := Lib.hid (by
              have h1 := readM_bad (S := S) (by rw [HAL.out]; exact HE0.out) (by rw [HAL.out]; show mChk (mst y) ≠ 0; rw [mChk_mst]; exact hc)
              rw [h1, HAL.out]
              show (zMx, mChk (mst y)) = _
              rw [mChk_mst])
            clear hc
            obtain ⟨ev, hev⟩ : ∃ ev, mChk y = ev := ⟨_, rfl⟩
            rw [hev] at heb2 HRD ⊢
            clear hev
            go_wp2_with (first
              | refine buildZM rfl rfl ?_
              | ((with_reducible refine at_st 37 (.tmp 2) (.tmp 101) ?_); refine storeMR zMx zMx Z32L_len Z32L_len w.heap.size rfl _ _ rfl rfl rfl rfl HRX.out ?_; intro wz hz1 hz2; have HZ1 := Lib.hid hz1; have HZ2 := Lib.hid hz2; clear hz1 hz2))
            have hld := ldMsg HZ1.out Z32L_len
            refine bodyPost_ret (v := .tuple #[.agg zMx.cells, .int .i64 ev]) ?_ rfl ?_
            · simp [results, Tryz.results15, Act.put, asAR, hld]
            exact ⟨zMx, ev, rfl, by rw [HRD.out]; rfl, zMx_ok _, HZ2.out.below HGX.out (Nat.le_refl _), fun _ _ => zMx_ok _⟩
          have HRD : Hid (readM S = (mst y, 0)) := Lib.hid (by
            have h1 := readM_ok (S := S) (by rw [HAL.out]; exact HE0.out) (by rw [HAL.out]; show mChk (mst y) = 0; rw [mChk_mst]; exact hc)
            rw [h1, HAL.out])
          rw [hc]
          clear hc
          go_wp2_with (first
            | ((with_reducible refine at_ld 37 (.tmp 5) ?_); refine loadM y HT11.out.ms.dig rfl (.tmp 5) rfl g rfl HT11.out.ms.lies ?_)
            | ((with_reducible refine at_st 37 (.tmp 2) (.tmp 103) ?_); refine storeMR y zMx HT11.out.ms.dig Z32L_len w.heap.size rfl _ _ rfl rfl rfl rfl HRX.out ?_; intro wz hz1 hz2; have HZ1 := Lib.hid hz1; have HZ2 := Lib.hid hz2; clear hz1 hz2))
          have hld := ldMsg HZ1.out HT11.out.ms.dig
          refine bodyPost_ret (v := .tuple #[.agg y.cells, .int .i64 0]) ?_ rfl ?_
          · simp [results, Tryz.results15, Act.put, asAR, hld]
          exact ⟨y, 0, rfl, HRD.out.symm, (HT11.out.ms.rm HZ2.out (by have := HBB.out; have := HT11.out.hb; omega) (by have := HBB.out; have := HGB.out; omega)).ok, HZ2.out.below HGX.out (Nat.le_refl _), fun W2 h2 => (HT11.out.ms.rm HZ2.out (by have := HBB.out; have := HT11.out.hb; omega) (by have := HBB.out; have := HGB.out; omega)).keep (fun j h1 h3 => h2 j (by have := HBB.out; have := HT11.out.hb; omega) h3)⟩
    by_cases k3 : k = 3
    · subst k3
      have HD := Lib.hid (sDigest_any b s4.1 s4.2 w9 HT.out.rd HT.out.sz)
      have HDL := Lib.hid (dgM_len s4.1 s4.2)
      have HSZ := Lib.hid (dgM_szM s4.1 s4.2)
      obtain ⟨D, s5, hd⟩ : ∃ D s5, dgM s4.1 s4.2 = (D, s5) := ⟨_, _, rfl⟩
      have HDG := Lib.hid hd
      simp only [hd] at HD HDL HSZ
      clear hd
      go_wp2_with fail
      refine (HD.out).mono ?_
      rintro r wd ⟨rfl, h2, m2⟩
      have HTD := Lib.hid (HT.out.take (s' := s5) h2 HSZ.out m2)
      clear h2 m2 HD HT HSZ
      go_upto_region 19 with (first
        | ((with_reducible refine at_st 33 (.tmp 76) (.tmp 75) ?_); refine wpList_store_mid rfl 33 _ _ rfl g 6 (digC D) rfl rfl (HTD.out.there D HDL.out) (by rw [digC_size, HDL.out]; exact sizeDig) (digC_one D) ?_))
      have HTE := Lib.hid (HTD.out.setR D HDL.out)
      generalize wd.setCells g 6 (digC D).toList = we at HTE ⊢
      clear HTD
      have HP := Lib.hid (sText_any b 51 s5.1 s5.2 _ HTE.out.rd HTE.out.sz)
      have HTS := Lib.hid (Nat.le_trans (txtM_tszR 51 s5.1 s5.2) HTE.out.sz)
      have HSZ := Lib.hid (txtM_szR 51 s5.1 s5.2)
      obtain ⟨p, s6, hp⟩ : ∃ p s6, txtM 51 s5.1 s5.2 = (p, s6) := ⟨_, _, rfl⟩
      have HPX := Lib.hid hp
      simp only [hp] at HP HTS HSZ
      clear hp
      go_wp2_with fail
      refine (HP.out).mono ?_
      rintro r wf ⟨rfl, h6, m6⟩
      have HTF := Lib.hid (HTE.out.take (s' := s6) h6 HSZ.out m6)
      clear h6 m6 HP HSZ HTE
      have c5 := (mxAt HTF.out.ms.lies HTF.out.ms.dig).c5
      have f5 := mat_frz HTF.out.ms.lies 5
      have HTG := Lib.hid (HTF.out.setPa p HTS.out)
      clear HTF
      have HTO := Lib.hid (tko3 (x := x9) (s := s4) HX9.out.1 (by simp only [HDG.out, HPX.out]; exact HTG.out))
      obtain ⟨y, hy, h9⟩ := HTO.out
      have HAL : Hid (rdAll S = (mst y, (rdBody (rdHead S).1 (rdHead S).2).2)) := Lib.hid (by
        unfold rdAll
        rw [HX9.out.2.2.2.2]
        exact Prod.ext hy.symm rfl)
      have HT9 : Hid (TK 66 W0 b B g y (rdBody (rdHead S).1 (rdHead S).2).2 _) := Lib.hid (by rw [HX9.out.2.2.2.2]; exact h9)
      clear hy h9 HTO HX9
      obtain ⟨s9, hs9⟩ : ∃ s9, (rdBody (rdHead S).1 (rdHead S).2).2 = s9 := ⟨_, rfl⟩
      rw [hs9] at HAL HT9
      clear hs9
      have HPA : Hid (y.Pa.size ≤ 51) := Lib.hid (by have h1 := rdAll_pa S; rw [HAL.out] at h1; exact h1)
      have HRX : Hid (MAt _ w.heap.size zMx) := Lib.hid (mat_gr HR0.out HT9.out.gr)
      have HGX : Hid (Gr w _) := Lib.hid (HG0.out.tr HT9.out.gr)
      have HDN := Lib.hid (sDone_any b s9.1 s9.2 _ HT9.out.rd)
      go_wp2_with fail
      refine (HDN.out).mono ?_
      rintro r w10 ⟨rfl, rfl⟩
      clear HDN
      by_cases he : rdDone s9.1 s9.2 = 0; rotate_left
      · have heb : (rdDone s9.1 s9.2 == 0) = false := by simpa using he
        have heb2 : (rdDone s9.1 s9.2 != 0) = true := by simpa using he
        have HRD : Hid (readM S = (zMx, rdDone s9.1 s9.2)) := Lib.hid (by
          have h1 := readM_err (S := S) (by rw [HAL.out]; exact he)
          rw [h1, HAL.out])
        clear he
        obtain ⟨ev, hev⟩ : ∃ ev, rdDone s9.1 s9.2 = ev := ⟨_, rfl⟩
        rw [hev] at heb heb2 HRD ⊢
        clear hev
        go_wp2_with (first
          | refine buildZM rfl rfl ?_
          | ((with_reducible refine at_st 37 (.tmp 2) (.tmp 101) ?_); refine storeMR zMx zMx Z32L_len Z32L_len w.heap.size rfl _ _ rfl rfl rfl rfl HRX.out ?_; intro wz hz1 hz2; have HZ1 := Lib.hid hz1; have HZ2 := Lib.hid hz2; clear hz1 hz2))
        have hld := ldMsg HZ1.out Z32L_len
        refine bodyPost_ret (v := .tuple #[.agg zMx.cells, .int .i64 ev]) ?_ rfl ?_
        · simp [results, Tryz.results15, Act.put, asAR, hld]
        exact ⟨zMx, ev, rfl, by rw [HRD.out]; rfl, zMx_ok _, HZ2.out.below HGX.out (Nat.le_refl _), fun _ _ => zMx_ok _⟩
      have HE0 := Lib.hid he
      rw [he]
      clear he
      have HCK := Lib.hid (refMCheck_any y _ HT9.out.ms.ok (by have := HPA.out; omega))
      go_wp2_with (first
        | ((with_reducible refine at_ld 37 (.tmp 5) ?_); refine loadM y HT9.out.ms.dig rfl (.tmp 5) rfl g rfl HT9.out.ms.lies ?_))
      refine (HCK.out).mono ?_
      rintro r w11 ⟨rfl, g11⟩
      replace HRX := Lib.hid (mat_gr HRX.out g11)
      replace HGX := Lib.hid (HGX.out.tr g11)
      have HT11 := Lib.hid (HT9.out.more g11)
      clear g11 HCK HT9
      by_cases hc : mChk y = 0; rotate_left
      · have heb2 : (mChk y != 0) = true := by simpa using hc
        have HRD : Hid (readM S = (zMx, mChk y)) := Lib.hid (by
          have h1 := readM_bad (S := S) (by rw [HAL.out]; exact HE0.out) (by rw [HAL.out]; show mChk (mst y) ≠ 0; rw [mChk_mst]; exact hc)
          rw [h1, HAL.out]
          show (zMx, mChk (mst y)) = _
          rw [mChk_mst])
        clear hc
        obtain ⟨ev, hev⟩ : ∃ ev, mChk y = ev := ⟨_, rfl⟩
        rw [hev] at heb2 HRD ⊢
        clear hev
        go_wp2_with (first
          | refine buildZM rfl rfl ?_
          | ((with_reducible refine at_st 37 (.tmp 2) (.tmp 101) ?_); refine storeMR zMx zMx Z32L_len Z32L_len w.heap.size rfl _ _ rfl rfl rfl rfl HRX.out ?_; intro wz hz1 hz2; have HZ1 := Lib.hid hz1; have HZ2 := Lib.hid hz2; clear hz1 hz2))
        have hld := ldMsg HZ1.out Z32L_len
        refine bodyPost_ret (v := .tuple #[.agg zMx.cells, .int .i64 ev]) ?_ rfl ?_
        · simp [results, Tryz.results15, Act.put, asAR, hld]
        exact ⟨zMx, ev, rfl, by rw [HRD.out]; rfl, zMx_ok _, HZ2.out.below HGX.out (Nat.le_refl _), fun _ _ => zMx_ok _⟩
      have HRD : Hid (readM S = (mst y, 0)) := Lib.hid (by
        have h1 := readM_ok (S := S) (by rw [HAL.out]; exact HE0.out) (by rw [HAL.out]; show mChk (mst y) = 0; rw [mChk_mst]; exact hc)
        rw [h1, HAL.out])
      rw [hc]
      clear hc
      go_wp2_with (first
        | ((with_reducible refine at_ld 37 (.tmp 5) ?_); refine loadM y HT11.out.ms.dig rfl (.tmp 5) rfl g rfl HT11.out.ms.lies ?_)
        | ((with_reducible refine at_st 37 (.tmp 2) (.tmp 103) ?_); refine storeMR y zMx HT11.out.ms.dig Z32L_len w.heap.size rfl _ _ rfl rfl rfl rfl HRX.out ?_; intro wz hz1 hz2; have HZ1 := Lib.hid hz1; have HZ2 := Lib.hid hz2; clear hz1 hz2))
      have hld := ldMsg HZ1.out HT11.out.ms.dig
      refine bodyPost_ret (v := .tuple #[.agg y.cells, .int .i64 0]) ?_ rfl ?_
      · simp [results, Tryz.results15, Act.put, asAR, hld]
      exact ⟨y, 0, rfl, HRD.out.symm, (HT11.out.ms.rm HZ2.out (by have := HBB.out; have := HT11.out.hb; omega) (by have := HBB.out; have := HGB.out; omega)).ok, HZ2.out.below HGX.out (Nat.le_refl _), fun W2 h2 => (HT11.out.ms.rm HZ2.out (by have := HBB.out; have := HT11.out.hb; omega) (by have := HBB.out; have := HGB.out; omega)).keep (fun j h1 h3 => h2 j (by have := HBB.out; have := HT11.out.hb; omega) h3)⟩
    by_cases k4 : k = 4
    · subst k4
      obtain ⟨s5, hs5⟩ : ∃ s5, s4 = s5 := ⟨_, rfl⟩
      rw [hs5] at HT HX9
      have HTE := HT
      clear HT hs5
      have HP := Lib.hid (sText_any b 51 s5.1 s5.2 _ HTE.out.rd HTE.out.sz)
      have HTS := Lib.hid (Nat.le_trans (txtM_tszR 51 s5.1 s5.2) HTE.out.sz)
      have HSZ := Lib.hid (txtM_szR 51 s5.1 s5.2)
      obtain ⟨p, s6, hp⟩ : ∃ p s6, txtM 51 s5.1 s5.2 = (p, s6) := ⟨_, _, rfl⟩
      have HPX := Lib.hid hp
      simp only [hp] at HP HTS HSZ
      clear hp
      go_wp2_with fail
      refine (HP.out).mono ?_
      rintro r wf ⟨rfl, h6, m6⟩
      have HTF := Lib.hid (HTE.out.take (s' := s6) h6 HSZ.out m6)
      clear h6 m6 HP HSZ HTE
      have c5 := (mxAt HTF.out.ms.lies HTF.out.ms.dig).c5
      have f5 := mat_frz HTF.out.ms.lies 5
      have HTG := Lib.hid (HTF.out.setPa p HTS.out)
      clear HTF
      go_upto_region 22 with (fail)
      generalize wf.setCell ⟨g, 5, none⟩ (.string p) = wh at HTG ⊢
      clear c5 f5
      have HP := Lib.hid (sText_any b 65536 s6.1 s6.2 _ HTG.out.rd HTG.out.sz)
      have HTS2 := Lib.hid (Nat.le_trans (txtM_tszR 65536 s6.1 s6.2) HTG.out.sz)
      have HSZ := Lib.hid (txtM_szR 65536 s6.1 s6.2)
      obtain ⟨q, s7, hp⟩ : ∃ p s6', txtM 65536 s6.1 s6.2 = (p, s6') := ⟨_, _, rfl⟩
      have HQX := Lib.hid hp
      simp only [hp] at HP HTS2 HSZ
      clear hp
      go_wp2_with fail
      refine (HP.out).mono ?_
      rintro r wi ⟨rfl, h7, m7⟩
      have HTI := Lib.hid (HTG.out.take (s' := s7) h7 HSZ.out m7)
      clear h7 m7 HP HSZ HTG
      have c40 := (mxAt HTI.out.ms.lies HTI.out.ms.dig).c40
      have f40 := mat_frz HTI.out.ms.lies 40
      have HTJ := Lib.hid (HTI.out.setTx q HTS2.out)
      clear HTI
      have HTO := Lib.hid (tko4 (x := x9) (s := s5) HX9.out.1 (by simp only [HPX.out, HQX.out]; exact HTJ.out))
      obtain ⟨y, hy, h9⟩ := HTO.out
      have HAL : Hid (rdAll S = (mst y, (rdBody (rdHead S).1 (rdHead S).2).2)) := Lib.hid (by
        unfold rdAll
        rw [HX9.out.2.2.2.2]
        exact Prod.ext hy.symm rfl)
      have HT9 : Hid (TK 66 W0 b B g y (rdBody (rdHead S).1 (rdHead S).2).2 _) := Lib.hid (by rw [HX9.out.2.2.2.2]; exact h9)
      clear hy h9 HTO HX9
      obtain ⟨s9, hs9⟩ : ∃ s9, (rdBody (rdHead S).1 (rdHead S).2).2 = s9 := ⟨_, rfl⟩
      rw [hs9] at HAL HT9
      clear hs9
      have HPA : Hid (y.Pa.size ≤ 51) := Lib.hid (by have h1 := rdAll_pa S; rw [HAL.out] at h1; exact h1)
      have HRX : Hid (MAt _ w.heap.size zMx) := Lib.hid (mat_gr HR0.out HT9.out.gr)
      have HGX : Hid (Gr w _) := Lib.hid (HG0.out.tr HT9.out.gr)
      have HDN := Lib.hid (sDone_any b s9.1 s9.2 _ HT9.out.rd)
      go_wp2_with fail
      refine (HDN.out).mono ?_
      rintro r w10 ⟨rfl, rfl⟩
      clear HDN
      by_cases he : rdDone s9.1 s9.2 = 0; rotate_left
      · have heb : (rdDone s9.1 s9.2 == 0) = false := by simpa using he
        have heb2 : (rdDone s9.1 s9.2 != 0) = true := by simpa using he
        have HRD : Hid (readM S = (zMx, rdDone s9.1 s9.2)) := Lib.hid (by
          have h1 := readM_err (S := S) (by rw [HAL.out]; exact he)
          rw [h1, HAL.out])
        clear he
        obtain ⟨ev, hev⟩ : ∃ ev, rdDone s9.1 s9.2 = ev := ⟨_, rfl⟩
        rw [hev] at heb heb2 HRD ⊢
        clear hev
        go_wp2_with (first
          | refine buildZM rfl rfl ?_
          | ((with_reducible refine at_st 37 (.tmp 2) (.tmp 101) ?_); refine storeMR zMx zMx Z32L_len Z32L_len w.heap.size rfl _ _ rfl rfl rfl rfl HRX.out ?_; intro wz hz1 hz2; have HZ1 := Lib.hid hz1; have HZ2 := Lib.hid hz2; clear hz1 hz2))
        have hld := ldMsg HZ1.out Z32L_len
        refine bodyPost_ret (v := .tuple #[.agg zMx.cells, .int .i64 ev]) ?_ rfl ?_
        · simp [results, Tryz.results15, Act.put, asAR, hld]
        exact ⟨zMx, ev, rfl, by rw [HRD.out]; rfl, zMx_ok _, HZ2.out.below HGX.out (Nat.le_refl _), fun _ _ => zMx_ok _⟩
      have HE0 := Lib.hid he
      rw [he]
      clear he
      have HCK := Lib.hid (refMCheck_any y _ HT9.out.ms.ok (by have := HPA.out; omega))
      go_wp2_with (first
        | ((with_reducible refine at_ld 37 (.tmp 5) ?_); refine loadM y HT9.out.ms.dig rfl (.tmp 5) rfl g rfl HT9.out.ms.lies ?_))
      refine (HCK.out).mono ?_
      rintro r w11 ⟨rfl, g11⟩
      replace HRX := Lib.hid (mat_gr HRX.out g11)
      replace HGX := Lib.hid (HGX.out.tr g11)
      have HT11 := Lib.hid (HT9.out.more g11)
      clear g11 HCK HT9
      by_cases hc : mChk y = 0; rotate_left
      · have heb2 : (mChk y != 0) = true := by simpa using hc
        have HRD : Hid (readM S = (zMx, mChk y)) := Lib.hid (by
          have h1 := readM_bad (S := S) (by rw [HAL.out]; exact HE0.out) (by rw [HAL.out]; show mChk (mst y) ≠ 0; rw [mChk_mst]; exact hc)
          rw [h1, HAL.out]
          show (zMx, mChk (mst y)) = _
          rw [mChk_mst])
        clear hc
        obtain ⟨ev, hev⟩ : ∃ ev, mChk y = ev := ⟨_, rfl⟩
        rw [hev] at heb2 HRD ⊢
        clear hev
        go_wp2_with (first
          | refine buildZM rfl rfl ?_
          | ((with_reducible refine at_st 37 (.tmp 2) (.tmp 101) ?_); refine storeMR zMx zMx Z32L_len Z32L_len w.heap.size rfl _ _ rfl rfl rfl rfl HRX.out ?_; intro wz hz1 hz2; have HZ1 := Lib.hid hz1; have HZ2 := Lib.hid hz2; clear hz1 hz2))
        have hld := ldMsg HZ1.out Z32L_len
        refine bodyPost_ret (v := .tuple #[.agg zMx.cells, .int .i64 ev]) ?_ rfl ?_
        · simp [results, Tryz.results15, Act.put, asAR, hld]
        exact ⟨zMx, ev, rfl, by rw [HRD.out]; rfl, zMx_ok _, HZ2.out.below HGX.out (Nat.le_refl _), fun _ _ => zMx_ok _⟩
      have HRD : Hid (readM S = (mst y, 0)) := Lib.hid (by
        have h1 := readM_ok (S := S) (by rw [HAL.out]; exact HE0.out) (by rw [HAL.out]; show mChk (mst y) = 0; rw [mChk_mst]; exact hc)
        rw [h1, HAL.out])
      rw [hc]
      clear hc
      go_wp2_with (first
        | ((with_reducible refine at_ld 37 (.tmp 5) ?_); refine loadM y HT11.out.ms.dig rfl (.tmp 5) rfl g rfl HT11.out.ms.lies ?_)
        | ((with_reducible refine at_st 37 (.tmp 2) (.tmp 103) ?_); refine storeMR y zMx HT11.out.ms.dig Z32L_len w.heap.size rfl _ _ rfl rfl rfl rfl HRX.out ?_; intro wz hz1 hz2; have HZ1 := Lib.hid hz1; have HZ2 := Lib.hid hz2; clear hz1 hz2))
      have hld := ldMsg HZ1.out HT11.out.ms.dig
      refine bodyPost_ret (v := .tuple #[.agg y.cells, .int .i64 0]) ?_ rfl ?_
      · simp [results, Tryz.results15, Act.put, asAR, hld]
      exact ⟨y, 0, rfl, HRD.out.symm, (HT11.out.ms.rm HZ2.out (by have := HBB.out; have := HT11.out.hb; omega) (by have := HBB.out; have := HGB.out; omega)).ok, HZ2.out.below HGX.out (Nat.le_refl _), fun W2 h2 => (HT11.out.ms.rm HZ2.out (by have := HBB.out; have := HT11.out.hb; omega) (by have := HBB.out; have := HGB.out; omega)).keep (fun j h1 h3 => h2 j (by have := HBB.out; have := HT11.out.hb; omega) h3)⟩
    by_cases k6 : k = 6
    · subst k6
      have HP := Lib.hid (sFlag_any b s4.1 s4.2 _ HT.out.rd HT.out.sz)
      have HSZ := Lib.hid (flgM_szR s4.1 s4.2)
      obtain ⟨p, s6, hp⟩ : ∃ p s6, flgM s4.1 s4.2 = (p, s6) := ⟨_, _, rfl⟩
      have HPX := Lib.hid hp
      simp only [hp] at HP HSZ
      clear hp
      go_wp2_with fail
      refine (HP.out).mono ?_
      rintro r wf ⟨rfl, h6, m6⟩
      have HTF := Lib.hid (HT.out.take (s' := s6) h6 HSZ.out m6)
      clear h6 m6 HP HSZ HT
      have c4 := (mxAt HTF.out.ms.lies HTF.out.ms.dig).c4
      have f4 := mat_frz HTF.out.ms.lies 4
      have HTG := Lib.hid (HTF.out.setTn p)
      clear HTF
      have HTO := Lib.hid (tko6 (x := x9) (s := s4) HX9.out.1 (by simp only [HPX.out]; exact HTG.out))
      obtain ⟨y, hy, h9⟩ := HTO.out
      have HAL : Hid (rdAll S = (mst y, (rdBody (rdHead S).1 (rdHead S).2).2)) := Lib.hid (by
        unfold rdAll
        rw [HX9.out.2.2.2.2]
        exact Prod.ext hy.symm rfl)
      have HT9 : Hid (TK 66 W0 b B g y (rdBody (rdHead S).1 (rdHead S).2).2 _) := Lib.hid (by rw [HX9.out.2.2.2.2]; exact h9)
      clear hy h9 HTO HX9
      obtain ⟨s9, hs9⟩ : ∃ s9, (rdBody (rdHead S).1 (rdHead S).2).2 = s9 := ⟨_, rfl⟩
      rw [hs9] at HAL HT9
      clear hs9
      have HPA : Hid (y.Pa.size ≤ 51) := Lib.hid (by have h1 := rdAll_pa S; rw [HAL.out] at h1; exact h1)
      have HRX : Hid (MAt _ w.heap.size zMx) := Lib.hid (mat_gr HR0.out HT9.out.gr)
      have HGX : Hid (Gr w _) := Lib.hid (HG0.out.tr HT9.out.gr)
      have HDN := Lib.hid (sDone_any b s9.1 s9.2 _ HT9.out.rd)
      go_wp2_with fail
      refine (HDN.out).mono ?_
      rintro r w10 ⟨rfl, rfl⟩
      clear HDN
      by_cases he : rdDone s9.1 s9.2 = 0; rotate_left
      · have heb : (rdDone s9.1 s9.2 == 0) = false := by simpa using he
        have heb2 : (rdDone s9.1 s9.2 != 0) = true := by simpa using he
        have HRD : Hid (readM S = (zMx, rdDone s9.1 s9.2)) := Lib.hid (by
          have h1 := readM_err (S := S) (by rw [HAL.out]; exact he)
          rw [h1, HAL.out])
        clear he
        obtain ⟨ev, hev⟩ : ∃ ev, rdDone s9.1 s9.2 = ev := ⟨_, rfl⟩
        rw [hev] at heb heb2 HRD ⊢
        clear hev
        go_wp2_with (first
          | refine buildZM rfl rfl ?_
          | ((with_reducible refine at_st 37 (.tmp 2) (.tmp 101) ?_); refine storeMR zMx zMx Z32L_len Z32L_len w.heap.size rfl _ _ rfl rfl rfl rfl HRX.out ?_; intro wz hz1 hz2; have HZ1 := Lib.hid hz1; have HZ2 := Lib.hid hz2; clear hz1 hz2))
        have hld := ldMsg HZ1.out Z32L_len
        refine bodyPost_ret (v := .tuple #[.agg zMx.cells, .int .i64 ev]) ?_ rfl ?_
        · simp [results, Tryz.results15, Act.put, asAR, hld]
        exact ⟨zMx, ev, rfl, by rw [HRD.out]; rfl, zMx_ok _, HZ2.out.below HGX.out (Nat.le_refl _), fun _ _ => zMx_ok _⟩
      have HE0 := Lib.hid he
      rw [he]
      clear he
      have HCK := Lib.hid (refMCheck_any y _ HT9.out.ms.ok (by have := HPA.out; omega))
      go_wp2_with (first
        | ((with_reducible refine at_ld 37 (.tmp 5) ?_); refine loadM y HT9.out.ms.dig rfl (.tmp 5) rfl g rfl HT9.out.ms.lies ?_))
      refine (HCK.out).mono ?_
      rintro r w11 ⟨rfl, g11⟩
      replace HRX := Lib.hid (mat_gr HRX.out g11)
      replace HGX := Lib.hid (HGX.out.tr g11)
      have HT11 := Lib.hid (HT9.out.more g11)
      clear g11 HCK HT9
      by_cases hc : mChk y = 0; rotate_left
      · have heb2 : (mChk y != 0) = true := by simpa using hc
        have HRD : Hid (readM S = (zMx, mChk y)) := Lib.hid (by
          have h1 := readM_bad (S := S) (by rw [HAL.out]; exact HE0.out) (by rw [HAL.out]; show mChk (mst y) ≠ 0; rw [mChk_mst]; exact hc)
          rw [h1, HAL.out]
          show (zMx, mChk (mst y)) = _
          rw [mChk_mst])
        clear hc
        obtain ⟨ev, hev⟩ : ∃ ev, mChk y = ev := ⟨_, rfl⟩
        rw [hev] at heb2 HRD ⊢
        clear hev
        go_wp2_with (first
          | refine buildZM rfl rfl ?_
          | ((with_reducible refine at_st 37 (.tmp 2) (.tmp 101) ?_); refine storeMR zMx zMx Z32L_len Z32L_len w.heap.size rfl _ _ rfl rfl rfl rfl HRX.out ?_; intro wz hz1 hz2; have HZ1 := Lib.hid hz1; have HZ2 := Lib.hid hz2; clear hz1 hz2))
        have hld := ldMsg HZ1.out Z32L_len
        refine bodyPost_ret (v := .tuple #[.agg zMx.cells, .int .i64 ev]) ?_ rfl ?_
        · simp [results, Tryz.results15, Act.put, asAR, hld]
        exact ⟨zMx, ev, rfl, by rw [HRD.out]; rfl, zMx_ok _, HZ2.out.below HGX.out (Nat.le_refl _), fun _ _ => zMx_ok _⟩
      have HRD : Hid (readM S = (mst y, 0)) := Lib.hid (by
        have h1 := readM_ok (S := S) (by rw [HAL.out]; exact HE0.out) (by rw [HAL.out]; show mChk (mst y) = 0; rw [mChk_mst]; exact hc)
        rw [h1, HAL.out])
      rw [hc]
      clear hc
      go_wp2_with (first
        | ((with_reducible refine at_ld 37 (.tmp 5) ?_); refine loadM y HT11.out.ms.dig rfl (.tmp 5) rfl g rfl HT11.out.ms.lies ?_)
        | ((with_reducible refine at_st 37 (.tmp 2) (.tmp 103) ?_); refine storeMR y zMx HT11.out.ms.dig Z32L_len w.heap.size rfl _ _ rfl rfl rfl rfl HRX.out ?_; intro wz hz1 hz2; have HZ1 := Lib.hid hz1; have HZ2 := Lib.hid hz2; clear hz1 hz2))
      have hld := ldMsg HZ1.out HT11.out.ms.dig
      refine bodyPost_ret (v := .tuple #[.agg y.cells, .int .i64 0]) ?_ rfl ?_
      · simp [results, Tryz.results15, Act.put, asAR, hld]
      exact ⟨y, 0, rfl, HRD.out.symm, (HT11.out.ms.rm HZ2.out (by have := HBB.out; have := HT11.out.hb; omega) (by have := HBB.out; have := HGB.out; omega)).ok, HZ2.out.below HGX.out (Nat.le_refl _), fun W2 h2 => (HT11.out.ms.rm HZ2.out (by have := HBB.out; have := HT11.out.hb; omega) (by have := HBB.out; have := HGB.out; omega)).keep (fun j h1 h3 => h2 j (by have := HBB.out; have := HT11.out.hb; omega) h3)⟩
    have HTO := Lib.hid (tkoN (by rw [HX9.out.1]; exact k2) (by rw [HX9.out.1]; exact k3) (by rw [HX9.out.1]; exact k4) (by rw [HX9.out.1]; exact k6) HT.out)
    have e2 : (k == 2) = false := by simpa using k2
    have e3 : (k == 3) = false := by simpa using k3
    have e4 : (k == 4) = false := by simpa using k4
    have e6 : (k == 6) = false := by simpa using k6
    clear HT k2 k3 k4 k6
    obtain ⟨y, hy, h9⟩ := HTO.out
    have HAL : Hid (rdAll S = (mst y, (rdBody (rdHead S).1 (rdHead S).2).2)) := Lib.hid (by
      unfold rdAll
      rw [HX9.out.2.2.2.2]
      exact Prod.ext hy.symm rfl)
    have HT9 : Hid (TK 66 W0 b B g y (rdBody (rdHead S).1 (rdHead S).2).2 _) := Lib.hid (by rw [HX9.out.2.2.2.2]; exact h9)
    clear hy h9 HTO HX9
    obtain ⟨s9, hs9⟩ : ∃ s9, (rdBody (rdHead S).1 (rdHead S).2).2 = s9 := ⟨_, rfl⟩
    rw [hs9] at HAL HT9
    clear hs9
    have HPA : Hid (y.Pa.size ≤ 51) := Lib.hid (by have h1 := rdAll_pa S; rw [HAL.out] at h1; exact h1)
    have HRX : Hid (MAt _ w.heap.size zMx) := Lib.hid (mat_gr HR0.out HT9.out.gr)
    have HGX : Hid (Gr w _) := Lib.hid (HG0.out.tr HT9.out.gr)
    have HDN := Lib.hid (sDone_any b s9.1 s9.2 _ HT9.out.rd)
    go_wp2_with fail
    refine (HDN.out).mono ?_
    rintro r w10 ⟨rfl, rfl⟩
    clear HDN
    by_cases he : rdDone s9.1 s9.2 = 0; rotate_left
    · have heb : (rdDone s9.1 s9.2 == 0) = false := by simpa using he
      have heb2 : (rdDone s9.1 s9.2 != 0) = true := by simpa using he
      have HRD : Hid (readM S = (zMx, rdDone s9.1 s9.2)) := Lib.hid (by
        have h1 := readM_err (S := S) (by rw [HAL.out]; exact he)
        rw [h1, HAL.out])
      clear he
      obtain ⟨ev, hev⟩ : ∃ ev, rdDone s9.1 s9.2 = ev := ⟨_, rfl⟩
      rw [hev] at heb heb2 HRD ⊢
      clear hev
      go_wp2_with (first
        | refine buildZM rfl rfl ?_
        | ((with_reducible refine at_st 37 (.tmp 2) (.tmp 101) ?_); refine storeMR zMx zMx Z32L_len Z32L_len w.heap.size rfl _ _ rfl rfl rfl rfl HRX.out ?_; intro wz hz1 hz2; have HZ1 := Lib.hid hz1; have HZ2 := Lib.hid hz2; clear hz1 hz2))
      have hld := ldMsg HZ1.out Z32L_len
      refine bodyPost_ret (v := .tuple #[.agg zMx.cells, .int .i64 ev]) ?_ rfl ?_
      · simp [results, Tryz.results15, Act.put, asAR, hld]
      exact ⟨zMx, ev, rfl, by rw [HRD.out]; rfl, zMx_ok _, HZ2.out.below HGX.out (Nat.le_refl _), fun _ _ => zMx_ok _⟩
    have HE0 := Lib.hid he
    rw [he]
    clear he
    have HCK := Lib.hid (refMCheck_any y _ HT9.out.ms.ok (by have := HPA.out; omega))
    go_wp2_with (first
      | ((with_reducible refine at_ld 37 (.tmp 5) ?_); refine loadM y HT9.out.ms.dig rfl (.tmp 5) rfl g rfl HT9.out.ms.lies ?_))
    refine (HCK.out).mono ?_
    rintro r w11 ⟨rfl, g11⟩
    replace HRX := Lib.hid (mat_gr HRX.out g11)
    replace HGX := Lib.hid (HGX.out.tr g11)
    have HT11 := Lib.hid (HT9.out.more g11)
    clear g11 HCK HT9
    by_cases hc : mChk y = 0; rotate_left
    · have heb2 : (mChk y != 0) = true := by simpa using hc
      have HRD : Hid (readM S = (zMx, mChk y)) := Lib.hid (by
        have h1 := readM_bad (S := S) (by rw [HAL.out]; exact HE0.out) (by rw [HAL.out]; show mChk (mst y) ≠ 0; rw [mChk_mst]; exact hc)
        rw [h1, HAL.out]
        show (zMx, mChk (mst y)) = _
        rw [mChk_mst])
      clear hc
      obtain ⟨ev, hev⟩ : ∃ ev, mChk y = ev := ⟨_, rfl⟩
      rw [hev] at heb2 HRD ⊢
      clear hev
      go_wp2_with (first
        | refine buildZM rfl rfl ?_
        | ((with_reducible refine at_st 37 (.tmp 2) (.tmp 101) ?_); refine storeMR zMx zMx Z32L_len Z32L_len w.heap.size rfl _ _ rfl rfl rfl rfl HRX.out ?_; intro wz hz1 hz2; have HZ1 := Lib.hid hz1; have HZ2 := Lib.hid hz2; clear hz1 hz2))
      have hld := ldMsg HZ1.out Z32L_len
      refine bodyPost_ret (v := .tuple #[.agg zMx.cells, .int .i64 ev]) ?_ rfl ?_
      · simp [results, Tryz.results15, Act.put, asAR, hld]
      exact ⟨zMx, ev, rfl, by rw [HRD.out]; rfl, zMx_ok _, HZ2.out.below HGX.out (Nat.le_refl _), fun _ _ => zMx_ok _⟩
    have HRD : Hid (readM S = (mst y, 0)) := Lib.hid (by
      have h1 := readM_ok (S := S) (by rw [HAL.out]; exact HE0.out) (by rw [HAL.out]; show mChk (mst y) = 0; rw [mChk_mst]; exact hc)
      rw [h1, HAL.out])
    rw [hc]
    clear hc
    go_wp2_with (first
      | ((with_reducible refine at_ld 37 (.tmp 5) ?_); refine loadM y HT11.out.ms.dig rfl (.tmp 5) rfl g rfl HT11.out.ms.lies ?_)
      | ((with_reducible refine at_st 37 (.tmp 2) (.tmp 103) ?_); refine storeMR y zMx HT11.out.ms.dig Z32L_len w.heap.size rfl _ _ rfl rfl rfl rfl HRX.out ?_; intro wz hz1 hz2; have HZ1 := Lib.hid hz1; have HZ2 := Lib.hid hz2; clear hz1 hz2))
    have hld := ldMsg HZ1.out HT11.out.ms.dig
    refine bodyPost_ret (v := .tuple #[.agg y.cells, .int .i64 0]) ?_ rfl ?_
    · simp [results, Tryz.results15, Act.put, asAR, hld]
    exact ⟨y, 0, rfl, HRD.out.symm, (HT11.out.ms.rm HZ2.out (by have := HBB.out; have := HT11.out.hb; omega) (by have := HBB.out; have := HGB.out; omega)).ok, HZ2.out.below HGX.out (Nat.le_refl _), fun W2 h2 => (HT11.out.ms.rm HZ2.out (by have := HBB.out; have := HT11.out.hb; omega) (by have := HBB.out; have := HGB.out; omega)).keep (fun j h1 h3 => h2 j (by have := HBB.out; have := HT11.out.hb; omega) h3)⟩
theorem refMRead_any (S : ByteArray) (w : World) (hS : S.size ≤ 9223372036854775807) :
    Calls Tryz.prog 15 #[.string S] w fun r w' => ReadR S w r w' := (refMReadN_any S w hS).mono fun _ _ h => h.toR
end Go.Proofs.YtfobnemocodomaaGreat
