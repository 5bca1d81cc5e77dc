/- The document's take of an operation. -/
import Derived.Test.YtjjdgmabgiembaaDoorOpsK
set_option linter.unusedVariables false
set_option linter.unusedSimpArgs false
set_option maxHeartbeats 4000000
namespace Go.Proofs.YtjjdgmabgiembaaDoor
open Go.RowKit Go.Shelf

def tpeer (s : Rst) : Rst := ({ s.1 with P := (numM 63 s.2.1 s.2.2).1 }, (numM 63 s.2.1 s.2.2).2.1, (numM 63 s.2.1 s.2.2).2.2)
/-- behind the kind -/
def rtakeK (K : Int) (s : Rst) : Rst :=
  cttxt (decide (K = 0)) 1 255 (cttxt (decide (K < 2)) 0 255 (ctnum (decide (K = 7)) 3 1073741824 (ctnum (decide (K = 7 ∨ K = 9)) 2 1073741824 (ctnum (decide (2 ≤ K ∧ K ≤ 9)) 1 1073741824 (ctnum (decide (4 ≤ K ∧ K ≤ 7)) 0 63 (tpeer s))))))
def kindE (K e : Int) : Int := if e = 0 ∧ 12 < K then 15 else e
def rtake (S : ByteArray) (e : Int) : Rst := rtakeK (numM 1073741824 S e).1 ({ zOp with K := (numM 1073741824 S e).1 }, (numM 1073741824 S e).2.1, kindE (numM 1073741824 S e).1 (numM 1073741824 S e).2.2)
theorem numM_err (m : Int) (S : ByteArray) (e : Int) (h : e ≠ 0) : numM m S e = (0, S, e) := by unfold numM; rw [if_pos h]
theorem txtM_err (m : Int) (S : ByteArray) (e : Int) (h : e ≠ 0) : txtM m S e = (⟨#[]⟩, S, e) := by unfold txtM; rw [if_pos h]
theorem numM_err2 (m : Int) (S : ByteArray) (e : Int) (h : (numM m S e).2.2 ≠ 0) : (numM m S e).1 = 0 := by
  unfold numM at h ⊢
  split at h
  · rename_i c; rw [if_pos c]
  · rename_i c
    rw [if_neg c]
    split at h
    · rename_i d; rw [if_pos d]
    · exact absurd rfl h
theorem tnum_err (i : Nat) (m : Int) (s : Rst) (h : s.2.2 ≠ 0) : (tnum i m s).2 = s.2 := by unfold tnum; rw [numM_err _ _ _ h]
theorem ttxt_err (i : Nat) (m : Int) (s : Rst) (h : s.2.2 ≠ 0) : (ttxt i m s).2 = s.2 := by unfold ttxt; rw [txtM_err _ _ _ h]
theorem ctnum_err (b : Bool) (i : Nat) (m : Int) (s : Rst) (h : s.2.2 ≠ 0) : (ctnum b i m s).2 = s.2 := by unfold ctnum; split; exact tnum_err _ _ _ h; rfl
theorem cttxt_err (b : Bool) (i : Nat) (m : Int) (s : Rst) (h : s.2.2 ≠ 0) : (cttxt b i m s).2 = s.2 := by unfold cttxt; split; exact ttxt_err _ _ _ h; rfl
theorem tpeer_err (s : Rst) (h : s.2.2 ≠ 0) : (tpeer s).2 = s.2 := by unfold tpeer; rw [numM_err _ _ _ h]
theorem rtakeK_err (K : Int) (s : Rst) (h : s.2.2 ≠ 0) : (rtakeK K s).2 = s.2 := by
  unfold rtakeK
  have h0 := tpeer_err s h
  have h1 : (tpeer s).2.2 ≠ 0 := by rw [h0]; exact h
  have step : ∀ (t : Rst), t.2 = s.2 → ∀ b i m, (ctnum b i m t).2 = s.2 := fun t ht b i m => by rw [ctnum_err b i m t (by rw [ht]; exact h), ht]
  have stepT : ∀ (t : Rst), t.2 = s.2 → ∀ b i m, (cttxt b i m t).2 = s.2 := fun t ht b i m => by rw [cttxt_err b i m t (by rw [ht]; exact h), ht]
  exact stepT _ (stepT _ (step _ (step _ (step _ (step _ h0 _ _ _) _ _ _) _ _ _) _ _ _) _ _ _) _ _ _
theorem bit1 (fl : Int) : bitB fl 1 = bitB fl (2 ^ 0) := rfl
theorem otake_rK {S S1 : ByteArray} {K e : Int} (hn : numM 1073741824 S e = (K, S1, 0)) (h2 : K < 13) : otake S e = rtakeK K ({ zOp with K := K }, S1, 0) := by
  have hK := (numM_bd2 1073741824 S e).1
  unfold otake
  rw [hn] at hK
  simp only [hn]
  rw [if_neg (by simp), if_neg (by omega)]
  obtain ⟨k, rfl⟩ : ∃ k : Nat, K = (k : Int) := ⟨K.toNat, by omega⟩
  obtain ⟨t0, t1, t2, t3, t4, t5⟩ := bit_tab ⟨k, by omega⟩
  simp only [Int.toNat_natCast]
  unfold rtakeK
  simp only [rtTo, rnTo, bit1]
  rw [t0, show bitB (flds.getD k 0) (2 ^ (1 + 0)) = _ from t1, show bitB (flds.getD k 0) (2 ^ (1 + 1)) = _ from t2, show bitB (flds.getD k 0) (2 ^ (1 + 2)) = _ from t3, t4, t5]
  have d0 : decide ((k : Int) = 0) = decide (k = 0) := by rw [decide_eq_decide]; omega
  have d1 : decide ((k : Int) < 2) = decide (k < 2) := by rw [decide_eq_decide]; omega
  have d2 : decide ((k : Int) = 7) = decide (k = 7) := by rw [decide_eq_decide]; omega
  have d3 : decide ((k : Int) = 7 ∨ (k : Int) = 9) = decide (k = 7 ∨ k = 9) := by rw [decide_eq_decide]; omega
  have d4 : decide (2 ≤ (k : Int) ∧ (k : Int) ≤ 9) = decide (2 ≤ k ∧ k ≤ 9) := by rw [decide_eq_decide]; omega
  have d5 : decide (4 ≤ (k : Int) ∧ (k : Int) ≤ 7) = decide (4 ≤ k ∧ k ≤ 7) := by rw [decide_eq_decide]; omega
  rw [d0, d1, d2, d3, d4, d5]
  rfl
/-- what is left and what is wrong are the same; and the operation, where nothing is wrong -/
theorem rtake_eq (S : ByteArray) (e : Int) : (rtake S e).2 = (otake S e).2 ∧ ((otake S e).2.2 = 0 → (rtake S e).1 = (otake S e).1) := by
  obtain ⟨K, S1, e1, hn⟩ : ∃ K S1 e1, numM 1073741824 S e = (K, S1, e1) := ⟨_, _, _, rfl⟩
  have hr : rtake S e = rtakeK K ({ zOp with K := K }, S1, kindE K e1) := by unfold rtake; rw [hn]
  by_cases h1 : e1 = 0
  · subst h1
    by_cases h2 : K < 13
    · have hke : kindE K 0 = 0 := by unfold kindE; rw [if_neg (by omega)]
      rw [hr, hke, otake_rK hn h2]
      exact ⟨rfl, fun _ => rfl⟩
    · have hke : kindE K 0 = 15 := by unfold kindE; rw [if_pos ⟨rfl, by omega⟩]
      have ho : otake S e = (zOp, S1, 15) := by unfold otake; rw [hn]; simp only; rw [if_neg (by simp), if_pos h2]
      rw [hr, hke, ho]
      exact ⟨rtakeK_err _ _ (by show (15 : Int) ≠ 0; decide), fun h => absurd h (by show ¬ (15 : Int) = 0; decide)⟩
  · have hke : kindE K e1 = e1 := by unfold kindE; rw [if_neg (fun h => h1 h.1)]
    have ho : otake S e = (zOp, S1, e1) := by unfold otake; rw [hn]; simp only; rw [if_pos h1]
    rw [hr, hke, ho]
    exact ⟨rtakeK_err _ _ h1, fun h => absurd h h1⟩
theorem tpeer_size (s : Rst) : (tpeer s).2.1.size ≤ s.2.1.size := numM_size _ _ _

set_option maxRecDepth 100000 in
theorem refOTake_any (b : Nat) (S : ByteArray) (e : Int) (w : World) (h : Sr 61 b S e w) (hS : S.size ≤ 9223372036854775807) :
    Calls Tryd.prog 37 #[.pointer (some ⟨b, 0, none⟩)] w fun r w' => r = .returned (.agg (rtake S e).1.cells) ∧ Sr 61 b (rtake S e).2.1 (rtake S e).2.2 w' ∧ Rm b w w' := by
  have hbl := h.lt
  obtain ⟨K, S1, e1, hn⟩ : ∃ K S1 e1, numM 1073741824 S e = (K, S1, e1) := ⟨_, _, _, rfl⟩
  have hK := numM_bd2 1073741824 S e
  have hS1 := numM_size 1073741824 S e
  have hKe : e1 ≠ 0 → K = 0 := fun he => by have := numM_err2 1073741824 S e (by rw [hn]; exact he); rw [hn] at this; exact this
  have hga : Gr w (w.alloc (.cells #[.int .i64 0, .int .i64 0, .int .i64 0, .int .i64 0, .int .i64 0, .int .i64 0, .string ⟨#[]⟩, .string ⟨#[]⟩] 23)) := (Gr.rfl' w).al _
  have HR0 := Lib.hid (zOp_at w)
  have HN := Lib.hid (sNumber_any b S e 1073741824 _ (h.gr hga) hS)
  rw [hn] at hK hS1
  simp only [hn] at HN
  have HRT0 : Hid (rtake S e = rtakeK K (({ zOp with K := K } : Opx), S1, kindE K e1)) := Lib.hid (by unfold rtake; simp only [hn])
  have hr0b : w.heap.size ≠ b := by omega
  have HGA := Lib.hid hga
  clear h hn hga
  go_enter Tryd.func37, Tryd.ntmps37
  go_wp2_with fail
  refine (HN.out).mono ?_
  rintro r w2 ⟨rfl, h2, m2⟩
  have HR2 := Lib.hid (HR0.out.rm m2 hr0b)
  have M2 := Lib.hid ((Rm.of HGA.out).trans m2)
  have h2s := M2.out.size
  have h2r := (Array.getElem?_eq_some_iff.1 HR2.out).1
  have hal : Gr w2 (w2.alloc (.cells #[.int .i64 K, .int .i64 0, .int .i64 0, .int .i64 0, .int .i64 0, .int .i64 0, .string ⟨#[]⟩, .string ⟨#[]⟩] 23)) := (Gr.rfl' w2).al _
  have HX3 : Hid (OpAt (w2.alloc (.cells #[.int .i64 K, .int .i64 0, .int .i64 0, .int .i64 0, .int .i64 0, .int .i64 0, .string ⟨#[]⟩, .string ⟨#[]⟩] 23)) w2.heap.size { zOp with K := K }) := Lib.hid (World.alloc_heap_new w2 _)
  have H3 := Lib.hid (h2.gr hal)
  have HR3 := Lib.hid (show OpAt _ w.heap.size zOp from (hal.block _ h2r).trans HR2.out)
  have M3 := Lib.hid (M2.out.gr hal)
  clear h2 m2 HN HR2 M2 HR0 hal HGA
  go_upto_region 2 with (fail)
  obtain ⟨w3, hw3⟩ : ∃ w3, w2.alloc (.cells #[.int .i64 K, .int .i64 0, .int .i64 0, .int .i64 0, .int .i64 0, .int .i64 0, .string ⟨#[]⟩, .string ⟨#[]⟩] 23) = w3 := ⟨_, rfl⟩
  rw [hw3] at HX3 H3 HR3 M3 ⊢
  clear hw3
  obtain ⟨gx, hgx⟩ : ∃ gx, w2.heap.size = gx := ⟨_, rfl⟩
  rw [hgx] at HX3 ⊢
  have hgb : gx ≠ b := by omega
  have hgr : gx ≠ w.heap.size := by omega
  have hgw : w.heap.size ≤ gx := by omega
  clear h2s h2r hgx
  have q0 : w3.cell? ⟨gx, 0, none⟩ = some (.int .i64 K) := HX3.out.cell rfl
  have r1 := H3.out.cell1
  by_cases he1 : e1 = 0
  · subst he1
    by_cases hk13 : K ≤ 12
    · have hbk : decide (12 < K) = false := decide_eq_false (by omega)
      have hke : kindE K 0 = 0 := by unfold kindE; rw [if_neg (by omega)]
      obtain ⟨st0, hst0⟩ : ∃ st0 : Rst, (({ zOp with K := K } : Opx), S1, (0 : Int)) = st0 := ⟨_, rfl⟩
      have HRT : Hid (rtake S e = rtakeK K st0) := Lib.hid (by rw [HRT0.out, hke, hst0])
      have HX0 : Hid (OpAt w3 gx st0.1) := by rw [← hst0]; exact HX3
      have H0 : Hid (Sr 61 b st0.2.1 st0.2.2 w3) := by rw [← hst0]; exact H3
      have hz0 : st0.2.1.size ≤ 9223372036854775807 := by rw [← hst0]; show S1.size ≤ _; omega
      have HR0 := HR3
      have M0 := M3
      obtain ⟨v0, hv0⟩ : ∃ v0, w3 = v0 := ⟨_, rfl⟩
      rw [hv0] at HX0 H0 HR0 M0 q0 r1 ⊢
      clear hst0 HX3 H3 HR3 M3 hke HRT0 hv0
      go_upto_region 5 with (fail)
      clear q0 r1
      have hcl : K = 0 ∨ K = 1 ∨ (2 ≤ K ∧ K ≤ 3) ∨ (4 ≤ K ∧ K ≤ 6) ∨ K = 7 ∨ K = 8 ∨ K = 9 ∨ 10 ≤ K := by omega
      rcases hcl with hc | hc | hc | hc | hc | hc | hc | hc
      · skip
        have b1 : decide (4 ≤ K) = false := by simp; omega
        have b2 : decide (K ≤ 7) = true := by simp; omega
        have b3 : decide (2 ≤ K) = false := by simp; omega
        have b4 : decide (K ≤ 9) = true := by simp; omega
        have b5 : (K == 7) = false := by simp; omega
        have b6 : (K == 9) = false := by simp; omega
        have b7 : decide (K < 2) = true := by simp; omega
        have b8 : (K == 0) = true := by simp; omega
        have HN0 := Lib.hid (sNumber_any b st0.2.1 st0.2.2 63 v0 H0.out hz0)
        have hsz0 := tpeer_size st0
        go_wp2_with fail
        refine (HN0.out).mono ?_
        rintro r wn ⟨rfl, hn, mn⟩
        have HXn := HX0.out.rm mn hgb
        have qn : wn.cell? ⟨gx, 1, none⟩ = some _ := HXn.cell (j := 1) rfl
        have fn := HXn.frz 1
        go_upto_region 6 with (fail)
        obtain ⟨v1, hv⟩ : ∃ v1, wn.setCell ⟨gx, 1, none⟩ (.int .i64 (numM 63 st0.2.1 st0.2.2).1) = v1 := ⟨_, rfl⟩
        rw [hv]
        obtain ⟨st1, hst⟩ : ∃ st1, tpeer st0 = st1 := ⟨_, rfl⟩
        have HX1 : Hid (OpAt v1 gx st1.1) := Lib.hid (by rw [← hst, ← hv]; exact HXn.setP (numM 63 st0.2.1 st0.2.2).1)
        have H1 : Hid (Sr 61 b st1.2.1 st1.2.2 v1) := Lib.hid (by rw [← hst, ← hv]; exact hn.setOther (Ne.symm hgb) 1 _)
        have HR1 : Hid (OpAt v1 w.heap.size zOp) := Lib.hid (by rw [← hv]; exact (Below.heap_setCell _ _ _ _ (Ne.symm hgr)).trans (HR0.out.rm mn hr0b))
        have M1 : Hid (Rm b w v1) := Lib.hid (by rw [← hv]; exact (M0.out.trans mn).set hgw 1 _)
        have hz1 : st1.2.1.size ≤ 9223372036854775807 := by rw [← hst]; exact Nat.le_trans hsz0 hz0
        have E1 := Lib.hid hst
        clear hn mn HXn qn fn hv hst HN0 HX0 H0 HR0 M0 hsz0 hz0
        have HN1 := Lib.hid (sText_any b 255 st1.2.1 st1.2.2 v1 H1.out hz1)
        have hsz1 := txtM_size 255 st1.2.1 st1.2.2
        go_wp2_with fail
        refine (HN1.out).mono ?_
        rintro r wn ⟨rfl, hn, mn⟩
        have HXn := HX1.out.rm mn hgb
        have qn : wn.cell? ⟨gx, 6, none⟩ = some _ := HXn.cell (j := 6) rfl
        have fn := HXn.frz 6
        go_upto_region 16 with (fail)
        obtain ⟨v2, hv⟩ : ∃ v2, wn.setCell ⟨gx, 6, none⟩ (.string (txtM 255 st1.2.1 st1.2.2).1) = v2 := ⟨_, rfl⟩
        rw [hv]
        obtain ⟨st2, hst⟩ : ∃ st2, ttxt 0 255 st1 = st2 := ⟨_, rfl⟩
        have HX2 : Hid (OpAt v2 gx st2.1) := Lib.hid (by rw [← hst, ← hv]; exact HXn.setT 0 (by decide) (txtM 255 st1.2.1 st1.2.2).1)
        have H2 : Hid (Sr 61 b st2.2.1 st2.2.2 v2) := Lib.hid (by rw [← hst, ← hv]; exact hn.setOther (Ne.symm hgb) 6 _)
        have HR2 : Hid (OpAt v2 w.heap.size zOp) := Lib.hid (by rw [← hv]; exact (Below.heap_setCell _ _ _ _ (Ne.symm hgr)).trans (HR1.out.rm mn hr0b))
        have M2 : Hid (Rm b w v2) := Lib.hid (by rw [← hv]; exact (M1.out.trans mn).set hgw 6 _)
        have hz2 : st2.2.1.size ≤ 9223372036854775807 := by rw [← hst]; exact Nat.le_trans hsz1 hz1
        have E2 := Lib.hid hst
        clear hn mn HXn qn fn hv hst HN1 HX1 H1 HR1 M1 hsz1 hz1
        have HN2 := Lib.hid (sText_any b 255 st2.2.1 st2.2.2 v2 H2.out hz2)
        have hsz2 := txtM_size 255 st2.2.1 st2.2.2
        go_wp2_with fail
        refine (HN2.out).mono ?_
        rintro r wn ⟨rfl, hn, mn⟩
        have HXn := HX2.out.rm mn hgb
        have qn : wn.cell? ⟨gx, 7, none⟩ = some _ := HXn.cell (j := 7) rfl
        have fn := HXn.frz 7
        go_upto_region 18 with (fail)
        obtain ⟨v3, hv⟩ : ∃ v3, wn.setCell ⟨gx, 7, none⟩ (.string (txtM 255 st2.2.1 st2.2.2).1) = v3 := ⟨_, rfl⟩
        rw [hv]
        obtain ⟨st3, hst⟩ : ∃ st3, ttxt 1 255 st2 = st3 := ⟨_, rfl⟩
        have HX3 : Hid (OpAt v3 gx st3.1) := Lib.hid (by rw [← hst, ← hv]; exact HXn.setT 1 (by decide) (txtM 255 st2.2.1 st2.2.2).1)
        have H3 : Hid (Sr 61 b st3.2.1 st3.2.2 v3) := Lib.hid (by rw [← hst, ← hv]; exact hn.setOther (Ne.symm hgb) 7 _)
        have HR3 : Hid (OpAt v3 w.heap.size zOp) := Lib.hid (by rw [← hv]; exact (Below.heap_setCell _ _ _ _ (Ne.symm hgr)).trans (HR2.out.rm mn hr0b))
        have M3 : Hid (Rm b w v3) := Lib.hid (by rw [← hv]; exact (M2.out.trans mn).set hgw 7 _)
        have hz3 : st3.2.1.size ≤ 9223372036854775807 := by rw [← hst]; exact Nat.le_trans hsz2 hz2
        have E3 := Lib.hid hst
        clear hn mn HXn qn fn hv hst HN2 HX2 H2 HR2 M2 hsz2 hz2
        have hfin : rtakeK K st0 = st3 := by
          unfold rtakeK ctnum cttxt
          rw [if_pos (by simp; omega), if_pos (by simp; omega), if_neg (by simp; omega), if_neg (by simp; omega), if_neg (by simp; omega), if_neg (by simp; omega)]
          rw [E1.out, E2.out, E3.out]
        have HO : Hid (rtake S e = st3) := Lib.hid (by rw [HRT.out]; exact hfin)
        clear hfin
        obtain ⟨stX, hsX⟩ : ∃ stX, st3 = stX := ⟨_, rfl⟩
        have HXX : Hid (OpAt v3 gx stX.1) := by rw [← hsX]; exact HX3
        have HH : Hid (Sr 61 b stX.2.1 stX.2.2 v3) := by rw [← hsX]; exact H3
        have HRX := HR3
        have MX := M3
        rw [hsX] at HO
        clear hsX HX3 H3 HR3 M3
        obtain ⟨x9, S9, e9⟩ := stX
        go_wp2_with (first
          | ((with_reducible refine at_ld 23 (.tmp 3) ?_); refine wpList_load_row rfl 23 _ rfl gx rfl 23 x9.cells (0, 0) _ HXX.out Tryd.underlying23 rfl (by kernel_rfl) ?_)
          | ((with_reducible refine at_st 23 (.tmp 2) (.tmp 67) ?_); refine wpList_store_row rfl 23 _ _ rfl w.heap.size x9.cells rfl rfl 23 zOp.cells HRX.out (by kernel_rfl) rfl (oOne _) ?_))
        refine bodyPost_ret (v := .agg (rtake S e).1.cells) ?_ rfl ?_
        · simp [results, Tryd.results37, Act.put, asA2]
          refine run_loadVar_row _ _ 23 23 _ (0, 0) _ ?_ Tryd.underlying23 rfl (by kernel_rfl)
          rw [HO.out]
          exact HRX.out.setRow x9
        · rw [HO.out]
          exact ⟨rfl, (setRow_other _ _ _ _ (Ne.symm hr0b)).trans HH.out, MX.out.setRow (Nat.le_refl _) _⟩
      · skip
        have b1 : decide (4 ≤ K) = false := by simp; omega
        have b2 : decide (K ≤ 7) = true := by simp; omega
        have b3 : decide (2 ≤ K) = false := by simp; omega
        have b4 : decide (K ≤ 9) = true := by simp; omega
        have b5 : (K == 7) = false := by simp; omega
        have b6 : (K == 9) = false := by simp; omega
        have b7 : decide (K < 2) = true := by simp; omega
        have b8 : (K == 0) = false := by simp; omega
        have HN0 := Lib.hid (sNumber_any b st0.2.1 st0.2.2 63 v0 H0.out hz0)
        have hsz0 := tpeer_size st0
        go_wp2_with fail
        refine (HN0.out).mono ?_
        rintro r wn ⟨rfl, hn, mn⟩
        have HXn := HX0.out.rm mn hgb
        have qn : wn.cell? ⟨gx, 1, none⟩ = some _ := HXn.cell (j := 1) rfl
        have fn := HXn.frz 1
        go_upto_region 6 with (fail)
        obtain ⟨v1, hv⟩ : ∃ v1, wn.setCell ⟨gx, 1, none⟩ (.int .i64 (numM 63 st0.2.1 st0.2.2).1) = v1 := ⟨_, rfl⟩
        rw [hv]
        obtain ⟨st1, hst⟩ : ∃ st1, tpeer st0 = st1 := ⟨_, rfl⟩
        have HX1 : Hid (OpAt v1 gx st1.1) := Lib.hid (by rw [← hst, ← hv]; exact HXn.setP (numM 63 st0.2.1 st0.2.2).1)
        have H1 : Hid (Sr 61 b st1.2.1 st1.2.2 v1) := Lib.hid (by rw [← hst, ← hv]; exact hn.setOther (Ne.symm hgb) 1 _)
        have HR1 : Hid (OpAt v1 w.heap.size zOp) := Lib.hid (by rw [← hv]; exact (Below.heap_setCell _ _ _ _ (Ne.symm hgr)).trans (HR0.out.rm mn hr0b))
        have M1 : Hid (Rm b w v1) := Lib.hid (by rw [← hv]; exact (M0.out.trans mn).set hgw 1 _)
        have hz1 : st1.2.1.size ≤ 9223372036854775807 := by rw [← hst]; exact Nat.le_trans hsz0 hz0
        have E1 := Lib.hid hst
        clear hn mn HXn qn fn hv hst HN0 HX0 H0 HR0 M0 hsz0 hz0
        have HN1 := Lib.hid (sText_any b 255 st1.2.1 st1.2.2 v1 H1.out hz1)
        have hsz1 := txtM_size 255 st1.2.1 st1.2.2
        go_wp2_with fail
        refine (HN1.out).mono ?_
        rintro r wn ⟨rfl, hn, mn⟩
        have HXn := HX1.out.rm mn hgb
        have qn : wn.cell? ⟨gx, 6, none⟩ = some _ := HXn.cell (j := 6) rfl
        have fn := HXn.frz 6
        go_upto_region 16 with (fail)
        obtain ⟨v2, hv⟩ : ∃ v2, wn.setCell ⟨gx, 6, none⟩ (.string (txtM 255 st1.2.1 st1.2.2).1) = v2 := ⟨_, rfl⟩
        rw [hv]
        obtain ⟨st2, hst⟩ : ∃ st2, ttxt 0 255 st1 = st2 := ⟨_, rfl⟩
        have HX2 : Hid (OpAt v2 gx st2.1) := Lib.hid (by rw [← hst, ← hv]; exact HXn.setT 0 (by decide) (txtM 255 st1.2.1 st1.2.2).1)
        have H2 : Hid (Sr 61 b st2.2.1 st2.2.2 v2) := Lib.hid (by rw [← hst, ← hv]; exact hn.setOther (Ne.symm hgb) 6 _)
        have HR2 : Hid (OpAt v2 w.heap.size zOp) := Lib.hid (by rw [← hv]; exact (Below.heap_setCell _ _ _ _ (Ne.symm hgr)).trans (HR1.out.rm mn hr0b))
        have M2 : Hid (Rm b w v2) := Lib.hid (by rw [← hv]; exact (M1.out.trans mn).set hgw 6 _)
        have hz2 : st2.2.1.size ≤ 9223372036854775807 := by rw [← hst]; exact Nat.le_trans hsz1 hz1
        have E2 := Lib.hid hst
        clear hn mn HXn qn fn hv hst HN1 HX1 H1 HR1 M1 hsz1 hz1
        have hfin : rtakeK K st0 = st2 := by
          unfold rtakeK ctnum cttxt
          rw [if_neg (by simp; omega), if_pos (by simp; omega), if_neg (by simp; omega), if_neg (by simp; omega), if_neg (by simp; omega), if_neg (by simp; omega)]
          rw [E1.out, E2.out]
        have HO : Hid (rtake S e = st2) := Lib.hid (by rw [HRT.out]; exact hfin)
        clear hfin
        obtain ⟨stX, hsX⟩ : ∃ stX, st2 = stX := ⟨_, rfl⟩
        have HXX : Hid (OpAt v2 gx stX.1) := by rw [← hsX]; exact HX2
        have HH : Hid (Sr 61 b stX.2.1 stX.2.2 v2) := by rw [← hsX]; exact H2
        have HRX := HR2
        have MX := M2
        rw [hsX] at HO
        clear hsX HX2 H2 HR2 M2
        obtain ⟨x9, S9, e9⟩ := stX
        go_wp2_with (first
          | ((with_reducible refine at_ld 23 (.tmp 3) ?_); refine wpList_load_row rfl 23 _ rfl gx rfl 23 x9.cells (0, 0) _ HXX.out Tryd.underlying23 rfl (by kernel_rfl) ?_)
          | ((with_reducible refine at_st 23 (.tmp 2) (.tmp 67) ?_); refine wpList_store_row rfl 23 _ _ rfl w.heap.size x9.cells rfl rfl 23 zOp.cells HRX.out (by kernel_rfl) rfl (oOne _) ?_))
        refine bodyPost_ret (v := .agg (rtake S e).1.cells) ?_ rfl ?_
        · simp [results, Tryd.results37, Act.put, asA2]
          refine run_loadVar_row _ _ 23 23 _ (0, 0) _ ?_ Tryd.underlying23 rfl (by kernel_rfl)
          rw [HO.out]
          exact HRX.out.setRow x9
        · rw [HO.out]
          exact ⟨rfl, (setRow_other _ _ _ _ (Ne.symm hr0b)).trans HH.out, MX.out.setRow (Nat.le_refl _) _⟩
      · skip
        have b1 : decide (4 ≤ K) = false := by simp; omega
        have b2 : decide (K ≤ 7) = true := by simp; omega
        have b3 : decide (2 ≤ K) = true := by simp; omega
        have b4 : decide (K ≤ 9) = true := by simp; omega
        have b5 : (K == 7) = false := by simp; omega
        have b6 : (K == 9) = false := by simp; omega
        have b7 : decide (K < 2) = false := by simp; omega
        have b8 : (K == 0) = false := by simp; omega
        have HN0 := Lib.hid (sNumber_any b st0.2.1 st0.2.2 63 v0 H0.out hz0)
        have hsz0 := tpeer_size st0
        go_wp2_with fail
        refine (HN0.out).mono ?_
        rintro r wn ⟨rfl, hn, mn⟩
        have HXn := HX0.out.rm mn hgb
        have qn : wn.cell? ⟨gx, 1, none⟩ = some _ := HXn.cell (j := 1) rfl
        have fn := HXn.frz 1
        go_upto_region 6 with (fail)
        obtain ⟨v1, hv⟩ : ∃ v1, wn.setCell ⟨gx, 1, none⟩ (.int .i64 (numM 63 st0.2.1 st0.2.2).1) = v1 := ⟨_, rfl⟩
        rw [hv]
        obtain ⟨st1, hst⟩ : ∃ st1, tpeer st0 = st1 := ⟨_, rfl⟩
        have HX1 : Hid (OpAt v1 gx st1.1) := Lib.hid (by rw [← hst, ← hv]; exact HXn.setP (numM 63 st0.2.1 st0.2.2).1)
        have H1 : Hid (Sr 61 b st1.2.1 st1.2.2 v1) := Lib.hid (by rw [← hst, ← hv]; exact hn.setOther (Ne.symm hgb) 1 _)
        have HR1 : Hid (OpAt v1 w.heap.size zOp) := Lib.hid (by rw [← hv]; exact (Below.heap_setCell _ _ _ _ (Ne.symm hgr)).trans (HR0.out.rm mn hr0b))
        have M1 : Hid (Rm b w v1) := Lib.hid (by rw [← hv]; exact (M0.out.trans mn).set hgw 1 _)
        have hz1 : st1.2.1.size ≤ 9223372036854775807 := by rw [← hst]; exact Nat.le_trans hsz0 hz0
        have E1 := Lib.hid hst
        clear hn mn HXn qn fn hv hst HN0 HX0 H0 HR0 M0 hsz0 hz0
        have HN1 := Lib.hid (sNumber_any b st1.2.1 st1.2.2 1073741824 v1 H1.out hz1)
        have hsz1 := numM_size 1073741824 st1.2.1 st1.2.2
        go_wp2_with fail
        refine (HN1.out).mono ?_
        rintro r wn ⟨rfl, hn, mn⟩
        have HXn := HX1.out.rm mn hgb
        have qn : wn.cell? ⟨gx, 3, none⟩ = some _ := HXn.cell (j := 3) rfl
        have fn := HXn.frz 3
        go_upto_region 10 with (fail)
        obtain ⟨v2, hv⟩ : ∃ v2, wn.setCell ⟨gx, 3, none⟩ (.int .i64 (numM 1073741824 st1.2.1 st1.2.2).1) = v2 := ⟨_, rfl⟩
        rw [hv]
        obtain ⟨st2, hst⟩ : ∃ st2, tnum 1 1073741824 st1 = st2 := ⟨_, rfl⟩
        have HX2 : Hid (OpAt v2 gx st2.1) := Lib.hid (by rw [← hst, ← hv]; exact HXn.setN 1 (by decide) (numM 1073741824 st1.2.1 st1.2.2).1)
        have H2 : Hid (Sr 61 b st2.2.1 st2.2.2 v2) := Lib.hid (by rw [← hst, ← hv]; exact hn.setOther (Ne.symm hgb) 3 _)
        have HR2 : Hid (OpAt v2 w.heap.size zOp) := Lib.hid (by rw [← hv]; exact (Below.heap_setCell _ _ _ _ (Ne.symm hgr)).trans (HR1.out.rm mn hr0b))
        have M2 : Hid (Rm b w v2) := Lib.hid (by rw [← hv]; exact (M1.out.trans mn).set hgw 3 _)
        have hz2 : st2.2.1.size ≤ 9223372036854775807 := by rw [← hst]; exact Nat.le_trans hsz1 hz1
        have E2 := Lib.hid hst
        clear hn mn HXn qn fn hv hst HN1 HX1 H1 HR1 M1 hsz1 hz1
        have hfin : rtakeK K st0 = st2 := by
          unfold rtakeK ctnum cttxt
          rw [if_neg (by simp; omega), if_neg (by simp; omega), if_neg (by simp; omega), if_neg (by simp; omega), if_pos (by simp; omega), if_neg (by simp; omega)]
          rw [E1.out, E2.out]
        have HO : Hid (rtake S e = st2) := Lib.hid (by rw [HRT.out]; exact hfin)
        clear hfin
        obtain ⟨stX, hsX⟩ : ∃ stX, st2 = stX := ⟨_, rfl⟩
        have HXX : Hid (OpAt v2 gx stX.1) := by rw [← hsX]; exact HX2
        have HH : Hid (Sr 61 b stX.2.1 stX.2.2 v2) := by rw [← hsX]; exact H2
        have HRX := HR2
        have MX := M2
        rw [hsX] at HO
        clear hsX HX2 H2 HR2 M2
        obtain ⟨x9, S9, e9⟩ := stX
        go_wp2_with (first
          | ((with_reducible refine at_ld 23 (.tmp 3) ?_); refine wpList_load_row rfl 23 _ rfl gx rfl 23 x9.cells (0, 0) _ HXX.out Tryd.underlying23 rfl (by kernel_rfl) ?_)
          | ((with_reducible refine at_st 23 (.tmp 2) (.tmp 67) ?_); refine wpList_store_row rfl 23 _ _ rfl w.heap.size x9.cells rfl rfl 23 zOp.cells HRX.out (by kernel_rfl) rfl (oOne _) ?_))
        refine bodyPost_ret (v := .agg (rtake S e).1.cells) ?_ rfl ?_
        · simp [results, Tryd.results37, Act.put, asA2]
          refine run_loadVar_row _ _ 23 23 _ (0, 0) _ ?_ Tryd.underlying23 rfl (by kernel_rfl)
          rw [HO.out]
          exact HRX.out.setRow x9
        · rw [HO.out]
          exact ⟨rfl, (setRow_other _ _ _ _ (Ne.symm hr0b)).trans HH.out, MX.out.setRow (Nat.le_refl _) _⟩
      · skip
        have b1 : decide (4 ≤ K) = true := by simp; omega
        have b2 : decide (K ≤ 7) = true := by simp; omega
        have b3 : decide (2 ≤ K) = true := by simp; omega
        have b4 : decide (K ≤ 9) = true := by simp; omega
        have b5 : (K == 7) = false := by simp; omega
        have b6 : (K == 9) = false := by simp; omega
        have b7 : decide (K < 2) = false := by simp; omega
        have b8 : (K == 0) = false := by simp; omega
        have HN0 := Lib.hid (sNumber_any b st0.2.1 st0.2.2 63 v0 H0.out hz0)
        have hsz0 := tpeer_size st0
        go_wp2_with fail
        refine (HN0.out).mono ?_
        rintro r wn ⟨rfl, hn, mn⟩
        have HXn := HX0.out.rm mn hgb
        have qn : wn.cell? ⟨gx, 1, none⟩ = some _ := HXn.cell (j := 1) rfl
        have fn := HXn.frz 1
        go_upto_region 6 with (fail)
        obtain ⟨v1, hv⟩ : ∃ v1, wn.setCell ⟨gx, 1, none⟩ (.int .i64 (numM 63 st0.2.1 st0.2.2).1) = v1 := ⟨_, rfl⟩
        rw [hv]
        obtain ⟨st1, hst⟩ : ∃ st1, tpeer st0 = st1 := ⟨_, rfl⟩
        have HX1 : Hid (OpAt v1 gx st1.1) := Lib.hid (by rw [← hst, ← hv]; exact HXn.setP (numM 63 st0.2.1 st0.2.2).1)
        have H1 : Hid (Sr 61 b st1.2.1 st1.2.2 v1) := Lib.hid (by rw [← hst, ← hv]; exact hn.setOther (Ne.symm hgb) 1 _)
        have HR1 : Hid (OpAt v1 w.heap.size zOp) := Lib.hid (by rw [← hv]; exact (Below.heap_setCell _ _ _ _ (Ne.symm hgr)).trans (HR0.out.rm mn hr0b))
        have M1 : Hid (Rm b w v1) := Lib.hid (by rw [← hv]; exact (M0.out.trans mn).set hgw 1 _)
        have hz1 : st1.2.1.size ≤ 9223372036854775807 := by rw [← hst]; exact Nat.le_trans hsz0 hz0
        have E1 := Lib.hid hst
        clear hn mn HXn qn fn hv hst HN0 HX0 H0 HR0 M0 hsz0 hz0
        have HN1 := Lib.hid (sNumber_any b st1.2.1 st1.2.2 63 v1 H1.out hz1)
        have hsz1 := numM_size 63 st1.2.1 st1.2.2
        go_wp2_with fail
        refine (HN1.out).mono ?_
        rintro r wn ⟨rfl, hn, mn⟩
        have HXn := HX1.out.rm mn hgb
        have qn : wn.cell? ⟨gx, 2, none⟩ = some _ := HXn.cell (j := 2) rfl
        have fn := HXn.frz 2
        go_upto_region 8 with (fail)
        obtain ⟨v2, hv⟩ : ∃ v2, wn.setCell ⟨gx, 2, none⟩ (.int .i64 (numM 63 st1.2.1 st1.2.2).1) = v2 := ⟨_, rfl⟩
        rw [hv]
        obtain ⟨st2, hst⟩ : ∃ st2, tnum 0 63 st1 = st2 := ⟨_, rfl⟩
        have HX2 : Hid (OpAt v2 gx st2.1) := Lib.hid (by rw [← hst, ← hv]; exact HXn.setN 0 (by decide) (numM 63 st1.2.1 st1.2.2).1)
        have H2 : Hid (Sr 61 b st2.2.1 st2.2.2 v2) := Lib.hid (by rw [← hst, ← hv]; exact hn.setOther (Ne.symm hgb) 2 _)
        have HR2 : Hid (OpAt v2 w.heap.size zOp) := Lib.hid (by rw [← hv]; exact (Below.heap_setCell _ _ _ _ (Ne.symm hgr)).trans (HR1.out.rm mn hr0b))
        have M2 : Hid (Rm b w v2) := Lib.hid (by rw [← hv]; exact (M1.out.trans mn).set hgw 2 _)
        have hz2 : st2.2.1.size ≤ 9223372036854775807 := by rw [← hst]; exact Nat.le_trans hsz1 hz1
        have E2 := Lib.hid hst
        clear hn mn HXn qn fn hv hst HN1 HX1 H1 HR1 M1 hsz1 hz1
        have HN2 := Lib.hid (sNumber_any b st2.2.1 st2.2.2 1073741824 v2 H2.out hz2)
        have hsz2 := numM_size 1073741824 st2.2.1 st2.2.2
        go_wp2_with fail
        refine (HN2.out).mono ?_
        rintro r wn ⟨rfl, hn, mn⟩
        have HXn := HX2.out.rm mn hgb
        have qn : wn.cell? ⟨gx, 3, none⟩ = some _ := HXn.cell (j := 3) rfl
        have fn := HXn.frz 3
        go_upto_region 10 with (fail)
        obtain ⟨v3, hv⟩ : ∃ v3, wn.setCell ⟨gx, 3, none⟩ (.int .i64 (numM 1073741824 st2.2.1 st2.2.2).1) = v3 := ⟨_, rfl⟩
        rw [hv]
        obtain ⟨st3, hst⟩ : ∃ st3, tnum 1 1073741824 st2 = st3 := ⟨_, rfl⟩
        have HX3 : Hid (OpAt v3 gx st3.1) := Lib.hid (by rw [← hst, ← hv]; exact HXn.setN 1 (by decide) (numM 1073741824 st2.2.1 st2.2.2).1)
        have H3 : Hid (Sr 61 b st3.2.1 st3.2.2 v3) := Lib.hid (by rw [← hst, ← hv]; exact hn.setOther (Ne.symm hgb) 3 _)
        have HR3 : Hid (OpAt v3 w.heap.size zOp) := Lib.hid (by rw [← hv]; exact (Below.heap_setCell _ _ _ _ (Ne.symm hgr)).trans (HR2.out.rm mn hr0b))
        have M3 : Hid (Rm b w v3) := Lib.hid (by rw [← hv]; exact (M2.out.trans mn).set hgw 3 _)
        have hz3 : st3.2.1.size ≤ 9223372036854775807 := by rw [← hst]; exact Nat.le_trans hsz2 hz2
        have E3 := Lib.hid hst
        clear hn mn HXn qn fn hv hst HN2 HX2 H2 HR2 M2 hsz2 hz2
        have hfin : rtakeK K st0 = st3 := by
          unfold rtakeK ctnum cttxt
          rw [if_neg (by simp; omega), if_neg (by simp; omega), if_neg (by simp; omega), if_neg (by simp; omega), if_pos (by simp; omega), if_pos (by simp; omega)]
          rw [E1.out, E2.out, E3.out]
        have HO : Hid (rtake S e = st3) := Lib.hid (by rw [HRT.out]; exact hfin)
        clear hfin
        obtain ⟨stX, hsX⟩ : ∃ stX, st3 = stX := ⟨_, rfl⟩
        have HXX : Hid (OpAt v3 gx stX.1) := by rw [← hsX]; exact HX3
        have HH : Hid (Sr 61 b stX.2.1 stX.2.2 v3) := by rw [← hsX]; exact H3
        have HRX := HR3
        have MX := M3
        rw [hsX] at HO
        clear hsX HX3 H3 HR3 M3
        obtain ⟨x9, S9, e9⟩ := stX
        go_wp2_with (first
          | ((with_reducible refine at_ld 23 (.tmp 3) ?_); refine wpList_load_row rfl 23 _ rfl gx rfl 23 x9.cells (0, 0) _ HXX.out Tryd.underlying23 rfl (by kernel_rfl) ?_)
          | ((with_reducible refine at_st 23 (.tmp 2) (.tmp 67) ?_); refine wpList_store_row rfl 23 _ _ rfl w.heap.size x9.cells rfl rfl 23 zOp.cells HRX.out (by kernel_rfl) rfl (oOne _) ?_))
        refine bodyPost_ret (v := .agg (rtake S e).1.cells) ?_ rfl ?_
        · simp [results, Tryd.results37, Act.put, asA2]
          refine run_loadVar_row _ _ 23 23 _ (0, 0) _ ?_ Tryd.underlying23 rfl (by kernel_rfl)
          rw [HO.out]
          exact HRX.out.setRow x9
        · rw [HO.out]
          exact ⟨rfl, (setRow_other _ _ _ _ (Ne.symm hr0b)).trans HH.out, MX.out.setRow (Nat.le_refl _) _⟩
      · skip
        have b1 : decide (4 ≤ K) = true := by simp; omega
        have b2 : decide (K ≤ 7) = true := by simp; omega
        have b3 : decide (2 ≤ K) = true := by simp; omega
        have b4 : decide (K ≤ 9) = true := by simp; omega
        have b5 : (K == 7) = true := by simp; omega
        have b6 : (K == 9) = false := by simp; omega
        have b7 : decide (K < 2) = false := by simp; omega
        have b8 : (K == 0) = false := by simp; omega
        have HN0 := Lib.hid (sNumber_any b st0.2.1 st0.2.2 63 v0 H0.out hz0)
        have hsz0 := tpeer_size st0
        go_wp2_with fail
        refine (HN0.out).mono ?_
        rintro r wn ⟨rfl, hn, mn⟩
        have HXn := HX0.out.rm mn hgb
        have qn : wn.cell? ⟨gx, 1, none⟩ = some _ := HXn.cell (j := 1) rfl
        have fn := HXn.frz 1
        go_upto_region 6 with (fail)
        obtain ⟨v1, hv⟩ : ∃ v1, wn.setCell ⟨gx, 1, none⟩ (.int .i64 (numM 63 st0.2.1 st0.2.2).1) = v1 := ⟨_, rfl⟩
        rw [hv]
        obtain ⟨st1, hst⟩ : ∃ st1, tpeer st0 = st1 := ⟨_, rfl⟩
        have HX1 : Hid (OpAt v1 gx st1.1) := Lib.hid (by rw [← hst, ← hv]; exact HXn.setP (numM 63 st0.2.1 st0.2.2).1)
        have H1 : Hid (Sr 61 b st1.2.1 st1.2.2 v1) := Lib.hid (by rw [← hst, ← hv]; exact hn.setOther (Ne.symm hgb) 1 _)
        have HR1 : Hid (OpAt v1 w.heap.size zOp) := Lib.hid (by rw [← hv]; exact (Below.heap_setCell _ _ _ _ (Ne.symm hgr)).trans (HR0.out.rm mn hr0b))
        have M1 : Hid (Rm b w v1) := Lib.hid (by rw [← hv]; exact (M0.out.trans mn).set hgw 1 _)
        have hz1 : st1.2.1.size ≤ 9223372036854775807 := by rw [← hst]; exact Nat.le_trans hsz0 hz0
        have E1 := Lib.hid hst
        clear hn mn HXn qn fn hv hst HN0 HX0 H0 HR0 M0 hsz0 hz0
        have HN1 := Lib.hid (sNumber_any b st1.2.1 st1.2.2 63 v1 H1.out hz1)
        have hsz1 := numM_size 63 st1.2.1 st1.2.2
        go_wp2_with fail
        refine (HN1.out).mono ?_
        rintro r wn ⟨rfl, hn, mn⟩
        have HXn := HX1.out.rm mn hgb
        have qn : wn.cell? ⟨gx, 2, none⟩ = some _ := HXn.cell (j := 2) rfl
        have fn := HXn.frz 2
        go_upto_region 8 with (fail)
        obtain ⟨v2, hv⟩ : ∃ v2, wn.setCell ⟨gx, 2, none⟩ (.int .i64 (numM 63 st1.2.1 st1.2.2).1) = v2 := ⟨_, rfl⟩
        rw [hv]
        obtain ⟨st2, hst⟩ : ∃ st2, tnum 0 63 st1 = st2 := ⟨_, rfl⟩
        have HX2 : Hid (OpAt v2 gx st2.1) := Lib.hid (by rw [← hst, ← hv]; exact HXn.setN 0 (by decide) (numM 63 st1.2.1 st1.2.2).1)
        have H2 : Hid (Sr 61 b st2.2.1 st2.2.2 v2) := Lib.hid (by rw [← hst, ← hv]; exact hn.setOther (Ne.symm hgb) 2 _)
        have HR2 : Hid (OpAt v2 w.heap.size zOp) := Lib.hid (by rw [← hv]; exact (Below.heap_setCell _ _ _ _ (Ne.symm hgr)).trans (HR1.out.rm mn hr0b))
        have M2 : Hid (Rm b w v2) := Lib.hid (by rw [← hv]; exact (M1.out.trans mn).set hgw 2 _)
        have hz2 : st2.2.1.size ≤ 9223372036854775807 := by rw [← hst]; exact Nat.le_trans hsz1 hz1
        have E2 := Lib.hid hst
        clear hn mn HXn qn fn hv hst HN1 HX1 H1 HR1 M1 hsz1 hz1
        have HN2 := Lib.hid (sNumber_any b st2.2.1 st2.2.2 1073741824 v2 H2.out hz2)
        have hsz2 := numM_size 1073741824 st2.2.1 st2.2.2
        go_wp2_with fail
        refine (HN2.out).mono ?_
        rintro r wn ⟨rfl, hn, mn⟩
        have HXn := HX2.out.rm mn hgb
        have qn : wn.cell? ⟨gx, 3, none⟩ = some _ := HXn.cell (j := 3) rfl
        have fn := HXn.frz 3
        go_upto_region 10 with (fail)
        obtain ⟨v3, hv⟩ : ∃ v3, wn.setCell ⟨gx, 3, none⟩ (.int .i64 (numM 1073741824 st2.2.1 st2.2.2).1) = v3 := ⟨_, rfl⟩
        rw [hv]
        obtain ⟨st3, hst⟩ : ∃ st3, tnum 1 1073741824 st2 = st3 := ⟨_, rfl⟩
        have HX3 : Hid (OpAt v3 gx st3.1) := Lib.hid (by rw [← hst, ← hv]; exact HXn.setN 1 (by decide) (numM 1073741824 st2.2.1 st2.2.2).1)
        have H3 : Hid (Sr 61 b st3.2.1 st3.2.2 v3) := Lib.hid (by rw [← hst, ← hv]; exact hn.setOther (Ne.symm hgb) 3 _)
        have HR3 : Hid (OpAt v3 w.heap.size zOp) := Lib.hid (by rw [← hv]; exact (Below.heap_setCell _ _ _ _ (Ne.symm hgr)).trans (HR2.out.rm mn hr0b))
        have M3 : Hid (Rm b w v3) := Lib.hid (by rw [← hv]; exact (M2.out.trans mn).set hgw 3 _)
        have hz3 : st3.2.1.size ≤ 9223372036854775807 := by rw [← hst]; exact Nat.le_trans hsz2 hz2
        have E3 := Lib.hid hst
        clear hn mn HXn qn fn hv hst HN2 HX2 H2 HR2 M2 hsz2 hz2
        have HN3 := Lib.hid (sNumber_any b st3.2.1 st3.2.2 1073741824 v3 H3.out hz3)
        have hsz3 := numM_size 1073741824 st3.2.1 st3.2.2
        go_wp2_with fail
        refine (HN3.out).mono ?_
        rintro r wn ⟨rfl, hn, mn⟩
        have HXn := HX3.out.rm mn hgb
        have qn : wn.cell? ⟨gx, 4, none⟩ = some _ := HXn.cell (j := 4) rfl
        have fn := HXn.frz 4
        go_upto_region 12 with (fail)
        obtain ⟨v4, hv⟩ : ∃ v4, wn.setCell ⟨gx, 4, none⟩ (.int .i64 (numM 1073741824 st3.2.1 st3.2.2).1) = v4 := ⟨_, rfl⟩
        rw [hv]
        obtain ⟨st4, hst⟩ : ∃ st4, tnum 2 1073741824 st3 = st4 := ⟨_, rfl⟩
        have HX4 : Hid (OpAt v4 gx st4.1) := Lib.hid (by rw [← hst, ← hv]; exact HXn.setN 2 (by decide) (numM 1073741824 st3.2.1 st3.2.2).1)
        have H4 : Hid (Sr 61 b st4.2.1 st4.2.2 v4) := Lib.hid (by rw [← hst, ← hv]; exact hn.setOther (Ne.symm hgb) 4 _)
        have HR4 : Hid (OpAt v4 w.heap.size zOp) := Lib.hid (by rw [← hv]; exact (Below.heap_setCell _ _ _ _ (Ne.symm hgr)).trans (HR3.out.rm mn hr0b))
        have M4 : Hid (Rm b w v4) := Lib.hid (by rw [← hv]; exact (M3.out.trans mn).set hgw 4 _)
        have hz4 : st4.2.1.size ≤ 9223372036854775807 := by rw [← hst]; exact Nat.le_trans hsz3 hz3
        have E4 := Lib.hid hst
        clear hn mn HXn qn fn hv hst HN3 HX3 H3 HR3 M3 hsz3 hz3
        have HN4 := Lib.hid (sNumber_any b st4.2.1 st4.2.2 1073741824 v4 H4.out hz4)
        have hsz4 := numM_size 1073741824 st4.2.1 st4.2.2
        go_wp2_with fail
        refine (HN4.out).mono ?_
        rintro r wn ⟨rfl, hn, mn⟩
        have HXn := HX4.out.rm mn hgb
        have qn : wn.cell? ⟨gx, 5, none⟩ = some _ := HXn.cell (j := 5) rfl
        have fn := HXn.frz 5
        go_upto_region 14 with (fail)
        obtain ⟨v5, hv⟩ : ∃ v5, wn.setCell ⟨gx, 5, none⟩ (.int .i64 (numM 1073741824 st4.2.1 st4.2.2).1) = v5 := ⟨_, rfl⟩
        rw [hv]
        obtain ⟨st5, hst⟩ : ∃ st5, tnum 3 1073741824 st4 = st5 := ⟨_, rfl⟩
        have HX5 : Hid (OpAt v5 gx st5.1) := Lib.hid (by rw [← hst, ← hv]; exact HXn.setN 3 (by decide) (numM 1073741824 st4.2.1 st4.2.2).1)
        have H5 : Hid (Sr 61 b st5.2.1 st5.2.2 v5) := Lib.hid (by rw [← hst, ← hv]; exact hn.setOther (Ne.symm hgb) 5 _)
        have HR5 : Hid (OpAt v5 w.heap.size zOp) := Lib.hid (by rw [← hv]; exact (Below.heap_setCell _ _ _ _ (Ne.symm hgr)).trans (HR4.out.rm mn hr0b))
        have M5 : Hid (Rm b w v5) := Lib.hid (by rw [← hv]; exact (M4.out.trans mn).set hgw 5 _)
        have hz5 : st5.2.1.size ≤ 9223372036854775807 := by rw [← hst]; exact Nat.le_trans hsz4 hz4
        have E5 := Lib.hid hst
        clear hn mn HXn qn fn hv hst HN4 HX4 H4 HR4 M4 hsz4 hz4
        have hfin : rtakeK K st0 = st5 := by
          unfold rtakeK ctnum cttxt
          rw [if_neg (by simp; omega), if_neg (by simp; omega), if_pos (by simp; omega), if_pos (by simp; omega), if_pos (by simp; omega), if_pos (by simp; omega)]
          rw [E1.out, E2.out, E3.out, E4.out, E5.out]
        have HO : Hid (rtake S e = st5) := Lib.hid (by rw [HRT.out]; exact hfin)
        clear hfin
        obtain ⟨stX, hsX⟩ : ∃ stX, st5 = stX := ⟨_, rfl⟩
        have HXX : Hid (OpAt v5 gx stX.1) := by rw [← hsX]; exact HX5
        have HH : Hid (Sr 61 b stX.2.1 stX.2.2 v5) := by rw [← hsX]; exact H5
        have HRX := HR5
        have MX := M5
        rw [hsX] at HO
        clear hsX HX5 H5 HR5 M5
        obtain ⟨x9, S9, e9⟩ := stX
        go_wp2_with (first
          | ((with_reducible refine at_ld 23 (.tmp 3) ?_); refine wpList_load_row rfl 23 _ rfl gx rfl 23 x9.cells (0, 0) _ HXX.out Tryd.underlying23 rfl (by kernel_rfl) ?_)
          | ((with_reducible refine at_st 23 (.tmp 2) (.tmp 67) ?_); refine wpList_store_row rfl 23 _ _ rfl w.heap.size x9.cells rfl rfl 23 zOp.cells HRX.out (by kernel_rfl) rfl (oOne _) ?_))
        refine bodyPost_ret (v := .agg (rtake S e).1.cells) ?_ rfl ?_
        · simp [results, Tryd.results37, Act.put, asA2]
          refine run_loadVar_row _ _ 23 23 _ (0, 0) _ ?_ Tryd.underlying23 rfl (by kernel_rfl)
          rw [HO.out]
          exact HRX.out.setRow x9
        · rw [HO.out]
          exact ⟨rfl, (setRow_other _ _ _ _ (Ne.symm hr0b)).trans HH.out, MX.out.setRow (Nat.le_refl _) _⟩
      · skip
        have b1 : decide (4 ≤ K) = true := by simp; omega
        have b2 : decide (K ≤ 7) = false := by simp; omega
        have b3 : decide (2 ≤ K) = true := by simp; omega
        have b4 : decide (K ≤ 9) = true := by simp; omega
        have b5 : (K == 7) = false := by simp; omega
        have b6 : (K == 9) = false := by simp; omega
        have b7 : decide (K < 2) = false := by simp; omega
        have b8 : (K == 0) = false := by simp; omega
        have HN0 := Lib.hid (sNumber_any b st0.2.1 st0.2.2 63 v0 H0.out hz0)
        have hsz0 := tpeer_size st0
        go_wp2_with fail
        refine (HN0.out).mono ?_
        rintro r wn ⟨rfl, hn, mn⟩
        have HXn := HX0.out.rm mn hgb
        have qn : wn.cell? ⟨gx, 1, none⟩ = some _ := HXn.cell (j := 1) rfl
        have fn := HXn.frz 1
        go_upto_region 6 with (fail)
        obtain ⟨v1, hv⟩ : ∃ v1, wn.setCell ⟨gx, 1, none⟩ (.int .i64 (numM 63 st0.2.1 st0.2.2).1) = v1 := ⟨_, rfl⟩
        rw [hv]
        obtain ⟨st1, hst⟩ : ∃ st1, tpeer st0 = st1 := ⟨_, rfl⟩
        have HX1 : Hid (OpAt v1 gx st1.1) := Lib.hid (by rw [← hst, ← hv]; exact HXn.setP (numM 63 st0.2.1 st0.2.2).1)
        have H1 : Hid (Sr 61 b st1.2.1 st1.2.2 v1) := Lib.hid (by rw [← hst, ← hv]; exact hn.setOther (Ne.symm hgb) 1 _)
        have HR1 : Hid (OpAt v1 w.heap.size zOp) := Lib.hid (by rw [← hv]; exact (Below.heap_setCell _ _ _ _ (Ne.symm hgr)).trans (HR0.out.rm mn hr0b))
        have M1 : Hid (Rm b w v1) := Lib.hid (by rw [← hv]; exact (M0.out.trans mn).set hgw 1 _)
        have hz1 : st1.2.1.size ≤ 9223372036854775807 := by rw [← hst]; exact Nat.le_trans hsz0 hz0
        have E1 := Lib.hid hst
        clear hn mn HXn qn fn hv hst HN0 HX0 H0 HR0 M0 hsz0 hz0
        have HN1 := Lib.hid (sNumber_any b st1.2.1 st1.2.2 1073741824 v1 H1.out hz1)
        have hsz1 := numM_size 1073741824 st1.2.1 st1.2.2
        go_wp2_with fail
        refine (HN1.out).mono ?_
        rintro r wn ⟨rfl, hn, mn⟩
        have HXn := HX1.out.rm mn hgb
        have qn : wn.cell? ⟨gx, 3, none⟩ = some _ := HXn.cell (j := 3) rfl
        have fn := HXn.frz 3
        go_upto_region 10 with (fail)
        obtain ⟨v2, hv⟩ : ∃ v2, wn.setCell ⟨gx, 3, none⟩ (.int .i64 (numM 1073741824 st1.2.1 st1.2.2).1) = v2 := ⟨_, rfl⟩
        rw [hv]
        obtain ⟨st2, hst⟩ : ∃ st2, tnum 1 1073741824 st1 = st2 := ⟨_, rfl⟩
        have HX2 : Hid (OpAt v2 gx st2.1) := Lib.hid (by rw [← hst, ← hv]; exact HXn.setN 1 (by decide) (numM 1073741824 st1.2.1 st1.2.2).1)
        have H2 : Hid (Sr 61 b st2.2.1 st2.2.2 v2) := Lib.hid (by rw [← hst, ← hv]; exact hn.setOther (Ne.symm hgb) 3 _)
        have HR2 : Hid (OpAt v2 w.heap.size zOp) := Lib.hid (by rw [← hv]; exact (Below.heap_setCell _ _ _ _ (Ne.symm hgr)).trans (HR1.out.rm mn hr0b))
        have M2 : Hid (Rm b w v2) := Lib.hid (by rw [← hv]; exact (M1.out.trans mn).set hgw 3 _)
        have hz2 : st2.2.1.size ≤ 9223372036854775807 := by rw [← hst]; exact Nat.le_trans hsz1 hz1
        have E2 := Lib.hid hst
        clear hn mn HXn qn fn hv hst HN1 HX1 H1 HR1 M1 hsz1 hz1
        have hfin : rtakeK K st0 = st2 := by
          unfold rtakeK ctnum cttxt
          rw [if_neg (by simp; omega), if_neg (by simp; omega), if_neg (by simp; omega), if_neg (by simp; omega), if_pos (by simp; omega), if_neg (by simp; omega)]
          rw [E1.out, E2.out]
        have HO : Hid (rtake S e = st2) := Lib.hid (by rw [HRT.out]; exact hfin)
        clear hfin
        obtain ⟨stX, hsX⟩ : ∃ stX, st2 = stX := ⟨_, rfl⟩
        have HXX : Hid (OpAt v2 gx stX.1) := by rw [← hsX]; exact HX2
        have HH : Hid (Sr 61 b stX.2.1 stX.2.2 v2) := by rw [← hsX]; exact H2
        have HRX := HR2
        have MX := M2
        rw [hsX] at HO
        clear hsX HX2 H2 HR2 M2
        obtain ⟨x9, S9, e9⟩ := stX
        go_wp2_with (first
          | ((with_reducible refine at_ld 23 (.tmp 3) ?_); refine wpList_load_row rfl 23 _ rfl gx rfl 23 x9.cells (0, 0) _ HXX.out Tryd.underlying23 rfl (by kernel_rfl) ?_)
          | ((with_reducible refine at_st 23 (.tmp 2) (.tmp 67) ?_); refine wpList_store_row rfl 23 _ _ rfl w.heap.size x9.cells rfl rfl 23 zOp.cells HRX.out (by kernel_rfl) rfl (oOne _) ?_))
        refine bodyPost_ret (v := .agg (rtake S e).1.cells) ?_ rfl ?_
        · simp [results, Tryd.results37, Act.put, asA2]
          refine run_loadVar_row _ _ 23 23 _ (0, 0) _ ?_ Tryd.underlying23 rfl (by kernel_rfl)
          rw [HO.out]
          exact HRX.out.setRow x9
        · rw [HO.out]
          exact ⟨rfl, (setRow_other _ _ _ _ (Ne.symm hr0b)).trans HH.out, MX.out.setRow (Nat.le_refl _) _⟩
      · skip
        have b1 : decide (4 ≤ K) = true := by simp; omega
        have b2 : decide (K ≤ 7) = false := by simp; omega
        have b3 : decide (2 ≤ K) = true := by simp; omega
        have b4 : decide (K ≤ 9) = true := by simp; omega
        have b5 : (K == 7) = false := by simp; omega
        have b6 : (K == 9) = true := by simp; omega
        have b7 : decide (K < 2) = false := by simp; omega
        have b8 : (K == 0) = false := by simp; omega
        have HN0 := Lib.hid (sNumber_any b st0.2.1 st0.2.2 63 v0 H0.out hz0)
        have hsz0 := tpeer_size st0
        go_wp2_with fail
        refine (HN0.out).mono ?_
        rintro r wn ⟨rfl, hn, mn⟩
        have HXn := HX0.out.rm mn hgb
        have qn : wn.cell? ⟨gx, 1, none⟩ = some _ := HXn.cell (j := 1) rfl
        have fn := HXn.frz 1
        go_upto_region 6 with (fail)
        obtain ⟨v1, hv⟩ : ∃ v1, wn.setCell ⟨gx, 1, none⟩ (.int .i64 (numM 63 st0.2.1 st0.2.2).1) = v1 := ⟨_, rfl⟩
        rw [hv]
        obtain ⟨st1, hst⟩ : ∃ st1, tpeer st0 = st1 := ⟨_, rfl⟩
        have HX1 : Hid (OpAt v1 gx st1.1) := Lib.hid (by rw [← hst, ← hv]; exact HXn.setP (numM 63 st0.2.1 st0.2.2).1)
        have H1 : Hid (Sr 61 b st1.2.1 st1.2.2 v1) := Lib.hid (by rw [← hst, ← hv]; exact hn.setOther (Ne.symm hgb) 1 _)
        have HR1 : Hid (OpAt v1 w.heap.size zOp) := Lib.hid (by rw [← hv]; exact (Below.heap_setCell _ _ _ _ (Ne.symm hgr)).trans (HR0.out.rm mn hr0b))
        have M1 : Hid (Rm b w v1) := Lib.hid (by rw [← hv]; exact (M0.out.trans mn).set hgw 1 _)
        have hz1 : st1.2.1.size ≤ 9223372036854775807 := by rw [← hst]; exact Nat.le_trans hsz0 hz0
        have E1 := Lib.hid hst
        clear hn mn HXn qn fn hv hst HN0 HX0 H0 HR0 M0 hsz0 hz0
        have HN1 := Lib.hid (sNumber_any b st1.2.1 st1.2.2 1073741824 v1 H1.out hz1)
        have hsz1 := numM_size 1073741824 st1.2.1 st1.2.2
        go_wp2_with fail
        refine (HN1.out).mono ?_
        rintro r wn ⟨rfl, hn, mn⟩
        have HXn := HX1.out.rm mn hgb
        have qn : wn.cell? ⟨gx, 3, none⟩ = some _ := HXn.cell (j := 3) rfl
        have fn := HXn.frz 3
        go_upto_region 10 with (fail)
        obtain ⟨v2, hv⟩ : ∃ v2, wn.setCell ⟨gx, 3, none⟩ (.int .i64 (numM 1073741824 st1.2.1 st1.2.2).1) = v2 := ⟨_, rfl⟩
        rw [hv]
        obtain ⟨st2, hst⟩ : ∃ st2, tnum 1 1073741824 st1 = st2 := ⟨_, rfl⟩
        have HX2 : Hid (OpAt v2 gx st2.1) := Lib.hid (by rw [← hst, ← hv]; exact HXn.setN 1 (by decide) (numM 1073741824 st1.2.1 st1.2.2).1)
        have H2 : Hid (Sr 61 b st2.2.1 st2.2.2 v2) := Lib.hid (by rw [← hst, ← hv]; exact hn.setOther (Ne.symm hgb) 3 _)
        have HR2 : Hid (OpAt v2 w.heap.size zOp) := Lib.hid (by rw [← hv]; exact (Below.heap_setCell _ _ _ _ (Ne.symm hgr)).trans (HR1.out.rm mn hr0b))
        have M2 : Hid (Rm b w v2) := Lib.hid (by rw [← hv]; exact (M1.out.trans mn).set hgw 3 _)
        have hz2 : st2.2.1.size ≤ 9223372036854775807 := by rw [← hst]; exact Nat.le_trans hsz1 hz1
        have E2 := Lib.hid hst
        clear hn mn HXn qn fn hv hst HN1 HX1 H1 HR1 M1 hsz1 hz1
        have HN2 := Lib.hid (sNumber_any b st2.2.1 st2.2.2 1073741824 v2 H2.out hz2)
        have hsz2 := numM_size 1073741824 st2.2.1 st2.2.2
        go_wp2_with fail
        refine (HN2.out).mono ?_
        rintro r wn ⟨rfl, hn, mn⟩
        have HXn := HX2.out.rm mn hgb
        have qn : wn.cell? ⟨gx, 4, none⟩ = some _ := HXn.cell (j := 4) rfl
        have fn := HXn.frz 4
        go_upto_region 12 with (fail)
        obtain ⟨v3, hv⟩ : ∃ v3, wn.setCell ⟨gx, 4, none⟩ (.int .i64 (numM 1073741824 st2.2.1 st2.2.2).1) = v3 := ⟨_, rfl⟩
        rw [hv]
        obtain ⟨st3, hst⟩ : ∃ st3, tnum 2 1073741824 st2 = st3 := ⟨_, rfl⟩
        have HX3 : Hid (OpAt v3 gx st3.1) := Lib.hid (by rw [← hst, ← hv]; exact HXn.setN 2 (by decide) (numM 1073741824 st2.2.1 st2.2.2).1)
        have H3 : Hid (Sr 61 b st3.2.1 st3.2.2 v3) := Lib.hid (by rw [← hst, ← hv]; exact hn.setOther (Ne.symm hgb) 4 _)
        have HR3 : Hid (OpAt v3 w.heap.size zOp) := Lib.hid (by rw [← hv]; exact (Below.heap_setCell _ _ _ _ (Ne.symm hgr)).trans (HR2.out.rm mn hr0b))
        have M3 : Hid (Rm b w v3) := Lib.hid (by rw [← hv]; exact (M2.out.trans mn).set hgw 4 _)
        have hz3 : st3.2.1.size ≤ 9223372036854775807 := by rw [← hst]; exact Nat.le_trans hsz2 hz2
        have E3 := Lib.hid hst
        clear hn mn HXn qn fn hv hst HN2 HX2 H2 HR2 M2 hsz2 hz2
        have hfin : rtakeK K st0 = st3 := by
          unfold rtakeK ctnum cttxt
          rw [if_neg (by simp; omega), if_neg (by simp; omega), if_neg (by simp; omega), if_pos (by simp; omega), if_pos (by simp; omega), if_neg (by simp; omega)]
          rw [E1.out, E2.out, E3.out]
        have HO : Hid (rtake S e = st3) := Lib.hid (by rw [HRT.out]; exact hfin)
        clear hfin
        obtain ⟨stX, hsX⟩ : ∃ stX, st3 = stX := ⟨_, rfl⟩
        have HXX : Hid (OpAt v3 gx stX.1) := by rw [← hsX]; exact HX3
        have HH : Hid (Sr 61 b stX.2.1 stX.2.2 v3) := by rw [← hsX]; exact H3
        have HRX := HR3
        have MX := M3
        rw [hsX] at HO
        clear hsX HX3 H3 HR3 M3
        obtain ⟨x9, S9, e9⟩ := stX
        go_wp2_with (first
          | ((with_reducible refine at_ld 23 (.tmp 3) ?_); refine wpList_load_row rfl 23 _ rfl gx rfl 23 x9.cells (0, 0) _ HXX.out Tryd.underlying23 rfl (by kernel_rfl) ?_)
          | ((with_reducible refine at_st 23 (.tmp 2) (.tmp 67) ?_); refine wpList_store_row rfl 23 _ _ rfl w.heap.size x9.cells rfl rfl 23 zOp.cells HRX.out (by kernel_rfl) rfl (oOne _) ?_))
        refine bodyPost_ret (v := .agg (rtake S e).1.cells) ?_ rfl ?_
        · simp [results, Tryd.results37, Act.put, asA2]
          refine run_loadVar_row _ _ 23 23 _ (0, 0) _ ?_ Tryd.underlying23 rfl (by kernel_rfl)
          rw [HO.out]
          exact HRX.out.setRow x9
        · rw [HO.out]
          exact ⟨rfl, (setRow_other _ _ _ _ (Ne.symm hr0b)).trans HH.out, MX.out.setRow (Nat.le_refl _) _⟩
      · skip
        have b1 : decide (4 ≤ K) = true := by simp; omega
        have b2 : decide (K ≤ 7) = false := by simp; omega
        have b3 : decide (2 ≤ K) = true := by simp; omega
        have b4 : decide (K ≤ 9) = false := by simp; omega
        have b5 : (K == 7) = false := by simp; omega
        have b6 : (K == 9) = false := by simp; omega
        have b7 : decide (K < 2) = false := by simp; omega
        have b8 : (K == 0) = false := by simp; omega
        have HN0 := Lib.hid (sNumber_any b st0.2.1 st0.2.2 63 v0 H0.out hz0)
        have hsz0 := tpeer_size st0
        go_wp2_with fail
        refine (HN0.out).mono ?_
        rintro r wn ⟨rfl, hn, mn⟩
        have HXn := HX0.out.rm mn hgb
        have qn : wn.cell? ⟨gx, 1, none⟩ = some _ := HXn.cell (j := 1) rfl
        have fn := HXn.frz 1
        go_upto_region 6 with (fail)
        obtain ⟨v1, hv⟩ : ∃ v1, wn.setCell ⟨gx, 1, none⟩ (.int .i64 (numM 63 st0.2.1 st0.2.2).1) = v1 := ⟨_, rfl⟩
        rw [hv]
        obtain ⟨st1, hst⟩ : ∃ st1, tpeer st0 = st1 := ⟨_, rfl⟩
        have HX1 : Hid (OpAt v1 gx st1.1) := Lib.hid (by rw [← hst, ← hv]; exact HXn.setP (numM 63 st0.2.1 st0.2.2).1)
        have H1 : Hid (Sr 61 b st1.2.1 st1.2.2 v1) := Lib.hid (by rw [← hst, ← hv]; exact hn.setOther (Ne.symm hgb) 1 _)
        have HR1 : Hid (OpAt v1 w.heap.size zOp) := Lib.hid (by rw [← hv]; exact (Below.heap_setCell _ _ _ _ (Ne.symm hgr)).trans (HR0.out.rm mn hr0b))
        have M1 : Hid (Rm b w v1) := Lib.hid (by rw [← hv]; exact (M0.out.trans mn).set hgw 1 _)
        have hz1 : st1.2.1.size ≤ 9223372036854775807 := by rw [← hst]; exact Nat.le_trans hsz0 hz0
        have E1 := Lib.hid hst
        clear hn mn HXn qn fn hv hst HN0 HX0 H0 HR0 M0 hsz0 hz0
        have hfin : rtakeK K st0 = st1 := by
          unfold rtakeK ctnum cttxt
          rw [if_neg (by simp; omega), if_neg (by simp; omega), if_neg (by simp; omega), if_neg (by simp; omega), if_neg (by simp; omega), if_neg (by simp; omega)]
          rw [E1.out]
        have HO : Hid (rtake S e = st1) := Lib.hid (by rw [HRT.out]; exact hfin)
        clear hfin
        obtain ⟨stX, hsX⟩ : ∃ stX, st1 = stX := ⟨_, rfl⟩
        have HXX : Hid (OpAt v1 gx stX.1) := by rw [← hsX]; exact HX1
        have HH : Hid (Sr 61 b stX.2.1 stX.2.2 v1) := by rw [← hsX]; exact H1
        have HRX := HR1
        have MX := M1
        rw [hsX] at HO
        clear hsX HX1 H1 HR1 M1
        obtain ⟨x9, S9, e9⟩ := stX
        go_wp2_with (first
          | ((with_reducible refine at_ld 23 (.tmp 3) ?_); refine wpList_load_row rfl 23 _ rfl gx rfl 23 x9.cells (0, 0) _ HXX.out Tryd.underlying23 rfl (by kernel_rfl) ?_)
          | ((with_reducible refine at_st 23 (.tmp 2) (.tmp 67) ?_); refine wpList_store_row rfl 23 _ _ rfl w.heap.size x9.cells rfl rfl 23 zOp.cells HRX.out (by kernel_rfl) rfl (oOne _) ?_))
        refine bodyPost_ret (v := .agg (rtake S e).1.cells) ?_ rfl ?_
        · simp [results, Tryd.results37, Act.put, asA2]
          refine run_loadVar_row _ _ 23 23 _ (0, 0) _ ?_ Tryd.underlying23 rfl (by kernel_rfl)
          rw [HO.out]
          exact HRX.out.setRow x9
        · rw [HO.out]
          exact ⟨rfl, (setRow_other _ _ _ _ (Ne.symm hr0b)).trans HH.out, MX.out.setRow (Nat.le_refl _) _⟩
    · have hbk : decide (12 < K) = true := decide_eq_true (by omega)
      have hke : kindE K 0 = 15 := by unfold kindE; rw [if_pos ⟨rfl, by omega⟩]
      have HFA := Lib.hid (sFail_any b S1 0 15 w3 H3.out)
      go_wp2_with fail
      refine (HFA.out).mono ?_
      rintro r v0 ⟨rfl, h5, m5⟩
      have hc : 10 ≤ K := by omega
      obtain ⟨st0, hst0⟩ : ∃ st0 : Rst, (({ zOp with K := K } : Opx), S1, (15 : Int)) = st0 := ⟨_, rfl⟩
      have HRT : Hid (rtake S e = rtakeK K st0) := Lib.hid (by rw [HRT0.out, hke, hst0])
      have HX0 : Hid (OpAt v0 gx st0.1) := Lib.hid (by rw [← hst0]; exact HX3.out.rm m5 hgb)
      have H0 : Hid (Sr 61 b st0.2.1 st0.2.2 v0) := Lib.hid (by rw [← hst0]; exact h5)
      have hz0 : st0.2.1.size ≤ 9223372036854775807 := by rw [← hst0]; show S1.size ≤ _; omega
      have HR0 := Lib.hid (HR3.out.rm m5 hr0b)
      have M0 := Lib.hid (M3.out.trans m5)
      have q0 : v0.cell? ⟨gx, 0, none⟩ = some (.int .i64 K) := HX0.out.cell (by rw [← hst0]; rfl)
      clear hst0 HX3 H3 HR3 M3 hke HRT0 h5 m5 HFA r1 hk13
      go_upto_region 5 with (fail)
      clear q0
      have b1 : decide (4 ≤ K) = true := by simp; omega
      have b2 : decide (K ≤ 7) = false := by simp; omega
      have b3 : decide (2 ≤ K) = true := by simp; omega
      have b4 : decide (K ≤ 9) = false := by simp; omega
      have b5 : (K == 7) = false := by simp; omega
      have b6 : (K == 9) = false := by simp; omega
      have b7 : decide (K < 2) = false := by simp; omega
      have b8 : (K == 0) = false := by simp; omega
      have HN0 := Lib.hid (sNumber_any b st0.2.1 st0.2.2 63 v0 H0.out hz0)
      have hsz0 := tpeer_size st0
      go_wp2_with fail
      refine (HN0.out).mono ?_
      rintro r wn ⟨rfl, hn, mn⟩
      have HXn := HX0.out.rm mn hgb
      have qn : wn.cell? ⟨gx, 1, none⟩ = some _ := HXn.cell (j := 1) rfl
      have fn := HXn.frz 1
      go_upto_region 6 with (fail)
      obtain ⟨v1, hv⟩ : ∃ v1, wn.setCell ⟨gx, 1, none⟩ (.int .i64 (numM 63 st0.2.1 st0.2.2).1) = v1 := ⟨_, rfl⟩
      rw [hv]
      obtain ⟨st1, hst⟩ : ∃ st1, tpeer st0 = st1 := ⟨_, rfl⟩
      have HX1 : Hid (OpAt v1 gx st1.1) := Lib.hid (by rw [← hst, ← hv]; exact HXn.setP (numM 63 st0.2.1 st0.2.2).1)
      have H1 : Hid (Sr 61 b st1.2.1 st1.2.2 v1) := Lib.hid (by rw [← hst, ← hv]; exact hn.setOther (Ne.symm hgb) 1 _)
      have HR1 : Hid (OpAt v1 w.heap.size zOp) := Lib.hid (by rw [← hv]; exact (Below.heap_setCell _ _ _ _ (Ne.symm hgr)).trans (HR0.out.rm mn hr0b))
      have M1 : Hid (Rm b w v1) := Lib.hid (by rw [← hv]; exact (M0.out.trans mn).set hgw 1 _)
      have hz1 : st1.2.1.size ≤ 9223372036854775807 := by rw [← hst]; exact Nat.le_trans hsz0 hz0
      have E1 := Lib.hid hst
      clear hn mn HXn qn fn hv hst HN0 HX0 H0 HR0 M0 hsz0 hz0
      have hfin : rtakeK K st0 = st1 := by
        unfold rtakeK ctnum cttxt
        rw [if_neg (by simp; omega), if_neg (by simp; omega), if_neg (by simp; omega), if_neg (by simp; omega), if_neg (by simp; omega), if_neg (by simp; omega)]
        rw [E1.out]
      have HO : Hid (rtake S e = st1) := Lib.hid (by rw [HRT.out]; exact hfin)
      clear hfin
      obtain ⟨stX, hsX⟩ : ∃ stX, st1 = stX := ⟨_, rfl⟩
      have HXX : Hid (OpAt v1 gx stX.1) := by rw [← hsX]; exact HX1
      have HH : Hid (Sr 61 b stX.2.1 stX.2.2 v1) := by rw [← hsX]; exact H1
      have HRX := HR1
      have MX := M1
      rw [hsX] at HO
      clear hsX HX1 H1 HR1 M1
      obtain ⟨x9, S9, e9⟩ := stX
      go_wp2_with (first
        | ((with_reducible refine at_ld 23 (.tmp 3) ?_); refine wpList_load_row rfl 23 _ rfl gx rfl 23 x9.cells (0, 0) _ HXX.out Tryd.underlying23 rfl (by kernel_rfl) ?_)
        | ((with_reducible refine at_st 23 (.tmp 2) (.tmp 67) ?_); refine wpList_store_row rfl 23 _ _ rfl w.heap.size x9.cells rfl rfl 23 zOp.cells HRX.out (by kernel_rfl) rfl (oOne _) ?_))
      refine bodyPost_ret (v := .agg (rtake S e).1.cells) ?_ rfl ?_
      · simp [results, Tryd.results37, Act.put, asA2]
        refine run_loadVar_row _ _ 23 23 _ (0, 0) _ ?_ Tryd.underlying23 rfl (by kernel_rfl)
        rw [HO.out]
        exact HRX.out.setRow x9
      · rw [HO.out]
        exact ⟨rfl, (setRow_other _ _ _ _ (Ne.symm hr0b)).trans HH.out, MX.out.setRow (Nat.le_refl _) _⟩
  · have hc := hKe he1
    have hke : kindE K e1 = e1 := by unfold kindE; rw [if_neg (fun h => he1 h.1)]
    obtain ⟨st0, hst0⟩ : ∃ st0 : Rst, (({ zOp with K := K } : Opx), S1, e1) = st0 := ⟨_, rfl⟩
    have HRT : Hid (rtake S e = rtakeK K st0) := Lib.hid (by rw [HRT0.out, hke, hst0])
    have HX0 : Hid (OpAt w3 gx st0.1) := by rw [← hst0]; exact HX3
    have H0 : Hid (Sr 61 b st0.2.1 st0.2.2 w3) := by rw [← hst0]; exact H3
    have hz0 : st0.2.1.size ≤ 9223372036854775807 := by rw [← hst0]; show S1.size ≤ _; omega
    have HR0 := HR3
    have M0 := M3
    obtain ⟨v0, hv0⟩ : ∃ v0, w3 = v0 := ⟨_, rfl⟩
    rw [hv0] at HX0 H0 HR0 M0 q0 r1 ⊢
    clear hst0 HX3 H3 HR3 M3 hke HRT0 hv0
    go_upto_region 5 with (fail)
    clear q0 r1
    have b1 : decide (4 ≤ K) = false := by simp; omega
    have b2 : decide (K ≤ 7) = true := by simp; omega
    have b3 : decide (2 ≤ K) = false := by simp; omega
    have b4 : decide (K ≤ 9) = true := by simp; omega
    have b5 : (K == 7) = false := by simp; omega
    have b6 : (K == 9) = false := by simp; omega
    have b7 : decide (K < 2) = true := by simp; omega
    have b8 : (K == 0) = true := by simp; omega
    have HN0 := Lib.hid (sNumber_any b st0.2.1 st0.2.2 63 v0 H0.out hz0)
    have hsz0 := tpeer_size st0
    go_wp2_with fail
    refine (HN0.out).mono ?_
    rintro r wn ⟨rfl, hn, mn⟩
    have HXn := HX0.out.rm mn hgb
    have qn : wn.cell? ⟨gx, 1, none⟩ = some _ := HXn.cell (j := 1) rfl
    have fn := HXn.frz 1
    go_upto_region 6 with (fail)
    obtain ⟨v1, hv⟩ : ∃ v1, wn.setCell ⟨gx, 1, none⟩ (.int .i64 (numM 63 st0.2.1 st0.2.2).1) = v1 := ⟨_, rfl⟩
    rw [hv]
    obtain ⟨st1, hst⟩ : ∃ st1, tpeer st0 = st1 := ⟨_, rfl⟩
    have HX1 : Hid (OpAt v1 gx st1.1) := Lib.hid (by rw [← hst, ← hv]; exact HXn.setP (numM 63 st0.2.1 st0.2.2).1)
    have H1 : Hid (Sr 61 b st1.2.1 st1.2.2 v1) := Lib.hid (by rw [← hst, ← hv]; exact hn.setOther (Ne.symm hgb) 1 _)
    have HR1 : Hid (OpAt v1 w.heap.size zOp) := Lib.hid (by rw [← hv]; exact (Below.heap_setCell _ _ _ _ (Ne.symm hgr)).trans (HR0.out.rm mn hr0b))
    have M1 : Hid (Rm b w v1) := Lib.hid (by rw [← hv]; exact (M0.out.trans mn).set hgw 1 _)
    have hz1 : st1.2.1.size ≤ 9223372036854775807 := by rw [← hst]; exact Nat.le_trans hsz0 hz0
    have E1 := Lib.hid hst
    clear hn mn HXn qn fn hv hst HN0 HX0 H0 HR0 M0 hsz0 hz0
    have HN1 := Lib.hid (sText_any b 255 st1.2.1 st1.2.2 v1 H1.out hz1)
    have hsz1 := txtM_size 255 st1.2.1 st1.2.2
    go_wp2_with fail
    refine (HN1.out).mono ?_
    rintro r wn ⟨rfl, hn, mn⟩
    have HXn := HX1.out.rm mn hgb
    have qn : wn.cell? ⟨gx, 6, none⟩ = some _ := HXn.cell (j := 6) rfl
    have fn := HXn.frz 6
    go_upto_region 16 with (fail)
    obtain ⟨v2, hv⟩ : ∃ v2, wn.setCell ⟨gx, 6, none⟩ (.string (txtM 255 st1.2.1 st1.2.2).1) = v2 := ⟨_, rfl⟩
    rw [hv]
    obtain ⟨st2, hst⟩ : ∃ st2, ttxt 0 255 st1 = st2 := ⟨_, rfl⟩
    have HX2 : Hid (OpAt v2 gx st2.1) := Lib.hid (by rw [← hst, ← hv]; exact HXn.setT 0 (by decide) (txtM 255 st1.2.1 st1.2.2).1)
    have H2 : Hid (Sr 61 b st2.2.1 st2.2.2 v2) := Lib.hid (by rw [← hst, ← hv]; exact hn.setOther (Ne.symm hgb) 6 _)
    have HR2 : Hid (OpAt v2 w.heap.size zOp) := Lib.hid (by rw [← hv]; exact (Below.heap_setCell _ _ _ _ (Ne.symm hgr)).trans (HR1.out.rm mn hr0b))
    have M2 : Hid (Rm b w v2) := Lib.hid (by rw [← hv]; exact (M1.out.trans mn).set hgw 6 _)
    have hz2 : st2.2.1.size ≤ 9223372036854775807 := by rw [← hst]; exact Nat.le_trans hsz1 hz1
    have E2 := Lib.hid hst
    clear hn mn HXn qn fn hv hst HN1 HX1 H1 HR1 M1 hsz1 hz1
    have HN2 := Lib.hid (sText_any b 255 st2.2.1 st2.2.2 v2 H2.out hz2)
    have hsz2 := txtM_size 255 st2.2.1 st2.2.2
    go_wp2_with fail
    refine (HN2.out).mono ?_
    rintro r wn ⟨rfl, hn, mn⟩
    have HXn := HX2.out.rm mn hgb
    have qn : wn.cell? ⟨gx, 7, none⟩ = some _ := HXn.cell (j := 7) rfl
    have fn := HXn.frz 7
    go_upto_region 18 with (fail)
    obtain ⟨v3, hv⟩ : ∃ v3, wn.setCell ⟨gx, 7, none⟩ (.string (txtM 255 st2.2.1 st2.2.2).1) = v3 := ⟨_, rfl⟩
    rw [hv]
    obtain ⟨st3, hst⟩ : ∃ st3, ttxt 1 255 st2 = st3 := ⟨_, rfl⟩
    have HX3 : Hid (OpAt v3 gx st3.1) := Lib.hid (by rw [← hst, ← hv]; exact HXn.setT 1 (by decide) (txtM 255 st2.2.1 st2.2.2).1)
    have H3 : Hid (Sr 61 b st3.2.1 st3.2.2 v3) := Lib.hid (by rw [← hst, ← hv]; exact hn.setOther (Ne.symm hgb) 7 _)
    have HR3 : Hid (OpAt v3 w.heap.size zOp) := Lib.hid (by rw [← hv]; exact (Below.heap_setCell _ _ _ _ (Ne.symm hgr)).trans (HR2.out.rm mn hr0b))
    have M3 : Hid (Rm b w v3) := Lib.hid (by rw [← hv]; exact (M2.out.trans mn).set hgw 7 _)
    have hz3 : st3.2.1.size ≤ 9223372036854775807 := by rw [← hst]; exact Nat.le_trans hsz2 hz2
    have E3 := Lib.hid hst
    clear hn mn HXn qn fn hv hst HN2 HX2 H2 HR2 M2 hsz2 hz2
    have hfin : rtakeK K st0 = st3 := by
      unfold rtakeK ctnum cttxt
      rw [if_pos (by simp; omega), if_pos (by simp; omega), if_neg (by simp; omega), if_neg (by simp; omega), if_neg (by simp; omega), if_neg (by simp; omega)]
      rw [E1.out, E2.out, E3.out]
    have HO : Hid (rtake S e = st3) := Lib.hid (by rw [HRT.out]; exact hfin)
    clear hfin
    obtain ⟨stX, hsX⟩ : ∃ stX, st3 = stX := ⟨_, rfl⟩
    have HXX : Hid (OpAt v3 gx stX.1) := by rw [← hsX]; exact HX3
    have HH : Hid (Sr 61 b stX.2.1 stX.2.2 v3) := by rw [← hsX]; exact H3
    have HRX := HR3
    have MX := M3
    rw [hsX] at HO
    clear hsX HX3 H3 HR3 M3
    obtain ⟨x9, S9, e9⟩ := stX
    go_wp2_with (first
      | ((with_reducible refine at_ld 23 (.tmp 3) ?_); refine wpList_load_row rfl 23 _ rfl gx rfl 23 x9.cells (0, 0) _ HXX.out Tryd.underlying23 rfl (by kernel_rfl) ?_)
      | ((with_reducible refine at_st 23 (.tmp 2) (.tmp 67) ?_); refine wpList_store_row rfl 23 _ _ rfl w.heap.size x9.cells rfl rfl 23 zOp.cells HRX.out (by kernel_rfl) rfl (oOne _) ?_))
    refine bodyPost_ret (v := .agg (rtake S e).1.cells) ?_ rfl ?_
    · simp [results, Tryd.results37, Act.put, asA2]
      refine run_loadVar_row _ _ 23 23 _ (0, 0) _ ?_ Tryd.underlying23 rfl (by kernel_rfl)
      rw [HO.out]
      exact HRX.out.setRow x9
    · rw [HO.out]
      exact ⟨rfl, (setRow_other _ _ _ _ (Ne.symm hr0b)).trans HH.out, MX.out.setRow (Nat.le_refl _) _⟩
end Go.Proofs.YtjjdgmabgiembaaDoor
