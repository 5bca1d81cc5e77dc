/- Joined texts: SynB SynD SynE. -/
import Derived.Test.YtfobnemocodomaaGreatZBd
import Derived.Test.YtfobnemocodomaaGreatZBc
set_option linter.unusedVariables false
set_option linter.unusedSimpArgs false
set_option maxHeartbeats 2000000
namespace Go.Proofs.YtfobnemocodomaaGreat
open Go.RowKit Go.Great

theorem VRows.oks {w : World} {A : Option Addr} {rs : List VRow} (h : VRows w A rs) : vsOk w (allV rs) := fun x hx => by
  unfold allV at hx
  obtain ⟨r, hr, hx⟩ := List.mem_flatMap.1 hx
  obtain ⟨i, hi, rfl⟩ := List.getElem_of_mem hr
  obtain ⟨_, _, _, hv⟩ := h.2 i hi
  exact hv.oks x hx
set_option maxRecDepth 100000 in
theorem cov1_any (A : Option Addr) (cap : Nat) (rs : List VRow) (x : Vx) (g : Nat) (w : World) (h : VRows w A rs) (hg : w.cell? ⟨g, 0, none⟩ = some (.slice A rs.length cap)) (hlb : (allV rs).length ≤ 1000000) :
    Calls Tryz.prog 129 #[.agg x.cells, .pointer (some ⟨g, 0, none⟩)] w fun e w' => e = .returned (.bool (covB (allV rs) x.P x.C)) ∧ Gr w w' := by
  have hn := World.alloc_heap_new w (.cells x.cells 114)
  have hga : Gr w (w.alloc (.cells x.cells 114)) := (Gr.rfl' w).al _
  have hc := hga.cell hg
  have HN := Lib.hid hn
  have HG := Lib.hid hga
  have H := Lib.hid (h.gr hga)
  have HC := Lib.hid (vConcat_any A cap rs _ (h.gr hga) hlb)
  clear hn hga h hg
  go_enter Tryz.func129, Tryz.ntmps129
  go_wp2_with fail
  refine (HC.out).mono ?_
  rintro r w1 ⟨⟨v, rfl, ho⟩, g1⟩
  obtain ⟨A1, c1, rfl, _, hv⟩ := ho.vers ((H.out.gr g1).oks)
  have HV := Lib.hid hv
  have HB := Lib.hid ((g1.block _ (Array.getElem?_eq_some_iff.1 HN.out).1).trans HN.out)
  clear ho hv
  go_wp2_with fail
  refine (covHas_any A1 c1 (allV rs) x w.heap.size w1 HV.out HB.out).mono ?_
  rintro r w2 ⟨rfl, g2⟩
  go_wp2
  go_ret
  exact ⟨rfl, HG.out.tr (g1.tr g2)⟩
/-- the first of a list that others cover -/
def cvIdx (m : List Vx) : Int → List Vx → Int
  | _, [] => -1
  | k, y :: r => if covB m y.P y.C = true then k else cvIdx m (k + 1) r
theorem cvIdx_spec (m : List Vx) : ∀ (l : List Vx) (k : Int), 0 ≤ k → (decide (0 ≤ cvIdx m k l) = covAny m l)
  | [], k, _ => by simp [cvIdx, covAny]
  | y :: r, k, h => by
    have ih := cvIdx_spec m r (k + 1) (by omega)
    unfold cvIdx
    have e : covAny m (y :: r) = (covB m y.P y.C || covAny m r) := rfl
    by_cases hh : covB m y.P y.C = true
    · rw [if_pos hh, e, hh]; simp [h]
    · rw [if_neg hh, e, ih]; simp at hh; simp [hh]
set_option maxRecDepth 100000 in
theorem cov1Index_any (B : Option Addr) (cb : Nat) (l : List Vx) (A : Option Addr) (cap : Nat) (rs : List VRow) (g : Nat) (w : World) (hl : Vers w B l) (h : VRows w A rs) (hg : w.cell? ⟨g, 0, none⟩ = some (.slice A rs.length cap)) (hlb : (allV rs).length ≤ 1000000) :
    Calls Tryz.prog 128 #[.slice B l.length cb, .func (.func 129) #[] #[.pointer (some ⟨g, 0, none⟩)]] w fun e w' => e = .returned (.int .i64 (cvIdx (allV rs) 0 l)) ∧ Gr w w' := by
  have H := Lib.hid hl; clear hl
  have HR := Lib.hid h; clear h
  have HB := Lib.hid hg; clear hg
  have hm := H.out.1
  have g0 := Lib.hid (Gr.rfl' w)
  go_enter Tryz.func128, Tryz.ntmps128
  go_wp2
  go_loopw [8] (fun i wr => ∃ k : Nat, k ≤ l.length ∧ i = .int .i64 k ∧ Hid (cvIdx (allV rs) 0 l = cvIdx (allV rs) k (l.drop k)) ∧ Hid (Gr w wr)) (fun i _ => l.length - (intOf i).toNat)
  case atStart => exact ⟨0, Nat.zero_le _, rfl, Lib.hid rfl, g0⟩
  case round =>
    clear g0
    obtain ⟨k, hk, rfl, hch, HG⟩ := hrel
    by_cases hlt : k < l.length
    · have hi1 : (k : Int) < (l.length : Int) := by omega
      obtain ⟨ad, rfl, hvx, hcx⟩ := (H.out.gr HG.out).2 k hlt
      have hst : cvIdx (allV rs) k (l.drop k) = if covB (allV rs) l[k].P l[k].C = true then (k : Int) else cvIdx (allV rs) (k + 1 : Int) (l.drop (k + 1)) := by rw [List.drop_eq_getElem_cons hlt]; rfl
      rw [← hch.out] at hst
      obtain ⟨y, hy⟩ : ∃ y, l[k] = y := ⟨_, rfl⟩
      rw [hy] at hvx hcx hst
      have HST := Lib.hid hst
      have HCX : Hid (∀ j v, y.cells.toList[j]? = some v → wr.cell? ((ad.add (k * 5)).add j) = some v) := Lib.hid fun j v hj => hcx j v (by simpa using hj)
      have hc := cov1_any A cap rs y g wr (HR.out.gr HG.out) (HG.out.cell HB.out) hlb
      clear hst hvx hcx hy hch
      by_cases hh : covB (allV rs) y.P y.C = true
      · rw [hh] at hc
        have HC := Lib.hid hc
        have HN : Hid (cvIdx (allV rs) 0 l = k) := Lib.hid (by rw [HST.out, if_pos hh])
        clear hc hh
        go_wp2_with (refine ld_at rfl 114 (.tmp 14) rfl _ rfl y.cells.toList _ HCX.out Tryz.underlying114 rfl (by kernel_rfl) ?_)
        refine (HC.out).mono ?_
        rintro e w1 ⟨rfl, hg1⟩
        go_wp2
        go_ret
        rw [HN.out]
        exact ⟨rfl, HG.out.tr hg1⟩
      · have HN : Hid (cvIdx (allV rs) 0 l = cvIdx (allV rs) ((k + 1 : Nat) : Int) (l.drop (k + 1))) := Lib.hid (by rw [HST.out, if_neg hh]; rfl)
        have hh : covB (allV rs) y.P y.C = false := by simpa using hh
        rw [hh] at hc
        have HC := Lib.hid hc
        clear hc hh
        go_wp2_with (refine ld_at rfl 114 (.tmp 14) rfl _ rfl y.cells.toList _ HCX.out Tryz.underlying114 rfl (by kernel_rfl) ?_)
        refine (HC.out).mono ?_
        rintro e w1 ⟨rfl, hg1⟩
        go_wp2
        go_roundw
        case rel => exact ⟨k + 1, by omega, by go_num, HN, Lib.hid (HG.out.tr hg1)⟩
        case measure => simp [intOf]; omega
    · have hk' : k = l.length := by omega
      have hi1 : ¬ (k : Int) < (l.length : Int) := by omega
      have HN : Hid (cvIdx (allV rs) 0 l = -1) := Lib.hid (by rw [hch.out, hk', List.drop_length]; rfl)
      clear hk' hch
      go_wp2
      go_ret
      rw [HN.out]
      exact ⟨rfl, HG.out⟩
set_option maxRecDepth 100000 in
theorem cov1Has_any (B : Option Addr) (cb : Nat) (l : List Vx) (A : Option Addr) (cap : Nat) (rs : List VRow) (g : Nat) (w : World) (hl : Vers w B l) (h : VRows w A rs) (hg : w.cell? ⟨g, 0, none⟩ = some (.slice A rs.length cap)) (hlb : (allV rs).length ≤ 1000000) :
    Calls Tryz.prog 104 #[.slice B l.length cb, .func (.func 129) #[] #[.pointer (some ⟨g, 0, none⟩)]] w fun e w' => e = .returned (.bool (covAny (allV rs) l)) ∧ Gr w w' := by
  have HC := Lib.hid (cov1Index_any B cb l A cap rs g w hl h hg hlb)
  have HS := Lib.hid (cvIdx_spec (allV rs) l 0 (by omega))
  clear hl h hg
  go_enter Tryz.func104, Tryz.ntmps104
  go_wp2_with fail
  refine (HC.out).mono ?_
  rintro e w1 ⟨rfl, hg1⟩
  go_wp2
  go_ret
  exact ⟨ret_bool HS.out, hg1⟩
set_option maxRecDepth 100000 in
theorem covMk_any (A : Option Addr) (n c : Nat) (w : World) :
    Calls Tryz.prog 105 #[.slice A n c] w fun e w' => e = .returned (.func (.func 129) #[] #[.pointer (some ⟨w.heap.size, 0, none⟩)]) ∧ w' = w.alloc (.cells #[.slice A n c] 181) := by
  go_enter Tryz.func105, Tryz.ntmps105
  go_wp2
  go_ret
  exact ⟨rfl, rfl⟩
theorem allV_one (A : Option Addr) (cap : Nat) (l : List Vx) : allV [⟨A, cap, l⟩] = l := by simp [allV]
set_option maxRecDepth 100000 in
theorem sLeaf_any (A : Option Addr) (cap : Nat) (l : List Vx) (w : World) (h : Vers w A l) :
    Calls Tryz.prog 67 #[.slice A l.length cap] w fun r w' => r = .returned (.int .i64 (leafChk l)) ∧ Gr w w' := by
  have H := Lib.hid h
  have hm := h.1
  have g0 := Lib.hid (Gr.rfl' w)
  clear h
  by_cases h64 : 64 < l.length
  · have h64i : (64 : Int) < l.length := by omega
    have HV : Hid (leafChk l = 2) := Lib.hid (by unfold leafChk; rw [if_pos h64])
    go_enter Tryz.func67, Tryz.ntmps67
    go_wp2
    go_ret
    rw [HV.out]
    exact ⟨rfl, g0.out⟩
  · have h64i : ¬ (64 : Int) < l.length := by omega
    go_enter Tryz.func67, Tryz.ntmps67
    go_wp2
    go_loopw [11] (fun i wr => ∃ k : Nat, k ≤ l.length ∧ i = .int .i64 k ∧ Hid (verGo (-1) l = verGo (lastV l k) (l.drop k)) ∧ Hid (Gr w wr)) (fun i _ => l.length - (intOf i).toNat)
    case atStart => exact ⟨0, Nat.zero_le _, rfl, Lib.hid rfl, g0⟩
    case round =>
      clear g0
      obtain ⟨k, hk, rfl, hch, HG⟩ := hrel
      by_cases hlt : k < l.length
      · have hi1 : (k : Int) < (l.length : Int) := by omega
        obtain ⟨ad, rfl, hvx, hcx⟩ := (H.out.gr HG.out).2 k hlt
        have hst : verGo (lastV l k) (l.drop k) = if verChk l[k] ≠ 0 then verChk l[k] else if l[k].P ≤ lastV l k then 8 else verGo l[k].P (l.drop (k + 1)) := by rw [List.drop_eq_getElem_cons hlt]; rfl
        rw [← hch.out] at hst
        have hls : lastV l (k + 1) = l[k].P := by unfold lastV; rw [dif_pos ⟨by omega, by omega⟩]; rfl
        rw [← hls] at hst
        obtain ⟨x, hx⟩ : ∃ x, l[k] = x := ⟨_, rfl⟩
        rw [hx] at hvx hcx hst hls
        have HVX := Lib.hid hvx
        have HST := Lib.hid hst
        have HLS := Lib.hid hls
        have HCX : Hid (∀ j v, x.cells.toList[j]? = some v → wr.cell? ((ad.add (k * 5)).add j) = some v) := Lib.hid fun j v hj => hcx j v (by simpa using hj)
        clear hst hls hvx hx hch hcx
        have hk2 := fun (W : World) (g : Gr wr W) => vCheck1_any x W (HVX.out.gr g)
        by_cases hv : verChk x = 0
        · have HPP := Lib.hid (ver_pos hv)
          have HVZ := Lib.hid hv
          simp only [hv] at hk2
          have HK := Lib.hid hk2
          clear hk2 hv
          rcases k with _ | j
          · have HN : Hid (verGo (-1) l = verGo (lastV l 1) (l.drop 1)) := Lib.hid (by rw [HST.out, if_neg (by simpa using HVZ.out), if_neg (by have := HPP.out; rw [HLS.out]; show ¬ x.P ≤ -1; omega)])
            go_upto_region 6 with (first
              | refine ld_at rfl 114 (.tmp 14) rfl _ rfl x.cells.toList _ HCX.out Tryz.underlying114 rfl (by kernel_rfl) ?_
              | refine allocV rfl rfl ?_
              | (refine storeV x rfl (.tmp 4) _ rfl rfl rfl rfl ?_; intro W1 hx1 hg1; obtain ⟨gX, hgX⟩ : ∃ g, wr.heap.size = g := ⟨_, rfl⟩; rw [hgX] at hx1 ⊢; have HX1 := Lib.hid hx1; have G1 := Lib.hid hg1; clear hx1 hg1 hgX))
            go_wp2_with (first | refine wpList_load_row rfl 114 (.tmp 4) rfl gX rfl 114 x.cells (0, 0) _ HX1.out Tryz.underlying114 rfl (by kernel_rfl) ?_)
            refine (HK.out W1 G1.out).mono ?_
            rintro e w1 ⟨rfl, hg1⟩
            have d0 : w1.cell? ⟨gX, 0, none⟩ = some (.int .i64 x.P) := by
              have hb := (hg1.block _ (Array.getElem?_eq_some_iff.1 HX1.out).1).trans HX1.out
              simp only [World.cell?, hb]; rfl
            replace hg1 := G1.out.tr hg1
            go_wp2
            refine wp_region_quiet_lit (by kernel_rfl) (by kernel_rfl) ?_
            repeat (first | go_big_quiet_step (fail) | quiet_step (fail))
            refine wpQuiet_nil ?_
            intro _ hw'
            obtain ⟨nq, hw''⟩ := hw'
            subst hw''
            go_wp2
            go_roundw
            case rel => exact ⟨1, by omega, by go_num, HN, Lib.hid ((HG.out.tr hg1).drN _)⟩
            case measure => simp [intOf]; omega
          · obtain ⟨ad', e', _, hcy⟩ := (H.out.gr HG.out).2 j (by omega)
            cases e'
            have d2 := (vat_of hcy).1
            have hpl : lastV l (j + 1) = l[j].P := by unfold lastV; rw [dif_pos ⟨by omega, by omega⟩]; rfl
            obtain ⟨y, hy⟩ : ∃ y, l[j] = y := ⟨_, rfl⟩
            rw [hy] at d2 hpl
            have HPL := Lib.hid hpl
            have hi2 : (j : Int) < (l.length : Int) := by omega
            clear hpl hcy hy
            by_cases hle : x.P ≤ y.P
            · have HN : Hid (leafChk l = 8) := Lib.hid (by
                have h8 : verGo (-1) l = 8 := by rw [HST.out, if_neg (by simpa using HVZ.out), if_pos (by rw [HLS.out, HPL.out]; exact hle)]
                unfold leafChk; rw [if_neg h64, h8]; rfl)
              go_upto_region 6 with (first
                | refine ld_at rfl 114 (.tmp 14) rfl _ rfl x.cells.toList _ HCX.out Tryz.underlying114 rfl (by kernel_rfl) ?_
                | refine allocV rfl rfl ?_
                | (refine storeV x rfl (.tmp 4) _ rfl rfl rfl rfl ?_; intro W1 hx1 hg1; obtain ⟨gX, hgX⟩ : ∃ g, wr.heap.size = g := ⟨_, rfl⟩; rw [hgX] at hx1 ⊢; have HX1 := Lib.hid hx1; have G1 := Lib.hid hg1; clear hx1 hg1 hgX))
              go_wp2_with (first | refine wpList_load_row rfl 114 (.tmp 4) rfl gX rfl 114 x.cells (0, 0) _ HX1.out Tryz.underlying114 rfl (by kernel_rfl) ?_)
              refine (HK.out W1 G1.out).mono ?_
              rintro e w1 ⟨rfl, hg1⟩
              have d0 : w1.cell? ⟨gX, 0, none⟩ = some (.int .i64 x.P) := by
                have hb := (hg1.block _ (Array.getElem?_eq_some_iff.1 HX1.out).1).trans HX1.out
                simp only [World.cell?, hb]; rfl
              replace hg1 := G1.out.tr hg1
              replace d2 := hg1.cell d2
              go_wp2
              refine wp_region_quiet_lit (by kernel_rfl) (by kernel_rfl) ?_
              repeat (first | go_big_quiet_step (fail) | quiet_step (fail))
              refine wpQuiet_nil ?_
              intro _ hw'
              obtain ⟨nq, hw''⟩ := hw'
              subst hw''
              go_wp2
              go_ret
              rw [HN.out]
              exact ⟨rfl, (HG.out.tr hg1).drN _⟩
            · have HN : Hid (verGo (-1) l = verGo (lastV l (j + 1 + 1)) (l.drop (j + 1 + 1))) := Lib.hid (by rw [HST.out, if_neg (by simpa using HVZ.out), if_neg (by rw [HLS.out, HPL.out]; exact hle)])
              go_upto_region 6 with (first
                | refine ld_at rfl 114 (.tmp 14) rfl _ rfl x.cells.toList _ HCX.out Tryz.underlying114 rfl (by kernel_rfl) ?_
                | refine allocV rfl rfl ?_
                | (refine storeV x rfl (.tmp 4) _ rfl rfl rfl rfl ?_; intro W1 hx1 hg1; obtain ⟨gX, hgX⟩ : ∃ g, wr.heap.size = g := ⟨_, rfl⟩; rw [hgX] at hx1 ⊢; have HX1 := Lib.hid hx1; have G1 := Lib.hid hg1; clear hx1 hg1 hgX))
              go_wp2_with (first | refine wpList_load_row rfl 114 (.tmp 4) rfl gX rfl 114 x.cells (0, 0) _ HX1.out Tryz.underlying114 rfl (by kernel_rfl) ?_)
              refine (HK.out W1 G1.out).mono ?_
              rintro e w1 ⟨rfl, hg1⟩
              have d0 : w1.cell? ⟨gX, 0, none⟩ = some (.int .i64 x.P) := by
                have hb := (hg1.block _ (Array.getElem?_eq_some_iff.1 HX1.out).1).trans HX1.out
                simp only [World.cell?, hb]; rfl
              replace hg1 := G1.out.tr hg1
              replace d2 := hg1.cell d2
              go_wp2
              refine wp_region_quiet_lit (by kernel_rfl) (by kernel_rfl) ?_
              repeat (first | go_big_quiet_step (fail) | quiet_step (fail))
              refine wpQuiet_nil ?_
              intro _ hw'
              obtain ⟨nq, hw''⟩ := hw'
              subst hw''
              go_wp2
              go_roundw
              case rel => exact ⟨j + 1 + 1, by omega, by go_num, HN, Lib.hid ((HG.out.tr hg1).drN _)⟩
              case measure => simp [intOf]; omega
        · have hvb : (verChk x != 0) = true := by simp [hv]
          have HN : Hid (leafChk l = verChk x) := Lib.hid (by
            have h8 : verGo (-1) l = verChk x := by rw [HST.out, if_pos hv]
            unfold leafChk; rw [if_neg h64, h8, if_pos hv])
          have HK := Lib.hid hk2
          clear hk2 hv
          go_upto_region 6 with (first
            | refine ld_at rfl 114 (.tmp 14) rfl _ rfl x.cells.toList _ HCX.out Tryz.underlying114 rfl (by kernel_rfl) ?_
            | refine allocV rfl rfl ?_
            | (refine storeV x rfl (.tmp 4) _ rfl rfl rfl rfl ?_; intro W1 hx1 hg1; obtain ⟨gX, hgX⟩ : ∃ g, wr.heap.size = g := ⟨_, rfl⟩; rw [hgX] at hx1 ⊢; have HX1 := Lib.hid hx1; have G1 := Lib.hid hg1; clear hx1 hg1 hgX))
          go_wp2_with (first | refine wpList_load_row rfl 114 (.tmp 4) rfl gX rfl 114 x.cells (0, 0) _ HX1.out Tryz.underlying114 rfl (by kernel_rfl) ?_)
          refine (HK.out W1 G1.out).mono ?_
          rintro e w1 ⟨rfl, hg1⟩
          have d0 : w1.cell? ⟨gX, 0, none⟩ = some (.int .i64 x.P) := by
            have hb := (hg1.block _ (Array.getElem?_eq_some_iff.1 HX1.out).1).trans HX1.out
            simp only [World.cell?, hb]; rfl
          replace hg1 := G1.out.tr hg1
          go_wp2
          go_ret
          rw [HN.out]
          exact ⟨rfl, HG.out.tr hg1⟩
      · have hkk : k = l.length := by omega
        have hi1 : ¬ (k : Int) < (l.length : Int) := by omega
        have hz : verGo (-1) l = 0 := by rw [hch.out, hkk, List.drop_length]; rfl
        have HZ : Hid (leafChk l = if covAny l l = true then 7 else 0) := Lib.hid (by unfold leafChk; rw [if_neg h64, hz]; rfl)
        clear hz hch hkk
        have hv1 := VRows.one (w := wr) (A := A) (cap := cap) (H.out.gr HG.out) 23
        have G1 := Lib.hid ((Gr.rfl' wr).al (.cells #[.slice A l.length cap] 23))
        have V1 := Lib.hid hv1
        clear hv1
        go_wp2_with fail
        refine (covMk_any _ _ _ _).mono ?_
        rintro e w1 ⟨rfl, rfl⟩
        have G2 := Lib.hid ((Gr.rfl' (wr.alloc (.cells #[.slice A l.length cap] 23))).al (.cells #[.slice (some ⟨wr.heap.size, 0, none⟩) 1 1] 181))
        have hn := World.alloc_heap_new (wr.alloc (.cells #[.slice A l.length cap] 23)) (.cells #[.slice (some ⟨wr.heap.size, 0, none⟩) 1 1] 181)
        have hcc : ((wr.alloc (.cells #[.slice A l.length cap] 23)).alloc (.cells #[.slice (some ⟨wr.heap.size, 0, none⟩) 1 1] 181)).cell? ⟨(wr.alloc (.cells #[.slice A l.length cap] 23)).heap.size, 0, none⟩ = some (.slice (some ⟨wr.heap.size, 0, none⟩) 1 1) := by
          simp only [World.cell?, hn]; rfl
        have hh := cov1Has_any A cap l (some ⟨wr.heap.size, 0, none⟩) 1 [⟨A, cap, l⟩] _ _ (H.out.gr (HG.out.tr (G1.out.tr G2.out))) (V1.out.gr G2.out) hcc (by rw [allV_one]; omega)
        rw [allV_one] at hh
        have hsz : (wr.alloc (.cells #[.slice A l.length cap] 23)).heap.size = wr.heap.size + 1 := by simp
        rw [hsz] at hh
        by_cases hc : covAny l l = true
        · rw [hc] at hh
          have HH := Lib.hid hh
          have HN : Hid (leafChk l = 7) := Lib.hid (by rw [HZ.out, if_pos hc])
          clear hh hc hn hcc
          go_wp2_with fail
          refine (HH.out).mono ?_
          rintro e w2 ⟨rfl, hg2⟩
          go_wp2
          go_ret
          rw [HN.out]
          exact ⟨rfl, HG.out.tr (G1.out.tr (G2.out.tr hg2))⟩
        · have HN : Hid (leafChk l = 0) := Lib.hid (by rw [HZ.out, if_neg hc])
          have hc : covAny l l = false := by simpa using hc
          rw [hc] at hh
          have HH := Lib.hid hh
          clear hh hc hn hcc
          go_wp2_with fail
          refine (HH.out).mono ?_
          rintro e w2 ⟨rfl, hg2⟩
          go_wp2
          go_ret
          rw [HN.out]
          exact ⟨rfl, HG.out.tr (G1.out.tr (G2.out.tr hg2))⟩
end Go.Proofs.YtfobnemocodomaaGreat
set_option linter.unusedVariables false
set_option linter.unusedSimpArgs false
set_option maxHeartbeats 2000000
namespace Go.Proofs.YtfobnemocodomaaGreat
open Go.RowKit Go.Great

/-- a later dot -/
def later (x y : Vx) : Bool := decide (y.C < x.C ∨ (x.C = y.C ∧ y.P < x.P))
def winsV (x y : Vx) : Bool := if x.D ≠ y.D then y.D else later x y
theorem or_later (x y : Vx) : (0 < orC (cmpC x.C y.C) (cmpC x.P y.P)) ↔ later x y = true := by
  unfold orC cmpC later
  simp only [decide_eq_true_eq]
  by_cases h1 : x.C < y.C
  · rw [if_pos h1]; simp; omega
  · rw [if_neg h1]
    by_cases h2 : y.C < x.C
    · rw [if_pos h2]; simp; omega
    · rw [if_neg h2]
      by_cases h3 : x.P < y.P
      · rw [if_pos h3]; simp; omega
      · rw [if_neg h3]
        by_cases h4 : y.P < x.P
        · rw [if_pos h4]; simp; omega
        · rw [if_neg h4]; simp; omega
end Go.Proofs.YtfobnemocodomaaGreat
set_option linter.unusedVariables false
set_option linter.unusedSimpArgs false
set_option maxHeartbeats 2000000
namespace Go.Proofs.YtfobnemocodomaaGreat
open Go.RowKit Go.Great

/-- the block g alone is turned -/
structure Sg (g : Nat) (w wt : World) : Prop where
  os : wt.os = w.os
  tape : wt.tape = w.tape
  output : wt.output = w.output
  size : wt.heap.size = w.heap.size
  keep : ∀ k, k ≠ g → wt.heap[k]? = w.heap[k]?
theorem Sg.gr {g : Nat} {w0 w wt : World} (h : Sg g w wt) (k : Gr w0 w) (hg : w0.heap.size ≤ g) : Gr w0 wt :=
  ⟨h.os.trans k.os, h.tape.trans k.tape, h.output.trans k.output, by rw [h.size]; exact k.size, fun j hj => (h.keep j (by omega)).trans (k.block j hj)⟩
theorem setRow_sg (w : World) (g : Nat) (cs : Array Value) : Sg g w (w.setRow g cs) :=
  ⟨rfl, rfl, rfl, by simp [World.setRow], fun k hk => by simp [World.setRow, Array.getElem?_modify, Ne.symm hk]⟩
theorem setRow_at {w : World} {g : Nat} {old cs : Array Value} {t : TypeId} {fr : Nat × Nat} (h : w.heap[g]? = some (.cells old t fr)) : (w.setRow g cs).heap[g]? = some (.cells cs t fr) := by
  simp [World.setRow, Array.getElem?_modify, h]
theorem storeW {ops : Array Oper} {rest : List Oper} {o : Oper} {a : Act} {w : World} {Q : Exit → Act → World → Prop} (c c0 : Vx) (g : Nat) (hg : o.guard = none) (x y : Operand) (ho : o.op = .store 114 x y) (hd : o.dst = none)
    (hx : a.eval x = .pointer (some ⟨g, 0, none⟩)) (hy : a.eval y = .agg c.cells) (h0 : w.heap[g]? = some (.cells c0.cells 114 (0, 0)))
    (h : ∀ wt : World, wt.heap[g]? = some (.cells c.cells 114 (0, 0)) → Sg g w wt → wpList Tryz.prog ops Q rest a wt) : wpList Tryz.prog ops Q (o :: rest) a w := by
  refine wpList_store_row hg 114 x y ho g c.cells hx hy 114 c0.cells h0 (by kernel_rfl) (by rfl) (vOne c) ?_
  rw [hd]
  exact h _ (setRow_at h0) (setRow_sg w g _)
def Zx : Vx := ⟨0, 0, none, [], 0, false, ⟨#[]⟩⟩
theorem Zx_cells : Zx.cells = Z5 := rfl
theorem buildZ {ops : Array Oper} {rest : List Oper} {o : Oper} {a : Act} {w : World} {Q : Exit → Act → World → Prop} (hg : o.guard = none) (ho : o.op = .build 114 #[])
    (h : wpList Tryz.prog ops Q rest (a.put o.dst (.agg Zx.cells)) w) : wpList Tryz.prog ops Q (o :: rest) a w :=
  wpList_buildTo hg 114 #[] ho o.dst rfl Zx.cells (by kernel_rfl) h
theorem Vers.tail {w : World} {ad : Addr} {c : Nat} {x : Vx} {r : List Vx} (h : Vers w (some ad) (x :: r)) (hc : (x :: r).length ≤ c) : Vers w (some (if c = 1 then ad else ad.add 5)) r := by
  refine ⟨by have := h.1; simp at this; omega, fun i hi => ?_⟩
  obtain ⟨ad', e, a, b⟩ := h.2 (i + 1) (by simpa using hi)
  cases e
  have hc1 : c ≠ 1 := by simp at hc; omega
  rw [if_neg hc1]
  have hadd : (ad.add 5).add (i * 5) = ad.add ((i + 1) * 5) := by
    unfold Addr.add
    by_cases h0 : i = 0
    · subst h0; simp
    · rw [if_neg (by omega), if_neg (by omega), if_neg (by omega)]
      simp only [Addr.mk.injEq, true_and, and_true]
      omega
  exact ⟨_, rfl, by simpa using a, by rw [hadd]; simpa using b⟩
theorem cut_addr5 (c : Nat) (ad : Addr) : (if c = 1 then some ad else some ⟨ad.block, ad.off + 5, none⟩) = some (if c = 1 then ad else ad.add 5) := by
  by_cases h : c = 1
  · simp [h]
  · simp [h, Addr.add]
theorem Vers.other {W W' : World} {A : Option Addr} {l : List Vx} (h : Vers W A l) (ho : vsOk W' l) (hA : ∀ D, A = some D → W'.heap[D.block]? = W.heap[D.block]?) : Vers W' A l :=
  ⟨h.1, fun i hi => by
    obtain ⟨ad, e, a, b⟩ := h.2 i hi
    refine ⟨ad, e, ho _ (List.getElem_mem hi), fun j v hj => ?_⟩
    have hb := b j v hj
    have hk := hA ad e
    have e1 : ((ad.add (i * 5)).add j).block = ad.block := by rw [add_block', add_block']
    rw [← hb]
    exact cell_addr' _ (by rw [e1]; exact hk)⟩
where
  add_block' (a : Addr) (j : Nat) : (a.add j).block = a.block := by unfold Addr.add; split <;> rfl
  cell_addr' {W W' : World} (D : Addr) (h : W'.heap[D.block]? = W.heap[D.block]?) : W'.cell? D = W.cell? D := by simp only [World.cell?, h]
/-- the best of some -/
def bestP (b : Vx) (l : List Vx) : Vx := l.foldl (fun b v => if winsV v b = true then v else b) b
theorem bestP_take {b : Vx} {l : List Vx} {k : Nat} (h : k < l.length) : bestP b (l.take (k + 1)) = if winsV l[k] (bestP b (l.take k)) = true then l[k] else bestP b (l.take k) := by
  unfold bestP
  rw [List.take_succ_eq_append_getElem h, List.foldl_append]; rfl
def winL (l : List Vx) : Option Vx := match liveL l with | [] => none | b :: r => some (bestP b r)
def winT (o : Option Vx) : Value := match o with | none => .tuple #[.agg Zx.cells, .bool false] | some x => .tuple #[.agg x.cells, .bool true]
theorem OwnV.blk {W : World} {B : Nat} {v : Value} {x : Vx} {r : List Vx} (h : OwnV W B v (x :: r)) : ∃ g c, B ≤ g ∧ v = .slice (some ⟨g, 0, none⟩) (x :: r).length c ∧ (x :: r).length ≤ c ∧ g < W.heap.size := by
  rcases h with ⟨_, h⟩ | ⟨g, hg, h⟩
  · cases h
  · obtain ⟨c, hv, hc, _⟩ := h.shape
    exact ⟨g, c, hg, hv, hc, h.lt⟩
end Go.Proofs.YtfobnemocodomaaGreat
