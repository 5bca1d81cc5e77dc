/- Joined texts: SynB SynD SynE SynF. -/
import Derived.Test.YtfobnemocodomaaZBd
import Derived.Test.YtfobnemocodomaaZBc
set_option linter.unusedVariables false
set_option linter.unusedSimpArgs false
set_option maxHeartbeats 2000000
namespace Go.Proofs.Ytfobnemocodomaa
open Go.RowKit Go.Great

theorem VRows.oks {w : World} {A : Option Addr} {rs : List VRow} (h : VRows w A rs) : vsOk w (allV rs) := fun x hx => by
  unfold allV at hx
  obtain ⟨r, hr, hx⟩ := List.mem_flatMap.1 hx
  obtain ⟨i, hi, rfl⟩ := List.getElem_of_mem hr
  obtain ⟨_, _, _, hv⟩ := h.2 i hi
  exact hv.oks x hx
set_option maxRecDepth 100000 in
theorem cov1_any (A : Option Addr) (cap : Nat) (rs : List VRow) (x : Vx) (g : Nat) (w : World) (h : VRows w A rs) (hg : w.cell? ⟨g, 0, none⟩ = some (.slice A rs.length cap)) (hlb : (allV rs).length ≤ 1000000) :
    Calls Try.prog 160 #[.agg x.cells, .pointer (some ⟨g, 0, none⟩)] w fun e w' => e = .returned (.bool (covB (allV rs) x.P x.C)) ∧ Gr w w' := by
  have hn := World.alloc_heap_new w (.cells x.cells 49)
  have hga : Gr w (w.alloc (.cells x.cells 49)) := (Gr.rfl' w).al _
  have hc := hga.cell hg
  have HN := Lib.hid hn
  have HG := Lib.hid hga
  have H := Lib.hid (h.gr hga)
  have HC := Lib.hid (vConcat_any A cap rs _ (h.gr hga) hlb)
  clear hn hga h hg
  go_enter Try.func160, Try.ntmps160
  go_wp2_with fail
  refine (HC.out).mono ?_
  rintro r w1 ⟨⟨v, rfl, ho⟩, g1⟩
  obtain ⟨A1, c1, rfl, _, hv⟩ := ho.vers ((H.out.gr g1).oks)
  have HV := Lib.hid hv
  have HB := Lib.hid ((g1.block _ (Array.getElem?_eq_some_iff.1 HN.out).1).trans HN.out)
  clear ho hv
  go_wp2_with fail
  refine (covHas_any A1 c1 (allV rs) x w.heap.size w1 HV.out HB.out).mono ?_
  rintro r w2 ⟨rfl, g2⟩
  go_wp2
  go_ret
  exact ⟨rfl, HG.out.tr (g1.tr g2)⟩
/-- the first of a list that others cover -/
def cvIdx (m : List Vx) : Int → List Vx → Int
  | _, [] => -1
  | k, y :: r => if covB m y.P y.C = true then k else cvIdx m (k + 1) r
theorem cvIdx_spec (m : List Vx) : ∀ (l : List Vx) (k : Int), 0 ≤ k → (decide (0 ≤ cvIdx m k l) = covAny m l)
  | [], k, _ => by simp [cvIdx, covAny]
  | y :: r, k, h => by
    have ih := cvIdx_spec m r (k + 1) (by omega)
    unfold cvIdx
    have e : covAny m (y :: r) = (covB m y.P y.C || covAny m r) := rfl
    by_cases hh : covB m y.P y.C = true
    · rw [if_pos hh, e, hh]; simp [h]
    · rw [if_neg hh, e, ih]; simp at hh; simp [hh]
set_option maxRecDepth 100000 in
theorem cov1Index_any (B : Option Addr) (cb : Nat) (l : List Vx) (A : Option Addr) (cap : Nat) (rs : List VRow) (g : Nat) (w : World) (hl : Vers w B l) (h : VRows w A rs) (hg : w.cell? ⟨g, 0, none⟩ = some (.slice A rs.length cap)) (hlb : (allV rs).length ≤ 1000000) :
    Calls Try.prog 159 #[.slice B l.length cb, .func (.func 160) #[] #[.pointer (some ⟨g, 0, none⟩)]] w fun e w' => e = .returned (.int .i64 (cvIdx (allV rs) 0 l)) ∧ Gr w w' := by
  have H := Lib.hid hl; clear hl
  have HR := Lib.hid h; clear h
  have HB := Lib.hid hg; clear hg
  have hm := H.out.1
  have g0 := Lib.hid (Gr.rfl' w)
  go_enter Try.func159, Try.ntmps159
  go_wp2
  go_loopw [8] (fun i wr => ∃ k : Nat, k ≤ l.length ∧ i = .int .i64 k ∧ Hid (cvIdx (allV rs) 0 l = cvIdx (allV rs) k (l.drop k)) ∧ Hid (Gr w wr)) (fun i _ => l.length - (intOf i).toNat)
  case atStart => exact ⟨0, Nat.zero_le _, rfl, Lib.hid rfl, g0⟩
  case round =>
    clear g0
    obtain ⟨k, hk, rfl, hch, HG⟩ := hrel
    by_cases hlt : k < l.length
    · have hi1 : (k : Int) < (l.length : Int) := by omega
      obtain ⟨ad, rfl, hvx, hcx⟩ := (H.out.gr HG.out).2 k hlt
      have hst : cvIdx (allV rs) k (l.drop k) = if covB (allV rs) l[k].P l[k].C = true then (k : Int) else cvIdx (allV rs) (k + 1 : Int) (l.drop (k + 1)) := by rw [List.drop_eq_getElem_cons hlt]; rfl
      rw [← hch.out] at hst
      obtain ⟨y, hy⟩ : ∃ y, l[k] = y := ⟨_, rfl⟩
      rw [hy] at hvx hcx hst
      have HST := Lib.hid hst
      have HCX : Hid (∀ j v, y.cells.toList[j]? = some v → wr.cell? ((ad.add (k * 5)).add j) = some v) := Lib.hid fun j v hj => hcx j v (by simpa using hj)
      have hc := cov1_any A cap rs y g wr (HR.out.gr HG.out) (HG.out.cell HB.out) hlb
      clear hst hvx hcx hy hch
      by_cases hh : covB (allV rs) y.P y.C = true
      · rw [hh] at hc
        have HC := Lib.hid hc
        have HN : Hid (cvIdx (allV rs) 0 l = k) := Lib.hid (by rw [HST.out, if_pos hh])
        clear hc hh
        go_wp2_with (refine ld_at rfl 49 (.tmp 14) rfl _ rfl y.cells.toList _ HCX.out Try.underlying49 rfl (by kernel_rfl) ?_)
        refine (HC.out).mono ?_
        rintro e w1 ⟨rfl, hg1⟩
        go_wp2
        go_ret
        rw [HN.out]
        exact ⟨rfl, HG.out.tr hg1⟩
      · have HN : Hid (cvIdx (allV rs) 0 l = cvIdx (allV rs) ((k + 1 : Nat) : Int) (l.drop (k + 1))) := Lib.hid (by rw [HST.out, if_neg hh]; rfl)
        have hh : covB (allV rs) y.P y.C = false := by simpa using hh
        rw [hh] at hc
        have HC := Lib.hid hc
        clear hc hh
        go_wp2_with (refine ld_at rfl 49 (.tmp 14) rfl _ rfl y.cells.toList _ HCX.out Try.underlying49 rfl (by kernel_rfl) ?_)
        refine (HC.out).mono ?_
        rintro e w1 ⟨rfl, hg1⟩
        go_wp2
        go_roundw
        case rel => exact ⟨k + 1, by omega, by go_num, HN, Lib.hid (HG.out.tr hg1)⟩
        case measure => simp [intOf]; omega
    · have hk' : k = l.length := by omega
      have hi1 : ¬ (k : Int) < (l.length : Int) := by omega
      have HN : Hid (cvIdx (allV rs) 0 l = -1) := Lib.hid (by rw [hch.out, hk', List.drop_length]; rfl)
      clear hk' hch
      go_wp2
      go_ret
      rw [HN.out]
      exact ⟨rfl, HG.out⟩
set_option maxRecDepth 100000 in
theorem cov1Has_any (B : Option Addr) (cb : Nat) (l : List Vx) (A : Option Addr) (cap : Nat) (rs : List VRow) (g : Nat) (w : World) (hl : Vers w B l) (h : VRows w A rs) (hg : w.cell? ⟨g, 0, none⟩ = some (.slice A rs.length cap)) (hlb : (allV rs).length ≤ 1000000) :
    Calls Try.prog 87 #[.slice B l.length cb, .func (.func 160) #[] #[.pointer (some ⟨g, 0, none⟩)]] w fun e w' => e = .returned (.bool (covAny (allV rs) l)) ∧ Gr w w' := by
  have HC := Lib.hid (cov1Index_any B cb l A cap rs g w hl h hg hlb)
  have HS := Lib.hid (cvIdx_spec (allV rs) l 0 (by omega))
  clear hl h hg
  go_enter Try.func87, Try.ntmps87
  go_wp2_with fail
  refine (HC.out).mono ?_
  rintro e w1 ⟨rfl, hg1⟩
  go_wp2
  go_ret
  exact ⟨ret_bool HS.out, hg1⟩
set_option maxRecDepth 100000 in
theorem covMk_any (A : Option Addr) (n c : Nat) (w : World) :
    Calls Try.prog 88 #[.slice A n c] w fun e w' => e = .returned (.func (.func 160) #[] #[.pointer (some ⟨w.heap.size, 0, none⟩)]) ∧ w' = w.alloc (.cells #[.slice A n c] 79) := by
  go_enter Try.func88, Try.ntmps88
  go_wp2
  go_ret
  exact ⟨rfl, rfl⟩
theorem allV_one (A : Option Addr) (cap : Nat) (l : List Vx) : allV [⟨A, cap, l⟩] = l := by simp [allV]
set_option maxRecDepth 100000 in
theorem sLeaf_any (A : Option Addr) (cap : Nat) (l : List Vx) (w : World) (h : Vers w A l) :
    Calls Try.prog 37 #[.slice A l.length cap] w fun r w' => r = .returned (.int .i64 (leafChk l)) ∧ Gr w w' := by
  have H := Lib.hid h
  have hm := h.1
  have g0 := Lib.hid (Gr.rfl' w)
  clear h
  by_cases h64 : 64 < l.length
  · have h64i : (64 : Int) < l.length := by omega
    have HV : Hid (leafChk l = 2) := Lib.hid (by unfold leafChk; rw [if_pos h64])
    go_enter Try.func37, Try.ntmps37
    go_wp2
    go_ret
    rw [HV.out]
    exact ⟨rfl, g0.out⟩
  · have h64i : ¬ (64 : Int) < l.length := by omega
    go_enter Try.func37, Try.ntmps37
    go_wp2
    go_loopw [11] (fun i wr => ∃ k : Nat, k ≤ l.length ∧ i = .int .i64 k ∧ Hid (verGo (-1) l = verGo (lastV l k) (l.drop k)) ∧ Hid (Gr w wr)) (fun i _ => l.length - (intOf i).toNat)
    case atStart => exact ⟨0, Nat.zero_le _, rfl, Lib.hid rfl, g0⟩
    case round =>
      clear g0
      obtain ⟨k, hk, rfl, hch, HG⟩ := hrel
      by_cases hlt : k < l.length
      · have hi1 : (k : Int) < (l.length : Int) := by omega
        obtain ⟨ad, rfl, hvx, hcx⟩ := (H.out.gr HG.out).2 k hlt
        have hst : verGo (lastV l k) (l.drop k) = if verChk l[k] ≠ 0 then verChk l[k] else if l[k].P ≤ lastV l k then 8 else verGo l[k].P (l.drop (k + 1)) := by rw [List.drop_eq_getElem_cons hlt]; rfl
        rw [← hch.out] at hst
        have hls : lastV l (k + 1) = l[k].P := by unfold lastV; rw [dif_pos ⟨by omega, by omega⟩]; rfl
        rw [← hls] at hst
        obtain ⟨x, hx⟩ : ∃ x, l[k] = x := ⟨_, rfl⟩
        rw [hx] at hvx hcx hst hls
        have HVX := Lib.hid hvx
        have HST := Lib.hid hst
        have HLS := Lib.hid hls
        have HCX : Hid (∀ j v, x.cells.toList[j]? = some v → wr.cell? ((ad.add (k * 5)).add j) = some v) := Lib.hid fun j v hj => hcx j v (by simpa using hj)
        clear hst hls hvx hx hch hcx
        have hk2 := fun (W : World) (g : Gr wr W) => vCheck1_any x W (HVX.out.gr g)
        by_cases hv : verChk x = 0
        · have HPP := Lib.hid (ver_pos hv)
          have HVZ := Lib.hid hv
          simp only [hv] at hk2
          have HK := Lib.hid hk2
          clear hk2 hv
          rcases k with _ | j
          · have HN : Hid (verGo (-1) l = verGo (lastV l 1) (l.drop 1)) := Lib.hid (by rw [HST.out, if_neg (by simpa using HVZ.out), if_neg (by have := HPP.out; rw [HLS.out]; show ¬ x.P ≤ -1; omega)])
            go_upto_region 6 with (first
              | refine ld_at rfl 49 (.tmp 14) rfl _ rfl x.cells.toList _ HCX.out Try.underlying49 rfl (by kernel_rfl) ?_
              | refine allocV rfl rfl ?_
              | (refine storeV x rfl (.tmp 4) _ rfl rfl rfl rfl ?_; intro W1 hx1 hg1; obtain ⟨gX, hgX⟩ : ∃ g, wr.heap.size = g := ⟨_, rfl⟩; rw [hgX] at hx1 ⊢; have HX1 := Lib.hid hx1; have G1 := Lib.hid hg1; clear hx1 hg1 hgX))
            go_wp2_with (first | refine wpList_load_row rfl 49 (.tmp 4) rfl gX rfl 49 x.cells (0, 0) _ HX1.out Try.underlying49 rfl (by kernel_rfl) ?_)
            refine (HK.out W1 G1.out).mono ?_
            rintro e w1 ⟨rfl, hg1⟩
            have d0 : w1.cell? ⟨gX, 0, none⟩ = some (.int .i64 x.P) := by
              have hb := (hg1.block _ (Array.getElem?_eq_some_iff.1 HX1.out).1).trans HX1.out
              simp only [World.cell?, hb]; rfl
            replace hg1 := G1.out.tr hg1
            go_wp2
            refine wp_region_quiet_lit (by kernel_rfl) (by kernel_rfl) ?_
            repeat (first | go_big_quiet_step (fail) | quiet_step (fail))
            refine wpQuiet_nil ?_
            intro _ hw'
            obtain ⟨nq, hw''⟩ := hw'
            subst hw''
            go_wp2
            go_roundw
            case rel => exact ⟨1, by omega, by go_num, HN, Lib.hid ((HG.out.tr hg1).drN _)⟩
            case measure => simp [intOf]; omega
          · obtain ⟨ad', e', _, hcy⟩ := (H.out.gr HG.out).2 j (by omega)
            cases e'
            have d2 := (vat_of hcy).1
            have hpl : lastV l (j + 1) = l[j].P := by unfold lastV; rw [dif_pos ⟨by omega, by omega⟩]; rfl
            obtain ⟨y, hy⟩ : ∃ y, l[j] = y := ⟨_, rfl⟩
            rw [hy] at d2 hpl
            have HPL := Lib.hid hpl
            have hi2 : (j : Int) < (l.length : Int) := by omega
            clear hpl hcy hy
            by_cases hle : x.P ≤ y.P
            · have HN : Hid (leafChk l = 8) := Lib.hid (by
                have h8 : verGo (-1) l = 8 := by rw [HST.out, if_neg (by simpa using HVZ.out), if_pos (by rw [HLS.out, HPL.out]; exact hle)]
                unfold leafChk; rw [if_neg h64, h8]; rfl)
              go_upto_region 6 with (first
                | refine ld_at rfl 49 (.tmp 14) rfl _ rfl x.cells.toList _ HCX.out Try.underlying49 rfl (by kernel_rfl) ?_
                | refine allocV rfl rfl ?_
                | (refine storeV x rfl (.tmp 4) _ rfl rfl rfl rfl ?_; intro W1 hx1 hg1; obtain ⟨gX, hgX⟩ : ∃ g, wr.heap.size = g := ⟨_, rfl⟩; rw [hgX] at hx1 ⊢; have HX1 := Lib.hid hx1; have G1 := Lib.hid hg1; clear hx1 hg1 hgX))
              go_wp2_with (first | refine wpList_load_row rfl 49 (.tmp 4) rfl gX rfl 49 x.cells (0, 0) _ HX1.out Try.underlying49 rfl (by kernel_rfl) ?_)
              refine (HK.out W1 G1.out).mono ?_
              rintro e w1 ⟨rfl, hg1⟩
              have d0 : w1.cell? ⟨gX, 0, none⟩ = some (.int .i64 x.P) := by
                have hb := (hg1.block _ (Array.getElem?_eq_some_iff.1 HX1.out).1).trans HX1.out
                simp only [World.cell?, hb]; rfl
              replace hg1 := G1.out.tr hg1
              replace d2 := hg1.cell d2
              go_wp2
              refine wp_region_quiet_lit (by kernel_rfl) (by kernel_rfl) ?_
              repeat (first | go_big_quiet_step (fail) | quiet_step (fail))
              refine wpQuiet_nil ?_
              intro _ hw'
              obtain ⟨nq, hw''⟩ := hw'
              subst hw''
              go_wp2
              go_ret
              rw [HN.out]
              exact ⟨rfl, (HG.out.tr hg1).drN _⟩
            · have HN : Hid (verGo (-1) l = verGo (lastV l (j + 1 + 1)) (l.drop (j + 1 + 1))) := Lib.hid (by rw [HST.out, if_neg (by simpa using HVZ.out), if_neg (by rw [HLS.out, HPL.out]; exact hle)])
              go_upto_region 6 with (first
                | refine ld_at rfl 49 (.tmp 14) rfl _ rfl x.cells.toList _ HCX.out Try.underlying49 rfl (by kernel_rfl) ?_
                | refine allocV rfl rfl ?_
                | (refine storeV x rfl (.tmp 4) _ rfl rfl rfl rfl ?_; intro W1 hx1 hg1; obtain ⟨gX, hgX⟩ : ∃ g, wr.heap.size = g := ⟨_, rfl⟩; rw [hgX] at hx1 ⊢; have HX1 := Lib.hid hx1; have G1 := Lib.hid hg1; clear hx1 hg1 hgX))
              go_wp2_with (first | refine wpList_load_row rfl 49 (.tmp 4) rfl gX rfl 49 x.cells (0, 0) _ HX1.out Try.underlying49 rfl (by kernel_rfl) ?_)
              refine (HK.out W1 G1.out).mono ?_
              rintro e w1 ⟨rfl, hg1⟩
              have d0 : w1.cell? ⟨gX, 0, none⟩ = some (.int .i64 x.P) := by
                have hb := (hg1.block _ (Array.getElem?_eq_some_iff.1 HX1.out).1).trans HX1.out
                simp only [World.cell?, hb]; rfl
              replace hg1 := G1.out.tr hg1
              replace d2 := hg1.cell d2
              go_wp2
              refine wp_region_quiet_lit (by kernel_rfl) (by kernel_rfl) ?_
              repeat (first | go_big_quiet_step (fail) | quiet_step (fail))
              refine wpQuiet_nil ?_
              intro _ hw'
              obtain ⟨nq, hw''⟩ := hw'
              subst hw''
              go_wp2
              go_roundw
              case rel => exact ⟨j + 1 + 1, by omega, by go_num, HN, Lib.hid ((HG.out.tr hg1).drN _)⟩
              case measure => simp [intOf]; omega
        · have hvb : (verChk x != 0) = true := by simp [hv]
          have HN : Hid (leafChk l = verChk x) := Lib.hid (by
            have h8 : verGo (-1) l = verChk x := by rw [HST.out, if_pos hv]
            unfold leafChk; rw [if_neg h64, h8, if_pos hv])
          have HK := Lib.hid hk2
          clear hk2 hv
          go_upto_region 6 with (first
            | refine ld_at rfl 49 (.tmp 14) rfl _ rfl x.cells.toList _ HCX.out Try.underlying49 rfl (by kernel_rfl) ?_
            | refine allocV rfl rfl ?_
            | (refine storeV x rfl (.tmp 4) _ rfl rfl rfl rfl ?_; intro W1 hx1 hg1; obtain ⟨gX, hgX⟩ : ∃ g, wr.heap.size = g := ⟨_, rfl⟩; rw [hgX] at hx1 ⊢; have HX1 := Lib.hid hx1; have G1 := Lib.hid hg1; clear hx1 hg1 hgX))
          go_wp2_with (first | refine wpList_load_row rfl 49 (.tmp 4) rfl gX rfl 49 x.cells (0, 0) _ HX1.out Try.underlying49 rfl (by kernel_rfl) ?_)
          refine (HK.out W1 G1.out).mono ?_
          rintro e w1 ⟨rfl, hg1⟩
          have d0 : w1.cell? ⟨gX, 0, none⟩ = some (.int .i64 x.P) := by
            have hb := (hg1.block _ (Array.getElem?_eq_some_iff.1 HX1.out).1).trans HX1.out
            simp only [World.cell?, hb]; rfl
          replace hg1 := G1.out.tr hg1
          go_wp2
          go_ret
          rw [HN.out]
          exact ⟨rfl, HG.out.tr hg1⟩
      · have hkk : k = l.length := by omega
        have hi1 : ¬ (k : Int) < (l.length : Int) := by omega
        have hz : verGo (-1) l = 0 := by rw [hch.out, hkk, List.drop_length]; rfl
        have HZ : Hid (leafChk l = if covAny l l = true then 7 else 0) := Lib.hid (by unfold leafChk; rw [if_neg h64, hz]; rfl)
        clear hz hch hkk
        have hv1 := VRows.one (w := wr) (A := A) (cap := cap) (H.out.gr HG.out) 22
        have G1 := Lib.hid ((Gr.rfl' wr).al (.cells #[.slice A l.length cap] 22))
        have V1 := Lib.hid hv1
        clear hv1
        go_wp2_with fail
        refine (covMk_any _ _ _ _).mono ?_
        rintro e w1 ⟨rfl, rfl⟩
        have G2 := Lib.hid ((Gr.rfl' (wr.alloc (.cells #[.slice A l.length cap] 22))).al (.cells #[.slice (some ⟨wr.heap.size, 0, none⟩) 1 1] 79))
        have hn := World.alloc_heap_new (wr.alloc (.cells #[.slice A l.length cap] 22)) (.cells #[.slice (some ⟨wr.heap.size, 0, none⟩) 1 1] 79)
        have hcc : ((wr.alloc (.cells #[.slice A l.length cap] 22)).alloc (.cells #[.slice (some ⟨wr.heap.size, 0, none⟩) 1 1] 79)).cell? ⟨(wr.alloc (.cells #[.slice A l.length cap] 22)).heap.size, 0, none⟩ = some (.slice (some ⟨wr.heap.size, 0, none⟩) 1 1) := by
          simp only [World.cell?, hn]; rfl
        have hh := cov1Has_any A cap l (some ⟨wr.heap.size, 0, none⟩) 1 [⟨A, cap, l⟩] _ _ (H.out.gr (HG.out.tr (G1.out.tr G2.out))) (V1.out.gr G2.out) hcc (by rw [allV_one]; omega)
        rw [allV_one] at hh
        have hsz : (wr.alloc (.cells #[.slice A l.length cap] 22)).heap.size = wr.heap.size + 1 := by simp
        rw [hsz] at hh
        by_cases hc : covAny l l = true
        · rw [hc] at hh
          have HH := Lib.hid hh
          have HN : Hid (leafChk l = 7) := Lib.hid (by rw [HZ.out, if_pos hc])
          clear hh hc hn hcc
          go_wp2_with fail
          refine (HH.out).mono ?_
          rintro e w2 ⟨rfl, hg2⟩
          go_wp2
          go_ret
          rw [HN.out]
          exact ⟨rfl, HG.out.tr (G1.out.tr (G2.out.tr hg2))⟩
        · have HN : Hid (leafChk l = 0) := Lib.hid (by rw [HZ.out, if_neg hc])
          have hc : covAny l l = false := by simpa using hc
          rw [hc] at hh
          have HH := Lib.hid hh
          clear hh hc hn hcc
          go_wp2_with fail
          refine (HH.out).mono ?_
          rintro e w2 ⟨rfl, hg2⟩
          go_wp2
          go_ret
          rw [HN.out]
          exact ⟨rfl, HG.out.tr (G1.out.tr (G2.out.tr hg2))⟩
end Go.Proofs.Ytfobnemocodomaa
set_option linter.unusedVariables false
set_option linter.unusedSimpArgs false
set_option maxHeartbeats 2000000
namespace Go.Proofs.Ytfobnemocodomaa
open Go.RowKit Go.Great

/-- a later dot -/
def later (x y : Vx) : Bool := decide (y.C < x.C ∨ (x.C = y.C ∧ y.P < x.P))
def winsV (x y : Vx) : Bool := if x.D ≠ y.D then y.D else later x y
theorem or_later (x y : Vx) : (0 < orC (cmpC x.C y.C) (cmpC x.P y.P)) ↔ later x y = true := by
  unfold orC cmpC later
  simp only [decide_eq_true_eq]
  by_cases h1 : x.C < y.C
  · rw [if_pos h1]; simp; omega
  · rw [if_neg h1]
    by_cases h2 : y.C < x.C
    · rw [if_pos h2]; simp; omega
    · rw [if_neg h2]
      by_cases h3 : x.P < y.P
      · rw [if_pos h3]; simp; omega
      · rw [if_neg h3]
        by_cases h4 : y.P < x.P
        · rw [if_pos h4]; simp; omega
        · rw [if_neg h4]; simp; omega
set_option maxRecDepth 100000 in
theorem wins1_any (x y : Vx) (w : World) : Calls Try.prog 49 #[.agg x.cells, .agg y.cells] w fun r w' => r = .returned (.bool (winsV x y)) ∧ Gr w w' := by
  have H2 := Lib.hid (Two.mk' w x y)
  by_cases hD : x.D = y.D
  · have hDb : (!x.D == y.D) = false := by rw [hD]; cases y.D <;> rfl
    have HW : Hid (winsV x y = later x y) := Lib.hid (by unfold winsV; rw [if_neg (by simp [hD])])
    have hor := or_later x y
    by_cases hl : later x y = true
    · have HL := Lib.hid hl
      rw [hl] at hor
      have hor := hor.2 rfl
      clear hl hD
      go_enter Try.func49, Try.ntmps49
      go_upto_region 1 with (fail)
      obtain ⟨W, hW⟩ : ∃ W, (w.alloc (.cells x.cells 49)).alloc (.cells y.cells 49) = W := ⟨_, rfl⟩
      rw [hW] at H2 ⊢
      clear hW
      obtain ⟨a0, a1, _, a3, _⟩ := bcells H2.out.a
      obtain ⟨b0, b1, _, b3, _⟩ := bcells H2.out.b
      go_upto_region 3 with (fail)
      have hSS : Gr W W.drew := (Gr.rfl' _).dr
      have A0 := Lib.hid a0
      have A1 := Lib.hid a1
      have B0 := Lib.hid b0
      have B1 := Lib.hid b1
      clear a0 a1 b0 b1 a3 b3
      refine region_T 17 (fun w' => Gr W w') (by kernel_rfl) ?_
      refine anyT_take (i := 0) (v := ?_) (some 12) rfl rfl (by kernel_rfl) (fun _ _ _ h => h) (Or.inl ⟨by rfl, ?_⟩) hSS ?_
      rotate_left
      · intro w' hSw; go_simp; (try with_reducible rfl)
      simp only [Act.put, List.setIfInBounds_toArray, List.set_cons_zero, List.set_cons_succ]
      refine anyT_take (i := 1) (v := ?_) (some 13) rfl rfl (by kernel_rfl) (fun _ _ _ h => h) (Or.inl ⟨by rfl, ?_⟩) hSS ?_
      rotate_left
      · intro w' hSw; go_simp; (try with_reducible rfl)
      simp only [Act.put, List.setIfInBounds_toArray, List.set_cons_zero, List.set_cons_succ]
      refine anyT_take (i := 2) (v := ?_) (some 14) rfl rfl (by kernel_rfl) (fun _ _ _ h => h) (Or.inl ⟨by rfl, ?_⟩) hSS ?_
      rotate_left
      · intro w' hSw; have q := hSw.cell A1.out; go_simp; (try with_reducible rfl)
      simp only [Act.put, List.setIfInBounds_toArray, List.set_cons_zero, List.set_cons_succ]
      refine anyT_take (i := 3) (v := ?_) (some 15) rfl rfl (by kernel_rfl) (fun _ _ _ h => h) (Or.inl ⟨by rfl, ?_⟩) hSS ?_
      rotate_left
      · intro w' hSw; go_simp; (try with_reducible rfl)
      simp only [Act.put, List.setIfInBounds_toArray, List.set_cons_zero, List.set_cons_succ]
      refine anyT_take (i := 4) (v := ?_) (some 16) rfl rfl (by kernel_rfl) (fun _ _ _ h => h) (Or.inl ⟨by rfl, ?_⟩) hSS ?_
      rotate_left
      · intro w' hSw; go_simp; (try with_reducible rfl)
      simp only [Act.put, List.setIfInBounds_toArray, List.set_cons_zero, List.set_cons_succ]
      refine anyT_take (i := 5) (v := ?_) (some 17) rfl rfl (by kernel_rfl) (fun _ _ _ h => h) (Or.inl ⟨by rfl, ?_⟩) hSS ?_
      rotate_left
      · intro w' hSw; have q := hSw.cell B1.out; go_simp; (try with_reducible rfl)
      simp only [Act.put, List.setIfInBounds_toArray, List.set_cons_zero, List.set_cons_succ]
      refine anyT_take (i := 7) (v := ?_) (some 19) rfl rfl (by kernel_rfl) (fun _ _ _ h => h) (Or.inl ⟨by rfl, ?_⟩) hSS ?_
      rotate_left
      · intro w' hSw; go_simp; (try with_reducible rfl)
      simp only [Act.put, List.setIfInBounds_toArray, List.set_cons_zero, List.set_cons_succ]
      refine anyT_take (i := 8) (v := ?_) (some 20) rfl rfl (by kernel_rfl) (fun _ _ _ h => h) (Or.inl ⟨by rfl, ?_⟩) hSS ?_
      rotate_left
      · intro w' hSw; go_simp; (try with_reducible rfl)
      simp only [Act.put, List.setIfInBounds_toArray, List.set_cons_zero, List.set_cons_succ]
      refine anyT_take (i := 9) (v := ?_) (some 21) rfl rfl (by kernel_rfl) (fun _ _ _ h => h) (Or.inl ⟨by rfl, ?_⟩) hSS ?_
      rotate_left
      · intro w' hSw; have q := hSw.cell A0.out; go_simp; (try with_reducible rfl)
      simp only [Act.put, List.setIfInBounds_toArray, List.set_cons_zero, List.set_cons_succ]
      refine anyT_take (i := 10) (v := ?_) (some 22) rfl rfl (by kernel_rfl) (fun _ _ _ h => h) (Or.inl ⟨by rfl, ?_⟩) hSS ?_
      rotate_left
      · intro w' hSw; go_simp; (try with_reducible rfl)
      simp only [Act.put, List.setIfInBounds_toArray, List.set_cons_zero, List.set_cons_succ]
      refine anyT_take (i := 11) (v := ?_) (some 23) rfl rfl (by kernel_rfl) (fun _ _ _ h => h) (Or.inl ⟨by rfl, ?_⟩) hSS ?_
      rotate_left
      · intro w' hSw; go_simp; (try with_reducible rfl)
      simp only [Act.put, List.setIfInBounds_toArray, List.set_cons_zero, List.set_cons_succ]
      refine anyT_take (i := 12) (v := ?_) (some 24) rfl rfl (by kernel_rfl) (fun _ _ _ h => h) (Or.inl ⟨by rfl, ?_⟩) hSS ?_
      rotate_left
      · intro w' hSw; have q := hSw.cell B0.out; go_simp; (try with_reducible rfl)
      simp only [Act.put, List.setIfInBounds_toArray, List.set_cons_zero, List.set_cons_succ]
      refine anyT_callG (i := 6) (some 18) 100 #[.int .i64 x.C, .int .i64 y.C] (by kernel_rfl) rfl (by kernel_rfl) rfl (by kernel_rfl) ?_
      refine (Compare_int_any x.C y.C _).mono ?_
      rintro e wd ⟨rfl, hgd⟩
      replace hSS := hSS.tr hgd
      refine ⟨_, rfl, fun _ => hSS, ?_⟩
      simp only [Act.put, List.setIfInBounds_toArray, List.set_cons_zero, List.set_cons_succ]
      clear hgd
      refine anyT_callG (i := 13) (some 25) 100 #[.int .i64 x.P, .int .i64 y.P] (by kernel_rfl) rfl (by kernel_rfl) rfl (by kernel_rfl) ?_
      refine (Compare_int_any x.P y.P _).mono ?_
      rintro e wd ⟨rfl, hgd⟩
      replace hSS := hSS.tr hgd
      refine ⟨_, rfl, fun _ => hSS, ?_⟩
      simp only [Act.put, List.setIfInBounds_toArray, List.set_cons_zero, List.set_cons_succ]
      clear hgd
      obtain ⟨p, hp⟩ : ∃ p, cmpC x.C y.C = p := ⟨_, rfl⟩
      obtain ⟨q, hq⟩ : ∃ p, cmpC x.P y.P = p := ⟨_, rfl⟩
      rw [hp, hq] at hor
      rw [hp, hq]
      clear hp hq
      obtain ⟨k0, k1⟩ := two_ints (W := wd) (.int .i64 p) (.int .i64 q) 3
      have hga : Gr wd (wd.alloc (.cells #[.int .i64 p, .int .i64 q] 3)) := (Gr.rfl' wd).al _
      refine anyT_its (i := 14) (by kernel_rfl) ?_
      refine wpOp_val (some 26) (.slice (some ⟨wd.heap.size, 0, none⟩) 2 2) rfl (by kernel_rfl) rfl (w' := wd.alloc (.cells #[.int .i64 p, .int .i64 q] 3)) (by kernel_rfl) ⟨fun _ => hSS.tr hga, ?_⟩
      simp only [Act.put, List.setIfInBounds_toArray, List.set_cons_zero, List.set_cons_succ]
      replace hSS := hSS.tr hga
      refine anyT_callG (i := 15) (some 27) 99 #[.slice (some ⟨wd.heap.size, 0, none⟩) 2 2] (by kernel_rfl) rfl (by kernel_rfl) rfl (by kernel_rfl) ?_
      refine (OrInt_any p q wd.heap.size _ k0 k1).mono ?_
      rintro e wd ⟨rfl, hgd⟩
      replace hSS := hSS.tr hgd
      refine ⟨_, rfl, fun _ => hSS, ?_⟩
      simp only [Act.put, List.setIfInBounds_toArray, List.set_cons_zero, List.set_cons_succ]
      clear hgd
      obtain ⟨o, ho⟩ : ∃ o, orC p q = o := ⟨_, rfl⟩
      rw [ho] at hor
      rw [ho]
      clear ho k0 k1 hga
      have hgt : o > 0 := hor
      refine anyT_take (i := 16) (v := ?_) (some 28) rfl rfl (by kernel_rfl) (fun _ _ _ h => h) (Or.inl ⟨by rfl, ?_⟩) hSS ?_
      rotate_left
      · intro w' hSw; go_simp; (try with_reducible rfl)
      simp only [Act.put, List.setIfInBounds_toArray, List.set_cons_zero, List.set_cons_succ]
      refine anyT_last (some 4) (.bool true) (by kernel_rfl) (by kernel_rfl) rfl (by kernel_rfl) rfl (by kernel_rfl) ?_
      simp only [Act.put, List.setIfInBounds_toArray, List.set_cons_zero, List.set_cons_succ]
      go_wp2
      go_ret
      rw [HW.out, HL.out]
      exact ⟨rfl, H2.out.gr.tr hSS⟩
    · have HL : Hid (later x y = false) := Lib.hid (by simpa using hl)
      have hor : ¬ 0 < orC (cmpC x.C y.C) (cmpC x.P y.P) := fun k => hl (hor.1 k)
      clear hl hD
      go_enter Try.func49, Try.ntmps49
      go_upto_region 1 with (fail)
      obtain ⟨W, hW⟩ : ∃ W, (w.alloc (.cells x.cells 49)).alloc (.cells y.cells 49) = W := ⟨_, rfl⟩
      rw [hW] at H2 ⊢
      clear hW
      obtain ⟨a0, a1, _, a3, _⟩ := bcells H2.out.a
      obtain ⟨b0, b1, _, b3, _⟩ := bcells H2.out.b
      go_upto_region 3 with (fail)
      have hSS : Gr W W.drew := (Gr.rfl' _).dr
      have A0 := Lib.hid a0
      have A1 := Lib.hid a1
      have B0 := Lib.hid b0
      have B1 := Lib.hid b1
      clear a0 a1 b0 b1 a3 b3
      refine region_T 17 (fun w' => Gr W w') (by kernel_rfl) ?_
      refine anyT_take (i := 0) (v := ?_) (some 12) rfl rfl (by kernel_rfl) (fun _ _ _ h => h) (Or.inl ⟨by rfl, ?_⟩) hSS ?_
      rotate_left
      · intro w' hSw; go_simp; (try with_reducible rfl)
      simp only [Act.put, List.setIfInBounds_toArray, List.set_cons_zero, List.set_cons_succ]
      refine anyT_take (i := 1) (v := ?_) (some 13) rfl rfl (by kernel_rfl) (fun _ _ _ h => h) (Or.inl ⟨by rfl, ?_⟩) hSS ?_
      rotate_left
      · intro w' hSw; go_simp; (try with_reducible rfl)
      simp only [Act.put, List.setIfInBounds_toArray, List.set_cons_zero, List.set_cons_succ]
      refine anyT_take (i := 2) (v := ?_) (some 14) rfl rfl (by kernel_rfl) (fun _ _ _ h => h) (Or.inl ⟨by rfl, ?_⟩) hSS ?_
      rotate_left
      · intro w' hSw; have q := hSw.cell A1.out; go_simp; (try with_reducible rfl)
      simp only [Act.put, List.setIfInBounds_toArray, List.set_cons_zero, List.set_cons_succ]
      refine anyT_take (i := 3) (v := ?_) (some 15) rfl rfl (by kernel_rfl) (fun _ _ _ h => h) (Or.inl ⟨by rfl, ?_⟩) hSS ?_
      rotate_left
      · intro w' hSw; go_simp; (try with_reducible rfl)
      simp only [Act.put, List.setIfInBounds_toArray, List.set_cons_zero, List.set_cons_succ]
      refine anyT_take (i := 4) (v := ?_) (some 16) rfl rfl (by kernel_rfl) (fun _ _ _ h => h) (Or.inl ⟨by rfl, ?_⟩) hSS ?_
      rotate_left
      · intro w' hSw; go_simp; (try with_reducible rfl)
      simp only [Act.put, List.setIfInBounds_toArray, List.set_cons_zero, List.set_cons_succ]
      refine anyT_take (i := 5) (v := ?_) (some 17) rfl rfl (by kernel_rfl) (fun _ _ _ h => h) (Or.inl ⟨by rfl, ?_⟩) hSS ?_
      rotate_left
      · intro w' hSw; have q := hSw.cell B1.out; go_simp; (try with_reducible rfl)
      simp only [Act.put, List.setIfInBounds_toArray, List.set_cons_zero, List.set_cons_succ]
      refine anyT_take (i := 7) (v := ?_) (some 19) rfl rfl (by kernel_rfl) (fun _ _ _ h => h) (Or.inl ⟨by rfl, ?_⟩) hSS ?_
      rotate_left
      · intro w' hSw; go_simp; (try with_reducible rfl)
      simp only [Act.put, List.setIfInBounds_toArray, List.set_cons_zero, List.set_cons_succ]
      refine anyT_take (i := 8) (v := ?_) (some 20) rfl rfl (by kernel_rfl) (fun _ _ _ h => h) (Or.inl ⟨by rfl, ?_⟩) hSS ?_
      rotate_left
      · intro w' hSw; go_simp; (try with_reducible rfl)
      simp only [Act.put, List.setIfInBounds_toArray, List.set_cons_zero, List.set_cons_succ]
      refine anyT_take (i := 9) (v := ?_) (some 21) rfl rfl (by kernel_rfl) (fun _ _ _ h => h) (Or.inl ⟨by rfl, ?_⟩) hSS ?_
      rotate_left
      · intro w' hSw; have q := hSw.cell A0.out; go_simp; (try with_reducible rfl)
      simp only [Act.put, List.setIfInBounds_toArray, List.set_cons_zero, List.set_cons_succ]
      refine anyT_take (i := 10) (v := ?_) (some 22) rfl rfl (by kernel_rfl) (fun _ _ _ h => h) (Or.inl ⟨by rfl, ?_⟩) hSS ?_
      rotate_left
      · intro w' hSw; go_simp; (try with_reducible rfl)
      simp only [Act.put, List.setIfInBounds_toArray, List.set_cons_zero, List.set_cons_succ]
      refine anyT_take (i := 11) (v := ?_) (some 23) rfl rfl (by kernel_rfl) (fun _ _ _ h => h) (Or.inl ⟨by rfl, ?_⟩) hSS ?_
      rotate_left
      · intro w' hSw; go_simp; (try with_reducible rfl)
      simp only [Act.put, List.setIfInBounds_toArray, List.set_cons_zero, List.set_cons_succ]
      refine anyT_take (i := 12) (v := ?_) (some 24) rfl rfl (by kernel_rfl) (fun _ _ _ h => h) (Or.inl ⟨by rfl, ?_⟩) hSS ?_
      rotate_left
      · intro w' hSw; have q := hSw.cell B0.out; go_simp; (try with_reducible rfl)
      simp only [Act.put, List.setIfInBounds_toArray, List.set_cons_zero, List.set_cons_succ]
      refine anyT_callG (i := 6) (some 18) 100 #[.int .i64 x.C, .int .i64 y.C] (by kernel_rfl) rfl (by kernel_rfl) rfl (by kernel_rfl) ?_
      refine (Compare_int_any x.C y.C _).mono ?_
      rintro e wd ⟨rfl, hgd⟩
      replace hSS := hSS.tr hgd
      refine ⟨_, rfl, fun _ => hSS, ?_⟩
      simp only [Act.put, List.setIfInBounds_toArray, List.set_cons_zero, List.set_cons_succ]
      clear hgd
      refine anyT_callG (i := 13) (some 25) 100 #[.int .i64 x.P, .int .i64 y.P] (by kernel_rfl) rfl (by kernel_rfl) rfl (by kernel_rfl) ?_
      refine (Compare_int_any x.P y.P _).mono ?_
      rintro e wd ⟨rfl, hgd⟩
      replace hSS := hSS.tr hgd
      refine ⟨_, rfl, fun _ => hSS, ?_⟩
      simp only [Act.put, List.setIfInBounds_toArray, List.set_cons_zero, List.set_cons_succ]
      clear hgd
      obtain ⟨p, hp⟩ : ∃ p, cmpC x.C y.C = p := ⟨_, rfl⟩
      obtain ⟨q, hq⟩ : ∃ p, cmpC x.P y.P = p := ⟨_, rfl⟩
      rw [hp, hq] at hor
      rw [hp, hq]
      clear hp hq
      obtain ⟨k0, k1⟩ := two_ints (W := wd) (.int .i64 p) (.int .i64 q) 3
      have hga : Gr wd (wd.alloc (.cells #[.int .i64 p, .int .i64 q] 3)) := (Gr.rfl' wd).al _
      refine anyT_its (i := 14) (by kernel_rfl) ?_
      refine wpOp_val (some 26) (.slice (some ⟨wd.heap.size, 0, none⟩) 2 2) rfl (by kernel_rfl) rfl (w' := wd.alloc (.cells #[.int .i64 p, .int .i64 q] 3)) (by kernel_rfl) ⟨fun _ => hSS.tr hga, ?_⟩
      simp only [Act.put, List.setIfInBounds_toArray, List.set_cons_zero, List.set_cons_succ]
      replace hSS := hSS.tr hga
      refine anyT_callG (i := 15) (some 27) 99 #[.slice (some ⟨wd.heap.size, 0, none⟩) 2 2] (by kernel_rfl) rfl (by kernel_rfl) rfl (by kernel_rfl) ?_
      refine (OrInt_any p q wd.heap.size _ k0 k1).mono ?_
      rintro e wd ⟨rfl, hgd⟩
      replace hSS := hSS.tr hgd
      refine ⟨_, rfl, fun _ => hSS, ?_⟩
      simp only [Act.put, List.setIfInBounds_toArray, List.set_cons_zero, List.set_cons_succ]
      clear hgd
      obtain ⟨o, ho⟩ : ∃ o, orC p q = o := ⟨_, rfl⟩
      rw [ho] at hor
      rw [ho]
      clear ho k0 k1 hga
      have hgt : ¬ o > 0 := hor
      refine anyT_take (i := 16) (v := ?_) (some 28) rfl rfl (by kernel_rfl) (fun _ _ _ h => h) (Or.inl ⟨by rfl, ?_⟩) hSS ?_
      rotate_left
      · intro w' hSw; go_simp; (try with_reducible rfl)
      simp only [Act.put, List.setIfInBounds_toArray, List.set_cons_zero, List.set_cons_succ]
      refine anyT_last (some 4) (.bool false) (by kernel_rfl) (by kernel_rfl) rfl (by kernel_rfl) rfl (by kernel_rfl) ?_
      simp only [Act.put, List.setIfInBounds_toArray, List.set_cons_zero, List.set_cons_succ]
      go_wp2
      go_ret
      rw [HW.out, HL.out]
      exact ⟨rfl, H2.out.gr.tr hSS⟩
  · have hDb : (!x.D == y.D) = true := by revert hD; cases x.D <;> cases y.D <;> simp
    have HW : Hid (winsV x y = y.D) := Lib.hid (by unfold winsV; rw [if_pos hD])
    clear hD
    go_enter Try.func49, Try.ntmps49
    go_upto_region 1 with (fail)
    obtain ⟨W, hW⟩ : ∃ W, (w.alloc (.cells x.cells 49)).alloc (.cells y.cells 49) = W := ⟨_, rfl⟩
    rw [hW] at H2 ⊢
    clear hW
    obtain ⟨a0, a1, _, a3, _⟩ := bcells H2.out.a
    obtain ⟨b0, b1, _, b3, _⟩ := bcells H2.out.b
    go_wp2
    go_ret
    rw [HW.out]
    exact ⟨rfl, H2.out.gr⟩
set_option maxRecDepth 100000 in
theorem wins2_any (x y : Vx) (w : World) : Calls Try.prog 50 #[.agg x.cells, .agg y.cells] w fun r w' => r = .returned (.bool (winsV x y)) ∧ Gr w w' := by
  have H2 := Lib.hid (Two.mk' w x y)
  by_cases hD : x.D = y.D
  · have hDb : (!x.D == y.D) = false := by rw [hD]; cases y.D <;> rfl
    by_cases hC : x.C = y.C
    · have hCb : (x.C != y.C) = false := by simp [hC]
      have HW : Hid (winsV x y = decide (x.P > y.P)) := Lib.hid (by unfold winsV later; rw [if_neg (by simp [hD])]; simp [hC])
      clear hC hD
      go_enter Try.func50, Try.ntmps50
      go_upto_region 1 with (fail)
      obtain ⟨W, hW⟩ : ∃ W, (w.alloc (.cells x.cells 49)).alloc (.cells y.cells 49) = W := ⟨_, rfl⟩
      rw [hW] at H2 ⊢
      clear hW
      obtain ⟨a0, a1, _, a3, _⟩ := bcells H2.out.a
      obtain ⟨b0, b1, _, b3, _⟩ := bcells H2.out.b
      go_wp2
      go_ret
      rw [HW.out]
      exact ⟨rfl, H2.out.gr⟩
    · have hCb : (x.C != y.C) = true := by simp [hC]
      have HW : Hid (winsV x y = decide (x.C > y.C)) := Lib.hid (by unfold winsV later; rw [if_neg (by simp [hD])]; simp [hC])
      clear hC hD
      go_enter Try.func50, Try.ntmps50
      go_upto_region 1 with (fail)
      obtain ⟨W, hW⟩ : ∃ W, (w.alloc (.cells x.cells 49)).alloc (.cells y.cells 49) = W := ⟨_, rfl⟩
      rw [hW] at H2 ⊢
      clear hW
      obtain ⟨a0, a1, _, a3, _⟩ := bcells H2.out.a
      obtain ⟨b0, b1, _, b3, _⟩ := bcells H2.out.b
      go_wp2
      go_ret
      rw [HW.out]
      exact ⟨rfl, H2.out.gr⟩
  · have hDb : (!x.D == y.D) = true := by revert hD; cases x.D <;> cases y.D <;> simp
    have HW : Hid (winsV x y = y.D) := Lib.hid (by unfold winsV; rw [if_pos hD])
    clear hD
    go_enter Try.func50, Try.ntmps50
    go_upto_region 1 with (fail)
    obtain ⟨W, hW⟩ : ∃ W, (w.alloc (.cells x.cells 49)).alloc (.cells y.cells 49) = W := ⟨_, rfl⟩
    rw [hW] at H2 ⊢
    clear hW
    obtain ⟨a0, a1, _, a3, _⟩ := bcells H2.out.a
    obtain ⟨b0, b1, _, b3, _⟩ := bcells H2.out.b
    go_wp2
    go_ret
    rw [HW.out]
    exact ⟨rfl, H2.out.gr⟩
end Go.Proofs.Ytfobnemocodomaa
set_option linter.unusedVariables false
set_option linter.unusedSimpArgs false
set_option maxHeartbeats 2000000
namespace Go.Proofs.Ytfobnemocodomaa
open Go.RowKit Go.Great

/-- the block g alone is turned -/
structure Sg (g : Nat) (w wt : World) : Prop where
  os : wt.os = w.os
  tape : wt.tape = w.tape
  output : wt.output = w.output
  size : wt.heap.size = w.heap.size
  keep : ∀ k, k ≠ g → wt.heap[k]? = w.heap[k]?
theorem Sg.gr {g : Nat} {w0 w wt : World} (h : Sg g w wt) (k : Gr w0 w) (hg : w0.heap.size ≤ g) : Gr w0 wt :=
  ⟨h.os.trans k.os, h.tape.trans k.tape, h.output.trans k.output, by rw [h.size]; exact k.size, fun j hj => (h.keep j (by omega)).trans (k.block j hj)⟩
theorem setRow_sg (w : World) (g : Nat) (cs : Array Value) : Sg g w (w.setRow g cs) :=
  ⟨rfl, rfl, rfl, by simp [World.setRow], fun k hk => by simp [World.setRow, Array.getElem?_modify, Ne.symm hk]⟩
theorem setRow_at {w : World} {g : Nat} {old cs : Array Value} {t : TypeId} {fr : Nat × Nat} (h : w.heap[g]? = some (.cells old t fr)) : (w.setRow g cs).heap[g]? = some (.cells cs t fr) := by
  simp [World.setRow, Array.getElem?_modify, h]
theorem storeW {ops : Array Oper} {rest : List Oper} {o : Oper} {a : Act} {w : World} {Q : Exit → Act → World → Prop} (c c0 : Vx) (g : Nat) (hg : o.guard = none) (x y : Operand) (ho : o.op = .store 49 x y) (hd : o.dst = none)
    (hx : a.eval x = .pointer (some ⟨g, 0, none⟩)) (hy : a.eval y = .agg c.cells) (h0 : w.heap[g]? = some (.cells c0.cells 49 (0, 0)))
    (h : ∀ wt : World, wt.heap[g]? = some (.cells c.cells 49 (0, 0)) → Sg g w wt → wpList Try.prog ops Q rest a wt) : wpList Try.prog ops Q (o :: rest) a w := by
  refine wpList_store_row hg 49 x y ho g c.cells hx hy 49 c0.cells h0 (by kernel_rfl) (by rfl) (vOne c) ?_
  rw [hd]
  exact h _ (setRow_at h0) (setRow_sg w g _)
def Zx : Vx := ⟨0, 0, none, [], 0, false, ⟨#[]⟩⟩
theorem Zx_cells : Zx.cells = Z5 := rfl
theorem buildZ {ops : Array Oper} {rest : List Oper} {o : Oper} {a : Act} {w : World} {Q : Exit → Act → World → Prop} (hg : o.guard = none) (ho : o.op = .build 49 #[])
    (h : wpList Try.prog ops Q rest (a.put o.dst (.agg Zx.cells)) w) : wpList Try.prog ops Q (o :: rest) a w :=
  wpList_buildTo hg 49 #[] ho o.dst rfl Zx.cells (by kernel_rfl) h
theorem Vers.tail {w : World} {ad : Addr} {c : Nat} {x : Vx} {r : List Vx} (h : Vers w (some ad) (x :: r)) (hc : (x :: r).length ≤ c) : Vers w (some (if c = 1 then ad else ad.add 5)) r := by
  refine ⟨by have := h.1; simp at this; omega, fun i hi => ?_⟩
  obtain ⟨ad', e, a, b⟩ := h.2 (i + 1) (by simpa using hi)
  cases e
  have hc1 : c ≠ 1 := by simp at hc; omega
  rw [if_neg hc1]
  have hadd : (ad.add 5).add (i * 5) = ad.add ((i + 1) * 5) := by
    unfold Addr.add
    by_cases h0 : i = 0
    · subst h0; simp
    · rw [if_neg (by omega), if_neg (by omega), if_neg (by omega)]
      simp only [Addr.mk.injEq, true_and, and_true]
      omega
  exact ⟨_, rfl, by simpa using a, by rw [hadd]; simpa using b⟩
theorem cut_addr5 (c : Nat) (ad : Addr) : (if c = 1 then some ad else some ⟨ad.block, ad.off + 5, none⟩) = some (if c = 1 then ad else ad.add 5) := by
  by_cases h : c = 1
  · simp [h]
  · simp [h, Addr.add]
theorem Vers.other {W W' : World} {A : Option Addr} {l : List Vx} (h : Vers W A l) (ho : vsOk W' l) (hA : ∀ D, A = some D → W'.heap[D.block]? = W.heap[D.block]?) : Vers W' A l :=
  ⟨h.1, fun i hi => by
    obtain ⟨ad, e, a, b⟩ := h.2 i hi
    refine ⟨ad, e, ho _ (List.getElem_mem hi), fun j v hj => ?_⟩
    have hb := b j v hj
    have hk := hA ad e
    have e1 : ((ad.add (i * 5)).add j).block = ad.block := by rw [add_block', add_block']
    rw [← hb]
    exact cell_addr' _ (by rw [e1]; exact hk)⟩
where
  add_block' (a : Addr) (j : Nat) : (a.add j).block = a.block := by unfold Addr.add; split <;> rfl
  cell_addr' {W W' : World} (D : Addr) (h : W'.heap[D.block]? = W.heap[D.block]?) : W'.cell? D = W.cell? D := by simp only [World.cell?, h]
/-- the best of some -/
def bestP (b : Vx) (l : List Vx) : Vx := l.foldl (fun b v => if winsV v b = true then v else b) b
theorem bestP_take {b : Vx} {l : List Vx} {k : Nat} (h : k < l.length) : bestP b (l.take (k + 1)) = if winsV l[k] (bestP b (l.take k)) = true then l[k] else bestP b (l.take k) := by
  unfold bestP
  rw [List.take_succ_eq_append_getElem h, List.foldl_append]; rfl
def winL (l : List Vx) : Option Vx := match liveL l with | [] => none | b :: r => some (bestP b r)
def winT (o : Option Vx) : Value := match o with | none => .tuple #[.agg Zx.cells, .bool false] | some x => .tuple #[.agg x.cells, .bool true]
theorem OwnV.blk {W : World} {B : Nat} {v : Value} {x : Vx} {r : List Vx} (h : OwnV W B v (x :: r)) : ∃ g c, B ≤ g ∧ v = .slice (some ⟨g, 0, none⟩) (x :: r).length c ∧ (x :: r).length ≤ c ∧ g < W.heap.size := by
  rcases h with ⟨_, h⟩ | ⟨g, hg, h⟩
  · cases h
  · obtain ⟨c, hv, hc, _⟩ := h.shape
    exact ⟨g, c, hg, hv, hc, h.lt⟩
set_option maxRecDepth 100000 in
theorem winner1_any (A : Option Addr) (cap : Nat) (l : List Vx) (w : World) (h : Vers w A l) (hlb : l.length ≤ 1000000) :
    Calls Try.prog 45 #[.slice A l.length cap] w fun r w' => r = .returned (winT (winL l)) ∧ Gr w w' := by
  have H := Lib.hid h; clear h
  have hga : Gr w (w.alloc (.cells Zx.cells 49)) := (Gr.rfl' w).al _
  have hn := World.alloc_heap_new w (.cells Zx.cells 49)
  have hsz : (w.alloc (.cells Zx.cells 49)).heap.size = w.heap.size + 1 := by simp
  have HN := Lib.hid hn
  have HG := Lib.hid hga
  have hll := live_len l
  have HL := Lib.hid (vLive1_any A cap l _ (H.out.gr hga) (by omega))
  clear hn hga
  go_enter Try.func45, Try.ntmps45
  go_upto_region 1 with (first | refine allocV rfl rfl ?_)
  rw [← Zx_cells]
  obtain ⟨W, hW⟩ : ∃ W, w.alloc (.cells Zx.cells 49) = W := ⟨_, rfl⟩
  rw [hW] at HN HG HL hsz ⊢
  clear hW
  go_wp2_with fail
  refine (HL.out).mono ?_
  rintro r w1 ⟨⟨v, rfl, ho⟩, hg1⟩
  have N1 := Lib.hid ((hg1.block _ (Array.getElem?_eq_some_iff.1 HN.out).1).trans HN.out)
  have G1 := Lib.hid (HG.out.tr hg1)
  have hs1 := hg1.size
  cases hlv : liveL l with
  | nil =>
    rw [hlv] at ho
    obtain ⟨A1, c1, rfl, _, _⟩ := ho.vers (by intro x hx; cases hx)
    have HW : Hid (winL l = none) := Lib.hid (by unfold winL; rw [hlv])
    clear ho hlv hg1 HL HN
    go_wp2_with (first
      | refine buildZ rfl rfl ?_
      | (refine storeW Zx Zx w.heap.size rfl (.tmp 2) _ rfl rfl rfl rfl N1.out ?_; intro w2 hx2 hs2; have HX2 := Lib.hid hx2; have G2 := Lib.hid (hs2.gr G1.out (Nat.le_refl _)); clear hx2 hs2))
    obtain ⟨c0, c1, c2, c3, c4⟩ := bcells HX2.out
    refine bodyPost_ret (v := .tuple #[.agg Zx.cells, .bool false]) (by simp [results, Try.results45, go_sem, c0, c1, c2, c3, c4]; rfl) rfl ?_
    rw [HW.out]
    exact ⟨rfl, G2.out⟩
  | cons b r =>
    rw [hlv] at ho hll
    have hoks : vsOk w1 (b :: r) := fun x hx => (H.out.gr G1.out).oks x (List.mem_filter.1 (show x ∈ liveL l by rw [hlv]; exact hx)).1
    have HSUB : Hid (∀ x ∈ b :: r, x ∈ l) := Lib.hid (fun x hx => (List.mem_filter.1 (show x ∈ liveL l by rw [hlv]; exact hx)).1)
    obtain ⟨A1, c1, e1, _, hv⟩ := ho.vers hoks
    obtain ⟨gl, cl, hgB, rfl, hcl, hglt⟩ := ho.blk
    cases e1
    have HW : Hid (winL l = some (bestP b r)) := Lib.hid (by unfold winL; rw [hlv])
    have hv0 := hv.2 0 (by simp)
    obtain ⟨ad0, e0, _, hc0⟩ := hv0
    cases e0
    have HC0 : Hid (∀ j v, b.cells.toList[j]? = some v → w1.cell? ((⟨gl, 0, none⟩ : Addr).add j) = some v) := Lib.hid fun j v hj => by
      have := hc0 j v (by simpa using hj)
      rw [Nat.zero_mul, Addr.add_zero'] at this
      exact this
    have HT := Lib.hid (hv.tail hcl)
    have hlen : ((r.length : Int) + 1 == 0) = false := by simp; omega
    clear ho hlv hg1 HL HN hoks hv hc0 hlen
    have hln : (((b :: r).length : Int) == 0) = false := by simp; omega
    obtain ⟨n, hnn⟩ : ∃ n, (b :: r).length = n := ⟨_, rfl⟩
    have hrn : r.length + 1 = n := by rw [← hnn]; simp
    rw [hnn] at hln hcl hll ⊢
    clear hnn
    have hn0 : (0 : Int) < n := by omega
    have hn1 : (1 : Int) ≤ n := by omega
    have hcn : (n : Int) ≤ c1 := by omega
    have hcn1 : (1 : Int) ≤ c1 := by omega
    go_upto_region 5 with (first
      | refine ld_at rfl 49 (.tmp 15) rfl _ rfl b.cells.toList _ HC0.out Try.underlying49 rfl (by kernel_rfl) ?_
      | refine allocV rfl rfl ?_
      | (refine storeV b rfl (.tmp 5) _ rfl rfl rfl rfl ?_; intro W2 hx2 hg2; obtain ⟨gb, hgb⟩ : ∃ g, w1.heap.size = g := ⟨_, rfl⟩; rw [hgb] at hx2 hglt ⊢; have HX2 := Lib.hid hx2; have G2 := Lib.hid hg2; clear hx2 hg2))
    obtain ⟨ad, had⟩ : ∃ ad, (⟨gl, 0, none⟩ : Addr) = ad := ⟨_, rfl⟩
    have hadb : ad.block = gl := by rw [← had]
    rw [had] at HT
    simp only [had]
    clear had HC0
    obtain ⟨adT, hadT⟩ : ∃ a, (if c1 = 1 then ad else ad.add 5) = a := ⟨_, rfl⟩
    have hadTb : adT.block = gl := by rw [← hadT]; split <;> simp [Addr.add, hadb]
    rw [hadT] at HT
    have HADT := Lib.hid hadT
    have HB := Lib.hid hadTb
    clear hadT hadTb hadb
    simp only [Act.put, List.setIfInBounds_toArray, List.set_cons_zero, List.set_cons_succ]
    go_cut [18, 19, 20] from 17 to 29 (fun s18 s19 s20 wx => s18 = .slice (some adT) r.length (c1 - 1) ∧ s19 = .int .i64 r.length ∧ s20 = .int .i64 0 ∧ wx = W2)
    case first =>
      have hr1 : n - 1 = r.length := by omega
      by_cases hc : c1 = 1
      · have hX : ad = adT := by have := HADT.out; rw [if_pos hc] at this; exact this
        have HX := Lib.hid hX
        clear hX
        subst hc
        go_wp2
        go_meet
        simp [hr1, HX.out]
      · have hX : ad.add 5 = adT := by have := HADT.out; rw [if_neg hc] at this; exact this
        have hX2 : adT = ⟨ad.block, ad.off + 5, none⟩ := by rw [← hX]; rfl
        have HX := Lib.hid hX2
        clear hX hX2
        go_wp2
        go_meet
        simp [hr1, HX.out]
    case rest =>
      obtain ⟨rfl, rfl, rfl, hwc⟩ := hcut
      have hwc := hwc.symm
      subst hwc
      have HR := Lib.hid hrn
      have HNE : Hid (w.heap.size ≠ gb ∧ gl ≠ gb ∧ w.heap.size < gb) := Lib.hid (by omega)
      have HS0 : Hid (w.heap.size ≤ gb) := Lib.hid (by omega)
      have HX0 : Hid (W2.heap[gb]? = some (.cells (bestP b (r.take 0)).cells 49 (0, 0))) := HX2
      have HZ0 := Lib.hid ((G2.out.block _ (Array.getElem?_eq_some_iff.1 N1.out).1).trans N1.out)
      have HL0 : Hid (W2.heap[gl]? = w1.heap[gl]?) := Lib.hid (G2.out.block gl (by omega))
      have HG0 := Lib.hid (G1.out.tr G2.out)
      have HLT : Hid (gl < w1.heap.size) := Lib.hid (by omega)
      have hrl : r.length ≤ 1000000 := by omega
      clear hrn hln hn0 hn1 hcn hcn1 hll hcl hglt hgb hs1 hsz hgB HADT
      go_wp2
      go_loopw [20] (fun i wr => ∃ k : Nat, k ≤ r.length ∧ i = .int .i64 k ∧ Hid (wr.heap[gb]? = some (.cells (bestP b (r.take k)).cells 49 (0, 0))) ∧ Hid (wr.heap[w.heap.size]? = some (.cells Zx.cells 49 (0, 0))) ∧ Hid (wr.heap[gl]? = w1.heap[gl]?) ∧ Hid (Gr w wr)) (fun i _ => r.length - (intOf i).toNat)
      case atStart => exact ⟨0, Nat.zero_le _, rfl, HX0, HZ0, HL0, HG0⟩
      case round =>
        clear HX0 HZ0 HL0 HG0 HX2 G2 N1
        obtain ⟨k, hk, rfl, HXk, HZ, HLk, HGk⟩ := hrel
        by_cases hlt : k < r.length
        · have hki : (k : Int) < r.length := by omega
          have hvr : Vers wr (some adT) r := HT.out.other (fun x hx => (H.out.gr HGk.out).oks x (HSUB.out x (List.mem_cons_of_mem _ hx))) (fun D hD => by cases hD; rw [HB.out]; exact HLk.out)
          obtain ⟨ad2, e2, hvx, hcx⟩ := hvr.2 k hlt
          cases e2
          have hst := bestP_take (b := b) hlt
          obtain ⟨x, hx⟩ : ∃ x, r[k] = x := ⟨_, rfl⟩
          rw [hx] at hcx hst
          obtain ⟨bk, hbk⟩ : ∃ y, bestP b (r.take k) = y := ⟨_, rfl⟩
          rw [hbk] at hst HXk
          have HST := Lib.hid hst
          have HCX : Hid (∀ j v, x.cells.toList[j]? = some v → wr.cell? ((adT.add (k * 5)).add j) = some v) := Lib.hid fun j v hj => hcx j v (by simpa using hj)
          clear hvr hvx hcx hst hx hbk
          go_upto_region 8 with (first
            | refine ld_at rfl 49 (.tmp 22) rfl _ rfl x.cells.toList _ HCX.out Try.underlying49 rfl (by kernel_rfl) ?_
            | refine allocV rfl rfl ?_
            | (refine storeV x rfl (.tmp 7) _ rfl rfl rfl rfl ?_; intro W3 hx3 hg3; obtain ⟨gc, hgc⟩ : ∃ g, wr.heap.size = g := ⟨_, rfl⟩; rw [hgc] at hx3 ⊢; have HX3 := Lib.hid hx3; have G3 := Lib.hid hg3; clear hx3 hg3))
          have HXb := Lib.hid ((G3.out.block _ (Array.getElem?_eq_some_iff.1 HXk.out).1).trans HXk.out)
          have hglt2 := (Array.getElem?_eq_some_iff.1 HXk.out).1
          have HCB : Hid (gc ≠ gb) := Lib.hid (by omega)
          clear hgc hglt2
          go_wp2_with (first
            | refine wpList_load_row rfl 49 (.tmp 7) rfl gc rfl 49 x.cells (0, 0) _ HX3.out Try.underlying49 rfl (by kernel_rfl) ?_
            | refine wpList_load_row rfl 49 (.tmp 5) rfl gb rfl 49 bk.cells (0, 0) _ HXb.out Try.underlying49 rfl (by kernel_rfl) ?_)
          refine (wins1_any x bk W3).mono ?_
          rintro e w4 ⟨rfl, hg4⟩
          have HX4 := Lib.hid ((hg4.block _ (Array.getElem?_eq_some_iff.1 HX3.out).1).trans HX3.out)
          have HXb4 := Lib.hid ((hg4.block _ (Array.getElem?_eq_some_iff.1 HXb.out).1).trans HXb.out)
          have G4 := Lib.hid (G3.out.tr hg4)
          have HZ4 := Lib.hid ((G4.out.block _ (Array.getElem?_eq_some_iff.1 HZ.out).1).trans HZ.out)
          have HL4 : Hid (w4.heap[gl]? = w1.heap[gl]?) := Lib.hid ((G4.out.block gl (by have a := HGk.out.size; have h2 := HLk.out; have h3 := HLT.out; rw [Array.getElem?_eq_getElem h3] at h2; exact (Array.getElem?_eq_some_iff.1 h2).1)).trans HLk.out)
          clear HX3 HXb G3 hg4 HZ HLk HXk HCX
          by_cases hw : winsV x bk = true
          · rw [if_pos hw] at HST
            rw [hw]
            clear hw
            go_wp2_with (first
              | refine wpList_load_row rfl 49 (.tmp 7) rfl gc rfl 49 x.cells (0, 0) _ HX4.out Try.underlying49 rfl (by kernel_rfl) ?_
              | (refine storeW x bk gb rfl (.tmp 5) _ rfl rfl rfl rfl HXb4.out ?_; intro w5 hx5 hs5; have HX5 := Lib.hid hx5; have S5 := Lib.hid hs5; clear hx5 hs5))
            go_roundw
            case rel => exact ⟨k + 1, by omega, by go_num, Lib.hid (by rw [HST.out]; exact HX5.out), Lib.hid ((S5.out.keep _ HNE.out.1).trans HZ4.out), Lib.hid ((S5.out.keep _ HNE.out.2.1).trans HL4.out), Lib.hid (S5.out.gr (HGk.out.tr G4.out) HS0.out)⟩
            case measure => simp [intOf]; omega
          · rw [if_neg hw] at HST
            have hw : winsV x bk = false := by simpa using hw
            rw [hw]
            clear hw
            go_wp2
            go_roundw
            case rel => exact ⟨k + 1, by omega, by go_num, Lib.hid (by rw [HST.out]; exact HXb4.out), HZ4, HL4, Lib.hid (HGk.out.tr G4.out)⟩
            case measure => simp [intOf]; omega
        · have hkk : k = r.length := by omega
          subst hkk
          rw [List.take_length] at HXk
          obtain ⟨bk, hbk⟩ : ∃ y, bestP b r = y := ⟨_, rfl⟩
          rw [hbk] at HXk HW
          clear hbk
          go_wp2_with (first
            | refine wpList_load_row rfl 49 (.tmp 5) rfl gb rfl 49 bk.cells (0, 0) _ HXk.out Try.underlying49 rfl (by kernel_rfl) ?_
            | (refine storeW bk Zx w.heap.size rfl (.tmp 2) _ rfl rfl rfl rfl HZ.out ?_; intro w5 hx5 hs5; have HX5 := Lib.hid hx5; have G5 := Lib.hid (hs5.gr HGk.out (Nat.le_refl _)); clear hx5 hs5))
          obtain ⟨c0, c1, c2, c3, c4⟩ := bcells HX5.out
          refine bodyPost_ret (v := .tuple #[.agg bk.cells, .bool true]) (by simp [results, Try.results45, go_sem, c0, c1, c2, c3, c4]; rfl) rfl ?_
          rw [HW.out]
          exact ⟨rfl, G5.out⟩
end Go.Proofs.Ytfobnemocodomaa
set_option linter.unusedVariables false
set_option linter.unusedSimpArgs false
set_option maxHeartbeats 2000000
namespace Go.Proofs.Ytfobnemocodomaa
open Go.RowKit Go.Great

def unb (X : List Vx) (x : Vx) : Bool := !(X.any fun y => winsV y x)
theorem find_first {p : List Vx} {q q' : Vx → Bool} {m : Vx} (h : p.find? q = some m) (hq : ∀ x, q x = false → q' x = false) (hm : q' m = true) : p.find? q' = some m := by
  induction p with
  | nil => cases h
  | cons x r ih =>
    rw [List.find?_cons] at h ⊢
    cases hx : q x with
    | true => rw [hx] at h; cases h; rw [hm]
    | false => rw [hx] at h; rw [hq x hx]; exact ih h
theorem find_none' {p : List Vx} {q : Vx → Bool} (h : ∀ x ∈ p, q x = false) : p.find? q = none := by
  rw [List.find?_eq_none]; intro x hx; rw [h x hx]; simp
theorem wins_live {x y : Vx} (hx : x.D = false) (hy : y.D = false) : winsV x y = later x y := by unfold winsV; rw [if_neg (by rw [hx, hy]; simp)]
theorem unb_iff (X : List Vx) (x : Vx) : unb X x = true ↔ ∀ y ∈ X, winsV y x = false := by
  unfold unb
  rw [Bool.not_eq_true', List.any_eq_false]
  constructor
  · intro h y hy; have := h y hy; simpa using this
  · intro h y hy; rw [h y hy]; simp
theorem bestP_find : ∀ (r : List Vx) (p : List Vx) (m : Vx), (∀ x ∈ p ++ r, x.D = false) → m ∈ p → p.find? (unb p) = some m → (p ++ r).find? (unb (p ++ r)) = some (bestP m r)
  | [], p, m, _, _, h => by rw [List.append_nil]; exact h
  | v :: r, p, m, hd, hmp, h => by
    have hdm : m.D = false := hd m (by simp [hmp])
    have hdv : v.D = false := hd v (by simp)
    have e : p ++ v :: r = (p ++ [v]) ++ r := by simp
    have eb : bestP m (v :: r) = bestP (if winsV v m = true then v else m) r := rfl
    have hmu := (unb_iff p m).1 (by have := List.find?_some h; exact this)
    rw [e, eb]
    rw [e] at hd
    by_cases hw : winsV v m = true
    · rw [if_pos hw]
      have key : ∀ x ∈ p, winsV v x = true := fun x hx => by
        have h1 := hmu x hx
        have hdx : x.D = false := hd x (by simp [hx])
        rw [wins_live hdx hdm] at h1
        rw [wins_live hdv hdm] at hw
        rw [wins_live hdv hdx]
        unfold later at *
        simp only [decide_eq_false_iff_not, decide_eq_true_eq] at *
        omega
      refine bestP_find r (p ++ [v]) v hd (by simp) ?_
      rw [List.find?_append, find_none' (fun x hx => by
        unfold unb
        rw [Bool.not_eq_false', List.any_eq_true]
        exact ⟨v, by simp, key x hx⟩)]
      have : unb (p ++ [v]) v = true := by
        rw [unb_iff]
        intro y hy
        rcases List.mem_append.1 hy with hy | hy
        · have := key y hy
          have hdy : y.D = false := hd y (by simp [hy])
          rw [wins_live hdv hdy] at this
          rw [wins_live hdy hdv]
          unfold later at *
          simp only [decide_eq_false_iff_not, decide_eq_true_eq] at *
          omega
        · simp at hy; subst hy
          rw [wins_live hdv hdv]; unfold later; simp
      simp [this]
    · rw [if_neg hw]
      have hw : winsV v m = false := by simpa using hw
      refine bestP_find r (p ++ [v]) m hd (by simp [hmp]) ?_
      rw [List.find?_append]
      have : p.find? (unb (p ++ [v])) = some m := by
        refine find_first h (fun x hx => ?_) ?_
        · unfold unb at hx ⊢
          rw [Bool.not_eq_false', List.any_eq_true] at hx ⊢
          obtain ⟨y, hy, k⟩ := hx
          exact ⟨y, by simp [hy], k⟩
        · rw [unb_iff]
          intro y hy
          rcases List.mem_append.1 hy with hy | hy
          · exact hmu y hy
          · simp at hy; subst hy; exact hw
      rw [this]; rfl
theorem winL_find (l : List Vx) : winL l = (liveL l).find? (unb (liveL l)) := by
  unfold winL
  have hd : ∀ x ∈ liveL l, x.D = false := fun x hx => by
    have := (List.mem_filter.1 hx).2
    simpa using this
  cases hl : liveL l with
  | nil => rfl
  | cons b r =>
    rw [hl] at hd
    have h0 : [b].find? (unb [b]) = some b := by
      have : unb [b] b = true := by
        rw [unb_iff]
        intro y hy
        simp at hy; subst hy
        have hb := hd y (by simp)
        rw [wins_live hb hb]; unfold later; simp
      simp [this]
    exact (bestP_find r [b] b hd (by simp) h0).symm
/-- a variable of several cells, read whole, in a region of any order -/
theorem yieldsIf_ld {P : Program} {ops : Array Oper} {S : World → Prop} {o : Oper} {a : Act} (hw : Region.wanted o (yielded ops a.tmps) = true) (ty : TypeId) (x : Operand) (ho : o.op = .load ty x)
    (ad : Addr) (hx : a.eval x = .pointer (some ad)) (cs : List Value) (d : TypeDesc) (hc : ∀ w, S w → ∀ j v, cs[j]? = some v → w.cell? (ad.add j) = some v)
    (hu : P.underlying ty = some d) (hd : d.isRow = true) (hi : (P.info? ty).map (·.size) = some cs.length) : YieldsIf P ops S o (.agg cs.toArray) a := by
  refine Or.inl ⟨hw, fun w hw' => ?_⟩
  unfold execOp
  simp only [ho, hx, Instr.loadAt, Instr.sureAddr, Sem.run_bind, Sem.run_pure, Result.andThen_ok, ldv_run w ad ty cs d (hc w hw') hu hd hi]
theorem any_take {X : List Vx} {q : Vx → Bool} {k : Nat} (h : k < X.length) : (X.take (k + 1)).any q = ((X.take k).any q || q X[k]) := by
  rw [List.take_succ_eq_append_getElem h, List.any_append]; simp
set_option maxRecDepth 100000 in
theorem winner2_any (A : Option Addr) (cap : Nat) (l : List Vx) (w : World) (h : Vers w A l) (hlb : l.length ≤ 1000000) :
    Calls Try.prog 46 #[.slice A l.length cap] w fun r w' => r = .returned (winT (winL l)) ∧ Gr w w' := by
  have H := Lib.hid h; clear h
  have hga : Gr w (w.alloc (.cells Zx.cells 49)) := (Gr.rfl' w).al _
  have hn := World.alloc_heap_new w (.cells Zx.cells 49)
  have HN := Lib.hid hn
  have HG := Lib.hid hga
  have hll := live_len l
  have HL := Lib.hid (vLive2_any A cap l _ (H.out.gr hga) (by omega))
  have HWF := Lib.hid (winL_find l)
  clear hn hga
  go_enter Try.func46, Try.ntmps46
  go_upto_region 1 with (first | refine allocV rfl rfl ?_)
  rw [← Zx_cells]
  obtain ⟨W, hW⟩ : ∃ W, w.alloc (.cells Zx.cells 49) = W := ⟨_, rfl⟩
  rw [hW] at HN HG HL ⊢
  clear hW
  go_wp2_with fail
  refine (HL.out).mono ?_
  rintro r w1 ⟨⟨v, rfl, ho⟩, hg1⟩
  have N1 := Lib.hid ((hg1.block _ (Array.getElem?_eq_some_iff.1 HN.out).1).trans HN.out)
  have G1 := Lib.hid (HG.out.tr hg1)
  obtain ⟨A1, c1, rfl, _, hv⟩ := ho.vers (fun x hx => (H.out.gr G1.out).oks x (List.mem_filter.1 hx).1)
  obtain ⟨X, hX⟩ : ∃ X, liveL l = X := ⟨_, rfl⟩
  rw [hX] at hv hll HWF ⊢
  have HV := Lib.hid hv
  have g0 := Lib.hid (Gr.rfl' w1)
  clear ho hg1 HL HN hv hX HG
  go_wp2
  go_loopw [5] (fun i wr => ∃ k : Nat, k ≤ X.length ∧ i = .int .i64 k ∧ Hid (X.find? (unb X) = (X.drop k).find? (unb X)) ∧ Hid (Gr w1 wr)) (fun i _ => X.length - (intOf i).toNat)
  case atStart => exact ⟨0, Nat.zero_le _, rfl, Lib.hid rfl, g0⟩
  case round =>
    clear g0
    obtain ⟨k, hk, rfl, HF, HK⟩ := hrel
    by_cases hlt : k < X.length
    · have hki : (k : Int) < X.length := by omega
      obtain ⟨ad, rfl, _, _⟩ := HV.out.2 k hlt
      have hcw : ∀ W, Gr w1 W → ∀ j v, X[k].cells.toList[j]? = some v → W.cell? ((ad.add (k * 5)).add j) = some v := fun W g j v hj => by
        obtain ⟨ad2, e2, _, h⟩ := (HV.out.gr g).2 k hlt
        cases e2
        exact h j v (by simpa using hj)
      have hst : (X.drop k).find? (unb X) = if unb X X[k] = true then some X[k] else (X.drop (k + 1)).find? (unb X) := by
        rw [List.drop_eq_getElem_cons hlt, List.find?_cons]
        cases unb X X[k] <;> rfl
      rw [← HF.out] at hst
      obtain ⟨x, hx⟩ : ∃ x, X[k] = x := ⟨_, rfl⟩
      rw [hx] at hst hcw
      have HST := Lib.hid hst
      have HCW := Lib.hid hcw
      have g1 := Lib.hid (HK.out)
      clear hst hcw hx HF
      go_wp2
      go_loopw [6, 7] (fun b i wi => ∃ q : Nat, q ≤ X.length ∧ b = .bool ((X.take q).any fun y => winsV y x) ∧ i = .int .i64 q ∧ Hid (Gr w1 wi)) (fun _ i _ => X.length - (intOf i).toNat)
      case atStart => exact ⟨0, Nat.zero_le _, rfl, rfl, g1⟩
      case round =>
        clear g1
        obtain ⟨q, hq, rfl, rfl, HQ⟩ := hrel
        by_cases hlq : q < X.length
        · have hqi : (q : Int) < X.length := by omega
          have hat := any_take (q := fun y => winsV y x) hlq
          obtain ⟨ad2, e2, _, hcy⟩ := (HV.out.gr HQ.out).2 q hlq
          cases e2
          obtain ⟨y, hy⟩ : ∃ y, X[q] = y := ⟨_, rfl⟩
          rw [hy] at hat hcy
          have HAT := Lib.hid hat
          have HCY : Hid (∀ W, Gr wr W → ∀ j v, y.cells.toList[j]? = some v → W.cell? ((ad.add (q * 5)).add j) = some v) := Lib.hid fun W g j v hj => g.cell (hcy j v (by simpa using hj))
          have HCX : Hid (∀ W, Gr wr W → ∀ j v, x.cells.toList[j]? = some v → W.cell? ((ad.add (k * 5)).add j) = some v) := Lib.hid fun W g => HCW.out W (HQ.out.tr g)
          clear hat hcy hy
          obtain ⟨bt, hbt⟩ : ∃ b, ((X.take q).any fun y => winsV y x) = b := ⟨_, rfl⟩
          rw [hbt] at HAT ⊢
          clear hbt
          cases bt with
          | true =>
            go_upto_region 9 with (fail)
            have hSS : Gr wr wr.drew := (Gr.rfl' _).dr
            refine region_T 12 (fun w' => Gr wr w') (by kernel_rfl) ?_
            refine anyT_take (i := 0) (v := ?_) (some 22) rfl rfl (by kernel_rfl) (fun _ _ _ h => h) (Or.inl ⟨by rfl, ?_⟩) hSS ?_
            rotate_left
            · intro w' hSw; go_simp; (try with_reducible rfl)
            simp only [Act.put, List.setIfInBounds_toArray, List.set_cons_zero, List.set_cons_succ]
            refine anyT_take (i := 1) (v := ?_) (some 23) rfl rfl (by kernel_rfl) (fun _ _ _ h => h) (Or.inl ⟨by rfl, ?_⟩) hSS ?_
            rotate_left
            · intro w' hSw; go_simp; (try with_reducible rfl)
            simp only [Act.put, List.setIfInBounds_toArray, List.set_cons_zero, List.set_cons_succ]
            refine anyT_take (i := 2) (v := undef) (some 24) rfl rfl (by kernel_rfl) (fun _ _ _ h => h) (Or.inr ⟨by rfl, rfl⟩) hSS ?_
            simp only [Act.put, List.setIfInBounds_toArray, List.set_cons_zero, List.set_cons_succ]
            refine anyT_take (i := 3) (v := undef) (some 25) rfl rfl (by kernel_rfl) (fun _ _ _ h => h) (Or.inr ⟨by rfl, rfl⟩) hSS ?_
            simp only [Act.put, List.setIfInBounds_toArray, List.set_cons_zero, List.set_cons_succ]
            refine anyT_take (i := 4) (v := undef) (some 26) rfl rfl (by kernel_rfl) (fun _ _ _ h => h) (Or.inr ⟨by rfl, rfl⟩) hSS ?_
            simp only [Act.put, List.setIfInBounds_toArray, List.set_cons_zero, List.set_cons_succ]
            refine anyT_take (i := 5) (v := undef) (some 27) rfl rfl (by kernel_rfl) (fun _ _ _ h => h) (Or.inr ⟨by rfl, rfl⟩) hSS ?_
            simp only [Act.put, List.setIfInBounds_toArray, List.set_cons_zero, List.set_cons_succ]
            refine anyT_take (i := 6) (v := undef) (some 28) rfl rfl (by kernel_rfl) (fun _ _ _ h => h) (Or.inr ⟨by rfl, rfl⟩) hSS ?_
            simp only [Act.put, List.setIfInBounds_toArray, List.set_cons_zero, List.set_cons_succ]
            refine anyT_take (i := 7) (v := undef) (some 29) rfl rfl (by kernel_rfl) (fun _ _ _ h => h) (Or.inr ⟨by rfl, rfl⟩) hSS ?_
            simp only [Act.put, List.setIfInBounds_toArray, List.set_cons_zero, List.set_cons_succ]
            refine anyT_take (i := 8) (v := undef) (some 30) rfl rfl (by kernel_rfl) (fun _ _ _ h => h) (Or.inr ⟨by rfl, rfl⟩) hSS ?_
            simp only [Act.put, List.setIfInBounds_toArray, List.set_cons_zero, List.set_cons_succ]
            refine anyT_take (i := 9) (v := undef) (some 31) rfl rfl (by kernel_rfl) (fun _ _ _ h => h) (Or.inr ⟨by rfl, rfl⟩) hSS ?_
            simp only [Act.put, List.setIfInBounds_toArray, List.set_cons_zero, List.set_cons_succ]
            refine anyT_take (i := 10) (v := undef) (some 32) rfl rfl (by kernel_rfl) (fun _ _ _ h => h) (Or.inr ⟨by rfl, rfl⟩) hSS ?_
            simp only [Act.put, List.setIfInBounds_toArray, List.set_cons_zero, List.set_cons_succ]
            refine anyT_take (i := 11) (v := ?_) (some 33) rfl rfl (by kernel_rfl) (fun _ _ _ h => h) (Or.inl ⟨by rfl, ?_⟩) hSS ?_
            rotate_left
            · intro w' hSw; go_simp; (try with_reducible rfl)
            simp only [Act.put, List.setIfInBounds_toArray, List.set_cons_zero, List.set_cons_succ]
            refine anyT_last (some 6) (.bool true) (by kernel_rfl) (by kernel_rfl) rfl (by kernel_rfl) rfl (by kernel_rfl) ?_
            simp only [Act.put, List.setIfInBounds_toArray, List.set_cons_zero, List.set_cons_succ]
            go_wp2
            go_roundw
            case rel => exact ⟨q + 1, by omega, by rw [HAT.out]; rfl, by go_num, Lib.hid (HQ.out.tr hSS)⟩
            case measure => simp [intOf]; omega
          | false =>
            go_upto_region 9 with (fail)
            have hSS : Gr wr wr.drew := (Gr.rfl' _).dr
            refine region_T 12 (fun w' => Gr wr w') (by kernel_rfl) ?_
            refine anyT_take (i := 0) (v := ?_) (some 22) rfl rfl (by kernel_rfl) (fun _ _ _ h => h) (Or.inl ⟨by rfl, ?_⟩) hSS ?_
            rotate_left
            · intro w' hSw; go_simp; (try with_reducible rfl)
            simp only [Act.put, List.setIfInBounds_toArray, List.set_cons_zero, List.set_cons_succ]
            refine anyT_take (i := 1) (v := ?_) (some 23) rfl rfl (by kernel_rfl) (fun _ _ _ h => h) (Or.inl ⟨by rfl, ?_⟩) hSS ?_
            rotate_left
            · intro w' hSw; go_simp; (try with_reducible rfl)
            simp only [Act.put, List.setIfInBounds_toArray, List.set_cons_zero, List.set_cons_succ]
            refine anyT_take (i := 2) (v := ?_) (some 24) rfl rfl (by kernel_rfl) (fun _ _ _ h => h) (Or.inl ⟨by rfl, ?_⟩) hSS ?_
            rotate_left
            · intro w' hSw; go_simp; (try with_reducible rfl)
            simp only [Act.put, List.setIfInBounds_toArray, List.set_cons_zero, List.set_cons_succ]
            refine anyT_take (i := 3) (v := ?_) (some 25) rfl rfl (by kernel_rfl) (fun _ _ _ h => h) (Or.inl ⟨by rfl, ?_⟩) hSS ?_
            rotate_left
            · intro w' hSw; go_simp; (try with_reducible rfl)
            simp only [Act.put, List.setIfInBounds_toArray, List.set_cons_zero, List.set_cons_succ]
            refine anyT_take (i := 4) (v := ?_) (some 26) rfl rfl (by kernel_rfl) (fun _ _ _ h => h) (Or.inl ⟨by rfl, ?_⟩) hSS ?_
            rotate_left
            · intro w' hSw; go_simp; (try with_reducible rfl)
            simp only [Act.put, List.setIfInBounds_toArray, List.set_cons_zero, List.set_cons_succ]
            refine anyT_take (i := 5) (some 27) rfl rfl (by kernel_rfl) (fun _ _ _ h => h) (yieldsIf_ld (by rfl) 49 (.tmp 26) rfl (ad.add (q * 5)) rfl y.cells.toList _ (fun w' hSw => HCY.out w' hSw) Try.underlying49 rfl (by kernel_rfl)) hSS ?_
            simp only [Act.put, List.setIfInBounds_toArray, List.set_cons_zero, List.set_cons_succ]
            refine anyT_take (i := 6) (v := ?_) (some 28) rfl rfl (by kernel_rfl) (fun _ _ _ h => h) (Or.inl ⟨by rfl, ?_⟩) hSS ?_
            rotate_left
            · intro w' hSw; go_simp; (try with_reducible rfl)
            simp only [Act.put, List.setIfInBounds_toArray, List.set_cons_zero, List.set_cons_succ]
            refine anyT_take (i := 7) (v := ?_) (some 29) rfl rfl (by kernel_rfl) (fun _ _ _ h => h) (Or.inl ⟨by rfl, ?_⟩) hSS ?_
            rotate_left
            · intro w' hSw; go_simp; (try with_reducible rfl)
            simp only [Act.put, List.setIfInBounds_toArray, List.set_cons_zero, List.set_cons_succ]
            refine anyT_take (i := 8) (v := ?_) (some 30) rfl rfl (by kernel_rfl) (fun _ _ _ h => h) (Or.inl ⟨by rfl, ?_⟩) hSS ?_
            rotate_left
            · intro w' hSw; go_simp; (try with_reducible rfl)
            simp only [Act.put, List.setIfInBounds_toArray, List.set_cons_zero, List.set_cons_succ]
            refine anyT_take (i := 9) (some 31) rfl rfl (by kernel_rfl) (fun _ _ _ h => h) (yieldsIf_ld (by rfl) 49 (.tmp 30) rfl (ad.add (k * 5)) rfl x.cells.toList _ (fun w' hSw => HCX.out w' hSw) Try.underlying49 rfl (by kernel_rfl)) hSS ?_
            simp only [Act.put, List.setIfInBounds_toArray, List.set_cons_zero, List.set_cons_succ]
            refine anyT_callG (i := 10) (some 32) 50 #[.agg y.cells, .agg x.cells] (by kernel_rfl) rfl (by kernel_rfl) rfl (by kernel_rfl) ?_
            refine (wins2_any y x _).mono ?_
            rintro e wd ⟨rfl, hgd⟩
            replace hSS := hSS.tr hgd
            refine ⟨_, rfl, fun _ => hSS, ?_⟩
            simp only [Act.put, List.setIfInBounds_toArray, List.set_cons_zero, List.set_cons_succ]
            clear hgd
            refine anyT_take (i := 11) (v := ?_) (some 33) rfl rfl (by kernel_rfl) (fun _ _ _ h => h) (Or.inl ⟨by rfl, ?_⟩) hSS ?_
            rotate_left
            · intro w' hSw; go_simp; (try with_reducible rfl)
            simp only [Act.put, List.setIfInBounds_toArray, List.set_cons_zero, List.set_cons_succ]
            refine anyT_last (some 6) (.bool (winsV y x)) (by kernel_rfl) (by kernel_rfl) rfl (by kernel_rfl) rfl (by kernel_rfl) ?_
            simp only [Act.put, List.setIfInBounds_toArray, List.set_cons_zero, List.set_cons_succ]
            go_wp2
            go_roundw
            case rel => exact ⟨q + 1, by omega, by rw [HAT.out]; rfl, by go_num, Lib.hid (HQ.out.tr hSS)⟩
            case measure => simp [intOf]; omega
        · have hqi : ¬ (q : Int) < X.length := by omega
          have hqq : q = X.length := by omega
          subst hqq
          rw [List.take_length]
          have hun : unb X x = !(X.any fun y => winsV y x) := rfl
          obtain ⟨bt, hbt⟩ : ∃ b, (X.any fun y => winsV y x) = b := ⟨_, rfl⟩
          rw [hbt] at hun ⊢
          have HUN := Lib.hid hun
          clear hbt hun
          cases bt with
          | true =>
            go_wp2
            go_roundw
            case rel => exact ⟨k + 1, by omega, by go_num, Lib.hid (by rw [HST.out, HUN.out]; rfl), HQ⟩
            case measure => simp [intOf]; omega
          | false =>
            have HCX : Hid (∀ j v, x.cells.toList[j]? = some v → wr.cell? ((ad.add (k * 5)).add j) = some v) := Lib.hid (HCW.out _ HQ.out)
            have NQ := Lib.hid ((HQ.out.block _ (Array.getElem?_eq_some_iff.1 N1.out).1).trans N1.out)
            have HW : Hid (winL l = some x) := Lib.hid (by rw [HWF.out, HST.out, HUN.out]; rfl)
            go_wp2_with (first
              | refine ld_at rfl 49 (.tmp 38) rfl _ rfl x.cells.toList _ HCX.out Try.underlying49 rfl (by kernel_rfl) ?_
              | (refine storeW x Zx w.heap.size rfl (.tmp 2) _ rfl rfl rfl rfl NQ.out ?_; intro w5 hx5 hs5; have HX5 := Lib.hid hx5; have G5 := Lib.hid (hs5.gr (G1.out.tr HQ.out) (Nat.le_refl _)); clear hx5 hs5))
            obtain ⟨c0, c1, c2, c3, c4⟩ := bcells HX5.out
            refine bodyPost_ret (v := .tuple #[.agg x.cells, .bool true]) (by simp [results, Try.results46, go_sem, c0, c1, c2, c3, c4]; rfl) rfl ?_
            rw [HW.out]
            exact ⟨rfl, G5.out⟩
    · have hkk : k = X.length := by omega
      have hki : ¬ (k : Int) < X.length := by omega
      subst hkk
      have NQ := Lib.hid ((HK.out.block _ (Array.getElem?_eq_some_iff.1 N1.out).1).trans N1.out)
      have HW : Hid (winL l = none) := Lib.hid (by rw [HWF.out, HF.out, List.drop_length]; rfl)
      go_wp2_with (first
        | refine buildZ rfl rfl ?_
        | (refine storeW Zx Zx w.heap.size rfl (.tmp 2) _ rfl rfl rfl rfl NQ.out ?_; intro w2 hx2 hs2; have HX2 := Lib.hid hx2; have G2 := Lib.hid (hs2.gr (G1.out.tr HK.out) (Nat.le_refl _)); clear hx2 hs2))
      obtain ⟨c0, c1, c2, c3, c4⟩ := bcells HX2.out
      refine bodyPost_ret (v := .tuple #[.agg Zx.cells, .bool false]) (by simp [results, Try.results46, go_sem, c0, c1, c2, c3, c4]; rfl) rfl ?_
      rw [HW.out]
      exact ⟨rfl, G2.out⟩
end Go.Proofs.Ytfobnemocodomaa
