/- The document's CheckLeaf. -/
import Derived.Test.YtfobnemocodomaaSibG
import Derived.Test.YtfobnemocodomaaSibH
set_option linter.unusedVariables false
set_option linter.unusedSimpArgs false
set_option maxHeartbeats 2000000
namespace Go.Proofs.Ytfobnemocodomaa
open Go.RowKit Go.Great

def verGo (last : Int) : List Vx → Int
  | [] => 0
  | x :: r => if verChk x ≠ 0 then verChk x else if x.P ≤ last then 8 else verGo x.P r
def lastV (l : List Vx) (k : Nat) : Int := if h : 0 < k ∧ k ≤ l.length then l[k - 1].P else -1
def covAny (l m : List Vx) : Bool := m.any fun x => covB l x.P x.C
/-- why versions may not be a leaf -/
def leafChk (l : List Vx) : Int := if 64 < l.length then 2 else if verGo (-1) l ≠ 0 then verGo (-1) l else if covAny l l = true then 7 else 0
theorem ver_pos {x : Vx} (h : verChk x = 0) : 0 ≤ x.P := by
  unfold verChk at h
  by_cases h0 : dotChk x.P x.C = 0
  · unfold dotChk at h0
    split at h0 <;> omega
  · rw [if_pos h0] at h; exact absurd h h0
theorem covAny_step (l : List Vx) {m : List Vx} {k : Nat} (h : k < m.length) : covAny l (m.drop k) = (covB l m[k].P m[k].C || covAny l (m.drop (k + 1))) := by
  unfold covAny; rw [List.drop_eq_getElem_cons h]; rfl
set_option maxRecDepth 100000 in
theorem refLeaf_any (A : Option Addr) (cap : Nat) (l : List Vx) (w : World) (h : Vers w A l) :
    Calls Try.prog 38 #[.slice A l.length cap] w fun r w' => r = .returned (.int .i64 (leafChk l)) ∧ Gr w w' := by
  have H := Lib.hid h
  have hm := h.1
  have g0 := Lib.hid (Gr.rfl' w)
  clear h
  by_cases h64 : 64 < l.length
  · have h64i : (64 : Int) < l.length := by omega
    have HV : Hid (leafChk l = 2) := Lib.hid (by unfold leafChk; rw [if_pos h64])
    go_enter Try.func38, Try.ntmps38
    go_wp2
    go_ret
    rw [HV.out]
    exact ⟨rfl, g0.out⟩
  · have h64i : ¬ (64 : Int) < l.length := by omega
    go_enter Try.func38, Try.ntmps38
    go_wp2
    go_loopw [3] (fun i wr => ∃ k : Nat, k ≤ l.length ∧ i = .int .i64 k ∧ Hid (verGo (-1) l = verGo (lastV l k) (l.drop k)) ∧ Hid (Gr w wr)) (fun i _ => l.length - (intOf i).toNat)
    case atStart => exact ⟨0, Nat.zero_le _, rfl, Lib.hid rfl, g0⟩
    case round =>
      clear g0
      obtain ⟨k, hk, rfl, hch, HG⟩ := hrel
      by_cases hlt : k < l.length
      · have hi1 : (k : Int) < (l.length : Int) := by omega
        obtain ⟨ad, rfl, hvx, hcx⟩ := (H.out.gr HG.out).2 k hlt
        have hst : verGo (lastV l k) (l.drop k) = if verChk l[k] ≠ 0 then verChk l[k] else if l[k].P ≤ lastV l k then 8 else verGo l[k].P (l.drop (k + 1)) := by rw [List.drop_eq_getElem_cons hlt]; rfl
        rw [← hch.out] at hst
        have hls : lastV l (k + 1) = l[k].P := by unfold lastV; rw [dif_pos ⟨by omega, by omega⟩]; rfl
        rw [← hls] at hst
        obtain ⟨x, hx⟩ : ∃ x, l[k] = x := ⟨_, rfl⟩
        rw [hx] at hvx hcx hst hls
        have HVX := Lib.hid hvx
        have HST := Lib.hid hst
        have HLS := Lib.hid hls
        have HCX : Hid (∀ j v, x.cells.toList[j]? = some v → wr.cell? ((ad.add (k * 5)).add j) = some v) := Lib.hid fun j v hj => hcx j v (by simpa using hj)
        have d0 := (vat_of hcx).1
        clear hst hls hvx hx hch
        have hk2 := vCheck2_any x _ HVX.out
        clear hcx
        by_cases hv : verChk x = 0
        · have HPP := Lib.hid (ver_pos hv)
          have HVZ := Lib.hid hv
          rw [hv] at hk2
          have HK := Lib.hid hk2
          clear hk2 hv
          rcases k with _ | j
          · have HN : Hid (verGo (-1) l = verGo (lastV l 1) (l.drop 1)) := Lib.hid (by rw [HST.out, if_neg (by simpa using HVZ.out), if_neg (by have := HPP.out; rw [HLS.out]; show ¬ x.P ≤ -1; omega)])
            simp only [Nat.zero_mul, Addr.add_zero'] at d0
            go_wp2_with (refine ld_at rfl 49 (.tmp 17) rfl _ rfl x.cells.toList _ HCX.out Try.underlying49 rfl (by kernel_rfl) ?_)
            refine (HK.out).mono ?_
            rintro e w1 ⟨rfl, hg1⟩
            replace d0 := hg1.cell d0
            go_wp2
            refine wp_region_quiet_lit (by kernel_rfl) (by kernel_rfl) ?_
            repeat (first | go_big_quiet_step (fail) | quiet_step (fail))
            refine wpQuiet_nil ?_
            intro _ hw'
            obtain ⟨nq, hw''⟩ := hw'
            subst hw''
            go_wp2
            go_roundw
            case rel => exact ⟨1, by omega, by go_num, HN, Lib.hid ((HG.out.tr hg1).drN _)⟩
            case measure => simp [intOf]; omega
          · obtain ⟨ad', e', _, hcy⟩ := (H.out.gr HG.out).2 j (by omega)
            cases e'
            have d2 := (vat_of hcy).1
            have hpl : lastV l (j + 1) = l[j].P := by unfold lastV; rw [dif_pos ⟨by omega, by omega⟩]; rfl
            obtain ⟨y, hy⟩ : ∃ y, l[j] = y := ⟨_, rfl⟩
            rw [hy] at d2 hpl
            have HPL := Lib.hid hpl
            have hi2 : (j : Int) < (l.length : Int) := by omega
            clear hpl hcy hy
            by_cases hle : x.P ≤ y.P
            · have HN : Hid (leafChk l = 8) := Lib.hid (by
                have h8 : verGo (-1) l = 8 := by rw [HST.out, if_neg (by simpa using HVZ.out), if_pos (by rw [HLS.out, HPL.out]; exact hle)]
                unfold leafChk; rw [if_neg h64, h8]; rfl)
              go_wp2_with (refine ld_at rfl 49 (.tmp 17) rfl _ rfl x.cells.toList _ HCX.out Try.underlying49 rfl (by kernel_rfl) ?_)
              refine (HK.out).mono ?_
              rintro e w1 ⟨rfl, hg1⟩
              replace d0 := hg1.cell d0
              replace d2 := hg1.cell d2
              go_wp2
              refine wp_region_quiet_lit (by kernel_rfl) (by kernel_rfl) ?_
              repeat (first | go_big_quiet_step (fail) | quiet_step (fail))
              refine wpQuiet_nil ?_
              intro _ hw'
              obtain ⟨nq, hw''⟩ := hw'
              subst hw''
              go_wp2
              go_ret
              rw [HN.out]
              exact ⟨rfl, (HG.out.tr hg1).drN _⟩
            · have HN : Hid (verGo (-1) l = verGo (lastV l (j + 1 + 1)) (l.drop (j + 1 + 1))) := Lib.hid (by rw [HST.out, if_neg (by simpa using HVZ.out), if_neg (by rw [HLS.out, HPL.out]; exact hle)])
              go_wp2_with (refine ld_at rfl 49 (.tmp 17) rfl _ rfl x.cells.toList _ HCX.out Try.underlying49 rfl (by kernel_rfl) ?_)
              refine (HK.out).mono ?_
              rintro e w1 ⟨rfl, hg1⟩
              replace d0 := hg1.cell d0
              replace d2 := hg1.cell d2
              go_wp2
              refine wp_region_quiet_lit (by kernel_rfl) (by kernel_rfl) ?_
              repeat (first | go_big_quiet_step (fail) | quiet_step (fail))
              refine wpQuiet_nil ?_
              intro _ hw'
              obtain ⟨nq, hw''⟩ := hw'
              subst hw''
              go_wp2
              go_roundw
              case rel => exact ⟨j + 1 + 1, by omega, by go_num, HN, Lib.hid ((HG.out.tr hg1).drN _)⟩
              case measure => simp [intOf]; omega
        · have hvb : (verChk x != 0) = true := by simp [hv]
          have HN : Hid (leafChk l = verChk x) := Lib.hid (by
            have h8 : verGo (-1) l = verChk x := by rw [HST.out, if_pos hv]
            unfold leafChk; rw [if_neg h64, h8, if_pos hv])
          have HK := Lib.hid hk2
          clear hk2 hv
          go_wp2_with (refine ld_at rfl 49 (.tmp 17) rfl _ rfl x.cells.toList _ HCX.out Try.underlying49 rfl (by kernel_rfl) ?_)
          refine (HK.out).mono ?_
          rintro e w1 ⟨rfl, hg1⟩
          replace d0 := hg1.cell d0
          go_wp2
          go_ret
          rw [HN.out]
          exact ⟨rfl, HG.out.tr hg1⟩
      · have hkk : k = l.length := by omega
        have hi1 : ¬ (k : Int) < (l.length : Int) := by omega
        have hz : verGo (-1) l = 0 := by rw [hch.out, hkk, List.drop_length]; rfl
        have HZ : Hid (leafChk l = if covAny l l = true then 7 else 0) := Lib.hid (by unfold leafChk; rw [if_neg h64, hz]; rfl)
        have g1 := Lib.hid (Gr.rfl' wr)
        clear hz hch
        go_wp2
        go_loopw [5] (fun i wi => ∃ q : Nat, q ≤ l.length ∧ i = .int .i64 q ∧ Hid (covAny l l = covAny l (l.drop q)) ∧ Hid (Gr wr wi)) (fun i _ => l.length - (intOf i).toNat)
        case atStart => exact ⟨0, Nat.zero_le _, rfl, Lib.hid rfl, g1⟩
        case round =>
          clear g1
          obtain ⟨q, hq, rfl, hcq, HI⟩ := hrel
          by_cases hlq : q < l.length
          · have hq1 : (q : Int) < (l.length : Int) := by omega
            obtain ⟨ad, rfl, hvx, hcx⟩ := (H.out.gr (HG.out.tr HI.out)).2 q hlq
            have hst := covAny_step l hlq
            rw [← hcq.out] at hst
            obtain ⟨x, hx⟩ : ∃ x, l[q] = x := ⟨_, rfl⟩
            rw [hx] at hvx hcx hst
            have HST := Lib.hid hst
            have HCX : Hid (∀ j v, x.cells.toList[j]? = some v → wr.cell? ((ad.add (q * 5)).add j) = some v) := Lib.hid fun j v hj => hcx j v (by simpa using hj)
            have hcv := refCov_any (some ad) cap l x wr (H.out.gr (HG.out.tr HI.out))
            clear hst hvx hcx hx hcq
            by_cases hc : covB l x.P x.C = true
            · rw [hc] at hcv
              have HK := Lib.hid hcv
              have HN : Hid (leafChk l = 7) := Lib.hid (by rw [HZ.out, if_pos (by rw [HST.out, hc]; rfl)])
              clear hcv hc
              go_wp2_with (refine ld_at rfl 49 (.tmp 50) rfl _ rfl x.cells.toList _ HCX.out Try.underlying49 rfl (by kernel_rfl) ?_)
              refine (HK.out).mono ?_
              rintro e w1 ⟨rfl, hg1⟩
              go_wp2
              go_ret
              rw [HN.out]
              exact ⟨rfl, (HG.out.tr HI.out).tr hg1⟩
            · have hc : covB l x.P x.C = false := by simpa using hc
              rw [hc] at hcv
              have HK := Lib.hid hcv
              have HN : Hid (covAny l l = covAny l (l.drop (q + 1))) := Lib.hid (by rw [HST.out, hc]; rfl)
              clear hcv hc
              go_wp2_with (refine ld_at rfl 49 (.tmp 50) rfl _ rfl x.cells.toList _ HCX.out Try.underlying49 rfl (by kernel_rfl) ?_)
              refine (HK.out).mono ?_
              rintro e w1 ⟨rfl, hg1⟩
              go_wp2
              go_roundw
              case rel => exact ⟨q + 1, by omega, by go_num, HN, Lib.hid (HI.out.tr hg1)⟩
              case measure => simp [intOf]; omega
          · have hq1 : ¬ (q : Int) < (l.length : Int) := by omega
            have hqq : q = l.length := by omega
            have HN : Hid (leafChk l = 0) := Lib.hid (by rw [HZ.out, if_neg (by rw [hcq.out, hqq, List.drop_length]; simp [covAny])])
            clear hqq
            go_wp2
            go_ret
            rw [HN.out]
            exact ⟨rfl, HG.out.tr HI.out⟩
end Go.Proofs.Ytfobnemocodomaa
