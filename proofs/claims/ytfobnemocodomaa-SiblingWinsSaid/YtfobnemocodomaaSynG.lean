/- All that a leaf stands for: the program's and the document's. -/
import Derived.Test.YtfobnemocodomaaSynE
import Derived.Test.YtfobnemocodomaaWldP
set_option linter.unusedVariables false
set_option linter.unusedSimpArgs false
set_option maxHeartbeats 2000000
namespace Go.Proofs.Ytfobnemocodomaa
open Go.RowKit Go.Great

theorem covGo_take {l : List Vx} {k : Nat} (h : k < l.length) : covGo [] (l.take (k + 1)) = joinL (joinL (covGo [] (l.take k)) l[k].pl) [(l[k].P, l[k].C)] := by
  unfold covGo
  rw [List.take_succ_eq_append_getElem h, List.foldl_append]; rfl
theorem OwnDots.fresh {w : World} {base : Nat} {v : Value} {l : List Dot} (h : OwnDots w base v l) : ∃ A c, v = .slice A l.length c ∧ l.length ≤ c ∧ Dots w A l ∧ ∀ D, A = some D → base ≤ D.block := by
  obtain ⟨A, c, e, hc, hd⟩ := h.dots
  refine ⟨A, c, e, hc, hd, fun D hD => ?_⟩
  subst hD
  rcases h.2 with ⟨e0, _⟩ | ⟨g, cap, cur, e1, hg, _⟩
  · rw [e] at e0; cases e0
  · rw [e] at e1; cases e1; exact hg
set_option maxRecDepth 100000 in
theorem cover1_any (A : Option Addr) (cap : Nat) (l : List Vx) (w : World) (h : Vers w A l) (hcp : ∀ x ∈ l, x.pl.length ≤ x.pc) :
    Calls Try.prog 43 #[.slice A l.length cap] w fun r w' => (∃ A' c, r = .returned (.slice A' (covL l).length c) ∧ (covL l).length ≤ c ∧ Dots w' A' (covL l) ∧ ∀ D, A' = some D → w.heap.size ≤ D.block) ∧ Gr w w' := by
  have H := Lib.hid h; clear h
  have HCP := Lib.hid hcp; clear hcp
  have hm := H.out.1
  have HS := Lib.hid (sLeaf_any A cap l w H.out)
  by_cases hz : leafChk l = 0
  · have hE : Hid (covL l = covGo [] l) := Lib.hid (by unfold covL; rw [if_pos hz])
    rw [hz] at HS
    clear hz
    go_enter Try.func43, Try.ntmps43
    go_wp2_with fail
    refine (HS.out).mono ?_
    rintro r w1 ⟨rfl, g1⟩
    have G1 := Lib.hid g1
    clear g1 HS
    go_wp2
    go_loopw [3, 11] (fun v i wr => ∃ k : Nat, k ≤ l.length ∧ i = .int .i64 k ∧ (∃ A' c, v = .slice A' (covGo [] (l.take k)).length c ∧ (covGo [] (l.take k)).length ≤ c ∧ Hid (Dots wr A' (covGo [] (l.take k))) ∧ Hid (∀ D, A' = some D → w.heap.size ≤ D.block)) ∧ Hid (Gr w wr)) (fun _ i _ => l.length - (intOf i).toNat)
    case atStart => exact ⟨0, Nat.zero_le _, rfl, ⟨none, 0, rfl, Nat.le_refl _, Lib.hid (Dots.nil _ _), Lib.hid (fun _ h => by cases h)⟩, G1⟩
    case round =>
      clear G1
      obtain ⟨k, hk, rfl, ⟨A', c', rfl, hc', HD, HFR⟩, HG⟩ := hrel
      by_cases hlt : k < l.length
      · have hi1 : (k : Int) < (l.length : Int) := by omega
        obtain ⟨ad, rfl, hvx, hcx⟩ := (H.out.gr HG.out).2 k hlt
        have hcpx := HCP.out l[k] (List.getElem_mem hlt)
        have hst := covGo_take hlt
        obtain ⟨x, hx⟩ : ∃ x, l[k] = x := ⟨_, rfl⟩
        rw [hx] at hvx hcx hst hcpx
        obtain ⟨o, ho⟩ : ∃ o, covGo [] (l.take k) = o := ⟨_, rfl⟩
        rw [ho] at hst hc' HD
        have HST := Lib.hid hst
        have HVX := Lib.hid hvx
        have HCX : Hid (∀ j v, x.cells.toList[j]? = some v → wr.cell? ((ad.add (k * 5)).add j) = some v) := Lib.hid fun j v hj => hcx j v (by simpa using hj)
        clear hst hvx hcx hx
        rw [ho]
        clear ho
        go_upto_region 7 with (first
          | refine ld_at rfl 49 (.tmp 13) rfl _ rfl x.cells.toList _ HCX.out Try.underlying49 rfl (by kernel_rfl) ?_
          | refine allocV rfl rfl ?_
          | (refine storeV x rfl (.tmp 5) _ rfl rfl rfl rfl ?_; intro W1 hx1 hg1; obtain ⟨gX, hgX⟩ : ∃ g, wr.heap.size = g := ⟨_, rfl⟩; rw [hgX] at hx1 ⊢; have HX1 := Lib.hid hx1; have G1 := Lib.hid hg1; clear hx1 hg1 hgX))
        obtain ⟨a0, a1, a2, _, _⟩ := bcells HX1.out
        have A0 := Lib.hid a0
        have A1 := Lib.hid a1
        have A2 := Lib.hid a2
        clear a0 a1 a2
        simp only [Act.put, List.setIfInBounds_toArray, List.set_cons_zero, List.set_cons_succ]
        have hSS : Gr W1 W1.drew := (Gr.rfl' _).dr
        refine region_T 7 (fun w' => Gr W1 w') (by kernel_rfl) ?_
        refine anyT_take (i := 0) (v := ?_) (some 15) rfl rfl (by kernel_rfl) (fun _ _ _ h => h) (Or.inl ⟨by rfl, ?_⟩) hSS ?_
        rotate_left
        · intro w' hSw; go_simp; (try with_reducible rfl)
        simp only [Act.put, List.setIfInBounds_toArray, List.set_cons_zero, List.set_cons_succ]
        refine anyT_take (i := 1) (v := ?_) (some 16) rfl rfl (by kernel_rfl) (fun _ _ _ h => h) (Or.inl ⟨by rfl, ?_⟩) hSS ?_
        rotate_left
        · intro w' hSw; go_simp; (try with_reducible rfl)
        simp only [Act.put, List.setIfInBounds_toArray, List.set_cons_zero, List.set_cons_succ]
        refine anyT_take (i := 2) (v := ?_) (some 17) rfl rfl (by kernel_rfl) (fun _ _ _ h => h) (Or.inl ⟨by rfl, ?_⟩) hSS ?_
        rotate_left
        · intro w' hSw; have q := hSw.cell A2.out; go_simp; (try with_reducible rfl)
        simp only [Act.put, List.setIfInBounds_toArray, List.set_cons_zero, List.set_cons_succ]
        refine anyT_take (i := 4) (v := ?_) (some 19) rfl rfl (by kernel_rfl) (fun _ _ _ h => h) (Or.inl ⟨by rfl, ?_⟩) hSS ?_
        rotate_left
        · intro w' hSw; go_simp; (try with_reducible rfl)
        simp only [Act.put, List.setIfInBounds_toArray, List.set_cons_zero, List.set_cons_succ]
        refine anyT_take (i := 5) (v := ?_) (some 20) rfl rfl (by kernel_rfl) (fun _ _ _ h => h) (Or.inl ⟨by rfl, ?_⟩) hSS ?_
        rotate_left
        · intro w' hSw; have q0 := hSw.cell A0.out; have q1 := hSw.cell A1.out; go_simp; (try with_reducible rfl)
        simp only [Act.put, List.setIfInBounds_toArray, List.set_cons_zero, List.set_cons_succ]
        refine anyT_callG (i := 3) (some 18) 96 #[.slice A' o.length c', .slice x.A x.pl.length x.pc] (by kernel_rfl) rfl (by kernel_rfl) rfl (by kernel_rfl) ?_
        refine (Join_any A' x.A c' x.pc o x.pl _ (HD.out.gr (G1.out.tr hSS)) (HVX.out.1.gr (G1.out.tr hSS)) hc' hcpx).mono ?_
        rintro e wd ⟨v1, rfl, ho1, hgd⟩
        obtain ⟨B1, b1, rfl, hb1, hD1⟩ := ho1.dots
        replace hSS := hSS.tr hgd
        have HD1 := Lib.hid hD1
        clear hgd ho1 hD1
        refine ⟨_, rfl, fun _ => hSS, ?_⟩
        simp only [Act.put, List.setIfInBounds_toArray, List.set_cons_zero, List.set_cons_succ]
        refine anyT_callG (i := 6) (some 21) 95 #[.slice B1 (joinL o x.pl).length b1, .agg #[.int .i64 x.P, .int .i64 x.C]] (by kernel_rfl) rfl (by kernel_rfl) rfl (by kernel_rfl) ?_
        refine (With_any B1 b1 (joinL o x.pl) x.P x.C _ HD1.out hb1).mono ?_
        rintro e we ⟨v2, rfl, ho2, hgd⟩
        obtain ⟨B2, b2, rfl, hb2, hD2, hfr⟩ := ho2.fresh
        have HFR2 := Lib.hid (fun D hD => Nat.le_trans (HG.out.tr (G1.out.tr hSS)).size (hfr D hD))
        clear hfr
        replace hSS := hSS.tr hgd
        have HD2 := Lib.hid hD2
        clear hgd ho2 hD2
        refine ⟨_, rfl, fun _ => hSS, ?_⟩
        simp only [Act.put, List.setIfInBounds_toArray, List.set_cons_zero, List.set_cons_succ]
        refine anyT_last (some 3) (.slice B2 (joinL (joinL o x.pl) [(x.P, x.C)]).length b2) (by kernel_rfl) (by kernel_rfl) rfl (by kernel_rfl) rfl (by kernel_rfl) ?_
        simp only [Act.put, List.setIfInBounds_toArray, List.set_cons_zero, List.set_cons_succ]
        go_wp2
        go_roundw
        case rel => exact ⟨k + 1, by omega, by go_num, ⟨B2, b2, by rw [HST.out], by rw [HST.out]; exact hb2, Lib.hid (by rw [HST.out]; exact HD2.out), HFR2⟩, Lib.hid (HG.out.tr (G1.out.tr hSS))⟩
        case measure => simp [intOf]; omega
      · have hkk : k = l.length := by omega
        subst hkk
        rw [List.take_length] at HD hc'
        rw [List.take_length]
        go_wp2
        go_ret
        rw [hE.out]
        exact ⟨⟨A', c', rfl, hc', HD.out, HFR.out⟩, HG.out⟩
  · have hE : Hid (covL l = []) := Lib.hid (by unfold covL; rw [if_neg hz])
    have hzb : (leafChk l != 0) = true := by simpa using hz
    clear hz
    go_enter Try.func43, Try.ntmps43
    go_wp2_with fail
    refine (HS.out).mono ?_
    rintro r w1 ⟨rfl, g1⟩
    go_wp2
    go_ret
    rw [hE.out]
    exact ⟨⟨none, 0, rfl, Nat.le_refl _, Dots.nil _ _, fun _ h => by cases h⟩, g1⟩
set_option maxRecDepth 100000 in
theorem cover2_any (A : Option Addr) (cap : Nat) (l : List Vx) (w : World) (h : Vers w A l) :
    Calls Try.prog 44 #[.slice A l.length cap] w fun r w' => (∃ A' c, r = .returned (.slice A' (covL l).length c) ∧ (covL l).length ≤ c ∧ Dots w' A' (covL l)) ∧ Gr w w' := by
  have H := Lib.hid h; clear h
  have hm := H.out.1
  have HS := Lib.hid (refLeaf_any A cap l w H.out)
  by_cases hz : leafChk l = 0
  · have hE : Hid (covL l = covGo [] l) := Lib.hid (by unfold covL; rw [if_pos hz])
    rw [hz] at HS
    clear hz
    go_enter Try.func44, Try.ntmps44
    go_wp2_with fail
    refine (HS.out).mono ?_
    rintro r w1 ⟨rfl, g1⟩
    have G1 := Lib.hid g1
    clear g1 HS
    go_wp2
    go_loopw [3, 4] (fun v i wr => ∃ k : Nat, k ≤ l.length ∧ i = .int .i64 k ∧ (∃ A' c, v = .slice A' (covGo [] (l.take k)).length c ∧ (covGo [] (l.take k)).length ≤ c ∧ Hid (Dots wr A' (covGo [] (l.take k)))) ∧ Hid (Gr w wr)) (fun _ i _ => l.length - (intOf i).toNat)
    case atStart => exact ⟨0, Nat.zero_le _, rfl, ⟨none, 0, rfl, Nat.le_refl _, Lib.hid (Dots.nil _ _)⟩, G1⟩
    case round =>
      clear G1
      obtain ⟨k, hk, rfl, ⟨A', c', rfl, hc', HD⟩, HG⟩ := hrel
      by_cases hlt : k < l.length
      · have hi1 : (k : Int) < (l.length : Int) := by omega
        obtain ⟨ad, rfl, hvx, hcx⟩ := (H.out.gr HG.out).2 k hlt
        have hst := covGo_take hlt
        obtain ⟨x, hx⟩ : ∃ x, l[k] = x := ⟨_, rfl⟩
        rw [hx] at hvx hcx hst
        obtain ⟨o, ho⟩ : ∃ o, covGo [] (l.take k) = o := ⟨_, rfl⟩
        rw [ho] at hst hc' HD
        rw [join_eq o x.pl, join_eq _ [(x.P, x.C)]] at hst
        have HST := Lib.hid hst
        have HVX := Lib.hid hvx
        have HVA := Lib.hid (vat_of hcx)
        clear hst hvx hcx hx
        rw [ho]
        clear ho
        obtain ⟨_, _, d2, _, _⟩ := HVA.out
        go_wp2_with fail
        refine (refJoin_any A' x.A c' x.pc o x.pl _ (HD.out.gr (Gr.rfl' _)) (HVX.out.1.gr (Gr.rfl' _))).mono ?_
        rintro e wd ⟨v1, rfl, ho1, hgd⟩
        obtain ⟨B1, b1, rfl, hb1, hD1⟩ := ho1.dots
        have HD1 := Lib.hid hD1
        have GD := Lib.hid hgd
        clear ho1 hD1 hgd d2
        have hva := HVA.out.gr GD.out
        obtain ⟨d0, d1, _, _, _⟩ := hva
        go_wp2_with fail
        refine (refWith_any B1 b1 (refJoinL o x.pl) x.P x.C _ HD1.out).mono ?_
        rintro e we ⟨v2, rfl, ho2, hge⟩
        obtain ⟨B2, b2, rfl, hb2, hD2⟩ := ho2.dots
        have HD2 := Lib.hid hD2
        clear ho2 hD2 d0 d1
        go_wp2
        go_roundw
        case rel => exact ⟨k + 1, by omega, by go_num, ⟨B2, b2, by rw [HST.out], by rw [HST.out]; exact hb2, Lib.hid (by rw [HST.out]; exact HD2.out)⟩, Lib.hid (HG.out.tr (GD.out.tr hge))⟩
        case measure => simp [intOf]; omega
      · have hkk : k = l.length := by omega
        subst hkk
        rw [List.take_length] at HD hc'
        rw [List.take_length]
        go_wp2
        go_ret
        rw [hE.out]
        exact ⟨⟨A', c', rfl, hc', HD.out⟩, HG.out⟩
  · have hE : Hid (covL l = []) := Lib.hid (by unfold covL; rw [if_neg hz])
    have hzb : (leafChk l != 0) = true := by simpa using hz
    clear hz
    go_enter Try.func44, Try.ntmps44
    go_wp2_with fail
    refine (HS.out).mono ?_
    rintro r w1 ⟨rfl, g1⟩
    go_wp2
    go_ret
    rw [hE.out]
    exact ⟨⟨none, 0, rfl, Nat.le_refl _, Dots.nil _ _⟩, g1⟩
end Go.Proofs.Ytfobnemocodomaa
