/- Joined texts: SynG SynH SynI SynM SynN SynO. -/
import Derived.Test.YtfobnemocodomaaZBe
import Derived.Test.YtfobnemocodomaaZBp
import Derived.Test.YtfobnemocodomaaZBi
set_option linter.unusedVariables false
set_option linter.unusedSimpArgs false
set_option maxHeartbeats 2000000
namespace Go.Proofs.Ytfobnemocodomaa
open Go.RowKit Go.Great

theorem covGo_take {l : List Vx} {k : Nat} (h : k < l.length) : covGo [] (l.take (k + 1)) = joinL (joinL (covGo [] (l.take k)) l[k].pl) [(l[k].P, l[k].C)] := by
  unfold covGo
  rw [List.take_succ_eq_append_getElem h, List.foldl_append]; rfl
theorem OwnDots.fresh {w : World} {base : Nat} {v : Value} {l : List Dot} (h : OwnDots w base v l) : ∃ A c, v = .slice A l.length c ∧ l.length ≤ c ∧ Dots w A l ∧ ∀ D, A = some D → base ≤ D.block := by
  obtain ⟨A, c, e, hc, hd⟩ := h.dots
  refine ⟨A, c, e, hc, hd, fun D hD => ?_⟩
  subst hD
  rcases h.2 with ⟨e0, _⟩ | ⟨g, cap, cur, e1, hg, _⟩
  · rw [e] at e0; cases e0
  · rw [e] at e1; cases e1; exact hg
set_option maxRecDepth 100000 in
theorem cover1_any (A : Option Addr) (cap : Nat) (l : List Vx) (w : World) (h : Vers w A l) (hcp : ∀ x ∈ l, x.pl.length ≤ x.pc) :
    Calls Try.prog 43 #[.slice A l.length cap] w fun r w' => (∃ A' c, r = .returned (.slice A' (covL l).length c) ∧ (covL l).length ≤ c ∧ Dots w' A' (covL l) ∧ ∀ D, A' = some D → w.heap.size ≤ D.block) ∧ Gr w w' := by
  have H := Lib.hid h; clear h
  have HCP := Lib.hid hcp; clear hcp
  have hm := H.out.1
  have HS := Lib.hid (sLeaf_any A cap l w H.out)
  by_cases hz : leafChk l = 0
  · have hE : Hid (covL l = covGo [] l) := Lib.hid (by unfold covL; rw [if_pos hz])
    rw [hz] at HS
    clear hz
    go_enter Try.func43, Try.ntmps43
    go_wp2_with fail
    refine (HS.out).mono ?_
    rintro r w1 ⟨rfl, g1⟩
    have G1 := Lib.hid g1
    clear g1 HS
    go_wp2
    go_loopw [3, 11] (fun v i wr => ∃ k : Nat, k ≤ l.length ∧ i = .int .i64 k ∧ (∃ A' c, v = .slice A' (covGo [] (l.take k)).length c ∧ (covGo [] (l.take k)).length ≤ c ∧ Hid (Dots wr A' (covGo [] (l.take k))) ∧ Hid (∀ D, A' = some D → w.heap.size ≤ D.block)) ∧ Hid (Gr w wr)) (fun _ i _ => l.length - (intOf i).toNat)
    case atStart => exact ⟨0, Nat.zero_le _, rfl, ⟨none, 0, rfl, Nat.le_refl _, Lib.hid (Dots.nil _ _), Lib.hid (fun _ h => by cases h)⟩, G1⟩
    case round =>
      clear G1
      obtain ⟨k, hk, rfl, ⟨A', c', rfl, hc', HD, HFR⟩, HG⟩ := hrel
      by_cases hlt : k < l.length
      · have hi1 : (k : Int) < (l.length : Int) := by omega
        obtain ⟨ad, rfl, hvx, hcx⟩ := (H.out.gr HG.out).2 k hlt
        have hcpx := HCP.out l[k] (List.getElem_mem hlt)
        have hst := covGo_take hlt
        obtain ⟨x, hx⟩ : ∃ x, l[k] = x := ⟨_, rfl⟩
        rw [hx] at hvx hcx hst hcpx
        obtain ⟨o, ho⟩ : ∃ o, covGo [] (l.take k) = o := ⟨_, rfl⟩
        rw [ho] at hst hc' HD
        have HST := Lib.hid hst
        have HVX := Lib.hid hvx
        have HCX : Hid (∀ j v, x.cells.toList[j]? = some v → wr.cell? ((ad.add (k * 5)).add j) = some v) := Lib.hid fun j v hj => hcx j v (by simpa using hj)
        clear hst hvx hcx hx
        rw [ho]
        clear ho
        go_upto_region 7 with (first
          | refine ld_at rfl 49 (.tmp 13) rfl _ rfl x.cells.toList _ HCX.out Try.underlying49 rfl (by kernel_rfl) ?_
          | refine allocV rfl rfl ?_
          | (refine storeV x rfl (.tmp 5) _ rfl rfl rfl rfl ?_; intro W1 hx1 hg1; obtain ⟨gX, hgX⟩ : ∃ g, wr.heap.size = g := ⟨_, rfl⟩; rw [hgX] at hx1 ⊢; have HX1 := Lib.hid hx1; have G1 := Lib.hid hg1; clear hx1 hg1 hgX))
        obtain ⟨a0, a1, a2, _, _⟩ := bcells HX1.out
        have A0 := Lib.hid a0
        have A1 := Lib.hid a1
        have A2 := Lib.hid a2
        clear a0 a1 a2
        simp only [Act.put, List.setIfInBounds_toArray, List.set_cons_zero, List.set_cons_succ]
        have hSS : Gr W1 W1.drew := (Gr.rfl' _).dr
        refine region_T 7 (fun w' => Gr W1 w') (by kernel_rfl) ?_
        refine anyT_take (i := 0) (v := ?_) (some 15) rfl rfl (by kernel_rfl) (fun _ _ _ h => h) (Or.inl ⟨by rfl, ?_⟩) hSS ?_
        rotate_left
        · intro w' hSw; go_simp; (try with_reducible rfl)
        simp only [Act.put, List.setIfInBounds_toArray, List.set_cons_zero, List.set_cons_succ]
        refine anyT_take (i := 1) (v := ?_) (some 16) rfl rfl (by kernel_rfl) (fun _ _ _ h => h) (Or.inl ⟨by rfl, ?_⟩) hSS ?_
        rotate_left
        · intro w' hSw; go_simp; (try with_reducible rfl)
        simp only [Act.put, List.setIfInBounds_toArray, List.set_cons_zero, List.set_cons_succ]
        refine anyT_take (i := 2) (v := ?_) (some 17) rfl rfl (by kernel_rfl) (fun _ _ _ h => h) (Or.inl ⟨by rfl, ?_⟩) hSS ?_
        rotate_left
        · intro w' hSw; have q := hSw.cell A2.out; go_simp; (try with_reducible rfl)
        simp only [Act.put, List.setIfInBounds_toArray, List.set_cons_zero, List.set_cons_succ]
        refine anyT_take (i := 4) (v := ?_) (some 19) rfl rfl (by kernel_rfl) (fun _ _ _ h => h) (Or.inl ⟨by rfl, ?_⟩) hSS ?_
        rotate_left
        · intro w' hSw; go_simp; (try with_reducible rfl)
        simp only [Act.put, List.setIfInBounds_toArray, List.set_cons_zero, List.set_cons_succ]
        refine anyT_take (i := 5) (v := ?_) (some 20) rfl rfl (by kernel_rfl) (fun _ _ _ h => h) (Or.inl ⟨by rfl, ?_⟩) hSS ?_
        rotate_left
        · intro w' hSw; have q0 := hSw.cell A0.out; have q1 := hSw.cell A1.out; go_simp; (try with_reducible rfl)
        simp only [Act.put, List.setIfInBounds_toArray, List.set_cons_zero, List.set_cons_succ]
        refine anyT_callG (i := 3) (some 18) 96 #[.slice A' o.length c', .slice x.A x.pl.length x.pc] (by kernel_rfl) rfl (by kernel_rfl) rfl (by kernel_rfl) ?_
        refine (Join_any A' x.A c' x.pc o x.pl _ (HD.out.gr (G1.out.tr hSS)) (HVX.out.1.gr (G1.out.tr hSS)) hc' hcpx).mono ?_
        rintro e wd ⟨v1, rfl, ho1, hgd⟩
        obtain ⟨B1, b1, rfl, hb1, hD1⟩ := ho1.dots
        replace hSS := hSS.tr hgd
        have HD1 := Lib.hid hD1
        clear hgd ho1 hD1
        refine ⟨_, rfl, fun _ => hSS, ?_⟩
        simp only [Act.put, List.setIfInBounds_toArray, List.set_cons_zero, List.set_cons_succ]
        refine anyT_callG (i := 6) (some 21) 95 #[.slice B1 (joinL o x.pl).length b1, .agg #[.int .i64 x.P, .int .i64 x.C]] (by kernel_rfl) rfl (by kernel_rfl) rfl (by kernel_rfl) ?_
        refine (With_any B1 b1 (joinL o x.pl) x.P x.C _ HD1.out hb1).mono ?_
        rintro e we ⟨v2, rfl, ho2, hgd⟩
        obtain ⟨B2, b2, rfl, hb2, hD2, hfr⟩ := ho2.fresh
        have HFR2 := Lib.hid (fun D hD => Nat.le_trans (HG.out.tr (G1.out.tr hSS)).size (hfr D hD))
        clear hfr
        replace hSS := hSS.tr hgd
        have HD2 := Lib.hid hD2
        clear hgd ho2 hD2
        refine ⟨_, rfl, fun _ => hSS, ?_⟩
        simp only [Act.put, List.setIfInBounds_toArray, List.set_cons_zero, List.set_cons_succ]
        refine anyT_last (some 3) (.slice B2 (joinL (joinL o x.pl) [(x.P, x.C)]).length b2) (by kernel_rfl) (by kernel_rfl) rfl (by kernel_rfl) rfl (by kernel_rfl) ?_
        simp only [Act.put, List.setIfInBounds_toArray, List.set_cons_zero, List.set_cons_succ]
        go_wp2
        go_roundw
        case rel => exact ⟨k + 1, by omega, by go_num, ⟨B2, b2, by rw [HST.out], by rw [HST.out]; exact hb2, Lib.hid (by rw [HST.out]; exact HD2.out), HFR2⟩, Lib.hid (HG.out.tr (G1.out.tr hSS))⟩
        case measure => simp [intOf]; omega
      · have hkk : k = l.length := by omega
        subst hkk
        rw [List.take_length] at HD hc'
        rw [List.take_length]
        go_wp2
        go_ret
        rw [hE.out]
        exact ⟨⟨A', c', rfl, hc', HD.out, HFR.out⟩, HG.out⟩
  · have hE : Hid (covL l = []) := Lib.hid (by unfold covL; rw [if_neg hz])
    have hzb : (leafChk l != 0) = true := by simpa using hz
    clear hz
    go_enter Try.func43, Try.ntmps43
    go_wp2_with fail
    refine (HS.out).mono ?_
    rintro r w1 ⟨rfl, g1⟩
    go_wp2
    go_ret
    rw [hE.out]
    exact ⟨⟨none, 0, rfl, Nat.le_refl _, Dots.nil _ _, fun _ h => by cases h⟩, g1⟩
set_option maxRecDepth 100000 in
theorem cover2_any (A : Option Addr) (cap : Nat) (l : List Vx) (w : World) (h : Vers w A l) :
    Calls Try.prog 44 #[.slice A l.length cap] w fun r w' => (∃ A' c, r = .returned (.slice A' (covL l).length c) ∧ (covL l).length ≤ c ∧ Dots w' A' (covL l)) ∧ Gr w w' := by
  have H := Lib.hid h; clear h
  have hm := H.out.1
  have HS := Lib.hid (refLeaf_any A cap l w H.out)
  by_cases hz : leafChk l = 0
  · have hE : Hid (covL l = covGo [] l) := Lib.hid (by unfold covL; rw [if_pos hz])
    rw [hz] at HS
    clear hz
    go_enter Try.func44, Try.ntmps44
    go_wp2_with fail
    refine (HS.out).mono ?_
    rintro r w1 ⟨rfl, g1⟩
    have G1 := Lib.hid g1
    clear g1 HS
    go_wp2
    go_loopw [3, 4] (fun v i wr => ∃ k : Nat, k ≤ l.length ∧ i = .int .i64 k ∧ (∃ A' c, v = .slice A' (covGo [] (l.take k)).length c ∧ (covGo [] (l.take k)).length ≤ c ∧ Hid (Dots wr A' (covGo [] (l.take k)))) ∧ Hid (Gr w wr)) (fun _ i _ => l.length - (intOf i).toNat)
    case atStart => exact ⟨0, Nat.zero_le _, rfl, ⟨none, 0, rfl, Nat.le_refl _, Lib.hid (Dots.nil _ _)⟩, G1⟩
    case round =>
      clear G1
      obtain ⟨k, hk, rfl, ⟨A', c', rfl, hc', HD⟩, HG⟩ := hrel
      by_cases hlt : k < l.length
      · have hi1 : (k : Int) < (l.length : Int) := by omega
        obtain ⟨ad, rfl, hvx, hcx⟩ := (H.out.gr HG.out).2 k hlt
        have hst := covGo_take hlt
        obtain ⟨x, hx⟩ : ∃ x, l[k] = x := ⟨_, rfl⟩
        rw [hx] at hvx hcx hst
        obtain ⟨o, ho⟩ : ∃ o, covGo [] (l.take k) = o := ⟨_, rfl⟩
        rw [ho] at hst hc' HD
        rw [join_eq o x.pl, join_eq _ [(x.P, x.C)]] at hst
        have HST := Lib.hid hst
        have HVX := Lib.hid hvx
        have HVA := Lib.hid (vat_of hcx)
        clear hst hvx hcx hx
        rw [ho]
        clear ho
        obtain ⟨_, _, d2, _, _⟩ := HVA.out
        go_wp2_with fail
        refine (refJoin_any A' x.A c' x.pc o x.pl _ (HD.out.gr (Gr.rfl' _)) (HVX.out.1.gr (Gr.rfl' _))).mono ?_
        rintro e wd ⟨v1, rfl, ho1, hgd⟩
        obtain ⟨B1, b1, rfl, hb1, hD1⟩ := ho1.dots
        have HD1 := Lib.hid hD1
        have GD := Lib.hid hgd
        clear ho1 hD1 hgd d2
        have hva := HVA.out.gr GD.out
        obtain ⟨d0, d1, _, _, _⟩ := hva
        go_wp2_with fail
        refine (refWith_any B1 b1 (refJoinL o x.pl) x.P x.C _ HD1.out).mono ?_
        rintro e we ⟨v2, rfl, ho2, hge⟩
        obtain ⟨B2, b2, rfl, hb2, hD2⟩ := ho2.dots
        have HD2 := Lib.hid hD2
        clear ho2 hD2 d0 d1
        go_wp2
        go_roundw
        case rel => exact ⟨k + 1, by omega, by go_num, ⟨B2, b2, by rw [HST.out], by rw [HST.out]; exact hb2, Lib.hid (by rw [HST.out]; exact HD2.out)⟩, Lib.hid (HG.out.tr (GD.out.tr hge))⟩
        case measure => simp [intOf]; omega
      · have hkk : k = l.length := by omega
        subst hkk
        rw [List.take_length] at HD hc'
        rw [List.take_length]
        go_wp2
        go_ret
        rw [hE.out]
        exact ⟨⟨A', c', rfl, hc', HD.out⟩, HG.out⟩
  · have hE : Hid (covL l = []) := Lib.hid (by unfold covL; rw [if_neg hz])
    have hzb : (leafChk l != 0) = true := by simpa using hz
    clear hz
    go_enter Try.func44, Try.ntmps44
    go_wp2_with fail
    refine (HS.out).mono ?_
    rintro r w1 ⟨rfl, g1⟩
    go_wp2
    go_ret
    rw [hE.out]
    exact ⟨⟨none, 0, rfl, Nat.le_refl _, Dots.nil _ _⟩, g1⟩
end Go.Proofs.Ytfobnemocodomaa
set_option linter.unusedVariables false
set_option linter.unusedSimpArgs false
set_option maxHeartbeats 2000000
namespace Go.Proofs.Ytfobnemocodomaa
open Go.RowKit Go.Great

/-- what comes of writing over a leaf -/
def OverR (l : List Vx) (p c : Int) (d : Bool) (t : ByteArray) (e : Int) (res : List Vx) : Prop :=
  (hasV (covL l) p c = true ∧ e = 8 ∧ res = []) ∨ (hasV (covL l) p c = false ∧ e = 0 ∧ ∃ A c', res = [⟨p, c, A, covL l, c', d, t⟩] ∧ (covL l).length ≤ c')
theorem OverR.same {l : List Vx} {p c : Int} {d : Bool} {t : ByteArray} {e e' : Int} {res res' : List Vx} (h : OverR l p c d t e res) (k : OverR l p c d t e' res') : e = e' ∧ vsames res res' = true := by
  rcases h with ⟨h1, rfl, rfl⟩ | ⟨h1, rfl, A, c1, rfl, _⟩ <;> rcases k with ⟨k1, rfl, rfl⟩ | ⟨k1, rfl, B, c2, rfl, _⟩
  · exact ⟨rfl, rfl⟩
  · rw [h1] at k1; cases k1
  · rw [h1] at k1; cases k1
  · exact ⟨rfl, by simp [vsames, vsame]⟩
/-- a row of one version, made -/
def Made1 (w : World) (A : Option Addr) (c : Nat) (res : List Vx) : Prop := Vers w A res ∧ res.length ≤ c ∧ ∀ x ∈ res, x.pl.length ≤ x.pc
theorem vers_one {w : World} (x : Vx) (h : VxOk w x) (hc : x.pl.length ≤ x.pc) : Made1 (w.alloc (.cells x.cells 49)) (some ⟨w.heap.size, 0, none⟩) 1 [x] := by
  have hg : Gr w (w.alloc (.cells x.cells 49)) := (Gr.rfl' w).al _
  refine ⟨⟨by simp, fun i hi => ⟨_, rfl, ?_, fun j v hj => ?_⟩⟩, by simp, fun y hy => by simp at hy; subst hy; exact hc⟩
  · obtain rfl : i = 0 := by simpa using hi
    exact h.gr hg
  · obtain rfl : i = 0 := by simpa using hi
    have := vNew w x j v (by simpa using hj)
    rw [Nat.zero_mul, Addr.add_zero']
    exact this
/-- what a result points to is new -/
def NewV (N : Nat) (B : Option Addr) (res : List Vx) : Prop := (∀ D, B = some D → N ≤ D.block) ∧ ∀ x ∈ res, ∀ D, x.A = some D → N ≤ D.block
theorem NewV.nil (N : Nat) : NewV N none [] := ⟨fun _ h => (by cases h), fun x hx => by simp at hx⟩
theorem NewV.lower {N M : Nat} {B : Option Addr} {res : List Vx} (h : NewV N B res) (k : M ≤ N) : NewV M B res := ⟨fun D hD => Nat.le_trans k (h.1 D hD), fun x hx D hD => Nat.le_trans k (h.2 x hx D hD)⟩
set_option maxRecDepth 100000 in
theorem over1_fr (A : Option Addr) (cap : Nat) (l : List Vx) (P C : Int) (D : Bool) (T : ByteArray) (w : World) (h : Vers w A l) (hcp : ∀ x ∈ l, x.pl.length ≤ x.pc) (hT : T.size ≤ 9223372036854775807) :
    Calls Try.prog 102 #[.slice A l.length cap, .agg (⟨P, C, none, [], 0, D, T⟩ : Vx).cells] w fun r w' => (∃ e res B c, r = .returned (.tuple #[.slice B res.length c, .int .i64 e]) ∧ OverR l P C D T e res ∧ Made1 w' B c res ∧ NewV w.heap.size B res) ∧ Gr w w' := by
  have H := Lib.hid h; clear h
  have hga : Gr w (w.alloc (.cells (⟨P, C, none, [], 0, D, T⟩ : Vx).cells 49)) := (Gr.rfl' w).al _
  have hn := World.alloc_heap_new w (.cells (⟨P, C, none, [], 0, D, T⟩ : Vx).cells 49)
  have HN := Lib.hid hn
  have HG := Lib.hid hga
  have HC := Lib.hid (cover1_any A cap l _ (H.out.gr hga) hcp)
  clear hn hga hcp
  go_enter Try.func102, Try.ntmps102
  go_upto_region 1 with (fail)
  obtain ⟨W, hW⟩ : ∃ W, w.alloc (.cells (⟨P, C, none, [], 0, D, T⟩ : Vx).cells 49) = W := ⟨_, rfl⟩
  rw [hW] at HN HG HC ⊢
  clear hW
  go_wp2_with fail
  refine (HC.out).mono ?_
  rintro r w1 ⟨⟨A', c', rfl, hc', hD, hfr⟩, hg1⟩
  have hn1 := (hg1.block _ (Array.getElem?_eq_some_iff.1 HN.out).1).trans HN.out
  have N1 := Lib.hid hn1
  have G1 := Lib.hid (HG.out.tr hg1)
  have hs1 : w.heap.size < w1.heap.size := (Array.getElem?_eq_some_iff.1 hn1).1
  obtain ⟨_, _, c2, _, _⟩ := bcells hn1
  have f2 : w1.frozen? ⟨w.heap.size, 2, none⟩ = false := by simp [World.frozen?, hn1]
  obtain ⟨ov, hov⟩ : ∃ o, covL l = o := ⟨_, rfl⟩
  have hset : (w1.setCell ⟨w.heap.size, 2, none⟩ (.slice A' ov.length c')).heap[w.heap.size]? = some (.cells (⟨P, C, A', ov, c', D, T⟩ : Vx).cells 49 (0, 0)) := by
    rw [rg_set_same hn1]; rfl
  have hgs : Gr w (w1.setCell ⟨w.heap.size, 2, none⟩ (.slice A' ov.length c')) := G1.out.set (Nat.le_refl _) _
  rw [hov] at hD hc' ⊢
  have hD2 : Dots (w1.setCell ⟨w.heap.size, 2, none⟩ (.slice A' ov.length c')) A' ov := by
    refine ⟨hD.1, fun i hi => ?_⟩
    obtain ⟨ad, rfl, k0, k1⟩ := hD.2 i hi
    have hb : ad.block ≠ w.heap.size := by have h1 := hfr ad rfl; have h2 := (Array.getElem?_eq_some_iff.1 HN.out).1; omega
    have key : ∀ (p : Addr) (v : Value), p.block = ad.block → w1.cell? p = some v → (w1.setCell ⟨w.heap.size, 2, none⟩ (.slice (some ad) ov.length c')).cell? p = some v := fun p v hp hv => by
      have e : (w1.setCell ⟨w.heap.size, 2, none⟩ (.slice (some ad) ov.length c')).heap[p.block]? = w1.heap[p.block]? := Below.heap_setCell _ _ _ _ (by rw [hp]; exact hb)
      rw [← hv]
      simp only [World.cell?, e]
    exact ⟨ad, rfl, key _ _ (by unfold Addr.add; split <;> rfl) k0, key _ _ (by show (ad.add (i * 2)).block = _; unfold Addr.add; split <;> rfl) k1⟩
  have HS := Lib.hid hset
  have HGS := Lib.hid hgs
  have HD2 := Lib.hid hD2
  have HOV := Lib.hid hov
  have HFR : Hid (∀ D, A' = some D → w.heap.size ≤ D.block) := Lib.hid (fun D hD => by have h1 := hfr D hD; have h2 := (Array.getElem?_eq_some_iff.1 HN.out).1; omega)
  go_upto_region 2 with (fail)
  clear hn1 c2 f2 hset hgs hD2 hov hs1 hfr hD hg1
  generalize w1.setCell ⟨w.heap.size, 2, none⟩ (.slice A' ov.length c') = w2 at HS HGS HD2 ⊢
  obtain ⟨c0, c1, c2, _, _⟩ := bcells HS.out
  have hh := Has_any A' c' ov P C w2 HD2.out
  by_cases hb : hasV ov P C = true
  · rw [hb] at hh
    have HH := Lib.hid hh
    have HB := Lib.hid hb
    clear hh hb
    go_wp2_with fail
    refine (HH.out).mono ?_
    rintro r w3 ⟨rfl, g3⟩
    go_wp2
    go_ret2
    exact ⟨⟨8, [], none, 0, rfl, Or.inl ⟨by rw [HOV.out]; exact HB.out, rfl, rfl⟩, ⟨Vers.nil _ _, Nat.le_refl _, by simp⟩, NewV.nil _⟩, HGS.out.tr g3⟩
  · have hb : hasV ov P C = false := by simpa using hb
    rw [hb] at hh
    have HH := Lib.hid hh
    have HB := Lib.hid hb
    clear hh hb
    go_wp2_with fail
    refine (HH.out).mono ?_
    rintro r w3 ⟨rfl, g3⟩
    have HS3 := Lib.hid ((g3.block _ (Array.getElem?_eq_some_iff.1 HS.out).1).trans HS.out)
    have G3 := Lib.hid (HGS.out.tr g3)
    have HM := Lib.hid (vers_one (w := w3) ⟨P, C, A', ov, c', D, T⟩ ⟨HD2.out.gr g3, hT⟩ hc')
    have HNW : Hid (NewV w.heap.size (some ⟨w3.heap.size, 0, none⟩) [⟨P, C, A', ov, c', D, T⟩]) := Lib.hid ⟨fun D hD => by cases hD; exact G3.out.size, fun x hx D hD => by simp at hx; subst hx; exact HFR.out D hD⟩
    have HGA := Lib.hid ((Gr.rfl' w3).al (.cells (⟨P, C, A', ov, c', D, T⟩ : Vx).cells 49))
    clear g3 c0 c1 c2
    go_wp2_with (first
      | refine wpList_load_row rfl 49 (.tmp 3) rfl w.heap.size rfl 49 #[.int .i64 P, .int .i64 C, .slice A' ov.length c', .bool D, .string T] (0, 0) _ HS3.out Try.underlying49 rfl (by kernel_rfl) ?_)
    go_ret2
    exact ⟨⟨0, [⟨P, C, A', ov, c', D, T⟩], some ⟨w3.heap.size, 0, none⟩, 1, rfl, Or.inr ⟨by rw [HOV.out]; exact HB.out, rfl, A', c', by rw [HOV.out], by rw [HOV.out]; exact hc'⟩, HM.out, HNW.out⟩, G3.out.tr HGA.out⟩
theorem over1_any (A : Option Addr) (cap : Nat) (l : List Vx) (P C : Int) (D : Bool) (T : ByteArray) (w : World) (h : Vers w A l) (hcp : ∀ x ∈ l, x.pl.length ≤ x.pc) (hT : T.size ≤ 9223372036854775807) :
    Calls Try.prog 102 #[.slice A l.length cap, .agg (⟨P, C, none, [], 0, D, T⟩ : Vx).cells] w fun r w' => (∃ e res B c, r = .returned (.tuple #[.slice B res.length c, .int .i64 e]) ∧ OverR l P C D T e res ∧ Made1 w' B c res) ∧ Gr w w' :=
  (over1_fr A cap l P C D T w h hcp hT).mono (by rintro r w' ⟨⟨e, res, B, c, h1, h2, h3, _⟩, g⟩; exact ⟨⟨e, res, B, c, h1, h2, h3⟩, g⟩)
set_option maxRecDepth 100000 in
theorem over2_any (A : Option Addr) (cap : Nat) (l : List Vx) (P C : Int) (D : Bool) (T : ByteArray) (w : World) (h : Vers w A l) (hT : T.size ≤ 9223372036854775807) :
    Calls Try.prog 103 #[.slice A l.length cap, .agg #[.int .i64 P, .int .i64 C], .bool D, .string T] w fun r w' => (∃ e res B c, r = .returned (.tuple #[.slice B res.length c, .int .i64 e]) ∧ OverR l P C D T e res ∧ Made1 w' B c res) ∧ Gr w w' := by
  have H := Lib.hid h; clear h
  have hga : Gr w (w.alloc (.cells #[.int .i64 P, .int .i64 C] 47)) := (Gr.rfl' w).al _
  have hn := World.alloc_heap_new w (.cells #[.int .i64 P, .int .i64 C] 47)
  have HN := Lib.hid hn
  have HG := Lib.hid hga
  have HC := Lib.hid (cover2_any A cap l _ (H.out.gr hga))
  clear hn hga
  go_enter Try.func103, Try.ntmps103
  go_upto_region 1 with (fail)
  obtain ⟨W, hW⟩ : ∃ W, w.alloc (.cells #[.int .i64 P, .int .i64 C] 47) = W := ⟨_, rfl⟩
  rw [hW] at HN HG HC ⊢
  clear hW
  go_wp2_with fail
  refine (HC.out).mono ?_
  rintro r w1 ⟨⟨A', c', rfl, hc', hD⟩, hg1⟩
  have hn1 := (hg1.block _ (Array.getElem?_eq_some_iff.1 HN.out).1).trans HN.out
  have G1 := Lib.hid (HG.out.tr hg1)
  have N1 := Lib.hid hn1
  have d0 : w1.cell? ⟨w.heap.size, 0, none⟩ = some (.int .i64 P) := by simp only [World.cell?, hn1]; rfl
  have d1 : w1.cell? ⟨w.heap.size, 1, none⟩ = some (.int .i64 C) := by simp only [World.cell?, hn1]; rfl
  obtain ⟨ov, hov⟩ : ∃ o, covL l = o := ⟨_, rfl⟩
  rw [hov] at hD hc' ⊢
  have HD := Lib.hid hD
  have HOV := Lib.hid hov
  have hh := refHas_any A' c' ov P C w1 hD
  clear hn1 hg1 hD hov
  by_cases hb : hasV ov P C = true
  · rw [hb] at hh
    have HH := Lib.hid hh
    have HB := Lib.hid hb
    clear hh hb
    go_wp2_with fail
    refine (HH.out).mono ?_
    rintro r w3 ⟨rfl, g3⟩
    go_wp2
    go_ret2
    exact ⟨⟨8, [], none, 0, rfl, Or.inl ⟨by rw [HOV.out]; exact HB.out, rfl, rfl⟩, Vers.nil _ _, Nat.le_refl _, by simp⟩, G1.out.tr g3⟩
  · have hb : hasV ov P C = false := by simpa using hb
    rw [hb] at hh
    have HH := Lib.hid hh
    have HB := Lib.hid hb
    clear hh hb
    go_wp2_with fail
    refine (HH.out).mono ?_
    rintro r w3 ⟨rfl, g3⟩
    have e0 := g3.cell d0
    have e1 := g3.cell d1
    have G3 := Lib.hid (G1.out.tr g3)
    have HM := Lib.hid (vers_one (w := w3) ⟨P, C, A', ov, c', D, T⟩ ⟨HD.out.gr g3, hT⟩ hc')
    have HGA := Lib.hid ((Gr.rfl' w3).al (.cells (⟨P, C, A', ov, c', D, T⟩ : Vx).cells 49))
    clear g3 d0 d1
    go_wp2
    go_ret2
    exact ⟨⟨0, [⟨P, C, A', ov, c', D, T⟩], some ⟨w3.heap.size, 0, none⟩, 1, rfl, Or.inr ⟨by rw [HOV.out]; exact HB.out, rfl, A', c', by rw [HOV.out], by rw [HOV.out]; exact hc'⟩, HM.out⟩, G3.out.tr HGA.out⟩
end Go.Proofs.Ytfobnemocodomaa
set_option linter.unusedVariables false
set_option linter.unusedSimpArgs false
set_option maxHeartbeats 2000000
namespace Go.Proofs.Ytfobnemocodomaa
open Go.RowKit Go.Great

def mayE (l : List Vx) (p c : Int) : Int := orC (leafChk l) (dotChk p c)
set_option maxRecDepth 100000 in
theorem may_any (A : Option Addr) (cap : Nat) (l : List Vx) (P C : Int) (w : World) (h : Vers w A l) :
    Calls Try.prog 101 #[.slice A l.length cap, .agg #[.int .i64 P, .int .i64 C]] w fun r w' => r = .returned (.int .i64 (mayE l P C)) ∧ Gr w w' := by
  have H := Lib.hid h; clear h
  have hga0 : Gr w (w.alloc (.cells #[.int .i64 P, .int .i64 C] 47)) := (Gr.rfl' w).al _
  have hn := World.alloc_heap_new w (.cells #[.int .i64 P, .int .i64 C] 47)
  have e0 : (w.alloc (.cells #[.int .i64 P, .int .i64 C] 47)).cell? ⟨w.heap.size, 0, none⟩ = some (.int .i64 P) := by simp only [World.cell?, hn]; rfl
  have e1 : (w.alloc (.cells #[.int .i64 P, .int .i64 C] 47)).cell? ⟨w.heap.size, 1, none⟩ = some (.int .i64 C) := by simp only [World.cell?, hn]; rfl
  have E0 := Lib.hid e0
  have E1 := Lib.hid e1
  have HG := Lib.hid hga0
  have HCO := Lib.hid (chk_one P C)
  clear hn e0 e1 hga0
  go_enter Try.func101, Try.ntmps101
  go_upto_region 1 with (fail)
  obtain ⟨W, hW⟩ : ∃ W, w.alloc (.cells #[.int .i64 P, .int .i64 C] 47) = W := ⟨_, rfl⟩
  rw [hW] at E0 E1 HG ⊢
  clear hW
  have hSS : Gr W W.drew := (Gr.rfl' _).dr
  refine region_T 7 (fun w' => Gr W w') (by kernel_rfl) ?_
  refine anyT_take (i := 0) (v := ?_) (some 5) rfl rfl (by kernel_rfl) (fun _ _ _ h => h) (Or.inl ⟨by rfl, ?_⟩) hSS ?_
  rotate_left
  · intro w' hSw; go_simp; (try with_reducible rfl)
  simp only [Act.put, List.setIfInBounds_toArray, List.set_cons_zero, List.set_cons_succ]
  refine anyT_take (i := 2) (v := ?_) (some 7) rfl rfl (by kernel_rfl) (fun _ _ _ h => h) (Or.inl ⟨by rfl, ?_⟩) hSS ?_
  rotate_left
  · intro w' hSw; have q0 := hSw.cell E0.out; have q1 := hSw.cell E1.out; go_simp; (try with_reducible rfl)
  simp only [Act.put, List.setIfInBounds_toArray, List.set_cons_zero, List.set_cons_succ]
  refine anyT_two (i := 1) (j := 3) (by kernel_rfl) ?_ ?_
  · refine wpOp_call (some 6) 37 #[.slice A l.length cap] rfl (by kernel_rfl) rfl (by kernel_rfl) ?_
    refine (sLeaf_any A cap l _ (H.out.gr (HG.out.tr hSS))).mono ?_
    rintro e wd ⟨rfl, hgd⟩
    replace hSS := hSS.tr hgd
    refine ⟨_, rfl, fun _ => hSS, ?_⟩
    simp only [Act.put, List.setIfInBounds_toArray, List.set_cons_zero, List.set_cons_succ]
    have hga : Gr wd (wd.alloc (.cells #[.int .i64 P, .int .i64 C] 47)) := (Gr.rfl' wd).al _
    have hD := Dots.one (w := wd) P C 47
    refine anyT_its (i := 3) (by kernel_rfl) ?_
    refine wpOp_val (some 8) (.slice (some ⟨wd.heap.size, 0, none⟩) 1 1) rfl (by kernel_rfl) rfl (w' := wd.alloc (.cells #[.int .i64 P, .int .i64 C] 47)) (by kernel_rfl) ⟨fun _ => hSS.tr hga, ?_⟩
    simp only [Act.put, List.setIfInBounds_toArray, List.set_cons_zero, List.set_cons_succ]
    replace hSS := hSS.tr hga
    have hck := Check_any (some ⟨wd.heap.size, 0, none⟩) 1 [(P, C)] _ hD
    rw [chk_one] at hck
    have HCK := Lib.hid hck
    obtain ⟨gB, hgB⟩ : ∃ g, wd.heap.size = g := ⟨_, rfl⟩
    rw [hgB] at HCK ⊢
    generalize wd.alloc (.cells #[.int .i64 P, .int .i64 C] 47) = wb at HCK hSS ⊢
    clear hgd hga hD hck hgB
    refine anyT_callG (i := 4) (some 9) 90 #[.slice (some ⟨gB, 0, none⟩) 1 1] (by kernel_rfl) rfl (by kernel_rfl) rfl (by kernel_rfl) ?_
    refine (HCK.out).mono ?_
    rintro e wd ⟨rfl, hgd⟩
    replace hSS := hSS.tr hgd
    refine ⟨_, rfl, fun _ => hSS, ?_⟩
    simp only [Act.put, List.setIfInBounds_toArray, List.set_cons_zero, List.set_cons_succ]
    clear hgd
    have hga : Gr wd (wd.alloc (.cells #[.int .i64 (leafChk l), .int .i64 (dotChk P C)] 25)) := (Gr.rfl' wd).al _
    obtain ⟨k0, k1⟩ := two_ints (W := wd) (.int .i64 (leafChk l)) (.int .i64 (dotChk P C)) 25
    refine anyT_its (i := 5) (by kernel_rfl) ?_
    refine wpOp_val (some 10) (.slice (some ⟨wd.heap.size, 0, none⟩) 2 2) rfl (by kernel_rfl) rfl (w' := wd.alloc (.cells #[.int .i64 (leafChk l), .int .i64 (dotChk P C)] 25)) (by kernel_rfl) ⟨fun _ => hSS.tr hga, ?_⟩
    simp only [Act.put, List.setIfInBounds_toArray, List.set_cons_zero, List.set_cons_succ]
    replace hSS := hSS.tr hga
    refine anyT_callG (i := 6) (some 11) 169 #[.slice (some ⟨wd.heap.size, 0, none⟩) 2 2] (by kernel_rfl) rfl (by kernel_rfl) rfl (by kernel_rfl) ?_
    refine (OrErr_any (leafChk l) (dotChk P C) wd.heap.size _ k0 k1).mono ?_
    rintro e wd ⟨rfl, hgd⟩
    replace hSS := hSS.tr hgd
    refine ⟨_, rfl, fun _ => hSS, ?_⟩
    simp only [Act.put, List.setIfInBounds_toArray, List.set_cons_zero, List.set_cons_succ]
    clear hgd
    refine anyT_last (some 4) (.int .i64 (orC (leafChk l) (dotChk P C))) (by kernel_rfl) (by kernel_rfl) rfl (by kernel_rfl) rfl (by kernel_rfl) ?_
    simp only [Act.put, List.setIfInBounds_toArray, List.set_cons_zero, List.set_cons_succ]
    go_wp2
    go_ret
    exact ⟨rfl, HG.out.tr hSS⟩
  · have hga : Gr W.drew (W.drew.alloc (.cells #[.int .i64 P, .int .i64 C] 47)) := (Gr.rfl' W.drew).al _
    have hD := Dots.one (w := W.drew) P C 47
    refine wpOp_val (some 8) (.slice (some ⟨W.drew.heap.size, 0, none⟩) 1 1) rfl (by kernel_rfl) rfl (w' := W.drew.alloc (.cells #[.int .i64 P, .int .i64 C] 47)) (by kernel_rfl) ⟨fun _ => hSS.tr hga, ?_⟩
    simp only [Act.put, List.setIfInBounds_toArray, List.set_cons_zero, List.set_cons_succ]
    replace hSS := hSS.tr hga
    obtain ⟨gB, hgB⟩ : ∃ g, W.drew.heap.size = g := ⟨_, rfl⟩
    rw [hgB] at hD ⊢
    generalize W.drew.alloc (.cells #[.int .i64 P, .int .i64 C] 47) = wb at hD hSS ⊢
    refine anyT_its (i := 1) (by kernel_rfl) ?_
    refine wpOp_call (some 6) 37 #[.slice A l.length cap] rfl (by kernel_rfl) rfl (by kernel_rfl) ?_
    refine (sLeaf_any A cap l _ (H.out.gr (HG.out.tr hSS))).mono ?_
    rintro e wd ⟨rfl, hgd⟩
    replace hSS := hSS.tr hgd
    refine ⟨_, rfl, fun _ => hSS, ?_⟩
    simp only [Act.put, List.setIfInBounds_toArray, List.set_cons_zero, List.set_cons_succ]
    have hck := Check_any (some ⟨gB, 0, none⟩) 1 [(P, C)] _ (hD.gr hgd)
    rw [chk_one] at hck
    have HCK := Lib.hid hck
    clear hgd hga hD hck hgB
    refine anyT_callG (i := 4) (some 9) 90 #[.slice (some ⟨gB, 0, none⟩) 1 1] (by kernel_rfl) rfl (by kernel_rfl) rfl (by kernel_rfl) ?_
    refine (HCK.out).mono ?_
    rintro e wd ⟨rfl, hgd⟩
    replace hSS := hSS.tr hgd
    refine ⟨_, rfl, fun _ => hSS, ?_⟩
    simp only [Act.put, List.setIfInBounds_toArray, List.set_cons_zero, List.set_cons_succ]
    clear hgd
    have hga : Gr wd (wd.alloc (.cells #[.int .i64 (leafChk l), .int .i64 (dotChk P C)] 25)) := (Gr.rfl' wd).al _
    obtain ⟨k0, k1⟩ := two_ints (W := wd) (.int .i64 (leafChk l)) (.int .i64 (dotChk P C)) 25
    refine anyT_its (i := 5) (by kernel_rfl) ?_
    refine wpOp_val (some 10) (.slice (some ⟨wd.heap.size, 0, none⟩) 2 2) rfl (by kernel_rfl) rfl (w' := wd.alloc (.cells #[.int .i64 (leafChk l), .int .i64 (dotChk P C)] 25)) (by kernel_rfl) ⟨fun _ => hSS.tr hga, ?_⟩
    simp only [Act.put, List.setIfInBounds_toArray, List.set_cons_zero, List.set_cons_succ]
    replace hSS := hSS.tr hga
    refine anyT_callG (i := 6) (some 11) 169 #[.slice (some ⟨wd.heap.size, 0, none⟩) 2 2] (by kernel_rfl) rfl (by kernel_rfl) rfl (by kernel_rfl) ?_
    refine (OrErr_any (leafChk l) (dotChk P C) wd.heap.size _ k0 k1).mono ?_
    rintro e wd ⟨rfl, hgd⟩
    replace hSS := hSS.tr hgd
    refine ⟨_, rfl, fun _ => hSS, ?_⟩
    simp only [Act.put, List.setIfInBounds_toArray, List.set_cons_zero, List.set_cons_succ]
    clear hgd
    refine anyT_last (some 4) (.int .i64 (orC (leafChk l) (dotChk P C))) (by kernel_rfl) (by kernel_rfl) rfl (by kernel_rfl) rfl (by kernel_rfl) ?_
    simp only [Act.put, List.setIfInBounds_toArray, List.set_cons_zero, List.set_cons_succ]
    go_wp2
    go_ret
    exact ⟨rfl, HG.out.tr hSS⟩
/-- what Write comes to -/
def WrR (l : List Vx) (P C : Int) (T : ByteArray) (e : Int) (res : List Vx) : Prop :=
  (mayE l P C ≠ 0 ∧ e = mayE l P C ∧ res = []) ∨ (mayE l P C = 0 ∧ 48 < T.size ∧ e = 2 ∧ res = []) ∨ (mayE l P C = 0 ∧ T.size ≤ 48 ∧ OverR l P C false T e res)
def ErR (l : List Vx) (P C : Int) (e : Int) (res : List Vx) : Prop :=
  (mayE l P C ≠ 0 ∧ e = mayE l P C ∧ res = []) ∨ (mayE l P C = 0 ∧ (liveL l).length = 0 ∧ e = 3 ∧ res = []) ∨ (mayE l P C = 0 ∧ (liveL l).length ≠ 0 ∧ OverR l P C true ⟨#[]⟩ e res)
theorem WrR.same {l : List Vx} {p c : Int} {t : ByteArray} {e e' : Int} {res res' : List Vx} (h : WrR l p c t e res) (k : WrR l p c t e' res') : e = e' ∧ vsames res res' = true := by
  rcases h with ⟨h1, rfl, rfl⟩ | ⟨h1, h2, rfl, rfl⟩ | ⟨h1, h2, h3⟩ <;> rcases k with ⟨k1, rfl, rfl⟩ | ⟨k1, k2, rfl, rfl⟩ | ⟨k1, k2, k3⟩ <;> first
    | exact ⟨rfl, rfl⟩
    | exact absurd k1 h1
    | exact absurd h1 k1
    | omega
    | exact h3.same k3
theorem ErR.same {l : List Vx} {p c : Int} {e e' : Int} {res res' : List Vx} (h : ErR l p c e res) (k : ErR l p c e' res') : e = e' ∧ vsames res res' = true := by
  rcases h with ⟨h1, rfl, rfl⟩ | ⟨h1, h2, rfl, rfl⟩ | ⟨h1, h2, h3⟩ <;> rcases k with ⟨k1, rfl, rfl⟩ | ⟨k1, k2, rfl, rfl⟩ | ⟨k1, k2, k3⟩ <;> first
    | exact ⟨rfl, rfl⟩
    | exact absurd k1 h1
    | exact absurd h1 k1
    | omega
    | exact h3.same k3
set_option maxRecDepth 100000 in
theorem write1_fr (A : Option Addr) (cap : Nat) (l : List Vx) (P C : Int) (T : ByteArray) (w : World) (h : Vers w A l) (hcp : ∀ x ∈ l, x.pl.length ≤ x.pc) (hT : T.size ≤ 9223372036854775807) :
    Calls Try.prog 51 #[.slice A l.length cap, .agg #[.int .i64 P, .int .i64 C], .string T] w fun r w' => (∃ e res B c, r = .returned (.tuple #[.slice B res.length c, .int .i64 e]) ∧ WrR l P C T e res ∧ Made1 w' B c res ∧ NewV w.heap.size B res) ∧ Gr w w' := by
  have H := Lib.hid h; clear h
  have hga : Gr w (w.alloc (.cells #[.int .i64 P, .int .i64 C] 47)) := (Gr.rfl' w).al _
  have hn := World.alloc_heap_new w (.cells #[.int .i64 P, .int .i64 C] 47)
  have HN := Lib.hid hn
  have HG := Lib.hid hga
  have hmay := may_any A cap l P C _ (H.out.gr hga)
  clear hn hga
  by_cases hm : mayE l P C = 0
  · rw [hm] at hmay
    have HM := Lib.hid hm
    have HMAY := Lib.hid hmay
    clear hm hmay
    by_cases h48 : 48 < T.size
    · have h48i : (48 : Int) < T.size := by omega
      go_enter Try.func51, Try.ntmps51
      go_wp2_with fail
      refine (HMAY.out).mono ?_
      rintro r w1 ⟨rfl, g1⟩
      go_wp2
      go_ret2
      exact ⟨⟨_, [], none, 0, rfl, Or.inr (Or.inl ⟨HM.out, h48, rfl, rfl⟩), ⟨Vers.nil _ _, Nat.le_refl _, by simp⟩, NewV.nil _⟩, HG.out.tr g1⟩
    · have h48i : ¬ (48 : Int) < T.size := by omega
      go_enter Try.func51, Try.ntmps51
      go_wp2_with fail
      refine (HMAY.out).mono ?_
      rintro r w1 ⟨rfl, g1⟩
      have hn1 := (g1.block _ (Array.getElem?_eq_some_iff.1 HN.out).1).trans HN.out
      have d0 : w1.cell? ⟨w.heap.size, 0, none⟩ = some (.int .i64 P) := by simp only [World.cell?, hn1]; rfl
      have d1 : w1.cell? ⟨w.heap.size, 1, none⟩ = some (.int .i64 C) := by simp only [World.cell?, hn1]; rfl
      have HO := Lib.hid (over1_fr A cap l P C false T w1 (H.out.gr (HG.out.tr g1)) hcp hT)
      clear hn1
      go_wp2_with fail
      refine (HO.out).mono ?_
      rintro r w2 ⟨⟨e, res, B, c, rfl, hov, hmd, hnw⟩, g2⟩
      go_wp2
      go_ret2
      exact ⟨⟨e, res, B, c, rfl, Or.inr (Or.inr ⟨HM.out, by omega, hov⟩), hmd, hnw.lower (HG.out.tr g1).size⟩, HG.out.tr (g1.tr g2)⟩
  · have hmb : (mayE l P C != 0) = true := by simpa using hm
    have HM := Lib.hid hm
    have HMAY := Lib.hid hmay
    clear hm hmay
    go_enter Try.func51, Try.ntmps51
    go_wp2_with fail
    refine (HMAY.out).mono ?_
    rintro r w1 ⟨rfl, g1⟩
    go_wp2
    go_ret2
    exact ⟨⟨_, [], none, 0, rfl, Or.inl ⟨HM.out, rfl, rfl⟩, ⟨Vers.nil _ _, Nat.le_refl _, by simp⟩, NewV.nil _⟩, HG.out.tr g1⟩
theorem write1_any (A : Option Addr) (cap : Nat) (l : List Vx) (P C : Int) (T : ByteArray) (w : World) (h : Vers w A l) (hcp : ∀ x ∈ l, x.pl.length ≤ x.pc) (hT : T.size ≤ 9223372036854775807) :
    Calls Try.prog 51 #[.slice A l.length cap, .agg #[.int .i64 P, .int .i64 C], .string T] w fun r w' => (∃ e res B c, r = .returned (.tuple #[.slice B res.length c, .int .i64 e]) ∧ WrR l P C T e res ∧ Made1 w' B c res) ∧ Gr w w' :=
  (write1_fr A cap l P C T w h hcp hT).mono (by rintro r w' ⟨⟨e, res, B, c, h1, h2, h3, _⟩, g⟩; exact ⟨⟨e, res, B, c, h1, h2, h3⟩, g⟩)
set_option maxRecDepth 100000 in
theorem write2_any (A : Option Addr) (cap : Nat) (l : List Vx) (P C : Int) (T : ByteArray) (w : World) (h : Vers w A l) (hT : T.size ≤ 9223372036854775807) :
    Calls Try.prog 52 #[.slice A l.length cap, .agg #[.int .i64 P, .int .i64 C], .string T] w fun r w' => (∃ e res B c, r = .returned (.tuple #[.slice B res.length c, .int .i64 e]) ∧ WrR l P C T e res ∧ Made1 w' B c res) ∧ Gr w w' := by
  have H := Lib.hid h; clear h
  have hga : Gr w (w.alloc (.cells #[.int .i64 P, .int .i64 C] 47)) := (Gr.rfl' w).al _
  have hn := World.alloc_heap_new w (.cells #[.int .i64 P, .int .i64 C] 47)
  have HN := Lib.hid hn
  have HG := Lib.hid hga
  have hleaf := refLeaf_any A cap l _ (H.out.gr hga)
  clear hn hga
  by_cases hl : leafChk l = 0
  · rw [hl] at hleaf
    have HLEAF := Lib.hid hleaf
    clear hleaf
    by_cases hd : dotChk P C = 0
    · have HM : Hid (mayE l P C = 0) := Lib.hid (by unfold mayE orC; rw [hl, hd]; rfl)
      by_cases h48 : 48 < T.size
      · have h48i : (48 : Int) < T.size := by omega
        go_enter Try.func52, Try.ntmps52
        go_wp2_with fail
        refine (HLEAF.out).mono ?_
        rintro r w1 ⟨rfl, g1⟩
        have hn1 := (g1.block _ (Array.getElem?_eq_some_iff.1 HN.out).1).trans HN.out
        have d0 : w1.cell? ⟨w.heap.size, 0, none⟩ = some (.int .i64 P) := by simp only [World.cell?, hn1]; rfl
        have d1 : w1.cell? ⟨w.heap.size, 1, none⟩ = some (.int .i64 C) := by simp only [World.cell?, hn1]; rfl
        clear hn1
        go_wp2_with fail
        refine (refDot_any P C w1).mono ?_
        rintro r w2 ⟨rfl, g2⟩
        rw [hd]
        go_wp2
        go_ret2
        exact ⟨⟨_, [], none, 0, rfl, Or.inr (Or.inl ⟨HM.out, h48, rfl, rfl⟩), Vers.nil _ _, Nat.le_refl _, by simp⟩, HG.out.tr (g1.tr g2)⟩
      · have h48i : ¬ (48 : Int) < T.size := by omega
        go_enter Try.func52, Try.ntmps52
        go_wp2_with fail
        refine (HLEAF.out).mono ?_
        rintro r w1 ⟨rfl, g1⟩
        have hn1 := (g1.block _ (Array.getElem?_eq_some_iff.1 HN.out).1).trans HN.out
        have d0 : w1.cell? ⟨w.heap.size, 0, none⟩ = some (.int .i64 P) := by simp only [World.cell?, hn1]; rfl
        have d1 : w1.cell? ⟨w.heap.size, 1, none⟩ = some (.int .i64 C) := by simp only [World.cell?, hn1]; rfl
        clear hn1
        go_wp2_with fail
        refine (refDot_any P C w1).mono ?_
        rintro r w2 ⟨rfl, g2⟩
        rw [hd]
        have HO := Lib.hid (over2_any A cap l P C false T w2 (H.out.gr (HG.out.tr (g1.tr g2))) hT)
        have d2 := g2.cell d0
        have d3 := g2.cell d1
        go_wp2_with fail
        refine (HO.out).mono ?_
        rintro r w3 ⟨⟨e, res, B, c, rfl, hov, hmd⟩, g3⟩
        go_wp2
        go_ret2
        exact ⟨⟨e, res, B, c, rfl, Or.inr (Or.inr ⟨HM.out, by omega, hov⟩), hmd⟩, HG.out.tr (g1.tr (g2.tr g3))⟩
    · have hME : mayE l P C = dotChk P C := by unfold mayE orC; rw [hl]; rfl
      have HME := Lib.hid hME
      have hdb : (dotChk P C == 0) = false := by simpa using hd
      have hdn : (dotChk P C != 0) = true := by simpa using hd
      have HD := Lib.hid hd
      clear hME hd
      go_enter Try.func52, Try.ntmps52
      go_wp2_with fail
      refine (HLEAF.out).mono ?_
      rintro r w1 ⟨rfl, g1⟩
      have hn1 := (g1.block _ (Array.getElem?_eq_some_iff.1 HN.out).1).trans HN.out
      have d0 : w1.cell? ⟨w.heap.size, 0, none⟩ = some (.int .i64 P) := by simp only [World.cell?, hn1]; rfl
      have d1 : w1.cell? ⟨w.heap.size, 1, none⟩ = some (.int .i64 C) := by simp only [World.cell?, hn1]; rfl
      clear hn1
      go_wp2_with fail
      refine (refDot_any P C w1).mono ?_
      rintro r w2 ⟨rfl, g2⟩
      go_wp2
      go_ret2
      exact ⟨⟨_, [], none, 0, rfl, Or.inl ⟨by rw [HME.out]; exact HD.out, HME.out.symm, rfl⟩, Vers.nil _ _, Nat.le_refl _, by simp⟩, HG.out.tr (g1.tr g2)⟩
  · have hME : mayE l P C = leafChk l := by unfold mayE orC; rw [if_pos hl]
    have HME := Lib.hid hME
    have hdb : (leafChk l == 0) = false := by simpa using hl
    have hdn : (leafChk l != 0) = true := by simpa using hl
    have HD := Lib.hid hl
    have HLEAF := Lib.hid hleaf
    clear hME hl hleaf
    go_enter Try.func52, Try.ntmps52
    go_wp2_with fail
    refine (HLEAF.out).mono ?_
    rintro r w1 ⟨rfl, g1⟩
    go_wp2
    go_ret2
    exact ⟨⟨_, [], none, 0, rfl, Or.inl ⟨by rw [HME.out]; exact HD.out, HME.out.symm, rfl⟩, Vers.nil _ _, Nat.le_refl _, by simp⟩, HG.out.tr g1⟩
set_option maxRecDepth 100000 in
theorem erase1_fr (A : Option Addr) (cap : Nat) (l : List Vx) (P C : Int) (w : World) (h : Vers w A l) (hcp : ∀ x ∈ l, x.pl.length ≤ x.pc) (hlb : l.length ≤ 1000000) :
    Calls Try.prog 53 #[.slice A l.length cap, .agg #[.int .i64 P, .int .i64 C]] w fun r w' => (∃ e res B c, r = .returned (.tuple #[.slice B res.length c, .int .i64 e]) ∧ ErR l P C e res ∧ Made1 w' B c res ∧ NewV w.heap.size B res) ∧ Gr w w' := by
  have H := Lib.hid h; clear h
  have hga : Gr w (w.alloc (.cells #[.int .i64 P, .int .i64 C] 47)) := (Gr.rfl' w).al _
  have hn := World.alloc_heap_new w (.cells #[.int .i64 P, .int .i64 C] 47)
  have HN := Lib.hid hn
  have HG := Lib.hid hga
  have hmay := may_any A cap l P C _ (H.out.gr hga)
  clear hn hga
  by_cases hm : mayE l P C = 0
  · rw [hm] at hmay
    have HM := Lib.hid hm
    have HMAY := Lib.hid hmay
    clear hm hmay
    go_enter Try.func53, Try.ntmps53
    go_wp2_with fail
    refine (HMAY.out).mono ?_
    rintro r w1 ⟨rfl, g1⟩
    go_wp2_with fail
    refine (vLive1_any A cap l w1 (H.out.gr (HG.out.tr g1)) (by omega)).mono ?_
    rintro r w2 ⟨⟨v, rfl, ho⟩, g2⟩
    obtain ⟨Av, nv, cv, rfl, hnv, _⟩ := ho.shp
    have hnv := hnv.out
    subst hnv
    clear ho
    by_cases h0 : (liveL l).length = 0
    · rw [h0]
      go_wp2
      go_ret2
      exact ⟨⟨_, [], none, 0, rfl, Or.inr (Or.inl ⟨HM.out, h0, rfl, rfl⟩), ⟨Vers.nil _ _, Nat.le_refl _, by simp⟩, NewV.nil _⟩, HG.out.tr (g1.tr g2)⟩
    · have h0b : (((liveL l).length : Int) == 0) = false := by simp; intro e; exact h0 (by rw [e]; rfl)
      have hn1 := (g1.block _ (Array.getElem?_eq_some_iff.1 HN.out).1).trans HN.out
      have hn2 := (g2.block _ (Array.getElem?_eq_some_iff.1 hn1).1).trans hn1
      have d0 : w2.cell? ⟨w.heap.size, 0, none⟩ = some (.int .i64 P) := by simp only [World.cell?, hn2]; rfl
      have d1 : w2.cell? ⟨w.heap.size, 1, none⟩ = some (.int .i64 C) := by simp only [World.cell?, hn2]; rfl
      have HO := Lib.hid (over1_fr A cap l P C true ⟨#[]⟩ w2 (H.out.gr (HG.out.tr (g1.tr g2))) hcp (by decide))
      clear hn1 hn2
      go_wp2_with fail
      refine (HO.out).mono ?_
      rintro r w3 ⟨⟨e, res, B, c, rfl, hov, hmd, hnw⟩, g3⟩
      go_wp2
      go_ret2
      exact ⟨⟨e, res, B, c, rfl, Or.inr (Or.inr ⟨HM.out, h0, hov⟩), hmd, hnw.lower (HG.out.tr (g1.tr g2)).size⟩, HG.out.tr (g1.tr (g2.tr g3))⟩
  · have hmb : (mayE l P C != 0) = true := by simpa using hm
    have HM := Lib.hid hm
    have HMAY := Lib.hid hmay
    clear hm hmay
    go_enter Try.func53, Try.ntmps53
    go_wp2_with fail
    refine (HMAY.out).mono ?_
    rintro r w1 ⟨rfl, g1⟩
    go_wp2
    go_ret2
    exact ⟨⟨_, [], none, 0, rfl, Or.inl ⟨HM.out, rfl, rfl⟩, ⟨Vers.nil _ _, Nat.le_refl _, by simp⟩, NewV.nil _⟩, HG.out.tr g1⟩
theorem erase1_any (A : Option Addr) (cap : Nat) (l : List Vx) (P C : Int) (w : World) (h : Vers w A l) (hcp : ∀ x ∈ l, x.pl.length ≤ x.pc) (hlb : l.length ≤ 1000000) :
    Calls Try.prog 53 #[.slice A l.length cap, .agg #[.int .i64 P, .int .i64 C]] w fun r w' => (∃ e res B c, r = .returned (.tuple #[.slice B res.length c, .int .i64 e]) ∧ ErR l P C e res ∧ Made1 w' B c res) ∧ Gr w w' :=
  (erase1_fr A cap l P C w h hcp hlb).mono (by rintro r w' ⟨⟨e, res, B, c, h1, h2, h3, _⟩, g⟩; exact ⟨⟨e, res, B, c, h1, h2, h3⟩, g⟩)
set_option maxRecDepth 100000 in
theorem erase2_any (A : Option Addr) (cap : Nat) (l : List Vx) (P C : Int) (w : World) (h : Vers w A l) (hlb : l.length ≤ 1000000) :
    Calls Try.prog 54 #[.slice A l.length cap, .agg #[.int .i64 P, .int .i64 C]] w fun r w' => (∃ e res B c, r = .returned (.tuple #[.slice B res.length c, .int .i64 e]) ∧ ErR l P C e res ∧ Made1 w' B c res) ∧ Gr w w' := by
  have H := Lib.hid h; clear h
  have hga : Gr w (w.alloc (.cells #[.int .i64 P, .int .i64 C] 47)) := (Gr.rfl' w).al _
  have hn := World.alloc_heap_new w (.cells #[.int .i64 P, .int .i64 C] 47)
  have HN := Lib.hid hn
  have HG := Lib.hid hga
  have hleaf := refLeaf_any A cap l _ (H.out.gr hga)
  clear hn hga
  by_cases hl : leafChk l = 0
  · rw [hl] at hleaf
    have HLEAF := Lib.hid hleaf
    clear hleaf
    by_cases hd : dotChk P C = 0
    · have HM : Hid (mayE l P C = 0) := Lib.hid (by unfold mayE orC; rw [hl, hd]; rfl)
      go_enter Try.func54, Try.ntmps54
      go_wp2_with fail
      refine (HLEAF.out).mono ?_
      rintro r w1 ⟨rfl, g1⟩
      have hn1 := (g1.block _ (Array.getElem?_eq_some_iff.1 HN.out).1).trans HN.out
      have d0 : w1.cell? ⟨w.heap.size, 0, none⟩ = some (.int .i64 P) := by simp only [World.cell?, hn1]; rfl
      have d1 : w1.cell? ⟨w.heap.size, 1, none⟩ = some (.int .i64 C) := by simp only [World.cell?, hn1]; rfl
      clear hn1
      go_wp2_with fail
      refine (refDot_any P C w1).mono ?_
      rintro r w2 ⟨rfl, g2⟩
      rw [hd]
      go_wp2_with fail
      refine (vLive2_any A cap l w2 (H.out.gr (HG.out.tr (g1.tr g2))) (by omega)).mono ?_
      rintro r w3 ⟨⟨v, rfl, ho⟩, g3⟩
      obtain ⟨Av, nv, cv, rfl, hnv, _⟩ := ho.shp
      have hnv := hnv.out
      subst hnv
      clear ho
      by_cases h0 : (liveL l).length = 0
      · rw [h0]
        go_wp2
        go_ret2
        exact ⟨⟨_, [], none, 0, rfl, Or.inr (Or.inl ⟨HM.out, h0, rfl, rfl⟩), Vers.nil _ _, Nat.le_refl _, by simp⟩, HG.out.tr (g1.tr (g2.tr g3))⟩
      · have h0b : (((liveL l).length : Int) == 0) = false := by simp; intro e; exact h0 (by rw [e]; rfl)
        have HO := Lib.hid (over2_any A cap l P C true ⟨#[]⟩ w3 (H.out.gr (HG.out.tr (g1.tr (g2.tr g3)))) (by decide))
        have d2 := g3.cell (g2.cell d0)
        have d3 := g3.cell (g2.cell d1)
        go_wp2_with fail
        refine (HO.out).mono ?_
        rintro r w4 ⟨⟨e, res, B, c, rfl, hov, hmd⟩, g4⟩
        go_wp2
        go_ret2
        exact ⟨⟨e, res, B, c, rfl, Or.inr (Or.inr ⟨HM.out, h0, hov⟩), hmd⟩, HG.out.tr (g1.tr (g2.tr (g3.tr g4)))⟩
    · have hME : mayE l P C = dotChk P C := by unfold mayE orC; rw [hl]; rfl
      have HME := Lib.hid hME
      have hdb : (dotChk P C == 0) = false := by simpa using hd
      have hdn : (dotChk P C != 0) = true := by simpa using hd
      have HD := Lib.hid hd
      clear hME hd
      go_enter Try.func54, Try.ntmps54
      go_wp2_with fail
      refine (HLEAF.out).mono ?_
      rintro r w1 ⟨rfl, g1⟩
      have hn1 := (g1.block _ (Array.getElem?_eq_some_iff.1 HN.out).1).trans HN.out
      have d0 : w1.cell? ⟨w.heap.size, 0, none⟩ = some (.int .i64 P) := by simp only [World.cell?, hn1]; rfl
      have d1 : w1.cell? ⟨w.heap.size, 1, none⟩ = some (.int .i64 C) := by simp only [World.cell?, hn1]; rfl
      clear hn1
      go_wp2_with fail
      refine (refDot_any P C w1).mono ?_
      rintro r w2 ⟨rfl, g2⟩
      go_wp2
      go_ret2
      exact ⟨⟨_, [], none, 0, rfl, Or.inl ⟨by rw [HME.out]; exact HD.out, HME.out.symm, rfl⟩, Vers.nil _ _, Nat.le_refl _, by simp⟩, HG.out.tr (g1.tr g2)⟩
  · have hME : mayE l P C = leafChk l := by unfold mayE orC; rw [if_pos hl]
    have HME := Lib.hid hME
    have hdb : (leafChk l == 0) = false := by simpa using hl
    have hdn : (leafChk l != 0) = true := by simpa using hl
    have HD := Lib.hid hl
    have HLEAF := Lib.hid hleaf
    clear hME hl hleaf
    go_enter Try.func54, Try.ntmps54
    go_wp2_with fail
    refine (HLEAF.out).mono ?_
    rintro r w1 ⟨rfl, g1⟩
    go_wp2
    go_ret2
    exact ⟨⟨_, [], none, 0, rfl, Or.inl ⟨by rw [HME.out]; exact HD.out, HME.out.symm, rfl⟩, Vers.nil _ _, Nat.le_refl _, by simp⟩, HG.out.tr g1⟩
end Go.Proofs.Ytfobnemocodomaa
set_option linter.unusedVariables false
set_option linter.unusedSimpArgs false
set_option maxHeartbeats 2000000
namespace Go.Proofs.Ytfobnemocodomaa
open Go.RowKit Go.Great

theorem made_nil (w : World) : Made1 w none 0 [] := ⟨Vers.nil _ _, Nat.le_refl _, by simp⟩
theorem synL_of {a b : List Vx} (ha : leafChk a = 0) (hb : leafChk b = 0) : synL a b = syncOf (filS (a ++ b)) := by unfold synL; rw [if_pos ⟨ha, hb⟩]
theorem synL_nz {a b : List Vx} (h : ¬ (leafChk a = 0 ∧ leafChk b = 0)) : synL a b = [] := by unfold synL; rw [if_neg h]
theorem synL_in {a b : List Vx} {x : Vx} (h : x ∈ synL a b) : x ∈ a ++ b := by
  unfold synL at h
  by_cases hz : leafChk a = 0 ∧ leafChk b = 0
  · rw [if_pos hz] at h
    exact ((filS_mem _ _).1 ((syncOf_mem _ x).1 h).2.2.mem).1
  · rw [if_neg hz] at h; simp at h
theorem leaf_peers {a b : List Vx} (ha : leafChk a = 0) (hb : leafChk b = 0) : ∀ x ∈ filS (a ++ b), 0 ≤ x.P ∧ x.P < 64 := by
  intro x hx
  have hv : verChk x = 0 := by
    rcases List.mem_append.1 ((filS_mem _ _).1 hx).1 with k | k
    · exact ((leaf_zero a).1 ha).1 x k
    · exact ((leaf_zero b).1 hb).1 x k
  have := (ver_parts hv).1
  exact ⟨this.1, this.2.1⟩
theorem syncOf_nil : syncOf [] = [] := by
  unfold syncOf
  rw [List.filterMap_eq_nil_iff]
  intro p _; rfl
theorem cgo_len : ∀ (l : List Vx) (p : Vx), (cgo p l).length ≤ l.length
  | [], _ => by simp [cgo]
  | y :: r, p => by
    have := cgo_len r y
    unfold cgo
    split
    · simp only [List.length_cons]; omega
    · simp only [List.length_cons]; omega
theorem cmpV_len (l : List Vx) : (cmpV l).length ≤ l.length := by
  cases l with
  | nil => exact Nat.le_refl _
  | cons x r => have := cgo_len r x; simp only [cmpV, List.length_cons]; omega
theorem cell_new (W : World) (v : Value) (t : TypeId) : (W.alloc (.cells #[v] t)).cell? ⟨W.heap.size, 0, none⟩ = some v := by
  have hn := World.alloc_heap_new W (.cells #[v] t)
  simp only [World.cell?, hn]; rfl
set_option maxRecDepth 100000 in
theorem sync1P_fr {N : Nat} (hst : StableC N) (hN1 : N ≤ 1000000) (A B : Option Addr) (ca cb : Nat) (a b : List Vx) (w : World) (ha : Vers w A a) (hb : Vers w B b) (hab : a.length + b.length ≤ N) (hca : ∀ x ∈ a, x.pl.length ≤ x.pc) (hcb : ∀ x ∈ b, x.pl.length ≤ x.pc) :
    Calls Try.prog 56 #[.slice A a.length ca, .slice B b.length cb] w fun r w' => (∃ v c, r = .returned (.slice v (synL a b).length c) ∧ Made1 w' v c (synL a b) ∧ ∀ D, v = some D → w.heap.size ≤ D.block) ∧ Gr w w' := by
  have HA := Lib.hid ha
  have HB := Lib.hid hb
  have HCA := Lib.hid hca
  have HCB := Lib.hid hcb
  have HAB := Lib.hid hab
  have SA := Lib.hid (sLeaf_any A ca a w ha)
  clear ha hb hca hcb hab
  by_cases hza : leafChk a = 0
  · rw [hza] at SA
    have SB : Hid (∀ W, Gr w W → Calls Try.prog 37 #[.slice B b.length cb] W fun r w' => r = .returned (.int .i64 (leafChk b)) ∧ Gr W w') := Lib.hid (fun W g => sLeaf_any B cb b W (HB.out.gr g))
    by_cases hzb : leafChk b = 0
    · rw [hzb] at SB
      have hs0 := synL_of hza hzb
      have hp0 := leaf_peers hza hzb
      obtain ⟨X, hX⟩ : ∃ X, a ++ b = X := ⟨_, rfl⟩
      rw [hX] at hs0 hp0
      have HXL : Hid (X.length = a.length + b.length) := Lib.hid (by rw [← hX, List.length_append])
      have HXE := Lib.hid hX
      have HS := Lib.hid hs0
      have HP := Lib.hid hp0
      clear hs0 hp0 hX
      clear hza hzb
      go_enter Try.func56, Try.ntmps56
      go_wp2_with fail
      refine (SA.out).mono ?_
      rintro r w1 ⟨rfl, g1⟩
      go_wp2_with fail
      refine (SB.out _ g1).mono ?_
      rintro r w2 ⟨rfl, g2⟩
      have G2 := Lib.hid (g1.tr g2)
      clear g1 g2 SA SB
      go_wp2_with fail
      have HTW := Lib.hid (VRows.two (ca := ca) (cb := cb) (HA.out.gr G2.out) (HB.out.gr G2.out) 22)
      obtain ⟨W1, hW1⟩ : ∃ W, w2.alloc (.cells #[.slice A a.length ca, .slice B b.length cb] 22) = W := ⟨_, rfl⟩
      have G3 : Hid (Gr w W1) := Lib.hid (by rw [← hW1]; exact G2.out.tr ((Gr.rfl' w2).al _))
      rw [hW1] at HTW ⊢
      clear hW1
      have HAL := Lib.hid ((allV_two A B ca cb a b).trans HXE.out)
      obtain ⟨rs, hrs⟩ : ∃ rs : List VRow, [(⟨A, ca, a⟩ : VRow), ⟨B, cb, b⟩] = rs := ⟨_, rfl⟩
      have HRL : Hid (rs.length = 2) := Lib.hid (by rw [← hrs]; rfl)
      have HLE : Hid ((allV rs).length ≤ 1000000) := Lib.hid (by rw [← hrs, HAL.out, HXL.out]; have := HAB.out; omega)
      have HR2 : Hid (rs[0]? = some ⟨A, ca, a⟩ ∧ rs[1]? = some ⟨B, cb, b⟩) := Lib.hid (by rw [← hrs]; exact ⟨rfl, rfl⟩)
      rw [hrs] at HTW HAL
      have hcc := vConcat_any (some ⟨w2.heap.size, 0, none⟩) 2 rs W1 HTW.out HLE.out
      rw [HRL.out, HAL.out] at hcc
      refine hcc.mono ?_
      rintro r w3 ⟨⟨v, rfl, hv⟩, g3⟩
      clear hcc
      have G4 := Lib.hid g3
      have HVV : Hid (∀ x ∈ rs, Vers W1 x.A x.l) := Lib.hid (fun x hx => by
        obtain ⟨i, hi, rfl⟩ := List.getElem_of_mem hx
        exact (HTW.out.2 i hi).choose_spec.2.2)
      clear g3
      have HXX : Hid (vsOk W1 X) := Lib.hid (fun x hx => by
        rw [← HXE.out] at hx
        rcases List.mem_append.1 hx with k | k
        · exact (HA.out.oks x k).gr G3.out
        · exact (HB.out.oks x k).gr G3.out)
      rcases hv with ⟨rfl, hnil⟩ | ⟨gl, hgl, hG⟩
      · have HE : Hid (synL a b = []) := Lib.hid (by rw [HS.out, hnil]; exact syncOf_nil)
        clear hnil
        go_wp2_with fail
        obtain ⟨s3, hs3⟩ : ∃ s, w3.heap.size = s := ⟨_, rfl⟩
        have HS3 := Lib.hid hs3
        have hvr := VRows.two (ca := ca) (cb := cb) (HA.out.gr (G3.out.tr G4.out)) (HB.out.gr (G3.out.tr G4.out)) 22
        rw [hs3, hrs] at hvr
        obtain ⟨W4, hW4⟩ : ∃ W, w3.alloc (.cells #[.slice A a.length ca, .slice B b.length cb] 22) = W := ⟨_, rfl⟩
        have g34 : Gr w3 W4 := by rw [← hW4]; exact (Gr.rfl' w3).al _
        have hs34 : s3 < W4.heap.size := by rw [← hW4, ← hs3]; simp
        rw [hs3, hW4]
        rw [hW4] at hvr
        clear hW4 hs3
        refine (covMk_any (some ⟨s3, 0, none⟩) 2 2 W4).mono ?_
        rintro r w5 ⟨rfl, hw5⟩
        have hc5 := cell_new W4 (.slice (some ⟨s3, 0, none⟩) 2 2) 79
        rw [← hw5] at hc5
        have g45 : Gr W4 w5 := by rw [hw5]; exact (Gr.rfl' W4).al _
        clear hw5
        obtain ⟨s4, hs4⟩ : ∃ s, W4.heap.size = s := ⟨_, rfl⟩
        rw [hs4] at hc5 hs34 ⊢
        have HS4 := Lib.hid hs34
        have HC5 := Lib.hid hc5
        have HVR := Lib.hid (hvr.gr g45)
        have G5 := Lib.hid (g34.tr g45)
        clear hc5 hvr g34 g45 hs34 hs4
        go_wp2_with fail
        refine (deleNil_any (some ⟨s3, 0, none⟩) 2 rs s4 w5 HVR.out (by rw [HRL.out]; exact HC5.out) HLE.out).mono ?_
        rintro r w6 ⟨rfl, g6⟩
        go_wp2_with fail
        refine (sortNil_any w6).mono ?_
        rintro r w7 ⟨rfl, rfl⟩
        go_wp2_with fail
        refine (compNil_any _).mono ?_
        rintro r w8 ⟨rfl, rfl⟩
        go_wp2
        go_ret
        rw [HE.out]
        exact ⟨⟨none, 0, rfl, made_nil _, fun _ h => by cases h⟩, (G3.out.tr (G4.out.tr G5.out)).tr g6⟩
      · obtain ⟨cap, rfl, hc1, hc2⟩ := hG.shape
        have HGS : Hid (gl < w3.heap.size) := Lib.hid hG.lt
        have R3 : Hid (RS W1 gl X w3) := Lib.hid ⟨G4.out, hgl, cap, hG⟩
        have HCAP := Lib.hid hc1
        clear hG hgl hc1 hc2
        go_wp2_with fail
        obtain ⟨s3, hs3⟩ : ∃ s, w3.heap.size = s := ⟨_, rfl⟩
        have HS3 := Lib.hid hs3
        have hvr := VRows.two (ca := ca) (cb := cb) (HA.out.gr (G3.out.tr G4.out)) (HB.out.gr (G3.out.tr G4.out)) 22
        rw [hs3, hrs] at hvr
        obtain ⟨W4, hW4⟩ : ∃ W, w3.alloc (.cells #[.slice A a.length ca, .slice B b.length cb] 22) = W := ⟨_, rfl⟩
        have g34 : Gr w3 W4 := by rw [← hW4]; exact (Gr.rfl' w3).al _
        have hs34 : s3 < W4.heap.size := by rw [← hW4, ← hs3]; simp
        rw [hs3, hW4]
        rw [hW4] at hvr
        clear hW4 hs3
        refine (covMk_any (some ⟨s3, 0, none⟩) 2 2 W4).mono ?_
        rintro r w5 ⟨rfl, hw5⟩
        have hc5 := cell_new W4 (.slice (some ⟨s3, 0, none⟩) 2 2) 79
        rw [← hw5] at hc5
        have g45 : Gr W4 w5 := by rw [hw5]; exact (Gr.rfl' W4).al _
        clear hw5
        obtain ⟨s4, hs4⟩ : ∃ s, W4.heap.size = s := ⟨_, rfl⟩
        rw [hs4] at hc5 hs34 ⊢
        have HS4 := Lib.hid hs34
        have HC5 := Lib.hid hc5
        have HVR := Lib.hid (hvr.gr g45)
        have G5 := Lib.hid (g34.tr g45)
        clear hc5 hvr g34 g45 hs34 hs4
        go_wp2_with fail
        have hde := dele_any gl X.length cap X (some ⟨s3, 0, none⟩) 2 rs s4 W1 w5 ⟨R3.out.next G5.out, ⟨by have := HS3.out; have := HS4.out; have := HGS.out; omega, by rw [HRL.out]; omega, by rw [HRL.out]; exact HC5.out, fun i hi => by
            obtain ⟨ad, e1, e2, _⟩ := HVR.out.2 i hi
            cases e1
            exact ⟨_, rfl, by have := HS3.out; have := HGS.out; show s3 ≠ gl; omega, e2⟩, fun i hi => HVV.out _ (List.getElem_mem hi)⟩⟩ rfl HCAP.out (by rw [HXL.out]; have := HAB.out; omega) HLE.out HXX.out
        rw [HAL.out, ← fil_unc] at hde
        refine hde.mono ?_
        rintro r w6 ⟨rfl, hR6⟩
        clear hde
        have HFL : Hid ((filS X).length ≤ X.length) := Lib.hid (List.length_filter_le _ _)
        have R6 := Lib.hid hR6
        clear hR6
        go_wp2_with fail
        refine (sortRow_any hst gl _ cap (filS X) W1 w6 R6.out rfl (by have := HFL.out; rw [HXL.out] at this; have := HAB.out; omega)).mono ?_
        rintro r w7 ⟨rfl, R, hM, hR7⟩
        have HM := Lib.hid hM
        have R7 := Lib.hid hR7
        have HML := Lib.hid hM.len
        clear hM hR7 R6
        go_wp2_with fail
        refine (comp_any gl _ cap R W1 w7 R7.out HML.out (by have := HFL.out; have := HCAP.out; omega) (by have := HFL.out; rw [HXL.out] at this; have := HAB.out; omega)).mono ?_
        rintro r w8 ⟨rfl, hR8⟩
        have R8 := Lib.hid hR8
        clear hR8
        go_wp2
        go_ret
        have hsy := cmpV_sync HM.out HP.out
        have hS := HS.out
        rw [← hsy] at hS
        refine ⟨⟨some ⟨gl, 0, none⟩, cap, by rw [hS]; rfl, ⟨?_, ?_, ?_⟩, fun D hD => by cases hD; exact Nat.le_trans G3.out.size R8.out.base⟩, G3.out.tr R8.out.gr⟩
        · rw [hS]
          exact R8.out.vers (fun x hx => (HXX.out x (by rw [← hS] at hx; rw [← HXE.out]; exact synL_in hx)).gr R8.out.gr) (by
            have h1 := synL_leaf a b
            have h2 := (leaf_zero _).1 h1
            have h3 := ups_len _ 0 h2.2.1 (fun x hx => by have := (ver_parts (h2.1 x hx)).1; omega) (by omega)
            rw [hS] at h3; omega)
        · have h1 : (synL a b).length ≤ (filS X).length := by
            rw [HS.out, ← hsy, ← HML.out]; exact cmpV_len R
          have := HFL.out; have := HCAP.out; omega
        · intro x hx
          rcases List.mem_append.1 (synL_in hx) with k | k
          · exact HCA.out x k
          · exact HCB.out x k
    · have hzz : (leafChk b != 0) = true := by simpa using hzb
      have HS := Lib.hid (synL_nz (a := a) (b := b) (fun h => hzb h.2))
      clear hza hzb
      go_enter Try.func56, Try.ntmps56
      go_wp2_with fail
      refine (SA.out).mono ?_
      rintro r w1 ⟨rfl, g1⟩
      go_wp2_with fail
      refine (SB.out _ g1).mono ?_
      rintro r w2 ⟨rfl, g2⟩
      go_wp2
      go_ret
      rw [HS.out]
      exact ⟨⟨none, 0, rfl, made_nil _, fun _ h => by cases h⟩, g1.tr g2⟩
  · have hzz : (leafChk a != 0) = true := by simpa using hza
    have HS := Lib.hid (synL_nz (a := a) (b := b) (fun h => hza h.1))
    clear hza
    go_enter Try.func56, Try.ntmps56
    go_wp2_with fail
    refine (SA.out).mono ?_
    rintro r w1 ⟨rfl, g1⟩
    go_wp2
    go_ret
    rw [HS.out]
    exact ⟨⟨none, 0, rfl, made_nil _, fun _ h => by cases h⟩, g1⟩
theorem sync1P_any {N : Nat} (hst : StableC N) (hN1 : N ≤ 1000000) (A B : Option Addr) (ca cb : Nat) (a b : List Vx) (w : World) (ha : Vers w A a) (hb : Vers w B b) (hab : a.length + b.length ≤ N) (hca : ∀ x ∈ a, x.pl.length ≤ x.pc) (hcb : ∀ x ∈ b, x.pl.length ≤ x.pc) :
    Calls Try.prog 56 #[.slice A a.length ca, .slice B b.length cb] w fun r w' => (∃ v c, r = .returned (.slice v (synL a b).length c) ∧ Made1 w' v c (synL a b)) ∧ Gr w w' :=
  (sync1P_fr hst hN1 A B ca cb a b w ha hb hab hca hcb).mono (by rintro r w' ⟨⟨v, c, h1, h2, _⟩, g⟩; exact ⟨⟨v, c, h1, h2⟩, g⟩)
end Go.Proofs.Ytfobnemocodomaa
set_option linter.unusedVariables false
set_option linter.unusedSimpArgs false
set_option maxHeartbeats 2000000
namespace Go.Proofs.Ytfobnemocodomaa
open Go.RowKit Go.Great

abbrev tX : ByteArray := ⟨#[120]⟩
abbrev tW : ByteArray := ⟨#[119]⟩
abbrev tY : ByteArray := ⟨#[121]⟩
theorem awk_may0 : mayE [] 0 1 = 0 := by rfl
theorem awk_cov0 : covL [] = [] := by rfl
theorem awk_cov1 (A : Option Addr) (c : Nat) : covL [⟨0, 1, A, [], c, false, tX⟩] = [(0, 1)] := by
  have h0 : joinL [] [] = [] := by simp [joinL, mrg, madeL, chk]
  have h1 : joinL [] [(0, 1)] = [(0, 1)] := by simp [joinL, mrg, madeL, chk]; rfl
  show joinL (joinL [] []) [(0, 1)] = _
  rw [h0, h1]
theorem awk_may1 (A : Option Addr) (c : Nat) : mayE [⟨0, 1, A, [], c, false, tX⟩] 1 1 = 0 := by rfl
theorem awk_may2 (A : Option Addr) (c : Nat) : mayE [⟨0, 1, A, [], c, false, tX⟩] 0 2 = 0 := by rfl
theorem awk_has1 : hasV [(0, 1)] 1 1 = false := by rfl
theorem awk_has2 : hasV [(0, 1)] 0 2 = false := by rfl
theorem awk_syn1 (A B : Option Addr) (c d : Nat) : synL [⟨0, 1, A, [], c, false, tX⟩] [⟨1, 1, B, [(0, 1)], d, false, tW⟩] = [⟨1, 1, B, [(0, 1)], d, false, tW⟩] := by rfl
theorem awk_syn2 (A B : Option Addr) (c d : Nat) : synL [⟨1, 1, B, [(0, 1)], d, false, tW⟩] [⟨0, 2, A, [(0, 1)], c, false, tY⟩] = [⟨0, 2, A, [(0, 1)], c, false, tY⟩, ⟨1, 1, B, [(0, 1)], d, false, tW⟩] := by rfl
theorem awk_win (A B : Option Addr) (c d : Nat) : winL [⟨0, 2, A, [(0, 1)], c, false, tY⟩, ⟨1, 1, B, [(0, 1)], d, false, tW⟩] = some ⟨0, 2, A, [(0, 1)], c, false, tY⟩ := by rfl
end Go.Proofs.Ytfobnemocodomaa
set_option linter.unusedVariables false
set_option linter.unusedSimpArgs false
set_option maxHeartbeats 2000000
namespace Go.Proofs.Ytfobnemocodomaa
open Go.RowKit Go.Great

theorem wr_none {P C : Int} {T : ByteArray} {e : Int} {res : List Vx} {l : List Vx} (h : WrR l P C T e res) (hm : mayE l P C = 0) (ht : T.size ≤ 48) {k : List Dot} (hk : covL l = k) (hh : hasV k P C = false) :
    e = 0 ∧ ∃ A c, res = [⟨P, C, A, k, c, false, T⟩] := by
  rcases h with ⟨h1, _⟩ | ⟨_, h2, _⟩ | ⟨_, _, h3⟩
  · exact absurd hm h1
  · omega
  · rcases h3 with ⟨h4, _⟩ | ⟨_, h5, A, c, h6, _⟩
    · rw [hk, hh] at h4; cases h4
    · exact ⟨h5, A, c, by rw [h6, hk]⟩
set_option maxRecDepth 100000 in
theorem sAwake_any (w : World) :
    Calls Try.prog 36 #[] w fun e w' => e = .returned (.bool true) ∧ Gr w w' := by
  have HW0 := Lib.hid (write1_any none 0 [] 0 1 tX w (Vers.nil _ _) (by simp) (by decide))
  go_enter Try.func36, Try.ntmps36
  go_wp2_with fail
  refine (HW0.out).mono ?_
  rintro r w1 ⟨⟨e, res, B1, c1, rfl, h1, hm1⟩, g1⟩
  obtain ⟨rfl, A1, d1, rfl⟩ := wr_none h1 awk_may0 (by decide) awk_cov0 (by rfl)
  have M1 := Lib.hid hm1
  have G1 := Lib.hid g1
  clear h1 hm1 g1 HW0
  obtain ⟨l1, hl1⟩ : ∃ l, [(⟨0, 1, A1, [], d1, false, tX⟩ : Vx)] = l := ⟨_, rfl⟩
  have HL1 := Lib.hid hl1
  rw [hl1] at M1
  have hn1 : l1.length = 1 := by rw [← hl1]; rfl
  have hw2 := write1_any B1 c1 l1 1 1 tW w1 M1.out.1 M1.out.2.2 (by decide)
  rw [hn1] at hw2
  have HW2 := Lib.hid hw2
  have HN1 := Lib.hid hn1
  clear hw2 hn1 hl1
  go_wp2_with fail
  refine (HW2.out).mono ?_
  rintro r w2 ⟨⟨e, res, B2, c2, rfl, h2, hm2⟩, g2⟩
  obtain ⟨rfl, A2, d2, rfl⟩ := wr_none h2 (by rw [← HL1.out]; exact awk_may1 _ _) (by decide) (by rw [← HL1.out]; exact awk_cov1 _ _) awk_has1
  have M2 := Lib.hid hm2
  have G2 := Lib.hid g2
  clear h2 hm2 g2 HW2
  obtain ⟨l2, hl2⟩ : ∃ l, [(⟨1, 1, A2, [(0, 1)], d2, false, tW⟩ : Vx)] = l := ⟨_, rfl⟩
  have HL2 := Lib.hid hl2
  rw [hl2] at M2
  have hn2 : l2.length = 1 := by rw [← hl2]; rfl
  have HN2 := Lib.hid hn2
  have hw3 := write1_any B1 c1 l1 0 2 tY w2 (M1.out.1.gr G2.out) M1.out.2.2 (by decide)
  rw [HN1.out] at hw3
  have HW3 := Lib.hid hw3
  clear hw3 hl2 hn2
  go_wp2_with fail
  refine (HW3.out).mono ?_
  rintro r w3 ⟨⟨e, res, B3, c3, rfl, h3, hm3⟩, g3⟩
  obtain ⟨rfl, A3, d3, rfl⟩ := wr_none h3 (by rw [← HL1.out]; exact awk_may2 _ _) (by decide) (by rw [← HL1.out]; exact awk_cov1 _ _) awk_has2
  have M3 := Lib.hid hm3
  have G3 := Lib.hid g3
  clear h3 hm3 g3 HW3
  obtain ⟨l3, hl3⟩ : ∃ l, [(⟨0, 2, A3, [(0, 1)], d3, false, tY⟩ : Vx)] = l := ⟨_, rfl⟩
  have HL3 := Lib.hid hl3
  rw [hl3] at M3
  have hn3 : l3.length = 1 := by rw [← hl3]; rfl
  have HN3 := Lib.hid hn3
  have hs4 := sync1P_any stableC19 (by decide) B2 B3 c2 c3 l2 l3 w3 (M2.out.1.gr G3.out) M3.out.1 (by rw [HN2.out, hn3]; decide) M2.out.2.2 M3.out.2.2
  rw [HN2.out, hn3] at hs4
  have HS4 := Lib.hid hs4
  have HE4 : Hid (synL l2 l3 = [⟨0, 2, A3, [(0, 1)], d3, false, tY⟩, ⟨1, 1, A2, [(0, 1)], d2, false, tW⟩]) := Lib.hid (by rw [← HL2.out, ← hl3]; exact awk_syn2 _ _ _ _)
  clear hs4 hl3 hn3
  go_wp2_with fail
  refine (HS4.out).mono ?_
  rintro r w4 ⟨⟨B4, c4, rfl, hm4⟩, g4⟩
  clear HS4
  have G4 := Lib.hid g4
  have M4 := Lib.hid hm4
  clear hm4 g4
  obtain ⟨l4, hl4⟩ : ∃ l, synL l2 l3 = l := ⟨_, rfl⟩
  rw [hl4] at HE4 M4 ⊢
  have hn4 : l4.length = 2 := by rw [HE4.out]; rfl
  have hw5 := winner1_any B4 c4 l4 w4 M4.out.1 (by rw [hn4]; decide)
  rw [hn4] at hw5 ⊢
  have hx5 : winT (winL l4) = .tuple #[.agg (⟨0, 2, A3, [(0, 1)], d3, false, tY⟩ : Vx).cells, .bool true] := by rw [HE4.out, awk_win]; rfl
  rw [hx5] at hw5
  obtain ⟨x, hx⟩ : ∃ x, (⟨0, 2, A3, [(0, 1)], d3, false, tY⟩ : Vx) = x := ⟨_, rfl⟩
  have HXT : Hid (x.T = tY) := Lib.hid (by rw [← hx])
  rw [hx] at hw5
  have HW5 := Lib.hid hw5
  clear hw5 hx5 hn4 hl4 hx HE4
  go_wp2_with fail
  refine (HW5.out).mono ?_
  rintro r w5 ⟨rfl, g5⟩
  have G5 := Lib.hid g5
  clear g5 HW5
  have hs6 := fun (W : World) (g : Gr w5 W) => sync1P_any stableC19 (by decide) B1 B2 c1 c2 l1 l2 W (M1.out.1.gr (G2.out.tr (G3.out.tr (G4.out.tr (G5.out.tr g))))) (M2.out.1.gr (G3.out.tr (G4.out.tr (G5.out.tr g)))) (by rw [HN1.out, HN2.out]; decide) M1.out.2.2 M2.out.2.2
  have HE6 : Hid ((synL l1 l2).length = 1) := Lib.hid (by rw [← HL1.out, ← HL2.out]; rw [awk_syn1]; rfl)
  rw [HN1.out, HN2.out] at hs6
  simp only [HE6.out] at hs6
  have HS6 := Lib.hid hs6
  clear hs6
  go_wp2_with (first
    | refine allocV rfl rfl ?_
    | (refine storeV x rfl (.tmp 8) _ rfl rfl rfl rfl ?_; intro W6 hx6 hg6; have HX6 := Lib.hid hx6; have G6 := Lib.hid hg6; clear hx6 hg6))
  refine (HS6.out W6 G6.out).mono ?_
  rintro r w7 ⟨⟨B7, c7, rfl, _⟩, g7⟩
  obtain ⟨gX, hgX⟩ : ∃ g, w5.heap.size = g := ⟨_, rfl⟩
  rw [hgX] at HX6 ⊢
  have hx7 := (g7.block _ (Array.getElem?_eq_some_iff.1 HX6.out).1).trans HX6.out
  have d4 := (bcells hx7).2.2.2.2
  rw [HXT.out] at d4
  have GE := Lib.hid ((G1.out.tr (G2.out.tr (G3.out.tr (G4.out.tr (G5.out.tr G6.out))))).tr g7)
  clear hx7 g7 hgX HX6 HXT G6 HS6
  go_wp2
  go_ret
  exact ⟨rfl, GE.out⟩
end Go.Proofs.Ytfobnemocodomaa
