/- Write and Erase: the program's and the document's. -/
import Derived.Test.YtfobnemocodomaaSynH
set_option linter.unusedVariables false
set_option linter.unusedSimpArgs false
set_option maxHeartbeats 2000000
namespace Go.Proofs.Ytfobnemocodomaa
open Go.RowKit Go.Great

def mayE (l : List Vx) (p c : Int) : Int := orC (leafChk l) (dotChk p c)
set_option maxRecDepth 100000 in
theorem may_any (A : Option Addr) (cap : Nat) (l : List Vx) (P C : Int) (w : World) (h : Vers w A l) :
    Calls Try.prog 101 #[.slice A l.length cap, .agg #[.int .i64 P, .int .i64 C]] w fun r w' => r = .returned (.int .i64 (mayE l P C)) ∧ Gr w w' := by
  have H := Lib.hid h; clear h
  have hga0 : Gr w (w.alloc (.cells #[.int .i64 P, .int .i64 C] 47)) := (Gr.rfl' w).al _
  have hn := World.alloc_heap_new w (.cells #[.int .i64 P, .int .i64 C] 47)
  have e0 : (w.alloc (.cells #[.int .i64 P, .int .i64 C] 47)).cell? ⟨w.heap.size, 0, none⟩ = some (.int .i64 P) := by simp only [World.cell?, hn]; rfl
  have e1 : (w.alloc (.cells #[.int .i64 P, .int .i64 C] 47)).cell? ⟨w.heap.size, 1, none⟩ = some (.int .i64 C) := by simp only [World.cell?, hn]; rfl
  have E0 := Lib.hid e0
  have E1 := Lib.hid e1
  have HG := Lib.hid hga0
  have HCO := Lib.hid (chk_one P C)
  clear hn e0 e1 hga0
  go_enter Try.func101, Try.ntmps101
  go_upto_region 1 with (fail)
  obtain ⟨W, hW⟩ : ∃ W, w.alloc (.cells #[.int .i64 P, .int .i64 C] 47) = W := ⟨_, rfl⟩
  rw [hW] at E0 E1 HG ⊢
  clear hW
  have hSS : Gr W W.drew := (Gr.rfl' _).dr
  refine region_T 7 (fun w' => Gr W w') (by kernel_rfl) ?_
  refine anyT_take (i := 0) (v := ?_) (some 5) rfl rfl (by kernel_rfl) (fun _ _ _ h => h) (Or.inl ⟨by rfl, ?_⟩) hSS ?_
  rotate_left
  · intro w' hSw; go_simp; (try with_reducible rfl)
  simp only [Act.put, List.setIfInBounds_toArray, List.set_cons_zero, List.set_cons_succ]
  refine anyT_take (i := 2) (v := ?_) (some 7) rfl rfl (by kernel_rfl) (fun _ _ _ h => h) (Or.inl ⟨by rfl, ?_⟩) hSS ?_
  rotate_left
  · intro w' hSw; have q0 := hSw.cell E0.out; have q1 := hSw.cell E1.out; go_simp; (try with_reducible rfl)
  simp only [Act.put, List.setIfInBounds_toArray, List.set_cons_zero, List.set_cons_succ]
  refine anyT_two (i := 1) (j := 3) (by kernel_rfl) ?_ ?_
  · refine wpOp_call (some 6) 37 #[.slice A l.length cap] rfl (by kernel_rfl) rfl (by kernel_rfl) ?_
    refine (sLeaf_any A cap l _ (H.out.gr (HG.out.tr hSS))).mono ?_
    rintro e wd ⟨rfl, hgd⟩
    replace hSS := hSS.tr hgd
    refine ⟨_, rfl, fun _ => hSS, ?_⟩
    simp only [Act.put, List.setIfInBounds_toArray, List.set_cons_zero, List.set_cons_succ]
    have hga : Gr wd (wd.alloc (.cells #[.int .i64 P, .int .i64 C] 47)) := (Gr.rfl' wd).al _
    have hD := Dots.one (w := wd) P C 47
    refine anyT_its (i := 3) (by kernel_rfl) ?_
    refine wpOp_val (some 8) (.slice (some ⟨wd.heap.size, 0, none⟩) 1 1) rfl (by kernel_rfl) rfl (w' := wd.alloc (.cells #[.int .i64 P, .int .i64 C] 47)) (by kernel_rfl) ⟨fun _ => hSS.tr hga, ?_⟩
    simp only [Act.put, List.setIfInBounds_toArray, List.set_cons_zero, List.set_cons_succ]
    replace hSS := hSS.tr hga
    have hck := Check_any (some ⟨wd.heap.size, 0, none⟩) 1 [(P, C)] _ hD
    rw [chk_one] at hck
    have HCK := Lib.hid hck
    obtain ⟨gB, hgB⟩ : ∃ g, wd.heap.size = g := ⟨_, rfl⟩
    rw [hgB] at HCK ⊢
    generalize wd.alloc (.cells #[.int .i64 P, .int .i64 C] 47) = wb at HCK hSS ⊢
    clear hgd hga hD hck hgB
    refine anyT_callG (i := 4) (some 9) 90 #[.slice (some ⟨gB, 0, none⟩) 1 1] (by kernel_rfl) rfl (by kernel_rfl) rfl (by kernel_rfl) ?_
    refine (HCK.out).mono ?_
    rintro e wd ⟨rfl, hgd⟩
    replace hSS := hSS.tr hgd
    refine ⟨_, rfl, fun _ => hSS, ?_⟩
    simp only [Act.put, List.setIfInBounds_toArray, List.set_cons_zero, List.set_cons_succ]
    clear hgd
    have hga : Gr wd (wd.alloc (.cells #[.int .i64 (leafChk l), .int .i64 (dotChk P C)] 25)) := (Gr.rfl' wd).al _
    obtain ⟨k0, k1⟩ := two_ints (W := wd) (.int .i64 (leafChk l)) (.int .i64 (dotChk P C)) 25
    refine anyT_its (i := 5) (by kernel_rfl) ?_
    refine wpOp_val (some 10) (.slice (some ⟨wd.heap.size, 0, none⟩) 2 2) rfl (by kernel_rfl) rfl (w' := wd.alloc (.cells #[.int .i64 (leafChk l), .int .i64 (dotChk P C)] 25)) (by kernel_rfl) ⟨fun _ => hSS.tr hga, ?_⟩
    simp only [Act.put, List.setIfInBounds_toArray, List.set_cons_zero, List.set_cons_succ]
    replace hSS := hSS.tr hga
    refine anyT_callG (i := 6) (some 11) 169 #[.slice (some ⟨wd.heap.size, 0, none⟩) 2 2] (by kernel_rfl) rfl (by kernel_rfl) rfl (by kernel_rfl) ?_
    refine (OrErr_any (leafChk l) (dotChk P C) wd.heap.size _ k0 k1).mono ?_
    rintro e wd ⟨rfl, hgd⟩
    replace hSS := hSS.tr hgd
    refine ⟨_, rfl, fun _ => hSS, ?_⟩
    simp only [Act.put, List.setIfInBounds_toArray, List.set_cons_zero, List.set_cons_succ]
    clear hgd
    refine anyT_last (some 4) (.int .i64 (orC (leafChk l) (dotChk P C))) (by kernel_rfl) (by kernel_rfl) rfl (by kernel_rfl) rfl (by kernel_rfl) ?_
    simp only [Act.put, List.setIfInBounds_toArray, List.set_cons_zero, List.set_cons_succ]
    go_wp2
    go_ret
    exact ⟨rfl, HG.out.tr hSS⟩
  · have hga : Gr W.drew (W.drew.alloc (.cells #[.int .i64 P, .int .i64 C] 47)) := (Gr.rfl' W.drew).al _
    have hD := Dots.one (w := W.drew) P C 47
    refine wpOp_val (some 8) (.slice (some ⟨W.drew.heap.size, 0, none⟩) 1 1) rfl (by kernel_rfl) rfl (w' := W.drew.alloc (.cells #[.int .i64 P, .int .i64 C] 47)) (by kernel_rfl) ⟨fun _ => hSS.tr hga, ?_⟩
    simp only [Act.put, List.setIfInBounds_toArray, List.set_cons_zero, List.set_cons_succ]
    replace hSS := hSS.tr hga
    obtain ⟨gB, hgB⟩ : ∃ g, W.drew.heap.size = g := ⟨_, rfl⟩
    rw [hgB] at hD ⊢
    generalize W.drew.alloc (.cells #[.int .i64 P, .int .i64 C] 47) = wb at hD hSS ⊢
    refine anyT_its (i := 1) (by kernel_rfl) ?_
    refine wpOp_call (some 6) 37 #[.slice A l.length cap] rfl (by kernel_rfl) rfl (by kernel_rfl) ?_
    refine (sLeaf_any A cap l _ (H.out.gr (HG.out.tr hSS))).mono ?_
    rintro e wd ⟨rfl, hgd⟩
    replace hSS := hSS.tr hgd
    refine ⟨_, rfl, fun _ => hSS, ?_⟩
    simp only [Act.put, List.setIfInBounds_toArray, List.set_cons_zero, List.set_cons_succ]
    have hck := Check_any (some ⟨gB, 0, none⟩) 1 [(P, C)] _ (hD.gr hgd)
    rw [chk_one] at hck
    have HCK := Lib.hid hck
    clear hgd hga hD hck hgB
    refine anyT_callG (i := 4) (some 9) 90 #[.slice (some ⟨gB, 0, none⟩) 1 1] (by kernel_rfl) rfl (by kernel_rfl) rfl (by kernel_rfl) ?_
    refine (HCK.out).mono ?_
    rintro e wd ⟨rfl, hgd⟩
    replace hSS := hSS.tr hgd
    refine ⟨_, rfl, fun _ => hSS, ?_⟩
    simp only [Act.put, List.setIfInBounds_toArray, List.set_cons_zero, List.set_cons_succ]
    clear hgd
    have hga : Gr wd (wd.alloc (.cells #[.int .i64 (leafChk l), .int .i64 (dotChk P C)] 25)) := (Gr.rfl' wd).al _
    obtain ⟨k0, k1⟩ := two_ints (W := wd) (.int .i64 (leafChk l)) (.int .i64 (dotChk P C)) 25
    refine anyT_its (i := 5) (by kernel_rfl) ?_
    refine wpOp_val (some 10) (.slice (some ⟨wd.heap.size, 0, none⟩) 2 2) rfl (by kernel_rfl) rfl (w' := wd.alloc (.cells #[.int .i64 (leafChk l), .int .i64 (dotChk P C)] 25)) (by kernel_rfl) ⟨fun _ => hSS.tr hga, ?_⟩
    simp only [Act.put, List.setIfInBounds_toArray, List.set_cons_zero, List.set_cons_succ]
    replace hSS := hSS.tr hga
    refine anyT_callG (i := 6) (some 11) 169 #[.slice (some ⟨wd.heap.size, 0, none⟩) 2 2] (by kernel_rfl) rfl (by kernel_rfl) rfl (by kernel_rfl) ?_
    refine (OrErr_any (leafChk l) (dotChk P C) wd.heap.size _ k0 k1).mono ?_
    rintro e wd ⟨rfl, hgd⟩
    replace hSS := hSS.tr hgd
    refine ⟨_, rfl, fun _ => hSS, ?_⟩
    simp only [Act.put, List.setIfInBounds_toArray, List.set_cons_zero, List.set_cons_succ]
    clear hgd
    refine anyT_last (some 4) (.int .i64 (orC (leafChk l) (dotChk P C))) (by kernel_rfl) (by kernel_rfl) rfl (by kernel_rfl) rfl (by kernel_rfl) ?_
    simp only [Act.put, List.setIfInBounds_toArray, List.set_cons_zero, List.set_cons_succ]
    go_wp2
    go_ret
    exact ⟨rfl, HG.out.tr hSS⟩
/-- what Write comes to -/
def WrR (l : List Vx) (P C : Int) (T : ByteArray) (e : Int) (res : List Vx) : Prop :=
  (mayE l P C ≠ 0 ∧ e = mayE l P C ∧ res = []) ∨ (mayE l P C = 0 ∧ 48 < T.size ∧ e = 2 ∧ res = []) ∨ (mayE l P C = 0 ∧ T.size ≤ 48 ∧ OverR l P C false T e res)
def ErR (l : List Vx) (P C : Int) (e : Int) (res : List Vx) : Prop :=
  (mayE l P C ≠ 0 ∧ e = mayE l P C ∧ res = []) ∨ (mayE l P C = 0 ∧ (liveL l).length = 0 ∧ e = 3 ∧ res = []) ∨ (mayE l P C = 0 ∧ (liveL l).length ≠ 0 ∧ OverR l P C true ⟨#[]⟩ e res)
theorem WrR.same {l : List Vx} {p c : Int} {t : ByteArray} {e e' : Int} {res res' : List Vx} (h : WrR l p c t e res) (k : WrR l p c t e' res') : e = e' ∧ vsames res res' = true := by
  rcases h with ⟨h1, rfl, rfl⟩ | ⟨h1, h2, rfl, rfl⟩ | ⟨h1, h2, h3⟩ <;> rcases k with ⟨k1, rfl, rfl⟩ | ⟨k1, k2, rfl, rfl⟩ | ⟨k1, k2, k3⟩ <;> first
    | exact ⟨rfl, rfl⟩
    | exact absurd k1 h1
    | exact absurd h1 k1
    | omega
    | exact h3.same k3
theorem ErR.same {l : List Vx} {p c : Int} {e e' : Int} {res res' : List Vx} (h : ErR l p c e res) (k : ErR l p c e' res') : e = e' ∧ vsames res res' = true := by
  rcases h with ⟨h1, rfl, rfl⟩ | ⟨h1, h2, rfl, rfl⟩ | ⟨h1, h2, h3⟩ <;> rcases k with ⟨k1, rfl, rfl⟩ | ⟨k1, k2, rfl, rfl⟩ | ⟨k1, k2, k3⟩ <;> first
    | exact ⟨rfl, rfl⟩
    | exact absurd k1 h1
    | exact absurd h1 k1
    | omega
    | exact h3.same k3
set_option maxRecDepth 100000 in
theorem write1_any (A : Option Addr) (cap : Nat) (l : List Vx) (P C : Int) (T : ByteArray) (w : World) (h : Vers w A l) (hcp : ∀ x ∈ l, x.pl.length ≤ x.pc) (hT : T.size ≤ 9223372036854775807) :
    Calls Try.prog 51 #[.slice A l.length cap, .agg #[.int .i64 P, .int .i64 C], .string T] w fun r w' => (∃ e res B c, r = .returned (.tuple #[.slice B res.length c, .int .i64 e]) ∧ WrR l P C T e res ∧ Made1 w' B c res) ∧ Gr w w' := by
  have H := Lib.hid h; clear h
  have hga : Gr w (w.alloc (.cells #[.int .i64 P, .int .i64 C] 47)) := (Gr.rfl' w).al _
  have hn := World.alloc_heap_new w (.cells #[.int .i64 P, .int .i64 C] 47)
  have HN := Lib.hid hn
  have HG := Lib.hid hga
  have hmay := may_any A cap l P C _ (H.out.gr hga)
  clear hn hga
  by_cases hm : mayE l P C = 0
  · rw [hm] at hmay
    have HM := Lib.hid hm
    have HMAY := Lib.hid hmay
    clear hm hmay
    by_cases h48 : 48 < T.size
    · have h48i : (48 : Int) < T.size := by omega
      go_enter Try.func51, Try.ntmps51
      go_wp2_with fail
      refine (HMAY.out).mono ?_
      rintro r w1 ⟨rfl, g1⟩
      go_wp2
      go_ret2
      exact ⟨⟨_, [], none, 0, rfl, Or.inr (Or.inl ⟨HM.out, h48, rfl, rfl⟩), Vers.nil _ _, Nat.le_refl _, by simp⟩, HG.out.tr g1⟩
    · have h48i : ¬ (48 : Int) < T.size := by omega
      go_enter Try.func51, Try.ntmps51
      go_wp2_with fail
      refine (HMAY.out).mono ?_
      rintro r w1 ⟨rfl, g1⟩
      have hn1 := (g1.block _ (Array.getElem?_eq_some_iff.1 HN.out).1).trans HN.out
      have d0 : w1.cell? ⟨w.heap.size, 0, none⟩ = some (.int .i64 P) := by simp only [World.cell?, hn1]; rfl
      have d1 : w1.cell? ⟨w.heap.size, 1, none⟩ = some (.int .i64 C) := by simp only [World.cell?, hn1]; rfl
      have HO := Lib.hid (over1_any A cap l P C false T w1 (H.out.gr (HG.out.tr g1)) hcp hT)
      clear hn1
      go_wp2_with fail
      refine (HO.out).mono ?_
      rintro r w2 ⟨⟨e, res, B, c, rfl, hov, hmd⟩, g2⟩
      go_wp2
      go_ret2
      exact ⟨⟨e, res, B, c, rfl, Or.inr (Or.inr ⟨HM.out, by omega, hov⟩), hmd⟩, HG.out.tr (g1.tr g2)⟩
  · have hmb : (mayE l P C != 0) = true := by simpa using hm
    have HM := Lib.hid hm
    have HMAY := Lib.hid hmay
    clear hm hmay
    go_enter Try.func51, Try.ntmps51
    go_wp2_with fail
    refine (HMAY.out).mono ?_
    rintro r w1 ⟨rfl, g1⟩
    go_wp2
    go_ret2
    exact ⟨⟨_, [], none, 0, rfl, Or.inl ⟨HM.out, rfl, rfl⟩, Vers.nil _ _, Nat.le_refl _, by simp⟩, HG.out.tr g1⟩
set_option maxRecDepth 100000 in
theorem write2_any (A : Option Addr) (cap : Nat) (l : List Vx) (P C : Int) (T : ByteArray) (w : World) (h : Vers w A l) (hT : T.size ≤ 9223372036854775807) :
    Calls Try.prog 52 #[.slice A l.length cap, .agg #[.int .i64 P, .int .i64 C], .string T] w fun r w' => (∃ e res B c, r = .returned (.tuple #[.slice B res.length c, .int .i64 e]) ∧ WrR l P C T e res ∧ Made1 w' B c res) ∧ Gr w w' := by
  have H := Lib.hid h; clear h
  have hga : Gr w (w.alloc (.cells #[.int .i64 P, .int .i64 C] 47)) := (Gr.rfl' w).al _
  have hn := World.alloc_heap_new w (.cells #[.int .i64 P, .int .i64 C] 47)
  have HN := Lib.hid hn
  have HG := Lib.hid hga
  have hleaf := refLeaf_any A cap l _ (H.out.gr hga)
  clear hn hga
  by_cases hl : leafChk l = 0
  · rw [hl] at hleaf
    have HLEAF := Lib.hid hleaf
    clear hleaf
    by_cases hd : dotChk P C = 0
    · have HM : Hid (mayE l P C = 0) := Lib.hid (by unfold mayE orC; rw [hl, hd]; rfl)
      by_cases h48 : 48 < T.size
      · have h48i : (48 : Int) < T.size := by omega
        go_enter Try.func52, Try.ntmps52
        go_wp2_with fail
        refine (HLEAF.out).mono ?_
        rintro r w1 ⟨rfl, g1⟩
        have hn1 := (g1.block _ (Array.getElem?_eq_some_iff.1 HN.out).1).trans HN.out
        have d0 : w1.cell? ⟨w.heap.size, 0, none⟩ = some (.int .i64 P) := by simp only [World.cell?, hn1]; rfl
        have d1 : w1.cell? ⟨w.heap.size, 1, none⟩ = some (.int .i64 C) := by simp only [World.cell?, hn1]; rfl
        clear hn1
        go_wp2_with fail
        refine (refDot_any P C w1).mono ?_
        rintro r w2 ⟨rfl, g2⟩
        rw [hd]
        go_wp2
        go_ret2
        exact ⟨⟨_, [], none, 0, rfl, Or.inr (Or.inl ⟨HM.out, h48, rfl, rfl⟩), Vers.nil _ _, Nat.le_refl _, by simp⟩, HG.out.tr (g1.tr g2)⟩
      · have h48i : ¬ (48 : Int) < T.size := by omega
        go_enter Try.func52, Try.ntmps52
        go_wp2_with fail
        refine (HLEAF.out).mono ?_
        rintro r w1 ⟨rfl, g1⟩
        have hn1 := (g1.block _ (Array.getElem?_eq_some_iff.1 HN.out).1).trans HN.out
        have d0 : w1.cell? ⟨w.heap.size, 0, none⟩ = some (.int .i64 P) := by simp only [World.cell?, hn1]; rfl
        have d1 : w1.cell? ⟨w.heap.size, 1, none⟩ = some (.int .i64 C) := by simp only [World.cell?, hn1]; rfl
        clear hn1
        go_wp2_with fail
        refine (refDot_any P C w1).mono ?_
        rintro r w2 ⟨rfl, g2⟩
        rw [hd]
        have HO := Lib.hid (over2_any A cap l P C false T w2 (H.out.gr (HG.out.tr (g1.tr g2))) hT)
        have d2 := g2.cell d0
        have d3 := g2.cell d1
        go_wp2_with fail
        refine (HO.out).mono ?_
        rintro r w3 ⟨⟨e, res, B, c, rfl, hov, hmd⟩, g3⟩
        go_wp2
        go_ret2
        exact ⟨⟨e, res, B, c, rfl, Or.inr (Or.inr ⟨HM.out, by omega, hov⟩), hmd⟩, HG.out.tr (g1.tr (g2.tr g3))⟩
    · have hME : mayE l P C = dotChk P C := by unfold mayE orC; rw [hl]; rfl
      have HME := Lib.hid hME
      have hdb : (dotChk P C == 0) = false := by simpa using hd
      have hdn : (dotChk P C != 0) = true := by simpa using hd
      have HD := Lib.hid hd
      clear hME hd
      go_enter Try.func52, Try.ntmps52
      go_wp2_with fail
      refine (HLEAF.out).mono ?_
      rintro r w1 ⟨rfl, g1⟩
      have hn1 := (g1.block _ (Array.getElem?_eq_some_iff.1 HN.out).1).trans HN.out
      have d0 : w1.cell? ⟨w.heap.size, 0, none⟩ = some (.int .i64 P) := by simp only [World.cell?, hn1]; rfl
      have d1 : w1.cell? ⟨w.heap.size, 1, none⟩ = some (.int .i64 C) := by simp only [World.cell?, hn1]; rfl
      clear hn1
      go_wp2_with fail
      refine (refDot_any P C w1).mono ?_
      rintro r w2 ⟨rfl, g2⟩
      go_wp2
      go_ret2
      exact ⟨⟨_, [], none, 0, rfl, Or.inl ⟨by rw [HME.out]; exact HD.out, HME.out.symm, rfl⟩, Vers.nil _ _, Nat.le_refl _, by simp⟩, HG.out.tr (g1.tr g2)⟩
  · have hME : mayE l P C = leafChk l := by unfold mayE orC; rw [if_pos hl]
    have HME := Lib.hid hME
    have hdb : (leafChk l == 0) = false := by simpa using hl
    have hdn : (leafChk l != 0) = true := by simpa using hl
    have HD := Lib.hid hl
    have HLEAF := Lib.hid hleaf
    clear hME hl hleaf
    go_enter Try.func52, Try.ntmps52
    go_wp2_with fail
    refine (HLEAF.out).mono ?_
    rintro r w1 ⟨rfl, g1⟩
    go_wp2
    go_ret2
    exact ⟨⟨_, [], none, 0, rfl, Or.inl ⟨by rw [HME.out]; exact HD.out, HME.out.symm, rfl⟩, Vers.nil _ _, Nat.le_refl _, by simp⟩, HG.out.tr g1⟩
set_option maxRecDepth 100000 in
theorem erase1_any (A : Option Addr) (cap : Nat) (l : List Vx) (P C : Int) (w : World) (h : Vers w A l) (hcp : ∀ x ∈ l, x.pl.length ≤ x.pc) (hlb : l.length ≤ 1000000) :
    Calls Try.prog 53 #[.slice A l.length cap, .agg #[.int .i64 P, .int .i64 C]] w fun r w' => (∃ e res B c, r = .returned (.tuple #[.slice B res.length c, .int .i64 e]) ∧ ErR l P C e res ∧ Made1 w' B c res) ∧ Gr w w' := by
  have H := Lib.hid h; clear h
  have hga : Gr w (w.alloc (.cells #[.int .i64 P, .int .i64 C] 47)) := (Gr.rfl' w).al _
  have hn := World.alloc_heap_new w (.cells #[.int .i64 P, .int .i64 C] 47)
  have HN := Lib.hid hn
  have HG := Lib.hid hga
  have hmay := may_any A cap l P C _ (H.out.gr hga)
  clear hn hga
  by_cases hm : mayE l P C = 0
  · rw [hm] at hmay
    have HM := Lib.hid hm
    have HMAY := Lib.hid hmay
    clear hm hmay
    go_enter Try.func53, Try.ntmps53
    go_wp2_with fail
    refine (HMAY.out).mono ?_
    rintro r w1 ⟨rfl, g1⟩
    go_wp2_with fail
    refine (vLive1_any A cap l w1 (H.out.gr (HG.out.tr g1)) (by omega)).mono ?_
    rintro r w2 ⟨⟨v, rfl, ho⟩, g2⟩
    obtain ⟨Av, nv, cv, rfl, hnv, _⟩ := ho.shp
    have hnv := hnv.out
    subst hnv
    clear ho
    by_cases h0 : (liveL l).length = 0
    · rw [h0]
      go_wp2
      go_ret2
      exact ⟨⟨_, [], none, 0, rfl, Or.inr (Or.inl ⟨HM.out, h0, rfl, rfl⟩), Vers.nil _ _, Nat.le_refl _, by simp⟩, HG.out.tr (g1.tr g2)⟩
    · have h0b : (((liveL l).length : Int) == 0) = false := by simp; intro e; exact h0 (by rw [e]; rfl)
      have hn1 := (g1.block _ (Array.getElem?_eq_some_iff.1 HN.out).1).trans HN.out
      have hn2 := (g2.block _ (Array.getElem?_eq_some_iff.1 hn1).1).trans hn1
      have d0 : w2.cell? ⟨w.heap.size, 0, none⟩ = some (.int .i64 P) := by simp only [World.cell?, hn2]; rfl
      have d1 : w2.cell? ⟨w.heap.size, 1, none⟩ = some (.int .i64 C) := by simp only [World.cell?, hn2]; rfl
      have HO := Lib.hid (over1_any A cap l P C true ⟨#[]⟩ w2 (H.out.gr (HG.out.tr (g1.tr g2))) hcp (by decide))
      clear hn1 hn2
      go_wp2_with fail
      refine (HO.out).mono ?_
      rintro r w3 ⟨⟨e, res, B, c, rfl, hov, hmd⟩, g3⟩
      go_wp2
      go_ret2
      exact ⟨⟨e, res, B, c, rfl, Or.inr (Or.inr ⟨HM.out, h0, hov⟩), hmd⟩, HG.out.tr (g1.tr (g2.tr g3))⟩
  · have hmb : (mayE l P C != 0) = true := by simpa using hm
    have HM := Lib.hid hm
    have HMAY := Lib.hid hmay
    clear hm hmay
    go_enter Try.func53, Try.ntmps53
    go_wp2_with fail
    refine (HMAY.out).mono ?_
    rintro r w1 ⟨rfl, g1⟩
    go_wp2
    go_ret2
    exact ⟨⟨_, [], none, 0, rfl, Or.inl ⟨HM.out, rfl, rfl⟩, Vers.nil _ _, Nat.le_refl _, by simp⟩, HG.out.tr g1⟩
set_option maxRecDepth 100000 in
theorem erase2_any (A : Option Addr) (cap : Nat) (l : List Vx) (P C : Int) (w : World) (h : Vers w A l) (hlb : l.length ≤ 1000000) :
    Calls Try.prog 54 #[.slice A l.length cap, .agg #[.int .i64 P, .int .i64 C]] w fun r w' => (∃ e res B c, r = .returned (.tuple #[.slice B res.length c, .int .i64 e]) ∧ ErR l P C e res ∧ Made1 w' B c res) ∧ Gr w w' := by
  have H := Lib.hid h; clear h
  have hga : Gr w (w.alloc (.cells #[.int .i64 P, .int .i64 C] 47)) := (Gr.rfl' w).al _
  have hn := World.alloc_heap_new w (.cells #[.int .i64 P, .int .i64 C] 47)
  have HN := Lib.hid hn
  have HG := Lib.hid hga
  have hleaf := refLeaf_any A cap l _ (H.out.gr hga)
  clear hn hga
  by_cases hl : leafChk l = 0
  · rw [hl] at hleaf
    have HLEAF := Lib.hid hleaf
    clear hleaf
    by_cases hd : dotChk P C = 0
    · have HM : Hid (mayE l P C = 0) := Lib.hid (by unfold mayE orC; rw [hl, hd]; rfl)
      go_enter Try.func54, Try.ntmps54
      go_wp2_with fail
      refine (HLEAF.out).mono ?_
      rintro r w1 ⟨rfl, g1⟩
      have hn1 := (g1.block _ (Array.getElem?_eq_some_iff.1 HN.out).1).trans HN.out
      have d0 : w1.cell? ⟨w.heap.size, 0, none⟩ = some (.int .i64 P) := by simp only [World.cell?, hn1]; rfl
      have d1 : w1.cell? ⟨w.heap.size, 1, none⟩ = some (.int .i64 C) := by simp only [World.cell?, hn1]; rfl
      clear hn1
      go_wp2_with fail
      refine (refDot_any P C w1).mono ?_
      rintro r w2 ⟨rfl, g2⟩
      rw [hd]
      go_wp2_with fail
      refine (vLive2_any A cap l w2 (H.out.gr (HG.out.tr (g1.tr g2))) (by omega)).mono ?_
      rintro r w3 ⟨⟨v, rfl, ho⟩, g3⟩
      obtain ⟨Av, nv, cv, rfl, hnv, _⟩ := ho.shp
      have hnv := hnv.out
      subst hnv
      clear ho
      by_cases h0 : (liveL l).length = 0
      · rw [h0]
        go_wp2
        go_ret2
        exact ⟨⟨_, [], none, 0, rfl, Or.inr (Or.inl ⟨HM.out, h0, rfl, rfl⟩), Vers.nil _ _, Nat.le_refl _, by simp⟩, HG.out.tr (g1.tr (g2.tr g3))⟩
      · have h0b : (((liveL l).length : Int) == 0) = false := by simp; intro e; exact h0 (by rw [e]; rfl)
        have HO := Lib.hid (over2_any A cap l P C true ⟨#[]⟩ w3 (H.out.gr (HG.out.tr (g1.tr (g2.tr g3)))) (by decide))
        have d2 := g3.cell (g2.cell d0)
        have d3 := g3.cell (g2.cell d1)
        go_wp2_with fail
        refine (HO.out).mono ?_
        rintro r w4 ⟨⟨e, res, B, c, rfl, hov, hmd⟩, g4⟩
        go_wp2
        go_ret2
        exact ⟨⟨e, res, B, c, rfl, Or.inr (Or.inr ⟨HM.out, h0, hov⟩), hmd⟩, HG.out.tr (g1.tr (g2.tr (g3.tr g4)))⟩
    · have hME : mayE l P C = dotChk P C := by unfold mayE orC; rw [hl]; rfl
      have HME := Lib.hid hME
      have hdb : (dotChk P C == 0) = false := by simpa using hd
      have hdn : (dotChk P C != 0) = true := by simpa using hd
      have HD := Lib.hid hd
      clear hME hd
      go_enter Try.func54, Try.ntmps54
      go_wp2_with fail
      refine (HLEAF.out).mono ?_
      rintro r w1 ⟨rfl, g1⟩
      have hn1 := (g1.block _ (Array.getElem?_eq_some_iff.1 HN.out).1).trans HN.out
      have d0 : w1.cell? ⟨w.heap.size, 0, none⟩ = some (.int .i64 P) := by simp only [World.cell?, hn1]; rfl
      have d1 : w1.cell? ⟨w.heap.size, 1, none⟩ = some (.int .i64 C) := by simp only [World.cell?, hn1]; rfl
      clear hn1
      go_wp2_with fail
      refine (refDot_any P C w1).mono ?_
      rintro r w2 ⟨rfl, g2⟩
      go_wp2
      go_ret2
      exact ⟨⟨_, [], none, 0, rfl, Or.inl ⟨by rw [HME.out]; exact HD.out, HME.out.symm, rfl⟩, Vers.nil _ _, Nat.le_refl _, by simp⟩, HG.out.tr (g1.tr g2)⟩
  · have hME : mayE l P C = leafChk l := by unfold mayE orC; rw [if_pos hl]
    have HME := Lib.hid hME
    have hdb : (leafChk l == 0) = false := by simpa using hl
    have hdn : (leafChk l != 0) = true := by simpa using hl
    have HD := Lib.hid hl
    have HLEAF := Lib.hid hleaf
    clear hME hl hleaf
    go_enter Try.func54, Try.ntmps54
    go_wp2_with fail
    refine (HLEAF.out).mono ?_
    rintro r w1 ⟨rfl, g1⟩
    go_wp2
    go_ret2
    exact ⟨⟨_, [], none, 0, rfl, Or.inl ⟨by rw [HME.out]; exact HD.out, HME.out.symm, rfl⟩, Vers.nil _ _, Nat.le_refl _, by simp⟩, HG.out.tr g1⟩
end Go.Proofs.Ytfobnemocodomaa
