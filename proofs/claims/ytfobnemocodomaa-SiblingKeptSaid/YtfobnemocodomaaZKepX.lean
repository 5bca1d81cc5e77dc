/- hearsaylaw07.SiblingKept: each version that was written is there when all are synced, or covered. -/
import Derived.Test.YtfobnemocodomaaZBm
import Derived.Test.YtfobnemocodomaaZBj
set_option linter.unusedVariables false
set_option linter.unusedSimpArgs false
set_option maxHeartbeats 2000000
namespace Go.Proofs.Ytfobnemocodomaa
open Go.RowKit Go.Great

theorem syncK {lf : Nat → List Vx} {n : Nat → Int} {al : List Vx} (hL : Wld lf n al) {a b : List Vx} (ha : Lfl al a) (hb : Lfl al b) {A B : Option Addr} {ca cb : Nat} {w : World} (ma : Made1 w A ca a) (mb : Made1 w B cb b) :
    Calls Try.prog 56 #[.slice A a.length ca, .slice B b.length cb] w fun r w' => (∃ v c, r = .returned (.slice v (synL a b).length c) ∧ Made1 w' v c (synL a b)) ∧ Gr w w' :=
  sync1P_any stableC19 (by decide) A B ca cb a b w ma.1 mb.1 (by have := lfl_len hL ha; have := lfl_len hL hb; omega) ma.2.2 mb.2.2
theorem Made1.grK {w w' : World} {A : Option Addr} {c : Nat} {l : List Vx} (h : Made1 w A c l) (g : Gr w w') : Made1 w' A c l := ⟨h.1.gr g, h.2⟩
/-- a version is there, or covered -/
def isK (v t : Vx) : Bool := (t.P == v.P && t.C == v.C) || hasV t.pl v.P v.C
theorem isK_step {X : List Vx} {j : Nat} (h : j < X.length) (v : Vx) : (X.take (j + 1)).any (isK v) = ((X.take j).any (isK v) || isK v X[j]) := by
  rw [List.take_succ_eq_append_getElem h, List.any_append]; simp
theorem kept_all {lf : Nat → List Vx} {n : Nat → Int} {al : List Vx} (h : Wld lf n al) {v : Vx} (hv : v ∈ al) : (synL (synL (lf 0) (lf 1)) (lf 2)).any (isK v) = true := by
  obtain ⟨t, ht, k⟩ := h.all3 hv
  rw [List.any_eq_true]
  refine ⟨t, ht, ?_⟩
  unfold isK
  rcases k with k | k
  · subst k; simp
  · unfold covs at k; rw [k]; simp
set_option maxRecDepth 100000 in
theorem SiblingKept_any (A : Option Addr) (cap : Nat) (l : List Stp) (w : World) (h : Stps w A l) :
    Calls Try.prog 10 #[.slice A l.length cap] w fun r w' => r = .returned (.bool true) ∧ Gr w w' := by
  have HW := Lib.hid (world_any A cap l w h)
  clear h
  go_enter Try.func10, Try.ntmps10
  go_wp2_with fail
  refine (HW.out).mono ?_
  rintro r w1 ⟨⟨lf, n, al, As, cs, v, rfl, hL, hM, hal, B, c, rfl, hv⟩, g1⟩
  have HL := Lib.hid hL
  have HM := Lib.hid hM
  have G1 := Lib.hid g1
  have HV := Lib.hid hv
  have HAL := Lib.hid hal
  have La := Lib.hid (hL.lfs 0 (by omega))
  have Lb := Lib.hid (hL.lfs 1 (by omega))
  have Lc := Lib.hid (hL.lfs 2 (by omega))
  have Lab := Lib.hid (synL_lf hL.uni La.out Lb.out)
  have Lx := Lib.hid (synL_lf hL.uni Lab.out Lc.out)
  have HK : Hid (∀ v ∈ al, (synL (synL (lf 0) (lf 1)) (lf 2)).any (isK v) = true) := Lib.hid (fun v hv => kept_all hL hv)
  have HZ := Lib.hid (Lx.out.chk hL.uni)
  have HX3 := Lib.hid (lfl_len hL Lx.out)
  clear hL hM hv hal g1 HW
  go_upto_region 2 with (fail)
  obtain ⟨A0, hA0⟩ : ∃ A0, As 0 = A0 := ⟨_, rfl⟩
  obtain ⟨A1, hA1⟩ : ∃ A1, As 1 = A1 := ⟨_, rfl⟩
  obtain ⟨A2, hA2⟩ : ∃ A2, As 2 = A2 := ⟨_, rfl⟩
  obtain ⟨k0, hk0⟩ : ∃ k0, cs 0 = k0 := ⟨_, rfl⟩
  obtain ⟨k1, hk1⟩ : ∃ k1, cs 1 = k1 := ⟨_, rfl⟩
  obtain ⟨k2, hk2⟩ : ∃ k2, cs 2 = k2 := ⟨_, rfl⟩
  have M0 := Lib.hid (HM.out 0 (by omega))
  have M1 := Lib.hid (HM.out 1 (by omega))
  have M2 := Lib.hid (HM.out 2 (by omega))
  rw [hA0, hk0] at M0
  rw [hA1, hk1] at M1
  rw [hA2, hk2] at M2
  simp only [hA0, hA1, hA2, hk0, hk1, hk2]
  obtain ⟨a, ha⟩ : ∃ a, lf 0 = a := ⟨_, rfl⟩
  obtain ⟨b, hb⟩ : ∃ b, lf 1 = b := ⟨_, rfl⟩
  obtain ⟨d, hd⟩ : ∃ d, lf 2 = d := ⟨_, rfl⟩
  simp only [ha, hb, hd] at La Lb Lc HK HZ HX3 Lab Lx M0 M1 M2 ⊢
  clear hA0 hA1 hA2 hk0 hk1 hk2 HM ha hb hd
  have hn := World.alloc_heap_new w1 (.cells #[.slice A0 a.length k0, .slice A1 b.length k1, .slice A2 d.length k2] 61)
  have hga : Gr w1 (w1.alloc (.cells #[.slice A0 a.length k0, .slice A1 b.length k1, .slice A2 d.length k2] 61)) := (Gr.rfl' w1).al _
  generalize w1.alloc (.cells #[.slice A0 a.length k0, .slice A1 b.length k1, .slice A2 d.length k2] 61) = W at hn hga ⊢
  have c0 : W.cell? ⟨w1.heap.size, 0, none⟩ = some (.slice A0 a.length k0) := by simp only [World.cell?, hn]; rfl
  have c1 : W.cell? ⟨w1.heap.size, 1, none⟩ = some (.slice A1 b.length k1) := by simp only [World.cell?, hn]; rfl
  have c2 : W.cell? ⟨w1.heap.size, 2, none⟩ = some (.slice A2 d.length k2) := by simp only [World.cell?, hn]; rfl
  clear hn
  have HGA := Lib.hid hga
  clear hga
  have hSS : Gr W W.drew := (Gr.rfl' _).dr
  refine region_T 8 (fun w' => Gr W w') (by kernel_rfl) ?_
  refine anyT_take (i := 0) (v := ?_) (some 14) rfl rfl (by kernel_rfl) (fun _ _ _ h => h) (Or.inl ⟨by rfl, ?_⟩) hSS ?_
  rotate_left
  · intro w' hSw; go_simp; (try with_reducible rfl)
  simp only [Act.put, List.setIfInBounds_toArray, List.set_cons_zero, List.set_cons_succ]
  refine anyT_take (i := 1) (v := ?_) (some 15) rfl rfl (by kernel_rfl) (fun _ _ _ h => h) (Or.inl ⟨by rfl, ?_⟩) hSS ?_
  rotate_left
  · intro w' hSw; have q0 := hSw.cell c0; go_simp; (try with_reducible rfl)
  simp only [Act.put, List.setIfInBounds_toArray, List.set_cons_zero, List.set_cons_succ]
  refine anyT_take (i := 2) (v := ?_) (some 16) rfl rfl (by kernel_rfl) (fun _ _ _ h => h) (Or.inl ⟨by rfl, ?_⟩) hSS ?_
  rotate_left
  · intro w' hSw; go_simp; (try with_reducible rfl)
  simp only [Act.put, List.setIfInBounds_toArray, List.set_cons_zero, List.set_cons_succ]
  refine anyT_take (i := 3) (v := ?_) (some 17) rfl rfl (by kernel_rfl) (fun _ _ _ h => h) (Or.inl ⟨by rfl, ?_⟩) hSS ?_
  rotate_left
  · intro w' hSw; have q0 := hSw.cell c1; go_simp; (try with_reducible rfl)
  simp only [Act.put, List.setIfInBounds_toArray, List.set_cons_zero, List.set_cons_succ]
  refine anyT_take (i := 5) (v := ?_) (some 19) rfl rfl (by kernel_rfl) (fun _ _ _ h => h) (Or.inl ⟨by rfl, ?_⟩) hSS ?_
  rotate_left
  · intro w' hSw; go_simp; (try with_reducible rfl)
  simp only [Act.put, List.setIfInBounds_toArray, List.set_cons_zero, List.set_cons_succ]
  refine anyT_take (i := 6) (v := ?_) (some 20) rfl rfl (by kernel_rfl) (fun _ _ _ h => h) (Or.inl ⟨by rfl, ?_⟩) hSS ?_
  rotate_left
  · intro w' hSw; have q0 := hSw.cell c2; go_simp; (try with_reducible rfl)
  simp only [Act.put, List.setIfInBounds_toArray, List.set_cons_zero, List.set_cons_succ]
  refine anyT_callG (i := 4) (some 18) 56 #[.slice A0 a.length k0, .slice A1 b.length k1] (by kernel_rfl) rfl (by kernel_rfl) rfl (by kernel_rfl) ?_
  refine (syncK HL.out La.out Lb.out (M0.out.grK (HGA.out.tr hSS)) (M1.out.grK (HGA.out.tr hSS))).mono ?_
  rintro r w3 ⟨⟨v3, c3, rfl, m3⟩, g3⟩
  have Mab := Lib.hid m3
  replace hSS := hSS.tr g3
  clear m3 g3
  refine ⟨_, rfl, fun _ => hSS, ?_⟩
  simp only [Act.put, List.setIfInBounds_toArray, List.set_cons_zero, List.set_cons_succ]
  refine anyT_callG (i := 7) (some 21) 56 #[.slice v3 (synL a b).length c3, .slice A2 d.length k2] (by kernel_rfl) rfl (by kernel_rfl) rfl (by kernel_rfl) ?_
  refine (syncK HL.out Lab.out Lc.out Mab.out (M2.out.grK (HGA.out.tr hSS))).mono ?_
  rintro r w4 ⟨⟨vx, cx, rfl, m4⟩, g4⟩
  have Mx := Lib.hid m4
  replace hSS := hSS.tr g4
  clear m4 g4 Mab
  refine ⟨_, rfl, fun _ => hSS, ?_⟩
  simp only [Act.put, List.setIfInBounds_toArray, List.set_cons_zero, List.set_cons_succ]
  obtain ⟨X, hX⟩ : ∃ X, synL (synL a b) d = X := ⟨_, rfl⟩
  rw [hX] at HK HZ HX3 Mx ⊢
  clear hX
  refine anyT_last (some 5) (.slice vx X.length cx) (by kernel_rfl) (by kernel_rfl) rfl (by kernel_rfl) rfl (by kernel_rfl) ?_
  simp only [Act.put, List.setIfInBounds_toArray, List.set_cons_zero, List.set_cons_succ]
  have G4 := Lib.hid (HGA.out.tr hSS)
  have HV4 := Lib.hid (HV.out.gr G4.out)
  have GW := Lib.hid (G1.out.tr G4.out)
  clear hSS c0 c1 c2 HGA M0 M1 M2 La Lb Lc Lab Lx HL G1 G4 HV
  have HCL := Lib.hid (sLeaf_any vx cx X w4 Mx.out.1)
  rw [HZ.out] at HCL
  go_wp2_with fail
  refine (HCL.out).mono ?_
  rintro r w5 ⟨rfl, g5⟩
  have MX := Lib.hid (Mx.out.1.gr g5)
  replace HV := Lib.hid (HV4.out.gr g5)
  replace GW := Lib.hid (GW.out.tr g5)
  clear HCL HZ Mx HV4 g5
  have GS := Lib.hid (Gr.rfl' w5)
  go_wp2
  go_loopw [6] (fun i wr => ∃ m : Nat, m ≤ al.length ∧ i = .int .i64 m ∧ Hid (Gr w5 wr)) (fun i _ => al.length - (intOf i).toNat)
  case atStart => exact ⟨0, Nat.zero_le _, rfl, GS⟩
  case round =>
    clear GS
    obtain ⟨m, hm, rfl, GR⟩ := hrel
    have hal := HAL.out
    have hx3 := HX3.out
    by_cases hlt : m < al.length
    · have hmi : (m : Int) < al.length := by omega
      obtain ⟨adv, rfl, hvok, hvc⟩ := HV.out.2 m hlt
      have hkm := HK.out al[m] (List.getElem_mem hlt)
      obtain ⟨v, hv⟩ : ∃ v, al[m] = v := ⟨_, rfl⟩
      rw [hv] at hvok hvc hkm
      have HVOK := Lib.hid hvok
      have HVC := Lib.hid hvc
      have HKM := Lib.hid hkm
      clear hvok hvc hkm hv
      rename World => wo
      have GK := Lib.hid (Gr.rfl' wo)
      go_wp2
      go_loopw [7, 8] (fun kp kk wq => ∃ j : Nat, j ≤ X.length ∧ kk = .int .i64 j ∧ kp = .bool ((X.take j).any (isK v)) ∧ Hid (Gr wo wq)) (fun _ kk _ => X.length - (intOf kk).toNat)
      case atStart => exact ⟨0, Nat.zero_le _, rfl, by simp, GK⟩
      case round =>
        clear GK
        obtain ⟨j, hj, rfl, rfl, GQ⟩ := hrel
        rename World => wq
        by_cases hjt : j < X.length
        · have hji : (j : Int) < X.length := by omega
          obtain ⟨adx, rfl, htok, htc⟩ := MX.out.2 j hjt
          have hst := isK_step hjt v
          obtain ⟨t, ht⟩ : ∃ t, X[j] = t := ⟨_, rfl⟩
          rw [ht] at htok htc hst
          obtain ⟨kp, hkp⟩ : ∃ kp, (X.take j).any (isK v) = kp := ⟨_, rfl⟩
          rw [hkp] at hst ⊢
          have HST := Lib.hid hst
          obtain ⟨tP, tC, tA, tpl, tpc, tD, tT⟩ := t
          obtain ⟨vP, vC, vA, vpl, vpc, vD, vT⟩ := v
          have GA := Lib.hid (GR.out.tr GQ.out)
          have HTC : Hid (∀ w', Gr wq w' → ∀ i u, (⟨tP, tC, tA, tpl, tpc, tD, tT⟩ : Vx).cells.toList[i]? = some u → w'.cell? ((adx.add (j * 5)).add i) = some u) := Lib.hid (fun w' g i u hu => g.cell (GA.out.cell (htc i u (by simpa using hu))))
          have HVD0 : Hid (∀ w', Gr wq w' → ∀ i u, (⟨vP, vC, vA, vpl, vpc, vD, vT⟩ : Vx).cells.toList[i]? = some u → w'.cell? ((adv.add (m * 5)).add i) = some u) := Lib.hid (fun w' g i u hu => g.cell (GA.out.cell (HVC.out i u (by simpa using hu))))
          have HTD : Hid (∀ w', Gr wq w' → ∀ i u, [Value.int .i64 tP, .int .i64 tC][i]? = some u → w'.cell? ((adx.add (j * 5)).add i) = some u) := Lib.hid (fun w' g i u hu => HTC.out w' g i u (by
            match i with
            | 0 | 1 => exact hu
            | i + 2 => simp at hu))
          have HVD : Hid (∀ w', Gr wq w' → ∀ i u, [Value.int .i64 vP, .int .i64 vC][i]? = some u → w'.cell? ((adv.add (m * 5)).add i) = some u) := Lib.hid (fun w' g i u hu => HVD0.out w' g i u (by
            match i with
            | 0 | 1 => exact hu
            | i + 2 => simp at hu))
          have HTOK := Lib.hid (htok.gr GA.out)
          clear htok htc hst ht hkp
          go_upto_region 12 with (fail)
          have hSS : Gr wq wq.drew := (Gr.rfl' _).dr
          refine region_T 25 (fun w' => Gr wq w') (by kernel_rfl) ?_
          refine anyT_take (i := 0) (v := ?_) (some 37) rfl rfl (by kernel_rfl) (fun _ _ _ h => h) (Or.inl ⟨by rfl, ?_⟩) hSS ?_
          rotate_left
          · intro w' hSw; go_simp; (try with_reducible rfl)
          simp only [Act.put, List.setIfInBounds_toArray, List.set_cons_zero, List.set_cons_succ]
          refine anyT_take (i := 1) (v := ?_) (some 38) rfl rfl (by kernel_rfl) (fun _ _ _ h => h) (Or.inl ⟨by rfl, ?_⟩) hSS ?_
          rotate_left
          · intro w' hSw; go_simp; (try with_reducible rfl)
          simp only [Act.put, List.setIfInBounds_toArray, List.set_cons_zero, List.set_cons_succ]
          cases kp
          · by_cases hdq : (tP == vP && tC == vC) = true
            · skip
              refine anyT_take (i := 2) (v := ?_) (some 39) rfl rfl (by kernel_rfl) (fun _ _ _ h => h) (Or.inl ⟨by rfl, ?_⟩) hSS ?_
              rotate_left
              · intro w' hSw; go_simp; (try with_reducible rfl)
              simp only [Act.put, List.setIfInBounds_toArray, List.set_cons_zero, List.set_cons_succ]
              refine anyT_take (i := 3) (v := ?_) (some 40) rfl rfl (by kernel_rfl) (fun _ _ _ h => h) (Or.inl ⟨by rfl, ?_⟩) hSS ?_
              rotate_left
              · intro w' hSw; go_simp; (try with_reducible rfl)
              simp only [Act.put, List.setIfInBounds_toArray, List.set_cons_zero, List.set_cons_succ]
              refine anyT_take (i := 4) (v := ?_) (some 41) rfl rfl (by kernel_rfl) (fun _ _ _ h => h) (Or.inl ⟨by rfl, ?_⟩) hSS ?_
              rotate_left
              · intro w' hSw; go_simp; (try with_reducible rfl)
              simp only [Act.put, List.setIfInBounds_toArray, List.set_cons_zero, List.set_cons_succ]
              refine anyT_take (i := 5) (v := ?_) (some 42) rfl rfl (by kernel_rfl) (fun _ _ _ h => h) (Or.inl ⟨by rfl, ?_⟩) hSS ?_
              rotate_left
              · intro w' hSw; go_simp; (try with_reducible rfl)
              simp only [Act.put, List.setIfInBounds_toArray, List.set_cons_zero, List.set_cons_succ]
              refine anyT_take (i := 6) (some 43) rfl rfl (by kernel_rfl) (fun _ _ _ h => h) (yieldsIf_ld (by rfl) 47 (.tmp 42) rfl (adx.add (j * 5)) rfl [.int .i64 tP, .int .i64 tC] _ (fun w' hSw => HTD.out w' hSw) Try.underlying47 rfl (by kernel_rfl)) hSS ?_
              simp only [Act.put, List.setIfInBounds_toArray, List.set_cons_zero, List.set_cons_succ]
              refine anyT_take (i := 7) (v := ?_) (some 44) rfl rfl (by kernel_rfl) (fun _ _ _ h => h) (Or.inl ⟨by rfl, ?_⟩) hSS ?_
              rotate_left
              · intro w' hSw; go_simp; (try with_reducible rfl)
              simp only [Act.put, List.setIfInBounds_toArray, List.set_cons_zero, List.set_cons_succ]
              refine anyT_take (i := 8) (v := ?_) (some 45) rfl rfl (by kernel_rfl) (fun _ _ _ h => h) (Or.inl ⟨by rfl, ?_⟩) hSS ?_
              rotate_left
              · intro w' hSw; go_simp; (try with_reducible rfl)
              simp only [Act.put, List.setIfInBounds_toArray, List.set_cons_zero, List.set_cons_succ]
              refine anyT_take (i := 9) (v := ?_) (some 46) rfl rfl (by kernel_rfl) (fun _ _ _ h => h) (Or.inl ⟨by rfl, ?_⟩) hSS ?_
              rotate_left
              · intro w' hSw; go_simp; (try with_reducible rfl)
              simp only [Act.put, List.setIfInBounds_toArray, List.set_cons_zero, List.set_cons_succ]
              refine anyT_take (i := 10) (v := ?_) (some 47) rfl rfl (by kernel_rfl) (fun _ _ _ h => h) (Or.inl ⟨by rfl, ?_⟩) hSS ?_
              rotate_left
              · intro w' hSw; go_simp; (try with_reducible rfl)
              simp only [Act.put, List.setIfInBounds_toArray, List.set_cons_zero, List.set_cons_succ]
              refine anyT_take (i := 11) (some 48) rfl rfl (by kernel_rfl) (fun _ _ _ h => h) (yieldsIf_ld (by rfl) 47 (.tmp 47) rfl (adv.add (m * 5)) rfl [.int .i64 vP, .int .i64 vC] _ (fun w' hSw => HVD.out w' hSw) Try.underlying47 rfl (by kernel_rfl)) hSS ?_
              simp only [Act.put, List.setIfInBounds_toArray, List.set_cons_zero, List.set_cons_succ]
              refine anyT_take (i := 12) (v := .bool (tP == vP && tC == vC)) (some 49) rfl rfl (by kernel_rfl) (fun _ _ _ h => h) (Or.inl ⟨by rfl, ?_⟩) hSS ?_
              · intro w' _
                go_simp
                by_cases q1 : tP = vP <;> by_cases q2 : tC = vC <;> first | (simp [q1, q2]; done) | (exfalso; revert hdq; simp [q1, q2])
              simp only [Act.put, List.setIfInBounds_toArray, List.set_cons_zero, List.set_cons_succ]
              rw [hdq]
              refine anyT_take (i := 13) (v := ?_) (some 50) rfl rfl (by kernel_rfl) (fun _ _ _ h => h) (Or.inl ⟨by rfl, ?_⟩) hSS ?_
              rotate_left
              · intro w' hSw; go_simp; (try with_reducible rfl)
              simp only [Act.put, List.setIfInBounds_toArray, List.set_cons_zero, List.set_cons_succ]
              refine anyT_take (i := 14) (v := ?_) (some 51) rfl rfl (by kernel_rfl) (fun _ _ _ h => h) (Or.inl ⟨by rfl, ?_⟩) hSS ?_
              rotate_left
              · intro w' hSw; go_simp; (try with_reducible rfl)
              simp only [Act.put, List.setIfInBounds_toArray, List.set_cons_zero, List.set_cons_succ]
              refine anyT_take (i := 15) (v := undef) (some 52) rfl rfl (by kernel_rfl) (fun _ _ _ h => h) (Or.inr ⟨by rfl, rfl⟩) hSS ?_
              simp only [Act.put, List.setIfInBounds_toArray, List.set_cons_zero, List.set_cons_succ]
              refine anyT_take (i := 16) (v := undef) (some 53) rfl rfl (by kernel_rfl) (fun _ _ _ h => h) (Or.inr ⟨by rfl, rfl⟩) hSS ?_
              simp only [Act.put, List.setIfInBounds_toArray, List.set_cons_zero, List.set_cons_succ]
              refine anyT_take (i := 17) (v := undef) (some 54) rfl rfl (by kernel_rfl) (fun _ _ _ h => h) (Or.inr ⟨by rfl, rfl⟩) hSS ?_
              simp only [Act.put, List.setIfInBounds_toArray, List.set_cons_zero, List.set_cons_succ]
              refine anyT_take (i := 18) (v := undef) (some 55) rfl rfl (by kernel_rfl) (fun _ _ _ h => h) (Or.inr ⟨by rfl, rfl⟩) hSS ?_
              simp only [Act.put, List.setIfInBounds_toArray, List.set_cons_zero, List.set_cons_succ]
              refine anyT_take (i := 19) (v := undef) (some 56) rfl rfl (by kernel_rfl) (fun _ _ _ h => h) (Or.inr ⟨by rfl, rfl⟩) hSS ?_
              simp only [Act.put, List.setIfInBounds_toArray, List.set_cons_zero, List.set_cons_succ]
              refine anyT_take (i := 20) (v := undef) (some 57) rfl rfl (by kernel_rfl) (fun _ _ _ h => h) (Or.inr ⟨by rfl, rfl⟩) hSS ?_
              simp only [Act.put, List.setIfInBounds_toArray, List.set_cons_zero, List.set_cons_succ]
              refine anyT_take (i := 21) (v := undef) (some 58) rfl rfl (by kernel_rfl) (fun _ _ _ h => h) (Or.inr ⟨by rfl, rfl⟩) hSS ?_
              simp only [Act.put, List.setIfInBounds_toArray, List.set_cons_zero, List.set_cons_succ]
              refine anyT_take (i := 22) (v := undef) (some 59) rfl rfl (by kernel_rfl) (fun _ _ _ h => h) (Or.inr ⟨by rfl, rfl⟩) hSS ?_
              simp only [Act.put, List.setIfInBounds_toArray, List.set_cons_zero, List.set_cons_succ]
              refine anyT_take (i := 23) (v := undef) (some 60) rfl rfl (by kernel_rfl) (fun _ _ _ h => h) (Or.inr ⟨by rfl, rfl⟩) hSS ?_
              simp only [Act.put, List.setIfInBounds_toArray, List.set_cons_zero, List.set_cons_succ]
              refine anyT_take (i := 24) (v := ?_) (some 61) rfl rfl (by kernel_rfl) (fun _ _ _ h => h) (Or.inl ⟨by rfl, ?_⟩) hSS ?_
              rotate_left
              · intro w' hSw; go_simp; (try with_reducible rfl)
              simp only [Act.put, List.setIfInBounds_toArray, List.set_cons_zero, List.set_cons_succ]
              refine anyT_last (some 7) (.bool true) (by kernel_rfl) (by kernel_rfl) rfl (by kernel_rfl) rfl (by kernel_rfl) ?_
              simp only [Act.put, List.setIfInBounds_toArray, List.set_cons_zero, List.set_cons_succ]
              go_wp2
              go_roundw
              case rel => exact ⟨j + 1, by omega, by go_num, by rw [HST.out]; simp [isK, hdq], Lib.hid (GQ.out.tr hSS)⟩
              case measure => simp [intOf]; omega
            · have hdq : (tP == vP && tC == vC) = false := by simpa using hdq
              refine anyT_take (i := 2) (v := ?_) (some 39) rfl rfl (by kernel_rfl) (fun _ _ _ h => h) (Or.inl ⟨by rfl, ?_⟩) hSS ?_
              rotate_left
              · intro w' hSw; go_simp; (try with_reducible rfl)
              simp only [Act.put, List.setIfInBounds_toArray, List.set_cons_zero, List.set_cons_succ]
              refine anyT_take (i := 3) (v := ?_) (some 40) rfl rfl (by kernel_rfl) (fun _ _ _ h => h) (Or.inl ⟨by rfl, ?_⟩) hSS ?_
              rotate_left
              · intro w' hSw; go_simp; (try with_reducible rfl)
              simp only [Act.put, List.setIfInBounds_toArray, List.set_cons_zero, List.set_cons_succ]
              refine anyT_take (i := 4) (v := ?_) (some 41) rfl rfl (by kernel_rfl) (fun _ _ _ h => h) (Or.inl ⟨by rfl, ?_⟩) hSS ?_
              rotate_left
              · intro w' hSw; go_simp; (try with_reducible rfl)
              simp only [Act.put, List.setIfInBounds_toArray, List.set_cons_zero, List.set_cons_succ]
              refine anyT_take (i := 5) (v := ?_) (some 42) rfl rfl (by kernel_rfl) (fun _ _ _ h => h) (Or.inl ⟨by rfl, ?_⟩) hSS ?_
              rotate_left
              · intro w' hSw; go_simp; (try with_reducible rfl)
              simp only [Act.put, List.setIfInBounds_toArray, List.set_cons_zero, List.set_cons_succ]
              refine anyT_take (i := 6) (some 43) rfl rfl (by kernel_rfl) (fun _ _ _ h => h) (yieldsIf_ld (by rfl) 47 (.tmp 42) rfl (adx.add (j * 5)) rfl [.int .i64 tP, .int .i64 tC] _ (fun w' hSw => HTD.out w' hSw) Try.underlying47 rfl (by kernel_rfl)) hSS ?_
              simp only [Act.put, List.setIfInBounds_toArray, List.set_cons_zero, List.set_cons_succ]
              refine anyT_take (i := 7) (v := ?_) (some 44) rfl rfl (by kernel_rfl) (fun _ _ _ h => h) (Or.inl ⟨by rfl, ?_⟩) hSS ?_
              rotate_left
              · intro w' hSw; go_simp; (try with_reducible rfl)
              simp only [Act.put, List.setIfInBounds_toArray, List.set_cons_zero, List.set_cons_succ]
              refine anyT_take (i := 8) (v := ?_) (some 45) rfl rfl (by kernel_rfl) (fun _ _ _ h => h) (Or.inl ⟨by rfl, ?_⟩) hSS ?_
              rotate_left
              · intro w' hSw; go_simp; (try with_reducible rfl)
              simp only [Act.put, List.setIfInBounds_toArray, List.set_cons_zero, List.set_cons_succ]
              refine anyT_take (i := 9) (v := ?_) (some 46) rfl rfl (by kernel_rfl) (fun _ _ _ h => h) (Or.inl ⟨by rfl, ?_⟩) hSS ?_
              rotate_left
              · intro w' hSw; go_simp; (try with_reducible rfl)
              simp only [Act.put, List.setIfInBounds_toArray, List.set_cons_zero, List.set_cons_succ]
              refine anyT_take (i := 10) (v := ?_) (some 47) rfl rfl (by kernel_rfl) (fun _ _ _ h => h) (Or.inl ⟨by rfl, ?_⟩) hSS ?_
              rotate_left
              · intro w' hSw; go_simp; (try with_reducible rfl)
              simp only [Act.put, List.setIfInBounds_toArray, List.set_cons_zero, List.set_cons_succ]
              refine anyT_take (i := 11) (some 48) rfl rfl (by kernel_rfl) (fun _ _ _ h => h) (yieldsIf_ld (by rfl) 47 (.tmp 47) rfl (adv.add (m * 5)) rfl [.int .i64 vP, .int .i64 vC] _ (fun w' hSw => HVD.out w' hSw) Try.underlying47 rfl (by kernel_rfl)) hSS ?_
              simp only [Act.put, List.setIfInBounds_toArray, List.set_cons_zero, List.set_cons_succ]
              refine anyT_take (i := 12) (v := .bool (tP == vP && tC == vC)) (some 49) rfl rfl (by kernel_rfl) (fun _ _ _ h => h) (Or.inl ⟨by rfl, ?_⟩) hSS ?_
              · intro w' _
                go_simp
                by_cases q1 : tP = vP <;> by_cases q2 : tC = vC <;> first | (simp [q1, q2]; done) | (exfalso; revert hdq; simp [q1, q2])
              simp only [Act.put, List.setIfInBounds_toArray, List.set_cons_zero, List.set_cons_succ]
              rw [hdq]
              refine anyT_take (i := 13) (v := ?_) (some 50) rfl rfl (by kernel_rfl) (fun _ _ _ h => h) (Or.inl ⟨by rfl, ?_⟩) hSS ?_
              rotate_left
              · intro w' hSw; go_simp; (try with_reducible rfl)
              simp only [Act.put, List.setIfInBounds_toArray, List.set_cons_zero, List.set_cons_succ]
              refine anyT_take (i := 14) (v := ?_) (some 51) rfl rfl (by kernel_rfl) (fun _ _ _ h => h) (Or.inl ⟨by rfl, ?_⟩) hSS ?_
              rotate_left
              · intro w' hSw; go_simp; (try with_reducible rfl)
              simp only [Act.put, List.setIfInBounds_toArray, List.set_cons_zero, List.set_cons_succ]
              refine anyT_take (i := 15) (v := ?_) (some 52) rfl rfl (by kernel_rfl) (fun _ _ _ h => h) (Or.inl ⟨by rfl, ?_⟩) hSS ?_
              rotate_left
              · intro w' hSw; go_simp; (try with_reducible rfl)
              simp only [Act.put, List.setIfInBounds_toArray, List.set_cons_zero, List.set_cons_succ]
              refine anyT_take (i := 16) (v := ?_) (some 53) rfl rfl (by kernel_rfl) (fun _ _ _ h => h) (Or.inl ⟨by rfl, ?_⟩) hSS ?_
              rotate_left
              · intro w' hSw; go_simp; (try with_reducible rfl)
              simp only [Act.put, List.setIfInBounds_toArray, List.set_cons_zero, List.set_cons_succ]
              refine anyT_take (i := 17) (v := ?_) (some 54) rfl rfl (by kernel_rfl) (fun _ _ _ h => h) (Or.inl ⟨by rfl, ?_⟩) hSS ?_
              rotate_left
              · intro w' hSw; go_simp; (try with_reducible rfl)
              simp only [Act.put, List.setIfInBounds_toArray, List.set_cons_zero, List.set_cons_succ]
              refine anyT_take (i := 18) (some 55) rfl rfl (by kernel_rfl) (fun _ _ _ h => h) (yieldsIf_ld (by rfl) 49 (.tmp 54) rfl (adx.add (j * 5)) rfl (⟨tP, tC, tA, tpl, tpc, tD, tT⟩ : Vx).cells.toList _ (fun w' hSw => HTC.out w' hSw) Try.underlying49 rfl (by kernel_rfl)) hSS ?_
              simp only [Act.put, List.setIfInBounds_toArray, List.set_cons_zero, List.set_cons_succ]
              refine anyT_take (i := 19) (v := ?_) (some 56) rfl rfl (by kernel_rfl) (fun _ _ _ h => h) (Or.inl ⟨by rfl, ?_⟩) hSS ?_
              rotate_left
              · intro w' hSw; go_simp; (try with_reducible rfl)
              simp only [Act.put, List.setIfInBounds_toArray, List.set_cons_zero, List.set_cons_succ]
              refine anyT_take (i := 20) (v := ?_) (some 57) rfl rfl (by kernel_rfl) (fun _ _ _ h => h) (Or.inl ⟨by rfl, ?_⟩) hSS ?_
              rotate_left
              · intro w' hSw; go_simp; (try with_reducible rfl)
              simp only [Act.put, List.setIfInBounds_toArray, List.set_cons_zero, List.set_cons_succ]
              refine anyT_take (i := 21) (v := ?_) (some 58) rfl rfl (by kernel_rfl) (fun _ _ _ h => h) (Or.inl ⟨by rfl, ?_⟩) hSS ?_
              rotate_left
              · intro w' hSw; go_simp; (try with_reducible rfl)
              simp only [Act.put, List.setIfInBounds_toArray, List.set_cons_zero, List.set_cons_succ]
              refine anyT_take (i := 22) (some 59) rfl rfl (by kernel_rfl) (fun _ _ _ h => h) (yieldsIf_ld (by rfl) 49 (.tmp 58) rfl (adv.add (m * 5)) rfl (⟨vP, vC, vA, vpl, vpc, vD, vT⟩ : Vx).cells.toList _ (fun w' hSw => HVD0.out w' hSw) Try.underlying49 rfl (by kernel_rfl)) hSS ?_
              simp only [Act.put, List.setIfInBounds_toArray, List.set_cons_zero, List.set_cons_succ]
              refine anyT_callG (i := 23) (some 60) 41 #[.agg (⟨tP, tC, tA, tpl, tpc, tD, tT⟩ : Vx).cells, .agg (⟨vP, vC, vA, vpl, vpc, vD, vT⟩ : Vx).cells] (by kernel_rfl) rfl (by kernel_rfl) rfl (by kernel_rfl) ?_
              refine (vCovers1_any (⟨tP, tC, tA, tpl, tpc, tD, tT⟩ : Vx) (⟨vP, vC, vA, vpl, vpc, vD, vT⟩ : Vx) _ (HTOK.out.gr hSS)).mono ?_
              rintro e wd ⟨rfl, hgd⟩
              replace hSS := hSS.tr hgd
              refine ⟨_, rfl, fun _ => hSS, ?_⟩
              simp only [Act.put, List.setIfInBounds_toArray, List.set_cons_zero, List.set_cons_succ]
              clear hgd
              refine anyT_take (i := 24) (v := ?_) (some 61) rfl rfl (by kernel_rfl) (fun _ _ _ h => h) (Or.inl ⟨by rfl, ?_⟩) hSS ?_
              rotate_left
              · intro w' hSw; go_simp; (try with_reducible rfl)
              simp only [Act.put, List.setIfInBounds_toArray, List.set_cons_zero, List.set_cons_succ]
              refine anyT_last (some 7) (.bool (hasV tpl vP vC)) (by kernel_rfl) (by kernel_rfl) rfl (by kernel_rfl) rfl (by kernel_rfl) ?_
              simp only [Act.put, List.setIfInBounds_toArray, List.set_cons_zero, List.set_cons_succ]
              go_wp2
              go_roundw
              case rel => exact ⟨j + 1, by omega, by go_num, by rw [HST.out]; simp [isK, hdq], Lib.hid (GQ.out.tr hSS)⟩
              case measure => simp [intOf]; omega
          · skip
            refine anyT_take (i := 2) (v := undef) (some 39) rfl rfl (by kernel_rfl) (fun _ _ _ h => h) (Or.inr ⟨by rfl, rfl⟩) hSS ?_
            simp only [Act.put, List.setIfInBounds_toArray, List.set_cons_zero, List.set_cons_succ]
            refine anyT_take (i := 3) (v := undef) (some 40) rfl rfl (by kernel_rfl) (fun _ _ _ h => h) (Or.inr ⟨by rfl, rfl⟩) hSS ?_
            simp only [Act.put, List.setIfInBounds_toArray, List.set_cons_zero, List.set_cons_succ]
            refine anyT_take (i := 4) (v := undef) (some 41) rfl rfl (by kernel_rfl) (fun _ _ _ h => h) (Or.inr ⟨by rfl, rfl⟩) hSS ?_
            simp only [Act.put, List.setIfInBounds_toArray, List.set_cons_zero, List.set_cons_succ]
            refine anyT_take (i := 5) (v := undef) (some 42) rfl rfl (by kernel_rfl) (fun _ _ _ h => h) (Or.inr ⟨by rfl, rfl⟩) hSS ?_
            simp only [Act.put, List.setIfInBounds_toArray, List.set_cons_zero, List.set_cons_succ]
            refine anyT_take (i := 6) (v := undef) (some 43) rfl rfl (by kernel_rfl) (fun _ _ _ h => h) (Or.inr ⟨by rfl, rfl⟩) hSS ?_
            simp only [Act.put, List.setIfInBounds_toArray, List.set_cons_zero, List.set_cons_succ]
            refine anyT_take (i := 7) (v := undef) (some 44) rfl rfl (by kernel_rfl) (fun _ _ _ h => h) (Or.inr ⟨by rfl, rfl⟩) hSS ?_
            simp only [Act.put, List.setIfInBounds_toArray, List.set_cons_zero, List.set_cons_succ]
            refine anyT_take (i := 8) (v := undef) (some 45) rfl rfl (by kernel_rfl) (fun _ _ _ h => h) (Or.inr ⟨by rfl, rfl⟩) hSS ?_
            simp only [Act.put, List.setIfInBounds_toArray, List.set_cons_zero, List.set_cons_succ]
            refine anyT_take (i := 9) (v := undef) (some 46) rfl rfl (by kernel_rfl) (fun _ _ _ h => h) (Or.inr ⟨by rfl, rfl⟩) hSS ?_
            simp only [Act.put, List.setIfInBounds_toArray, List.set_cons_zero, List.set_cons_succ]
            refine anyT_take (i := 10) (v := undef) (some 47) rfl rfl (by kernel_rfl) (fun _ _ _ h => h) (Or.inr ⟨by rfl, rfl⟩) hSS ?_
            simp only [Act.put, List.setIfInBounds_toArray, List.set_cons_zero, List.set_cons_succ]
            refine anyT_take (i := 11) (v := undef) (some 48) rfl rfl (by kernel_rfl) (fun _ _ _ h => h) (Or.inr ⟨by rfl, rfl⟩) hSS ?_
            simp only [Act.put, List.setIfInBounds_toArray, List.set_cons_zero, List.set_cons_succ]
            refine anyT_take (i := 12) (v := undef) (some 49) rfl rfl (by kernel_rfl) (fun _ _ _ h => h) (Or.inr ⟨by rfl, rfl⟩) hSS ?_
            simp only [Act.put, List.setIfInBounds_toArray, List.set_cons_zero, List.set_cons_succ]
            refine anyT_take (i := 13) (v := ?_) (some 50) rfl rfl (by kernel_rfl) (fun _ _ _ h => h) (Or.inl ⟨by rfl, ?_⟩) hSS ?_
            rotate_left
            · intro w' hSw; go_simp; (try with_reducible rfl)
            simp only [Act.put, List.setIfInBounds_toArray, List.set_cons_zero, List.set_cons_succ]
            refine anyT_take (i := 14) (v := ?_) (some 51) rfl rfl (by kernel_rfl) (fun _ _ _ h => h) (Or.inl ⟨by rfl, ?_⟩) hSS ?_
            rotate_left
            · intro w' hSw; go_simp; (try with_reducible rfl)
            simp only [Act.put, List.setIfInBounds_toArray, List.set_cons_zero, List.set_cons_succ]
            refine anyT_take (i := 15) (v := undef) (some 52) rfl rfl (by kernel_rfl) (fun _ _ _ h => h) (Or.inr ⟨by rfl, rfl⟩) hSS ?_
            simp only [Act.put, List.setIfInBounds_toArray, List.set_cons_zero, List.set_cons_succ]
            refine anyT_take (i := 16) (v := undef) (some 53) rfl rfl (by kernel_rfl) (fun _ _ _ h => h) (Or.inr ⟨by rfl, rfl⟩) hSS ?_
            simp only [Act.put, List.setIfInBounds_toArray, List.set_cons_zero, List.set_cons_succ]
            refine anyT_take (i := 17) (v := undef) (some 54) rfl rfl (by kernel_rfl) (fun _ _ _ h => h) (Or.inr ⟨by rfl, rfl⟩) hSS ?_
            simp only [Act.put, List.setIfInBounds_toArray, List.set_cons_zero, List.set_cons_succ]
            refine anyT_take (i := 18) (v := undef) (some 55) rfl rfl (by kernel_rfl) (fun _ _ _ h => h) (Or.inr ⟨by rfl, rfl⟩) hSS ?_
            simp only [Act.put, List.setIfInBounds_toArray, List.set_cons_zero, List.set_cons_succ]
            refine anyT_take (i := 19) (v := undef) (some 56) rfl rfl (by kernel_rfl) (fun _ _ _ h => h) (Or.inr ⟨by rfl, rfl⟩) hSS ?_
            simp only [Act.put, List.setIfInBounds_toArray, List.set_cons_zero, List.set_cons_succ]
            refine anyT_take (i := 20) (v := undef) (some 57) rfl rfl (by kernel_rfl) (fun _ _ _ h => h) (Or.inr ⟨by rfl, rfl⟩) hSS ?_
            simp only [Act.put, List.setIfInBounds_toArray, List.set_cons_zero, List.set_cons_succ]
            refine anyT_take (i := 21) (v := undef) (some 58) rfl rfl (by kernel_rfl) (fun _ _ _ h => h) (Or.inr ⟨by rfl, rfl⟩) hSS ?_
            simp only [Act.put, List.setIfInBounds_toArray, List.set_cons_zero, List.set_cons_succ]
            refine anyT_take (i := 22) (v := undef) (some 59) rfl rfl (by kernel_rfl) (fun _ _ _ h => h) (Or.inr ⟨by rfl, rfl⟩) hSS ?_
            simp only [Act.put, List.setIfInBounds_toArray, List.set_cons_zero, List.set_cons_succ]
            refine anyT_take (i := 23) (v := undef) (some 60) rfl rfl (by kernel_rfl) (fun _ _ _ h => h) (Or.inr ⟨by rfl, rfl⟩) hSS ?_
            simp only [Act.put, List.setIfInBounds_toArray, List.set_cons_zero, List.set_cons_succ]
            refine anyT_take (i := 24) (v := ?_) (some 61) rfl rfl (by kernel_rfl) (fun _ _ _ h => h) (Or.inl ⟨by rfl, ?_⟩) hSS ?_
            rotate_left
            · intro w' hSw; go_simp; (try with_reducible rfl)
            simp only [Act.put, List.setIfInBounds_toArray, List.set_cons_zero, List.set_cons_succ]
            refine anyT_last (some 7) (.bool true) (by kernel_rfl) (by kernel_rfl) rfl (by kernel_rfl) rfl (by kernel_rfl) ?_
            simp only [Act.put, List.setIfInBounds_toArray, List.set_cons_zero, List.set_cons_succ]
            go_wp2
            go_roundw
            case rel => exact ⟨j + 1, by omega, by go_num, by rw [HST.out]; rfl, Lib.hid (GQ.out.tr hSS)⟩
            case measure => simp [intOf]; omega
        · have hjX : j = X.length := by omega
          subst hjX
          have hji : ¬ ((X.length : Int) < X.length) := by omega
          rw [List.take_length, HKM.out]
          go_wp2
          go_roundw
          case rel => exact ⟨m + 1, by omega, by go_num, Lib.hid (GR.out.tr GQ.out)⟩
          case measure => simp [intOf]; omega
    · have hma : m = al.length := by omega
      subst hma
      have hmi : ¬ ((al.length : Int) < al.length) := by omega
      go_wp2_with fail
      refine (sAwake_any _).mono ?_
      rintro r w9 ⟨rfl, g9⟩
      go_wp2
      go_ret
      exact ⟨rfl, GW.out.tr (GR.out.tr g9)⟩
end Go.Proofs.Ytfobnemocodomaa
