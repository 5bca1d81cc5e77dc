/- hearsaylaw07.SiblingChecks. -/
import Derived.Test.YtfobnemocodomaaSynO
set_option linter.unusedVariables false
set_option linter.unusedSimpArgs false
set_option maxHeartbeats 2000000
namespace Go.Proofs.Ytfobnemocodomaa
open Go.RowKit Go.Great

/-- two versions, written out cell by cell -/
abbrev cells2 (x y : Vx) : Array Value := #[.int .i64 x.P, .int .i64 x.C, .slice x.A x.pl.length x.pc, .bool x.D, .string x.T, .int .i64 y.P, .int .i64 y.C, .slice y.A y.pl.length y.pc, .bool y.D, .string y.T]
theorem vers_two {w : World} (x y : Vx) (hx : VxOk w x) (hy : VxOk w y) (t : TypeId) : Vers (w.alloc (.cells (cells2 x y) t)) (some ⟨w.heap.size, 0, none⟩) [x, y] := by
  have hn := World.alloc_heap_new w (.cells (cells2 x y) t)
  have hg : Gr w (w.alloc (.cells (cells2 x y) t)) := (Gr.rfl' w).al _
  refine ⟨by simp, fun i hi => ⟨_, rfl, ?_, fun j v hj => ?_⟩⟩
  · match i, hi with
    | 0, _ => exact hx.gr hg
    | 1, _ => exact hy.gr hg
  · rw [add_mid', add_mid', Nat.zero_add]
    simp only [World.cell?, hn]
    match i, hi with
    | 0, _ =>
      have hj : x.cells[j]? = some v := hj
      rw [Nat.zero_mul, Nat.zero_add]
      have hl := (Array.getElem?_eq_some_iff.1 hj).1
      have h5 : x.cells.size = 5 := rfl
      match j with
      | 0 | 1 | 2 | 3 | 4 => exact hj
      | j + 5 => rw [h5] at hl; omega
    | 1, _ =>
      have hj : y.cells[j]? = some v := hj
      have hl := (Array.getElem?_eq_some_iff.1 hj).1
      have h5 : y.cells.size = 5 := rfl
      match j with
      | 0 | 1 | 2 | 3 | 4 => exact hj
      | j + 5 => rw [h5] at hl; omega
set_option maxRecDepth 100000 in
theorem SiblingChecks_any (A : Option Addr) (cap : Nat) (l : List Vx) (x y : Vx) (w : World) (h : Vers w A l) (hcp : ∀ z ∈ l, z.pl.length ≤ z.pc) (hx : VxOk w x) (hy : VxOk w y) :
    Calls Try.prog 7 #[.slice A l.length cap, .agg x.cells, .agg y.cells] w fun r w' => r = .returned (.bool true) ∧ Gr w w' := by
  have H := Lib.hid h
  have HCP := Lib.hid hcp
  have HX := Lib.hid hx
  have HY := Lib.hid hy
  have H2 := Lib.hid (Two.mk' w x y)
  clear h hcp hx hy
  go_enter Try.func7, Try.ntmps7
  go_upto_region 1 with (fail)
  obtain ⟨W, hW⟩ : ∃ W, (w.alloc (.cells x.cells 49)).alloc (.cells y.cells 49) = W := ⟨_, rfl⟩
  obtain ⟨gb, hgb⟩ : ∃ g, w.heap.size = g := ⟨_, rfl⟩
  have H3 : Hid (Gr w W ∧ W.heap[gb]? = some (.cells x.cells 49 (0, 0)) ∧ W.heap[gb + 1]? = some (.cells y.cells 49 (0, 0))) := Lib.hid (by rw [← hgb, ← hW]; exact ⟨H2.out.gr, H2.out.a, H2.out.b⟩)
  simp only [hgb]
  rw [hW]
  clear hW hgb H2
  go_wp2_with (first
    | refine wpList_load_row rfl 49 (.tmp 4) rfl gb rfl 49 #[.int .i64 x.P, .int .i64 x.C, .slice x.A x.pl.length x.pc, .bool x.D, .string x.T] (0, 0) _ H3.out.2.1 Try.underlying49 rfl (by kernel_rfl) ?_
    | refine wpList_load_row rfl 49 (.tmp 5) rfl (gb + 1) rfl 49 #[.int .i64 y.P, .int .i64 y.C, .slice y.A y.pl.length y.pc, .bool y.D, .string y.T] (0, 0) _ H3.out.2.2 Try.underlying49 rfl (by kernel_rfl) ?_)
  have hv2 := vers_two x y (HX.out.gr H3.out.1) (HY.out.gr H3.out.1) 49
  obtain ⟨W2, hW2⟩ : ∃ V, W.alloc (.cells (cells2 x y) 49) = V := ⟨_, rfl⟩
  have hg2 : Gr W W2 := by rw [← hW2]; exact (Gr.rfl' W).al _
  have hs2 : W2.heap.size = W.heap.size + 1 := by rw [← hW2]; simp
  have hV := VRows.two (ca := cap) (cb := 2) (H.out.gr (H3.out.1.tr hg2)) (by rw [hW2] at hv2; exact hv2) 22
  rw [hs2] at hV
  rw [hW2]
  clear hW2 hs2 hv2
  have hg3 := hg2.tr ((Gr.rfl' W2).al (.cells #[.slice A l.length cap, .slice (some ⟨W.heap.size, 0, none⟩) 2 2] 22))
  obtain ⟨W3, hW3⟩ : ∃ V, W2.alloc (.cells #[.slice A l.length cap, .slice (some ⟨W.heap.size, 0, none⟩) 2 2] 22) = V := ⟨_, rfl⟩
  have hV' : VRows W3 (some ⟨W.heap.size + 1, 0, none⟩) [⟨A, cap, l⟩, ⟨some ⟨W.heap.size, 0, none⟩, 2, [x, y]⟩] := by rw [← hW3]; exact hV
  rw [hW3] at hg3 ⊢
  clear hW3 hV
  have hgr := vGreat_any _ 2 _ W3 hV'
  clear hV' hg2
  refine hgr.mono ?_
  rintro r w0 ⟨hr0, hg0⟩
  clear hgr
  have G0 := Lib.hid (hg3.tr hg0)
  have GW : Hid (Gr w w0) := Lib.hid (H3.out.1.tr G0.out)
  have HB : Hid (w0.heap[gb]? = some (.cells x.cells 49 (0, 0)) ∧ w0.heap[gb + 1]? = some (.cells y.cells 49 (0, 0))) := Lib.hid ⟨(G0.out.block _ (Array.getElem?_eq_some_iff.1 H3.out.2.1).1).trans H3.out.2.1, (G0.out.block _ (Array.getElem?_eq_some_iff.1 H3.out.2.2).1).trans H3.out.2.2⟩
  clear hg3 hg0 H3 G0
  rcases hr0 with ⟨rfl, h70⟩ | rfl
  · have h7 : Hid (l.length ≤ 70) := Lib.hid (h70 ⟨A, cap, l⟩ (by simp))
    clear h70
    have HLX : Hid (∀ w', Gr w0 w' → ∀ j v, x.cells.toList[j]? = some v → w'.cell? ((⟨gb, 0, none⟩ : Addr).add j) = some v) := Lib.hid (fun w' g j v hj => by
      rw [add_mid', Nat.zero_add]
      refine g.cell ?_
      simp only [World.cell?, HB.out.1]; simpa using hj)
    have HLY : Hid (∀ w', Gr w0 w' → ∀ j v, y.cells.toList[j]? = some v → w'.cell? ((⟨gb + 1, 0, none⟩ : Addr).add j) = some v) := Lib.hid (fun w' g j v hj => by
      rw [add_mid', Nat.zero_add]
      refine g.cell ?_
      simp only [World.cell?, HB.out.2]; simpa using hj)
    go_upto_region 3 with (fail)
    have hSS : Gr w0 w0.drew := (Gr.rfl' _).dr
    refine region_T 31 (fun w' => Gr w0 w') (by kernel_rfl) ?_
    refine anyT_take (i := 0) (v := ?_) (some 14) rfl rfl (by kernel_rfl) (fun _ _ _ h => h) (Or.inl ⟨by rfl, ?_⟩) hSS ?_
    rotate_left
    · intro w' hSw; go_simp; (try with_reducible rfl)
    simp only [Act.put, List.setIfInBounds_toArray, List.set_cons_zero, List.set_cons_succ]
    refine anyT_take (i := 2) (v := ?_) (some 16) rfl rfl (by kernel_rfl) (fun _ _ _ h => h) (Or.inl ⟨by rfl, ?_⟩) hSS ?_
    rotate_left
    · intro w' hSw; go_simp; (try with_reducible rfl)
    simp only [Act.put, List.setIfInBounds_toArray, List.set_cons_zero, List.set_cons_succ]
    refine anyT_callG (i := 1) (some 15) 37 #[.slice A l.length cap] (by kernel_rfl) rfl (by kernel_rfl) rfl (by kernel_rfl) ?_
    refine (sLeaf_any A cap l _ (H.out.gr (GW.out.tr hSS))).mono ?_
    rintro e wd ⟨rfl, hgd⟩
    replace hSS := hSS.tr hgd
    refine ⟨_, rfl, fun _ => hSS, ?_⟩
    simp only [Act.put, List.setIfInBounds_toArray, List.set_cons_zero, List.set_cons_succ]
    clear hgd
    refine anyT_callG (i := 3) (some 17) 38 #[.slice A l.length cap] (by kernel_rfl) rfl (by kernel_rfl) rfl (by kernel_rfl) ?_
    refine (refLeaf_any A cap l _ (H.out.gr (GW.out.tr hSS))).mono ?_
    rintro e wd ⟨rfl, hgd⟩
    replace hSS := hSS.tr hgd
    refine ⟨_, rfl, fun _ => hSS, ?_⟩
    simp only [Act.put, List.setIfInBounds_toArray, List.set_cons_zero, List.set_cons_succ]
    clear hgd
    refine anyT_take (i := 4) (v := ?_) (some 18) rfl rfl (by kernel_rfl) (fun _ _ _ h => h) (Or.inl ⟨by rfl, ?_⟩) hSS ?_
    rotate_left
    · intro w' hSw; go_simp; (try with_reducible rfl)
    simp only [Act.put, List.setIfInBounds_toArray, List.set_cons_zero, List.set_cons_succ]
    refine anyT_take (i := 5) (v := ?_) (some 19) rfl rfl (by kernel_rfl) (fun _ _ _ h => h) (Or.inl ⟨by rfl, ?_⟩) hSS ?_
    rotate_left
    · intro w' hSw; go_simp; (try with_reducible rfl)
    simp only [Act.put, List.setIfInBounds_toArray, List.set_cons_zero, List.set_cons_succ]
    refine anyT_take (i := 6) (some 20) rfl rfl (by kernel_rfl) (fun _ _ _ h => h) (yieldsIf_ld (by rfl) 49 (.tmp 4) rfl (⟨gb, 0, none⟩ : Addr) rfl x.cells.toList _ (fun w' hSw => HLX.out w' hSw) Try.underlying49 rfl (by kernel_rfl)) hSS ?_
    simp only [Act.put, List.setIfInBounds_toArray, List.set_cons_zero, List.set_cons_succ]
    refine anyT_take (i := 8) (some 22) rfl rfl (by kernel_rfl) (fun _ _ _ h => h) (yieldsIf_ld (by rfl) 49 (.tmp 4) rfl (⟨gb, 0, none⟩ : Addr) rfl x.cells.toList _ (fun w' hSw => HLX.out w' hSw) Try.underlying49 rfl (by kernel_rfl)) hSS ?_
    simp only [Act.put, List.setIfInBounds_toArray, List.set_cons_zero, List.set_cons_succ]
    refine anyT_callG (i := 7) (some 21) 39 #[.agg x.cells] (by kernel_rfl) rfl (by kernel_rfl) rfl (by kernel_rfl) ?_
    refine (vCheck1_any x _ (HX.out.gr (GW.out.tr hSS))).mono ?_
    rintro e wd ⟨rfl, hgd⟩
    replace hSS := hSS.tr hgd
    refine ⟨_, rfl, fun _ => hSS, ?_⟩
    simp only [Act.put, List.setIfInBounds_toArray, List.set_cons_zero, List.set_cons_succ]
    clear hgd
    refine anyT_callG (i := 9) (some 23) 40 #[.agg x.cells] (by kernel_rfl) rfl (by kernel_rfl) rfl (by kernel_rfl) ?_
    refine (vCheck2_any x _ (HX.out.gr (GW.out.tr hSS))).mono ?_
    rintro e wd ⟨rfl, hgd⟩
    replace hSS := hSS.tr hgd
    refine ⟨_, rfl, fun _ => hSS, ?_⟩
    simp only [Act.put, List.setIfInBounds_toArray, List.set_cons_zero, List.set_cons_succ]
    clear hgd
    refine anyT_take (i := 10) (v := ?_) (some 24) rfl rfl (by kernel_rfl) (fun _ _ _ h => h) (Or.inl ⟨by rfl, ?_⟩) hSS ?_
    rotate_left
    · intro w' hSw; go_simp; (try with_reducible rfl)
    simp only [Act.put, List.setIfInBounds_toArray, List.set_cons_zero, List.set_cons_succ]
    refine anyT_take (i := 11) (v := ?_) (some 25) rfl rfl (by kernel_rfl) (fun _ _ _ h => h) (Or.inl ⟨by rfl, ?_⟩) hSS ?_
    rotate_left
    · intro w' hSw; go_simp; (try with_reducible rfl)
    simp only [Act.put, List.setIfInBounds_toArray, List.set_cons_zero, List.set_cons_succ]
    refine anyT_take (i := 12) (v := ?_) (some 26) rfl rfl (by kernel_rfl) (fun _ _ _ h => h) (Or.inl ⟨by rfl, ?_⟩) hSS ?_
    rotate_left
    · intro w' hSw; go_simp; (try with_reducible rfl)
    simp only [Act.put, List.setIfInBounds_toArray, List.set_cons_zero, List.set_cons_succ]
    refine anyT_take (i := 13) (some 27) rfl rfl (by kernel_rfl) (fun _ _ _ h => h) (yieldsIf_ld (by rfl) 49 (.tmp 4) rfl (⟨gb, 0, none⟩ : Addr) rfl x.cells.toList _ (fun w' hSw => HLX.out w' hSw) Try.underlying49 rfl (by kernel_rfl)) hSS ?_
    simp only [Act.put, List.setIfInBounds_toArray, List.set_cons_zero, List.set_cons_succ]
    refine anyT_take (i := 14) (some 28) rfl rfl (by kernel_rfl) (fun _ _ _ h => h) (yieldsIf_ld (by rfl) 49 (.tmp 5) rfl (⟨gb + 1, 0, none⟩ : Addr) rfl y.cells.toList _ (fun w' hSw => HLY.out w' hSw) Try.underlying49 rfl (by kernel_rfl)) hSS ?_
    simp only [Act.put, List.setIfInBounds_toArray, List.set_cons_zero, List.set_cons_succ]
    refine anyT_take (i := 16) (some 30) rfl rfl (by kernel_rfl) (fun _ _ _ h => h) (yieldsIf_ld (by rfl) 49 (.tmp 4) rfl (⟨gb, 0, none⟩ : Addr) rfl x.cells.toList _ (fun w' hSw => HLX.out w' hSw) Try.underlying49 rfl (by kernel_rfl)) hSS ?_
    simp only [Act.put, List.setIfInBounds_toArray, List.set_cons_zero, List.set_cons_succ]
    refine anyT_take (i := 17) (some 31) rfl rfl (by kernel_rfl) (fun _ _ _ h => h) (yieldsIf_ld (by rfl) 49 (.tmp 5) rfl (⟨gb + 1, 0, none⟩ : Addr) rfl y.cells.toList _ (fun w' hSw => HLY.out w' hSw) Try.underlying49 rfl (by kernel_rfl)) hSS ?_
    simp only [Act.put, List.setIfInBounds_toArray, List.set_cons_zero, List.set_cons_succ]
    refine anyT_callG (i := 15) (some 29) 41 #[.agg x.cells, .agg y.cells] (by kernel_rfl) rfl (by kernel_rfl) rfl (by kernel_rfl) ?_
    refine (vCovers1_any x y _ (HX.out.gr (GW.out.tr hSS))).mono ?_
    rintro e wd ⟨rfl, hgd⟩
    replace hSS := hSS.tr hgd
    refine ⟨_, rfl, fun _ => hSS, ?_⟩
    simp only [Act.put, List.setIfInBounds_toArray, List.set_cons_zero, List.set_cons_succ]
    clear hgd
    refine anyT_callG (i := 18) (some 32) 42 #[.agg x.cells, .agg y.cells] (by kernel_rfl) rfl (by kernel_rfl) rfl (by kernel_rfl) ?_
    refine (vCovers2_any x y _ (HX.out.gr (GW.out.tr hSS))).mono ?_
    rintro e wd ⟨rfl, hgd⟩
    replace hSS := hSS.tr hgd
    refine ⟨_, rfl, fun _ => hSS, ?_⟩
    simp only [Act.put, List.setIfInBounds_toArray, List.set_cons_zero, List.set_cons_succ]
    clear hgd
    refine anyT_take (i := 19) (v := ?_) (some 33) rfl rfl (by kernel_rfl) (fun _ _ _ h => h) (Or.inl ⟨by rfl, ?_⟩) hSS ?_
    rotate_left
    · intro w' hSw; go_simp; (try with_reducible rfl)
    simp only [Act.put, List.setIfInBounds_toArray, List.set_cons_zero, List.set_cons_succ]
    refine anyT_take (i := 20) (v := ?_) (some 34) rfl rfl (by kernel_rfl) (fun _ _ _ h => h) (Or.inl ⟨by rfl, ?_⟩) hSS ?_
    rotate_left
    · intro w' hSw; go_simp; (try with_reducible rfl)
    simp only [Act.put, List.setIfInBounds_toArray, List.set_cons_zero, List.set_cons_succ]
    refine anyT_take (i := 21) (v := ?_) (some 35) rfl rfl (by kernel_rfl) (fun _ _ _ h => h) (Or.inl ⟨by rfl, ?_⟩) hSS ?_
    rotate_left
    · intro w' hSw; go_simp; (try with_reducible rfl)
    simp only [Act.put, List.setIfInBounds_toArray, List.set_cons_zero, List.set_cons_succ]
    refine anyT_take (i := 22) (v := ?_) (some 36) rfl rfl (by kernel_rfl) (fun _ _ _ h => h) (Or.inl ⟨by rfl, ?_⟩) hSS ?_
    rotate_left
    · intro w' hSw; go_simp; (try with_reducible rfl)
    simp only [Act.put, List.setIfInBounds_toArray, List.set_cons_zero, List.set_cons_succ]
    refine anyT_take (i := 24) (v := ?_) (some 38) rfl rfl (by kernel_rfl) (fun _ _ _ h => h) (Or.inl ⟨by rfl, ?_⟩) hSS ?_
    rotate_left
    · intro w' hSw; go_simp; (try with_reducible rfl)
    simp only [Act.put, List.setIfInBounds_toArray, List.set_cons_zero, List.set_cons_succ]
    refine anyT_callG (i := 23) (some 37) 43 #[.slice A l.length cap] (by kernel_rfl) rfl (by kernel_rfl) rfl (by kernel_rfl) ?_
    refine (cover1_any A cap l _ (H.out.gr (GW.out.tr hSS)) HCP.out).mono ?_
    rintro e wd ⟨⟨C1, c1, rfl, _, hD1, _⟩, hgd⟩
    replace hSS := hSS.tr hgd
    clear hgd
    refine ⟨_, rfl, fun _ => hSS, ?_⟩
    simp only [Act.put, List.setIfInBounds_toArray, List.set_cons_zero, List.set_cons_succ]
    refine anyT_callG (i := 25) (some 39) 44 #[.slice A l.length cap] (by kernel_rfl) rfl (by kernel_rfl) rfl (by kernel_rfl) ?_
    refine (cover2_any A cap l _ (H.out.gr (GW.out.tr hSS))).mono ?_
    rintro e wd ⟨⟨C2, c2, rfl, _, hD2⟩, hgd⟩
    replace hD1 := hD1.gr hgd
    replace hSS := hSS.tr hgd
    clear hgd
    refine ⟨_, rfl, fun _ => hSS, ?_⟩
    simp only [Act.put, List.setIfInBounds_toArray, List.set_cons_zero, List.set_cons_succ]
    refine anyT_callG (i := 26) (some 40) 33 #[.slice C1 (covL l).length c1, .slice C2 (covL l).length c2] (by kernel_rfl) rfl (by kernel_rfl) rfl (by kernel_rfl) ?_
    refine (refSame_any C1 C2 c1 c2 (covL l) (covL l) _ hD1 hD2).mono ?_
    rintro e wd ⟨rfl, hgd⟩
    replace hSS := hSS.tr hgd
    refine ⟨_, rfl, fun _ => hSS, ?_⟩
    simp only [Act.put, List.setIfInBounds_toArray, List.set_cons_zero, List.set_cons_succ]
    clear hgd
    refine anyT_take (i := 27) (v := ?_) (some 41) rfl rfl (by kernel_rfl) (fun _ _ _ h => h) (Or.inl ⟨by rfl, ?_⟩) hSS ?_
    rotate_left
    · intro w' hSw; go_simp; (try with_reducible rfl)
    simp only [Act.put, List.setIfInBounds_toArray, List.set_cons_zero, List.set_cons_succ]
    refine anyT_take (i := 28) (v := ?_) (some 42) rfl rfl (by kernel_rfl) (fun _ _ _ h => h) (Or.inl ⟨by rfl, ?_⟩) hSS ?_
    rotate_left
    · intro w' hSw; go_simp; (try with_reducible rfl)
    simp only [Act.put, List.setIfInBounds_toArray, List.set_cons_zero, List.set_cons_succ]
    refine anyT_callG (i := 29) (some 43) 36 #[] (by kernel_rfl) rfl (by kernel_rfl) rfl (by kernel_rfl) ?_
    refine (sAwake_any _).mono ?_
    rintro e wd ⟨rfl, hgd⟩
    replace hSS := hSS.tr hgd
    refine ⟨_, rfl, fun _ => hSS, ?_⟩
    simp only [Act.put, List.setIfInBounds_toArray, List.set_cons_zero, List.set_cons_succ]
    clear hgd
    refine anyT_take (i := 30) (v := ?_) (some 44) rfl rfl (by kernel_rfl) (fun _ _ _ h => h) (Or.inl ⟨by rfl, ?_⟩) hSS ?_
    rotate_left
    · intro w' hSw; go_simp; (try with_reducible rfl)
    simp only [Act.put, List.setIfInBounds_toArray, List.set_cons_zero, List.set_cons_succ]
    refine anyT_last (some 6) (.bool true) (by kernel_rfl) (by kernel_rfl) rfl (by kernel_rfl) rfl (by kernel_rfl) ?_
    simp only [Act.put, List.setIfInBounds_toArray, List.set_cons_zero, List.set_cons_succ]
    go_wp2
    go_ret
    exact ⟨rfl, GW.out.tr hSS⟩
  · go_wp2_with fail
    refine (sAwake_any _).mono ?_
    rintro r w3 ⟨rfl, hg3⟩
    go_wp2
    go_ret
    exact ⟨rfl, GW.out.tr hg3⟩
end Go.Proofs.Ytfobnemocodomaa
