/- hearsaylaw07.SiblingWins. -/
import Derived.Test.YtfobnemocodomaaSynO
set_option linter.unusedVariables false
set_option linter.unusedSimpArgs false
set_option maxHeartbeats 2000000
namespace Go.Proofs.Ytfobnemocodomaa
open Go.RowKit Go.Great

theorem vsame_rfl (x : Vx) : vsame x x = true := by simp [vsame]
theorem vsames_rfl : ∀ l : List Vx, vsames l l = true
  | [] => rfl
  | x :: r => by unfold vsames; rw [vsames_rfl r]; simp [vsame]
theorem bestP_mem : ∀ (r : List Vx) (b : Vx), bestP b r = b ∨ bestP b r ∈ r
  | [], b => Or.inl rfl
  | v :: r, b => by
    have e : bestP b (v :: r) = bestP (if winsV v b = true then v else b) r := rfl
    rw [e]
    rcases bestP_mem r (if winsV v b = true then v else b) with h | h
    · rw [h]; split
      · exact Or.inr (by simp)
      · exact Or.inl rfl
    · exact Or.inr (by simp [h])
theorem winL_mem {l : List Vx} {x : Vx} (h : winL l = some x) : x ∈ l := by
  unfold winL at h
  have hsub : ∀ u ∈ liveL l, u ∈ l := fun u hu => (List.mem_filter.1 hu).1
  cases e : liveL l with
  | nil => rw [e] at h; cases h
  | cons b r =>
    rw [e] at h hsub
    have h : bestP b r = x := Option.some.inj h
    rcases bestP_mem r b with k | k
    · exact hsub x (by rw [← h, k]; simp)
    · exact hsub x (by rw [← h]; simp [k])
theorem winT_parts (l : List Vx) : ∃ (z : Vx) (b : Bool), winT (winL l) = .tuple #[.agg z.cells, .bool b] ∧ ∀ w, vsOk w l → VxOk w z := by
  cases e : winL l with
  | none => exact ⟨Zx, false, rfl, fun w _ => ⟨Dots.nil _ _, by decide⟩⟩
  | some x => exact ⟨x, true, rfl, fun w h => h x (winL_mem e)⟩
/-- two versions, written out cell by cell -/
abbrev cells2 (x y : Vx) : Array Value := #[.int .i64 x.P, .int .i64 x.C, .slice x.A x.pl.length x.pc, .bool x.D, .string x.T, .int .i64 y.P, .int .i64 y.C, .slice y.A y.pl.length y.pc, .bool y.D, .string y.T]
theorem vers_two {w : World} (x y : Vx) (hx : VxOk w x) (hy : VxOk w y) (t : TypeId) : Vers (w.alloc (.cells (cells2 x y) t)) (some ⟨w.heap.size, 0, none⟩) [x, y] := by
  have hn := World.alloc_heap_new w (.cells (cells2 x y) t)
  have hg : Gr w (w.alloc (.cells (cells2 x y) t)) := (Gr.rfl' w).al _
  refine ⟨by simp, fun i hi => ⟨_, rfl, ?_, fun j v hj => ?_⟩⟩
  · match i, hi with
    | 0, _ => exact hx.gr hg
    | 1, _ => exact hy.gr hg
  · rw [add_mid', add_mid', Nat.zero_add]
    simp only [World.cell?, hn]
    match i, hi with
    | 0, _ =>
      have hj : x.cells[j]? = some v := hj
      rw [Nat.zero_mul, Nat.zero_add]
      have hl := (Array.getElem?_eq_some_iff.1 hj).1
      have h5 : x.cells.size = 5 := rfl
      match j with
      | 0 | 1 | 2 | 3 | 4 => exact hj
      | j + 5 => rw [h5] at hl; omega
    | 1, _ =>
      have hj : y.cells[j]? = some v := hj
      have hl := (Array.getElem?_eq_some_iff.1 hj).1
      have h5 : y.cells.size = 5 := rfl
      match j with
      | 0 | 1 | 2 | 3 | 4 => exact hj
      | j + 5 => rw [h5] at hl; omega
set_option maxRecDepth 100000 in
theorem SiblingWins_any (A : Option Addr) (cap : Nat) (l : List Vx) (x y : Vx) (w : World) (h : Vers w A l) (hcp : ∀ z ∈ l, z.pl.length ≤ z.pc) (hx : VxOk w x) (hy : VxOk w y) :
    Calls Try.prog 8 #[.slice A l.length cap, .agg x.cells, .agg y.cells] w fun r w' => r = .returned (.bool true) ∧ Gr w w' := by
  have H := Lib.hid h
  have HCP := Lib.hid hcp
  have HX := Lib.hid hx
  have HY := Lib.hid hy
  have H2 := Lib.hid (Two.mk' w x y)
  clear h hcp hx hy
  go_enter Try.func8, Try.ntmps8
  go_upto_region 1 with (fail)
  obtain ⟨W, hW⟩ : ∃ W, (w.alloc (.cells x.cells 49)).alloc (.cells y.cells 49) = W := ⟨_, rfl⟩
  obtain ⟨gb, hgb⟩ : ∃ g, w.heap.size = g := ⟨_, rfl⟩
  have H3 : Hid (Gr w W ∧ W.heap[gb]? = some (.cells x.cells 49 (0, 0)) ∧ W.heap[gb + 1]? = some (.cells y.cells 49 (0, 0))) := Lib.hid (by rw [← hgb, ← hW]; exact ⟨H2.out.gr, H2.out.a, H2.out.b⟩)
  simp only [hgb]
  rw [hW]
  clear hW hgb H2
  go_wp2_with (first
    | refine wpList_load_row rfl 49 (.tmp 4) rfl gb rfl 49 #[.int .i64 x.P, .int .i64 x.C, .slice x.A x.pl.length x.pc, .bool x.D, .string x.T] (0, 0) _ H3.out.2.1 Try.underlying49 rfl (by kernel_rfl) ?_
    | refine wpList_load_row rfl 49 (.tmp 5) rfl (gb + 1) rfl 49 #[.int .i64 y.P, .int .i64 y.C, .slice y.A y.pl.length y.pc, .bool y.D, .string y.T] (0, 0) _ H3.out.2.2 Try.underlying49 rfl (by kernel_rfl) ?_)
  have hv2 := vers_two x y (HX.out.gr H3.out.1) (HY.out.gr H3.out.1) 49
  obtain ⟨W2, hW2⟩ : ∃ V, W.alloc (.cells (cells2 x y) 49) = V := ⟨_, rfl⟩
  have hg2 : Gr W W2 := by rw [← hW2]; exact (Gr.rfl' W).al _
  have hs2 : W2.heap.size = W.heap.size + 1 := by rw [← hW2]; simp
  have hV := VRows.two (ca := cap) (cb := 2) (H.out.gr (H3.out.1.tr hg2)) (by rw [hW2] at hv2; exact hv2) 22
  rw [hs2] at hV
  rw [hW2]
  clear hW2 hs2 hv2
  have hg3 := hg2.tr ((Gr.rfl' W2).al (.cells #[.slice A l.length cap, .slice (some ⟨W.heap.size, 0, none⟩) 2 2] 22))
  obtain ⟨W3, hW3⟩ : ∃ V, W2.alloc (.cells #[.slice A l.length cap, .slice (some ⟨W.heap.size, 0, none⟩) 2 2] 22) = V := ⟨_, rfl⟩
  have hV' : VRows W3 (some ⟨W.heap.size + 1, 0, none⟩) [⟨A, cap, l⟩, ⟨some ⟨W.heap.size, 0, none⟩, 2, [x, y]⟩] := by rw [← hW3]; exact hV
  rw [hW3] at hg3 ⊢
  clear hW3 hV
  have hgr := vGreat_any _ 2 _ W3 hV'
  clear hV' hg2
  refine hgr.mono ?_
  rintro r w0 ⟨hr0, hg0⟩
  clear hgr
  have G0 := Lib.hid (hg3.tr hg0)
  have GW : Hid (Gr w w0) := Lib.hid (H3.out.1.tr G0.out)
  have HB : Hid (w0.heap[gb]? = some (.cells x.cells 49 (0, 0)) ∧ w0.heap[gb + 1]? = some (.cells y.cells 49 (0, 0))) := Lib.hid ⟨(G0.out.block _ (Array.getElem?_eq_some_iff.1 H3.out.2.1).1).trans H3.out.2.1, (G0.out.block _ (Array.getElem?_eq_some_iff.1 H3.out.2.2).1).trans H3.out.2.2⟩
  clear hg3 hg0 H3 G0
  rcases hr0 with ⟨rfl, h70⟩ | rfl
  · have h7 : Hid (l.length ≤ 70) := Lib.hid (h70 ⟨A, cap, l⟩ (by simp))
    clear h70
    have HLX : Hid (∀ w', Gr w0 w' → ∀ j v, x.cells.toList[j]? = some v → w'.cell? ((⟨gb, 0, none⟩ : Addr).add j) = some v) := Lib.hid (fun w' g j v hj => by
      rw [add_mid', Nat.zero_add]
      refine g.cell ?_
      simp only [World.cell?, HB.out.1]; simpa using hj)
    have HLY : Hid (∀ w', Gr w0 w' → ∀ j v, y.cells.toList[j]? = some v → w'.cell? ((⟨gb + 1, 0, none⟩ : Addr).add j) = some v) := Lib.hid (fun w' g j v hj => by
      rw [add_mid', Nat.zero_add]
      refine g.cell ?_
      simp only [World.cell?, HB.out.2]; simpa using hj)
    obtain ⟨z, b, hzb, hzo⟩ := winT_parts l
    have HZ : Hid (VxOk w z) := Lib.hid (hzo w H.out.oks)
    have hw1 := fun (V : World) (g : Gr w0 V) => winner1_any A cap l V (H.out.gr (GW.out.tr g)) (by have := h7.out; omega)
    have hw2 := fun (V : World) (g : Gr w0 V) => winner2_any A cap l V (H.out.gr (GW.out.tr g)) (by have := h7.out; omega)
    rw [hzb] at hw1 hw2
    have HW1 := Lib.hid hw1
    have HW2 := Lib.hid hw2
    clear hzb hzo hw1 hw2
    go_wp2_with fail
    refine (HW1.out _ (Gr.rfl' _)).mono ?_
    rintro r w1 ⟨rfl, g1⟩
    have G1 := Lib.hid g1
    clear g1
    go_wp2_with (first
      | refine allocV rfl rfl ?_
      | (refine storeV z rfl (.tmp 7) _ rfl rfl rfl rfl ?_; intro V1 hx1 hg1; obtain ⟨g7, hg7⟩ : ∃ g, w1.heap.size = g := ⟨_, rfl⟩; rw [hg7] at hx1 ⊢; have HX7 := Lib.hid hx1; have GV1 := Lib.hid (G1.out.tr hg1); clear hx1 hg1 hg7))
    refine (HW2.out _ GV1.out).mono ?_
    rintro r w2 ⟨rfl, g2⟩
    have HX72 := Lib.hid ((g2.block _ (Array.getElem?_eq_some_iff.1 HX7.out).1).trans HX7.out)
    have G2 := Lib.hid (GV1.out.tr g2)
    clear g2 HX7
    go_upto_region 5 with (first
      | refine allocV rfl rfl ?_
      | (refine storeV z rfl (.tmp 9) _ rfl rfl rfl rfl ?_; intro V2 hx2 hg2; obtain ⟨g9, hg9⟩ : ∃ g, w2.heap.size = g := ⟨_, rfl⟩; rw [hg9] at hx2 ⊢; have HX9 := Lib.hid hx2; have HX7 := Lib.hid ((hg2.block _ (Array.getElem?_eq_some_iff.1 HX72.out).1).trans HX72.out); have GV2 := Lib.hid (G2.out.tr hg2); clear hx2 hg2 hg9))
    have GWV : Hid (Gr w V2) := Lib.hid (GW.out.tr GV2.out)
    have HL7 : Hid (∀ w', Gr V2 w' → ∀ j v, z.cells.toList[j]? = some v → w'.cell? ((⟨g7, 0, none⟩ : Addr).add j) = some v) := Lib.hid (fun w' g j v hj => by
      rw [add_mid', Nat.zero_add]
      refine g.cell ?_
      simp only [World.cell?, HX7.out]; simpa using hj)
    have HL9 : Hid (∀ w', Gr V2 w' → ∀ j v, z.cells.toList[j]? = some v → w'.cell? ((⟨g9, 0, none⟩ : Addr).add j) = some v) := Lib.hid (fun w' g j v hj => by
      rw [add_mid', Nat.zero_add]
      refine g.cell ?_
      simp only [World.cell?, HX9.out]; simpa using hj)
    have HMX : Hid (∀ w', Gr V2 w' → ∀ j v, x.cells.toList[j]? = some v → w'.cell? ((⟨gb, 0, none⟩ : Addr).add j) = some v) := Lib.hid (fun w' g => HLX.out w' (GV2.out.tr g))
    have HMY : Hid (∀ w', Gr V2 w' → ∀ j v, y.cells.toList[j]? = some v → w'.cell? ((⟨gb + 1, 0, none⟩ : Addr).add j) = some v) := Lib.hid (fun w' g => HLY.out w' (GV2.out.tr g))
    clear HLX HLY HX7 HX9 HX72 G1 G2 GV1 HW1 HW2
    have hSS : Gr V2 V2.drew := (Gr.rfl' _).dr
    refine region_T 27 (fun w' => Gr V2 w') (by kernel_rfl) ?_
    refine anyT_take (i := 0) (some 28) rfl rfl (by kernel_rfl) (fun _ _ _ h => h) (yieldsIf_ld (by rfl) 49 (.tmp 7) rfl (⟨g7, 0, none⟩ : Addr) rfl z.cells.toList _ (fun w' hSw => HL7.out w' hSw) Try.underlying49 rfl (by kernel_rfl)) hSS ?_
    simp only [Act.put, List.setIfInBounds_toArray, List.set_cons_zero, List.set_cons_succ]
    refine anyT_take (i := 1) (some 29) rfl rfl (by kernel_rfl) (fun _ _ _ h => h) (yieldsIf_ld (by rfl) 49 (.tmp 9) rfl (⟨g9, 0, none⟩ : Addr) rfl z.cells.toList _ (fun w' hSw => HL9.out w' hSw) Try.underlying49 rfl (by kernel_rfl)) hSS ?_
    simp only [Act.put, List.setIfInBounds_toArray, List.set_cons_zero, List.set_cons_succ]
    have hsv := vSame2_any z z V2.drew (HZ.out.gr (GWV.out.tr hSS)) (HZ.out.gr (GWV.out.tr hSS))
    rw [vsame_rfl] at hsv
    have HSV := Lib.hid hsv
    clear hsv
    refine anyT_callG (i := 2) (some 30) 47 #[.agg z.cells, .agg z.cells] (by kernel_rfl) rfl (by kernel_rfl) rfl (by kernel_rfl) ?_
    refine (HSV.out).mono ?_
    rintro e wd ⟨rfl, hgd⟩
    replace hSS := hSS.tr hgd
    refine ⟨_, rfl, fun _ => hSS, ?_⟩
    simp only [Act.put, List.setIfInBounds_toArray, List.set_cons_zero, List.set_cons_succ]
    clear hgd
    refine anyT_take (i := 3) (v := ?_) (some 31) rfl rfl (by kernel_rfl) (fun _ _ _ h => h) (Or.inl ⟨by rfl, ?_⟩) hSS ?_
    rotate_left
    · intro w' hSw; go_simp; (try with_reducible rfl)
    simp only [Act.put, List.setIfInBounds_toArray, List.set_cons_zero, List.set_cons_succ]
    refine anyT_take (i := 4) (v := ?_) (some 32) rfl rfl (by kernel_rfl) (fun _ _ _ h => h) (Or.inl ⟨by rfl, ?_⟩) hSS ?_
    rotate_left
    · intro w' hSw; go_simp; (try with_reducible rfl)
    simp only [Act.put, List.setIfInBounds_toArray, List.set_cons_zero, List.set_cons_succ]
    refine anyT_take (i := 5) (v := ?_) (some 33) rfl rfl (by kernel_rfl) (fun _ _ _ h => h) (Or.inl ⟨by rfl, ?_⟩) hSS ?_
    rotate_left
    · intro w' hSw; go_simp; (try with_reducible rfl)
    simp only [Act.put, List.setIfInBounds_toArray, List.set_cons_zero, List.set_cons_succ]
    refine anyT_take (i := 6) (v := ?_) (some 34) rfl rfl (by kernel_rfl) (fun _ _ _ h => h) (Or.inl ⟨by rfl, ?_⟩) hSS ?_
    rotate_left
    · intro w' hSw; go_simp; (try with_reducible rfl)
    simp only [Act.put, List.setIfInBounds_toArray, List.set_cons_zero, List.set_cons_succ]
    refine anyT_take (i := 7) (v := ?_) (some 35) rfl rfl (by kernel_rfl) (fun _ _ _ h => h) (Or.inl ⟨by rfl, ?_⟩) hSS ?_
    rotate_left
    · intro w' hSw; go_simp; (try with_reducible rfl)
    simp only [Act.put, List.setIfInBounds_toArray, List.set_cons_zero, List.set_cons_succ]
    refine anyT_take (i := 8) (v := ?_) (some 36) rfl rfl (by kernel_rfl) (fun _ _ _ h => h) (Or.inl ⟨by rfl, ?_⟩) hSS ?_
    rotate_left
    · intro w' hSw; go_simp; (try with_reducible rfl)
    simp only [Act.put, List.setIfInBounds_toArray, List.set_cons_zero, List.set_cons_succ]
    refine anyT_take (i := 9) (v := ?_) (some 37) rfl rfl (by kernel_rfl) (fun _ _ _ h => h) (Or.inl ⟨by rfl, ?_⟩) hSS ?_
    rotate_left
    · intro w' hSw; go_simp; (try with_reducible rfl)
    simp only [Act.put, List.setIfInBounds_toArray, List.set_cons_zero, List.set_cons_succ]
    refine anyT_take (i := 11) (v := ?_) (some 39) rfl rfl (by kernel_rfl) (fun _ _ _ h => h) (Or.inl ⟨by rfl, ?_⟩) hSS ?_
    rotate_left
    · intro w' hSw; go_simp; (try with_reducible rfl)
    simp only [Act.put, List.setIfInBounds_toArray, List.set_cons_zero, List.set_cons_succ]
    refine anyT_callG (i := 10) (some 38) 48 #[.slice A l.length cap] (by kernel_rfl) rfl (by kernel_rfl) rfl (by kernel_rfl) ?_
    refine (vLive1_any A cap l _ (H.out.gr (GWV.out.tr hSS)) (by have := h7.out; omega)).mono ?_
    rintro e wd ⟨⟨v1, rfl, ho1⟩, hgd⟩
    replace hSS := hSS.tr hgd
    obtain ⟨C1, c1, rfl, _, hD1⟩ := ho1.vers (fun u hu => (H.out.oks u (List.mem_filter.1 hu).1).gr (GWV.out.tr hSS))
    clear hgd ho1
    refine ⟨_, rfl, fun _ => hSS, ?_⟩
    simp only [Act.put, List.setIfInBounds_toArray, List.set_cons_zero, List.set_cons_succ]
    refine anyT_callG (i := 12) (some 40) 25 #[.slice A l.length cap] (by kernel_rfl) rfl (by kernel_rfl) rfl (by kernel_rfl) ?_
    refine (vLive2_any A cap l _ (H.out.gr (GWV.out.tr hSS)) (by have := h7.out; omega)).mono ?_
    rintro e wd ⟨⟨v2, rfl, ho2⟩, hgd⟩
    replace hD1 := hD1.gr hgd
    replace hSS := hSS.tr hgd
    obtain ⟨C2, c2, rfl, _, hD2⟩ := ho2.vers (fun u hu => (H.out.oks u (List.mem_filter.1 hu).1).gr (GWV.out.tr hSS))
    clear hgd ho2
    refine ⟨_, rfl, fun _ => hSS, ?_⟩
    simp only [Act.put, List.setIfInBounds_toArray, List.set_cons_zero, List.set_cons_succ]
    have hsl := vSames2_any C1 C2 c1 c2 (liveL l) (liveL l) _ hD1 hD2
    rw [vsames_rfl] at hsl
    have HSL := Lib.hid hsl
    clear hsl hD1 hD2
    refine anyT_callG (i := 13) (some 41) 34 #[.slice C1 (liveL l).length c1, .slice C2 (liveL l).length c2] (by kernel_rfl) rfl (by kernel_rfl) rfl (by kernel_rfl) ?_
    refine (HSL.out).mono ?_
    rintro e wd ⟨rfl, hgd⟩
    replace hSS := hSS.tr hgd
    refine ⟨_, rfl, fun _ => hSS, ?_⟩
    simp only [Act.put, List.setIfInBounds_toArray, List.set_cons_zero, List.set_cons_succ]
    clear hgd
    refine anyT_take (i := 14) (v := ?_) (some 42) rfl rfl (by kernel_rfl) (fun _ _ _ h => h) (Or.inl ⟨by rfl, ?_⟩) hSS ?_
    rotate_left
    · intro w' hSw; go_simp; (try with_reducible rfl)
    simp only [Act.put, List.setIfInBounds_toArray, List.set_cons_zero, List.set_cons_succ]
    refine anyT_take (i := 15) (v := ?_) (some 43) rfl rfl (by kernel_rfl) (fun _ _ _ h => h) (Or.inl ⟨by rfl, ?_⟩) hSS ?_
    rotate_left
    · intro w' hSw; go_simp; (try with_reducible rfl)
    simp only [Act.put, List.setIfInBounds_toArray, List.set_cons_zero, List.set_cons_succ]
    refine anyT_take (i := 16) (some 44) rfl rfl (by kernel_rfl) (fun _ _ _ h => h) (yieldsIf_ld (by rfl) 49 (.tmp 4) rfl (⟨gb, 0, none⟩ : Addr) rfl x.cells.toList _ (fun w' hSw => HMX.out w' hSw) Try.underlying49 rfl (by kernel_rfl)) hSS ?_
    simp only [Act.put, List.setIfInBounds_toArray, List.set_cons_zero, List.set_cons_succ]
    refine anyT_take (i := 17) (some 45) rfl rfl (by kernel_rfl) (fun _ _ _ h => h) (yieldsIf_ld (by rfl) 49 (.tmp 5) rfl (⟨gb + 1, 0, none⟩ : Addr) rfl y.cells.toList _ (fun w' hSw => HMY.out w' hSw) Try.underlying49 rfl (by kernel_rfl)) hSS ?_
    simp only [Act.put, List.setIfInBounds_toArray, List.set_cons_zero, List.set_cons_succ]
    refine anyT_take (i := 19) (some 47) rfl rfl (by kernel_rfl) (fun _ _ _ h => h) (yieldsIf_ld (by rfl) 49 (.tmp 4) rfl (⟨gb, 0, none⟩ : Addr) rfl x.cells.toList _ (fun w' hSw => HMX.out w' hSw) Try.underlying49 rfl (by kernel_rfl)) hSS ?_
    simp only [Act.put, List.setIfInBounds_toArray, List.set_cons_zero, List.set_cons_succ]
    refine anyT_take (i := 20) (some 48) rfl rfl (by kernel_rfl) (fun _ _ _ h => h) (yieldsIf_ld (by rfl) 49 (.tmp 5) rfl (⟨gb + 1, 0, none⟩ : Addr) rfl y.cells.toList _ (fun w' hSw => HMY.out w' hSw) Try.underlying49 rfl (by kernel_rfl)) hSS ?_
    simp only [Act.put, List.setIfInBounds_toArray, List.set_cons_zero, List.set_cons_succ]
    refine anyT_callG (i := 18) (some 46) 49 #[.agg x.cells, .agg y.cells] (by kernel_rfl) rfl (by kernel_rfl) rfl (by kernel_rfl) ?_
    refine (wins1_any x y _).mono ?_
    rintro e wd ⟨rfl, hgd⟩
    replace hSS := hSS.tr hgd
    refine ⟨_, rfl, fun _ => hSS, ?_⟩
    simp only [Act.put, List.setIfInBounds_toArray, List.set_cons_zero, List.set_cons_succ]
    clear hgd
    refine anyT_callG (i := 21) (some 49) 50 #[.agg x.cells, .agg y.cells] (by kernel_rfl) rfl (by kernel_rfl) rfl (by kernel_rfl) ?_
    refine (wins2_any x y _).mono ?_
    rintro e wd ⟨rfl, hgd⟩
    replace hSS := hSS.tr hgd
    refine ⟨_, rfl, fun _ => hSS, ?_⟩
    simp only [Act.put, List.setIfInBounds_toArray, List.set_cons_zero, List.set_cons_succ]
    clear hgd
    refine anyT_take (i := 22) (v := ?_) (some 50) rfl rfl (by kernel_rfl) (fun _ _ _ h => h) (Or.inl ⟨by rfl, ?_⟩) hSS ?_
    rotate_left
    · intro w' hSw; go_simp; (try with_reducible rfl)
    simp only [Act.put, List.setIfInBounds_toArray, List.set_cons_zero, List.set_cons_succ]
    refine anyT_take (i := 23) (v := ?_) (some 51) rfl rfl (by kernel_rfl) (fun _ _ _ h => h) (Or.inl ⟨by rfl, ?_⟩) hSS ?_
    rotate_left
    · intro w' hSw; go_simp; (try with_reducible rfl)
    simp only [Act.put, List.setIfInBounds_toArray, List.set_cons_zero, List.set_cons_succ]
    refine anyT_take (i := 24) (v := ?_) (some 52) rfl rfl (by kernel_rfl) (fun _ _ _ h => h) (Or.inl ⟨by rfl, ?_⟩) hSS ?_
    rotate_left
    · intro w' hSw; go_simp; (try with_reducible rfl)
    simp only [Act.put, List.setIfInBounds_toArray, List.set_cons_zero, List.set_cons_succ]
    refine anyT_callG (i := 25) (some 53) 36 #[] (by kernel_rfl) rfl (by kernel_rfl) rfl (by kernel_rfl) ?_
    refine (sAwake_any _).mono ?_
    rintro e wd ⟨rfl, hgd⟩
    replace hSS := hSS.tr hgd
    refine ⟨_, rfl, fun _ => hSS, ?_⟩
    simp only [Act.put, List.setIfInBounds_toArray, List.set_cons_zero, List.set_cons_succ]
    clear hgd
    refine anyT_take (i := 26) (v := ?_) (some 54) rfl rfl (by kernel_rfl) (fun _ _ _ h => h) (Or.inl ⟨by rfl, ?_⟩) hSS ?_
    rotate_left
    · intro w' hSw; go_simp; (try with_reducible rfl)
    simp only [Act.put, List.setIfInBounds_toArray, List.set_cons_zero, List.set_cons_succ]
    refine anyT_last (some 6) (.bool true) (by kernel_rfl) (by kernel_rfl) rfl (by kernel_rfl) rfl (by kernel_rfl) ?_
    simp only [Act.put, List.setIfInBounds_toArray, List.set_cons_zero, List.set_cons_succ]
    go_wp2
    go_ret
    exact ⟨rfl, GWV.out.tr hSS⟩
  · go_wp2_with fail
    refine (sAwake_any _).mono ?_
    rintro r w3 ⟨rfl, hg3⟩
    go_wp2
    go_ret
    exact ⟨rfl, GW.out.tr hg3⟩
end Go.Proofs.Ytfobnemocodomaa
