/- hearsaylaw12.MessageChecks. -/
import Derived.Test.YtfobnemocodomaaZMsgP
set_option linter.unusedVariables false
set_option linter.unusedSimpArgs false
set_option maxHeartbeats 4000000
namespace Go.Proofs.Ytfobnemocodomaa
open Go.RowKit Go.Shelf Go.Great

set_option maxRecDepth 100000 in
theorem MessageChecks_any (x : Mx) (w : World) (hx : MxOk w x) (hP : Pt.Mx w) :
    Calls Try.prog 14 #[.agg x.cells] w fun r w' => r = .returned (.bool true) ∧ Gr w w' := by
  have HG : Hid (Gr w (w.alloc (.cells x.cells 74))) := Lib.hid ((Gr.rfl' w).al _)
  have HX := Lib.hid (World.alloc_heap_new w (.cells x.cells 74))
  have HXO := Lib.hid (hx.gr HG.out)
  have HP := Lib.hid (hP.gr HG.out)
  clear hx hP
  generalize hW : w.alloc (.cells x.cells 74) = W at HG HX HXO HP
  go_enter Try.func14, Try.ntmps14
  go_upto_region 1 with (fail)
  have hSS : Gr W W.drew := (Gr.rfl' _).dr
  have HLX : Hid (∀ w', Gr W w' → ∀ j v, x.cells.toList[j]? = some v → w'.cell? ((⟨w.heap.size, 0, none⟩ : Addr).add j) = some v) := Lib.hid (fun w' g j v hj => by
    rw [add_midM, Nat.zero_add]
    refine g.cell ?_
    simp only [World.cell?, HX.out]; simpa using hj)
  have HSX : Hid ((Try.prog.info? 74).map (·.size) = some x.cells.toList.length) := Lib.hid (by rw [Array.length_toList, Mx.size x HXO.out.dig]; exact sizeM)
  refine region_T 15 (fun w' => Gr W w') (by kernel_rfl) ?_
  refine anyT_take (i := 0) (some 3) rfl rfl (by kernel_rfl) (fun _ _ _ h => h) (yieldsIf_ldM (by rfl) 74 (.tmp 1) rfl (⟨w.heap.size, 0, none⟩ : Addr) rfl x.cells.toList _ (fun w' hSw => HLX.out w' hSw) Try.underlying74 rfl HSX.out) hSS ?_
  simp only [Act.put, List.setIfInBounds_toArray, List.set_cons_zero, List.set_cons_succ]
  refine anyT_callG (i := 1) (some 4) 61 #[.agg x.cells] (by kernel_rfl) rfl (by kernel_rfl) rfl (by kernel_rfl) ?_
  refine (mGreat_any x _ (HXO.out.gr hSS)).mono ?_
  rintro e wd ⟨⟨rfl, hrs, hcl, htx, hps, h70⟩ | rfl, hgd⟩
  · replace hSS := hSS.tr hgd
    refine ⟨_, rfl, fun _ => hSS, ?_⟩
    simp only [Act.put, List.setIfInBounds_toArray, List.set_cons_zero, List.set_cons_succ]
    clear hgd
    have HPS := Lib.hid hps
    clear hrs hcl htx hps h70
    refine anyT_take (i := 2) (v := ?_) (some 5) rfl rfl (by kernel_rfl) (fun _ _ _ h => h) (Or.inl ⟨by rfl, ?_⟩) hSS ?_
    rotate_left
    · intro w' hSw; go_simp; (try with_reducible rfl)
    simp only [Act.put, List.setIfInBounds_toArray, List.set_cons_zero, List.set_cons_succ]
    refine anyT_take (i := 3) (v := undef) (some 6) rfl rfl (by kernel_rfl) (fun _ _ _ h => h) (Or.inr ⟨by rfl, rfl⟩) hSS ?_
    simp only [Act.put, List.setIfInBounds_toArray, List.set_cons_zero, List.set_cons_succ]
    refine anyT_take (i := 4) (v := ?_) (some 7) rfl rfl (by kernel_rfl) (fun _ _ _ h => h) (Or.inl ⟨by rfl, ?_⟩) hSS ?_
    rotate_left
    · intro w' hSw; go_simp; (try with_reducible rfl)
    simp only [Act.put, List.setIfInBounds_toArray, List.set_cons_zero, List.set_cons_succ]
    refine anyT_take (i := 5) (v := ?_) (some 8) rfl rfl (by kernel_rfl) (fun _ _ _ h => h) (Or.inl ⟨by rfl, ?_⟩) hSS ?_
    rotate_left
    · intro w' hSw; go_simp; (try with_reducible rfl)
    simp only [Act.put, List.setIfInBounds_toArray, List.set_cons_zero, List.set_cons_succ]
    refine anyT_take (i := 6) (some 9) rfl rfl (by kernel_rfl) (fun _ _ _ h => h) (yieldsIf_ldM (by rfl) 74 (.tmp 1) rfl (⟨w.heap.size, 0, none⟩ : Addr) rfl x.cells.toList _ (fun w' hSw => HLX.out w' hSw) Try.underlying74 rfl HSX.out) hSS ?_
    simp only [Act.put, List.setIfInBounds_toArray, List.set_cons_zero, List.set_cons_succ]
    refine anyT_take (i := 8) (some 11) rfl rfl (by kernel_rfl) (fun _ _ _ h => h) (yieldsIf_ldM (by rfl) 74 (.tmp 1) rfl (⟨w.heap.size, 0, none⟩ : Addr) rfl x.cells.toList _ (fun w' hSw => HLX.out w' hSw) Try.underlying74 rfl HSX.out) hSS ?_
    simp only [Act.put, List.setIfInBounds_toArray, List.set_cons_zero, List.set_cons_succ]
    refine anyT_callG (i := 7) (some 10) 63 #[.agg x.cells] (by kernel_rfl) rfl (by kernel_rfl) rfl (by kernel_rfl) ?_
    refine (mCheck_any x _ (HP.out.gr hSS) (by have := HPS.out; omega) (HXO.out.gr hSS)).mono ?_
    rintro e wd ⟨rfl, hgd⟩
    replace hSS := hSS.tr hgd
    refine ⟨_, rfl, fun _ => hSS, ?_⟩
    simp only [Act.put, List.setIfInBounds_toArray, List.set_cons_zero, List.set_cons_succ]
    clear hgd
    refine anyT_callG (i := 9) (some 12) 64 #[.agg x.cells] (by kernel_rfl) rfl (by kernel_rfl) rfl (by kernel_rfl) ?_
    refine (refMCheck_any x _ (HXO.out.gr hSS) (by have := HPS.out; omega)).mono ?_
    rintro e wd ⟨rfl, hgd⟩
    replace hSS := hSS.tr hgd
    refine ⟨_, rfl, fun _ => hSS, ?_⟩
    simp only [Act.put, List.setIfInBounds_toArray, List.set_cons_zero, List.set_cons_succ]
    clear hgd
    refine anyT_take (i := 10) (v := .bool true) (some 13) rfl rfl (by kernel_rfl) (fun _ _ _ h => h) (Or.inl ⟨by rfl, ?_⟩) hSS ?_
    · intro w' _
      go_simp
    simp only [Act.put, List.setIfInBounds_toArray, List.set_cons_zero, List.set_cons_succ]
    refine anyT_take (i := 11) (v := ?_) (some 14) rfl rfl (by kernel_rfl) (fun _ _ _ h => h) (Or.inl ⟨by rfl, ?_⟩) hSS ?_
    rotate_left
    · intro w' hSw; go_simp; (try with_reducible rfl)
    simp only [Act.put, List.setIfInBounds_toArray, List.set_cons_zero, List.set_cons_succ]
    refine anyT_callG (i := 12) (some 15) 62 #[] (by kernel_rfl) rfl (by kernel_rfl) rfl (by kernel_rfl) ?_
    refine (mAwake_any _).mono ?_
    rintro e wd ⟨rfl, hgd⟩
    replace hSS := hSS.tr hgd
    refine ⟨_, rfl, fun _ => hSS, ?_⟩
    simp only [Act.put, List.setIfInBounds_toArray, List.set_cons_zero, List.set_cons_succ]
    clear hgd
    refine anyT_take (i := 13) (v := ?_) (some 16) rfl rfl (by kernel_rfl) (fun _ _ _ h => h) (Or.inl ⟨by rfl, ?_⟩) hSS ?_
    rotate_left
    · intro w' hSw; go_simp; (try with_reducible rfl)
    simp only [Act.put, List.setIfInBounds_toArray, List.set_cons_zero, List.set_cons_succ]
    refine anyT_take (i := 14) (v := ?_) (some 17) rfl rfl (by kernel_rfl) (fun _ _ _ h => h) (Or.inl ⟨by rfl, ?_⟩) hSS ?_
    rotate_left
    · intro w' hSw; go_simp; (try with_reducible rfl)
    simp only [Act.put, List.setIfInBounds_toArray, List.set_cons_zero, List.set_cons_succ]
    refine anyT_last (some 2) (.bool true) (by kernel_rfl) (by kernel_rfl) rfl (by kernel_rfl) rfl (by kernel_rfl) ?_
    simp only [Act.put, List.setIfInBounds_toArray, List.set_cons_zero, List.set_cons_succ]
    go_wp2
    go_ret
    exact ⟨rfl, HG.out.tr hSS⟩
  · replace hSS := hSS.tr hgd
    refine ⟨_, rfl, fun _ => hSS, ?_⟩
    simp only [Act.put, List.setIfInBounds_toArray, List.set_cons_zero, List.set_cons_succ]
    clear hgd
    refine anyT_take (i := 2) (v := ?_) (some 5) rfl rfl (by kernel_rfl) (fun _ _ _ h => h) (Or.inl ⟨by rfl, ?_⟩) hSS ?_
    rotate_left
    · intro w' hSw; go_simp; (try with_reducible rfl)
    simp only [Act.put, List.setIfInBounds_toArray, List.set_cons_zero, List.set_cons_succ]
    refine anyT_callG (i := 3) (some 6) 62 #[] (by kernel_rfl) rfl (by kernel_rfl) rfl (by kernel_rfl) ?_
    refine (mAwake_any _).mono ?_
    rintro e wd ⟨rfl, hgd⟩
    replace hSS := hSS.tr hgd
    refine ⟨_, rfl, fun _ => hSS, ?_⟩
    simp only [Act.put, List.setIfInBounds_toArray, List.set_cons_zero, List.set_cons_succ]
    clear hgd
    refine anyT_take (i := 4) (v := ?_) (some 7) rfl rfl (by kernel_rfl) (fun _ _ _ h => h) (Or.inl ⟨by rfl, ?_⟩) hSS ?_
    rotate_left
    · intro w' hSw; go_simp; (try with_reducible rfl)
    simp only [Act.put, List.setIfInBounds_toArray, List.set_cons_zero, List.set_cons_succ]
    refine anyT_take (i := 5) (v := ?_) (some 8) rfl rfl (by kernel_rfl) (fun _ _ _ h => h) (Or.inl ⟨by rfl, ?_⟩) hSS ?_
    rotate_left
    · intro w' hSw; go_simp; (try with_reducible rfl)
    simp only [Act.put, List.setIfInBounds_toArray, List.set_cons_zero, List.set_cons_succ]
    refine anyT_take (i := 6) (v := undef) (some 9) rfl rfl (by kernel_rfl) (fun _ _ _ h => h) (Or.inr ⟨by rfl, rfl⟩) hSS ?_
    simp only [Act.put, List.setIfInBounds_toArray, List.set_cons_zero, List.set_cons_succ]
    refine anyT_take (i := 7) (v := undef) (some 10) rfl rfl (by kernel_rfl) (fun _ _ _ h => h) (Or.inr ⟨by rfl, rfl⟩) hSS ?_
    simp only [Act.put, List.setIfInBounds_toArray, List.set_cons_zero, List.set_cons_succ]
    refine anyT_take (i := 8) (v := undef) (some 11) rfl rfl (by kernel_rfl) (fun _ _ _ h => h) (Or.inr ⟨by rfl, rfl⟩) hSS ?_
    simp only [Act.put, List.setIfInBounds_toArray, List.set_cons_zero, List.set_cons_succ]
    refine anyT_take (i := 9) (v := undef) (some 12) rfl rfl (by kernel_rfl) (fun _ _ _ h => h) (Or.inr ⟨by rfl, rfl⟩) hSS ?_
    simp only [Act.put, List.setIfInBounds_toArray, List.set_cons_zero, List.set_cons_succ]
    refine anyT_take (i := 10) (v := undef) (some 13) rfl rfl (by kernel_rfl) (fun _ _ _ h => h) (Or.inr ⟨by rfl, rfl⟩) hSS ?_
    simp only [Act.put, List.setIfInBounds_toArray, List.set_cons_zero, List.set_cons_succ]
    refine anyT_take (i := 11) (v := undef) (some 14) rfl rfl (by kernel_rfl) (fun _ _ _ h => h) (Or.inr ⟨by rfl, rfl⟩) hSS ?_
    simp only [Act.put, List.setIfInBounds_toArray, List.set_cons_zero, List.set_cons_succ]
    refine anyT_take (i := 12) (v := undef) (some 15) rfl rfl (by kernel_rfl) (fun _ _ _ h => h) (Or.inr ⟨by rfl, rfl⟩) hSS ?_
    simp only [Act.put, List.setIfInBounds_toArray, List.set_cons_zero, List.set_cons_succ]
    refine anyT_take (i := 13) (v := undef) (some 16) rfl rfl (by kernel_rfl) (fun _ _ _ h => h) (Or.inr ⟨by rfl, rfl⟩) hSS ?_
    simp only [Act.put, List.setIfInBounds_toArray, List.set_cons_zero, List.set_cons_succ]
    refine anyT_take (i := 14) (v := ?_) (some 17) rfl rfl (by kernel_rfl) (fun _ _ _ h => h) (Or.inl ⟨by rfl, ?_⟩) hSS ?_
    rotate_left
    · intro w' hSw; go_simp; (try with_reducible rfl)
    simp only [Act.put, List.setIfInBounds_toArray, List.set_cons_zero, List.set_cons_succ]
    refine anyT_last (some 2) (.bool true) (by kernel_rfl) (by kernel_rfl) rfl (by kernel_rfl) rfl (by kernel_rfl) ?_
    simp only [Act.put, List.setIfInBounds_toArray, List.set_cons_zero, List.set_cons_succ]
    go_wp2
    go_ret
    exact ⟨rfl, HG.out.tr hSS⟩
end Go.Proofs.Ytfobnemocodomaa
