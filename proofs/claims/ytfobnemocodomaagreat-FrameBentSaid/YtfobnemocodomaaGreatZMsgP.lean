/- hearsayref12.Check: the form of the fields. -/
import Derived.Test.YtfobnemocodomaaGreatZBw
import Derived.Test.YtfobnemocodomaaGreatZQthN
set_option linter.unusedVariables false
set_option linter.unusedSimpArgs false
set_option maxHeartbeats 4000000
namespace Go.Proofs.YtfobnemocodomaaGreat
open Go.RowKit Go.Shelf Go.Great

theorem rowsF_hit {l : List DRow} {k : Nat} (h : k < l.length) (h0 : rowsF (l.take k) 0 = 0) (hn : chk l[k].l ≠ 0) : rowsF l 0 = chk l[k].l := by
  have e : rowsF l 0 = rowsF (l.drop (k + 1)) (rowsF (l.take (k + 1)) 0) := by
    unfold rowsF
    rw [← List.foldl_append, List.take_append_drop]
  rw [e, rowsF_take h, h0, cw0, rowsF_ne _ hn]
theorem refPath_any (s : ByteArray) (w : World) (h : s.size ≤ 4096) : Calls Tryz.prog 83 #[.string s] w fun r w' => r = .returned (.int .i64 (pchk s)) ∧ Gr w w' :=
  Pt.refCheck_any s.data.toList w (by rw [← Lib.size_eq]; exact h)
/-- an operation with a guard that need not be decided: its value where it is wanted, undef else -/
theorem wpList_sym {P : Program} {ops : Array Oper} {rest : List Oper} {o : Oper} {a : Act} {w : World} {Q : Exit → Act → World → Prop} (c : Bool) (v u : Value) (hw : Region.wanted o (yielded ops a.tmps) = c)
    (hv : c = true → (execOp a.eval o).run P w = .ok (.value v) w) (hu : (if c = true then v else undef) = u) (h : wpList P ops Q rest (a.put o.dst u) w) : wpList P ops Q (o :: rest) a w := by
  refine wpList_step fun K hK => ?_
  cases c with
  | true => rw [if_pos hw]; unfold Oper.wp; rw [hv rfl, Oper.upon_value]; subst hu; exact hK _ _ h
  | false => rw [if_neg (by rw [hw]; simp)]; subst hu; exact hK _ _ h
/-- the form, as the document asks for it -/
def formV (x : Mx) : Bool :=
  (((((((!decide (x.R = Z32L)) && (x.K != 2)) && (x.K != 3)) || (((!decide (x.Pa = ⟨#[]⟩)) && (x.K != 3)) && (x.K != 4))) || (decide ((0 : Int) < x.cl.length) && (x.K != 2))) || (decide ((0 : Int) < x.rs.length) && (x.K != 2))) || ((!decide (x.Tx = ⟨#[]⟩)) && (x.K != 4))) || (x.Tn && (x.K != 6))
theorem formV_eq {x : Mx} (h1 : 1 ≤ x.K) (h6 : x.K ≤ 6) : formV x = !bareB (zOf x) := by
  have hl : ∀ n : Nat, decide ((0 : Int) < n) = !decide (n = 0) := fun n => by cases n <;> simp <;> omega
  unfold formV
  rcases (by omega : x.K = 1 ∨ x.K = 2 ∨ x.K = 3 ∨ x.K = 4 ∨ x.K = 5 ∨ x.K = 6) with k | k | k | k | k | k
  · rw [bareK1 k, k, hl, hl]; cases decide (x.R = Z32L) <;> cases decide (x.Pa = ⟨#[]⟩) <;> cases decide (x.cl.length = 0) <;> cases decide (x.rs.length = 0) <;> cases decide (x.Tx = ⟨#[]⟩) <;> cases x.Tn <;> rfl
  · rw [bareK2 k, k, hl, hl]; cases decide (x.R = Z32L) <;> cases decide (x.Pa = ⟨#[]⟩) <;> cases decide (x.cl.length = 0) <;> cases decide (x.rs.length = 0) <;> cases decide (x.Tx = ⟨#[]⟩) <;> cases x.Tn <;> rfl
  · rw [bareK3 k, k, hl, hl]; cases decide (x.R = Z32L) <;> cases decide (x.Pa = ⟨#[]⟩) <;> cases decide (x.cl.length = 0) <;> cases decide (x.rs.length = 0) <;> cases decide (x.Tx = ⟨#[]⟩) <;> cases x.Tn <;> rfl
  · rw [bareK4 k, k, hl, hl]; cases decide (x.R = Z32L) <;> cases decide (x.Pa = ⟨#[]⟩) <;> cases decide (x.cl.length = 0) <;> cases decide (x.rs.length = 0) <;> cases decide (x.Tx = ⟨#[]⟩) <;> cases x.Tn <;> rfl
  · rw [bareK5 k, k, hl, hl]; cases decide (x.R = Z32L) <;> cases decide (x.Pa = ⟨#[]⟩) <;> cases decide (x.cl.length = 0) <;> cases decide (x.rs.length = 0) <;> cases decide (x.Tx = ⟨#[]⟩) <;> cases x.Tn <;> rfl
  · rw [bareK6 k, k, hl, hl]; cases decide (x.R = Z32L) <;> cases decide (x.Pa = ⟨#[]⟩) <;> cases decide (x.cl.length = 0) <;> cases decide (x.rs.length = 0) <;> cases decide (x.Tx = ⟨#[]⟩) <;> cases x.Tn <;> rfl
theorem str_emp (s : ByteArray) : s.toList.isEmpty = !(!decide (s = ⟨#[]⟩)) ∧ (s.toList == []) = !(!decide (s = ⟨#[]⟩)) := by
  by_cases h : s = ⟨#[]⟩
  · subst h; rw [Lib.toList_data]; exact ⟨rfl, rfl⟩
  · obtain ⟨n1, n2⟩ := nilList h
    rw [decide_eq_false h]
    exact ⟨n2, by simp [n1]⟩
set_option maxRecDepth 100000 in
theorem refMCheck_any (x : Mx) (w : World) (hx : MxOk w x) (hps : x.Pa.size ≤ 4096) :
    Calls Tryz.prog 49 #[.agg x.cells] w fun r w' => r = .returned (.int .i64 (mChk x)) ∧ Gr w w' := by
  have HB := Lib.hid (World.alloc_heap_new w (.cells x.cells 37))
  have HG : Hid (Gr w (w.alloc (.cells x.cells 37))) := Lib.hid ((Gr.rfl' w).al _)
  have HXO := Lib.hid (hx.gr HG.out)
  clear hx
  generalize hW : w.alloc (.cells x.cells 37) = W at HB HG HXO
  by_cases hh : hChk x = 0; rotate_left
  · have hhb : (hChk x != 0) = true := by simpa using hh
    have HV := Lib.hid (hChk_ne hh)
    clear hh
    go_enter Tryz.func49, Tryz.ntmps49
    go_wp2_with (first
      | refine loadM x HXO.out.dig rfl (.tmp 1) rfl w.heap.size rfl HB.out ?_)
    refine (head_any x _ HXO.out.dig).mono ?_
    rintro r w1 ⟨rfl, g1⟩
    go_wp2
    go_ret
    rw [HV.out]
    exact ⟨rfl, HG.out.tr g1⟩
  obtain ⟨hk1, hk6, hmc⟩ := hChk_zero hh
  have HMC := Lib.hid hmc
  clear hmc
  go_enter Tryz.func49, Tryz.ntmps49
  go_wp2_with (first
    | refine loadM x HXO.out.dig rfl (.tmp 1) rfl w.heap.size rfl HB.out ?_)
  refine (head_any x _ HXO.out.dig).mono ?_
  rintro r w1 ⟨rfl, g1⟩
  rw [hh]
  have HA := Lib.hid ((mxAt HB.out HXO.out.dig).gr g1)
  have HXL := Lib.hid HXO.out.dig
  have HO1 := Lib.hid (HXO.out.gr g1)
  have HG1 := Lib.hid (HG.out.tr g1)
  clear hW HB hh HXO HG g1
  obtain ⟨x0, x1, x2, x3, x4, x5, xR, x38, x39, x40⟩ := HA.out
  have HXR := Lib.hid xR
  have HF := Lib.hid (formV_eq hk1 hk6)
  clear xR x1 x2 x3
  go_upto_region 5 with (fail)
  obtain ⟨nR, hnR⟩ : ∃ b, (!decide (x.R = Z32L)) = b := ⟨_, rfl⟩
  obtain ⟨nP, hnP⟩ : ∃ b, (!decide (x.Pa = ⟨#[]⟩)) = b := ⟨_, rfl⟩
  obtain ⟨nC, hnC⟩ : ∃ b, decide ((0 : Int) < x.cl.length) = b := ⟨_, rfl⟩
  obtain ⟨nW, hnW⟩ : ∃ b, decide ((0 : Int) < x.rs.length) = b := ⟨_, rfl⟩
  obtain ⟨nX, hnX⟩ : ∃ b, (!decide (x.Tx = ⟨#[]⟩)) = b := ⟨_, rfl⟩
  obtain ⟨nT, hnT⟩ : ∃ b, x.Tn = b := ⟨_, rfl⟩
  obtain ⟨k2, hk2⟩ : ∃ b, (x.K != 2) = b := ⟨_, rfl⟩
  obtain ⟨k3, hk3⟩ : ∃ b, (x.K != 3) = b := ⟨_, rfl⟩
  obtain ⟨k4, hk4⟩ : ∃ b, (x.K != 4) = b := ⟨_, rfl⟩
  obtain ⟨k6, hk6'⟩ : ∃ b, (x.K != 6) = b := ⟨_, rfl⟩
  have hFV : formV x = (((((((nR && k2) && k3) || ((nP && k3) && k4)) || (nC && k2)) || (nW && k2)) || (nX && k4)) || (nT && k6)) := by
    rw [← hnR, ← hnP, ← hnC, ← hnW, ← hnX, ← hnT, ← hk2, ← hk3, ← hk4, ← hk6']; rfl
  rw [HF.out] at hFV
  obtain ⟨p1, p2⟩ := str_emp x.Pa
  obtain ⟨t1, t2⟩ := str_emp x.Tx
  rw [hnP] at p1 p2
  rw [hnX] at t1 t2
  have hsR : ∀ w, (Op.equalIn 10000 33 (.agg (digC x.R)) (.agg Z32)).run Tryz.prog w = .ok (!nR) w := fun w => by rw [← hnR, Bool.not_not]; exact eqDig 9998 x.R Z32L HXL.out Z32L_len w
  rw [hnT] at x4
  have hnC' : decide (0 < x.cl.length) = nC := by rw [← hnC]; simp
  have hnW' : decide (0 < x.rs.length) = nW := by rw [← hnW]; simp
  have HFV := Lib.hid hFV
  have H2 := Lib.hid hk2
  have HNP := Lib.hid hnP
  clear hFV hnR hnP hnX hnT HF
  refine wp_region_lit ?_
  refine wpList_sym true (.pointer (some ⟨w.heap.size, 6, none⟩)) (.pointer (some ⟨w.heap.size, 6, none⟩)) (by rfl) (fun _ => by go_simp) rfl ?_
  simp only [Act.put, List.setIfInBounds_toArray, List.set_cons_zero, List.set_cons_succ]
  refine ldG_at (by rfl) 33 (.tmp 13) rfl ⟨w.heap.size, 6, none⟩ rfl (digC x.R).toList _ HXR.out Tryz.underlying33 rfl (digLen HXL.out) ?_
  simp only [Act.put, List.setIfInBounds_toArray, List.set_cons_zero, List.set_cons_succ]
  refine build32 rfl rfl ?_
  simp only [Act.put, List.setIfInBounds_toArray, List.set_cons_zero, List.set_cons_succ]
  refine wpList_sym true (.bool nR) (.bool nR) (by rfl) (fun _ => by go_simp) rfl ?_
  simp only [Act.put, List.setIfInBounds_toArray, List.set_cons_zero, List.set_cons_succ]
  refine wpList_sym true (.bool nR) (.bool nR) (by rfl) (fun _ => by go_simp) rfl ?_
  simp only [Act.put, List.setIfInBounds_toArray, List.set_cons_zero, List.set_cons_succ]
  refine wpList_sym (nR) (.int .i64 x.K) ((if nR = true then .int .i64 x.K else undef)) (by cases nR <;> rfl) (fun hc => by cases nR <;> (first | (exact absurd hc (by decide)) | (go_simp))) (by cases nR <;> rfl) ?_
  simp only [Act.put, List.setIfInBounds_toArray, List.set_cons_zero, List.set_cons_succ]
  refine wpList_sym (nR) (.bool k2) ((if nR = true then .bool k2 else undef)) (by cases nR <;> rfl) (fun hc => by cases nR <;> (first | (exact absurd hc (by decide)) | (go_simp))) (by cases nR <;> rfl) ?_
  simp only [Act.put, List.setIfInBounds_toArray, List.set_cons_zero, List.set_cons_succ]
  refine wpList_sym true (.bool (nR && k2)) (.bool (nR && k2)) (by rfl) (fun _ => by cases nR <;> go_simp) rfl ?_
  simp only [Act.put, List.setIfInBounds_toArray, List.set_cons_zero, List.set_cons_succ]
  obtain ⟨s1, hs1⟩ : ∃ b, (nR && k2) = b := ⟨_, rfl⟩
  rw [hs1]
  refine wpList_sym true (.bool s1) (.bool s1) (by rfl) (fun _ => by go_simp) rfl ?_
  simp only [Act.put, List.setIfInBounds_toArray, List.set_cons_zero, List.set_cons_succ]
  refine wpList_sym (s1) (.int .i64 x.K) ((if s1 = true then .int .i64 x.K else undef)) (by cases s1 <;> rfl) (fun hc => by cases s1 <;> (first | (exact absurd hc (by decide)) | (go_simp))) (by cases s1 <;> rfl) ?_
  simp only [Act.put, List.setIfInBounds_toArray, List.set_cons_zero, List.set_cons_succ]
  refine wpList_sym (s1) (.bool k3) ((if s1 = true then .bool k3 else undef)) (by cases s1 <;> rfl) (fun hc => by cases s1 <;> (first | (exact absurd hc (by decide)) | (go_simp))) (by cases s1 <;> rfl) ?_
  simp only [Act.put, List.setIfInBounds_toArray, List.set_cons_zero, List.set_cons_succ]
  refine wpList_sym true (.bool (s1 && k3)) (.bool (s1 && k3)) (by rfl) (fun _ => by cases s1 <;> go_simp) rfl ?_
  simp only [Act.put, List.setIfInBounds_toArray, List.set_cons_zero, List.set_cons_succ]
  obtain ⟨r1, hr1⟩ : ∃ b, (s1 && k3) = b := ⟨_, rfl⟩
  rw [hr1]
  refine wpList_sym true (.bool r1) (.bool r1) (by rfl) (fun _ => by go_simp) rfl ?_
  simp only [Act.put, List.setIfInBounds_toArray, List.set_cons_zero, List.set_cons_succ]
  refine wpList_sym (!r1) (.pointer (some ⟨w.heap.size, 5, none⟩)) (if r1 = true then undef else .pointer (some ⟨w.heap.size, 5, none⟩)) (by cases r1 <;> rfl) (fun hc => by cases r1 <;> (first | (exact absurd hc (by decide)) | (go_simp))) (by cases r1 <;> rfl) ?_
  simp only [Act.put, List.setIfInBounds_toArray, List.set_cons_zero, List.set_cons_succ]
  refine wpList_sym (!r1) (.string x.Pa) (if r1 = true then undef else .string x.Pa) (by cases r1 <;> rfl) (fun hc => by cases r1 <;> (first | (exact absurd hc (by decide)) | (go_simp))) (by cases r1 <;> rfl) ?_
  simp only [Act.put, List.setIfInBounds_toArray, List.set_cons_zero, List.set_cons_succ]
  refine wpList_sym (!r1) (.bool nP) (if r1 = true then undef else .bool nP) (by cases r1 <;> rfl) (fun hc => by cases r1 <;> (first | (exact absurd hc (by decide)) | (go_simp))) (by cases r1 <;> rfl) ?_
  simp only [Act.put, List.setIfInBounds_toArray, List.set_cons_zero, List.set_cons_succ]
  refine wpList_sym (!r1) (.bool nP) (if r1 = true then undef else .bool nP) (by cases r1 <;> rfl) (fun hc => by cases r1 <;> (first | (exact absurd hc (by decide)) | (go_simp))) (by cases r1 <;> rfl) ?_
  simp only [Act.put, List.setIfInBounds_toArray, List.set_cons_zero, List.set_cons_succ]
  refine wpList_sym (!r1 && nP) (.int .i64 x.K) (if (!r1 && nP) = true then .int .i64 x.K else undef) (by cases r1 <;> cases nP <;> rfl) (fun hc => by cases r1 <;> cases nP <;> (first | (exact absurd hc (by decide)) | (go_simp))) (by cases r1 <;> cases nP <;> rfl) ?_
  simp only [Act.put, List.setIfInBounds_toArray, List.set_cons_zero, List.set_cons_succ]
  refine wpList_sym (!r1 && nP) (.bool k3) (if (!r1 && nP) = true then .bool k3 else undef) (by cases r1 <;> cases nP <;> rfl) (fun hc => by cases r1 <;> cases nP <;> (first | (exact absurd hc (by decide)) | (go_simp))) (by cases r1 <;> cases nP <;> rfl) ?_
  simp only [Act.put, List.setIfInBounds_toArray, List.set_cons_zero, List.set_cons_succ]
  refine wpList_sym (!r1) (.bool (nP && k3)) (if r1 = true then undef else .bool (nP && k3)) (by cases r1 <;> rfl) (fun hc => by cases r1 <;> cases nP <;> (first | (exact absurd hc (by decide)) | (go_simp))) (by cases r1 <;> rfl) ?_
  simp only [Act.put, List.setIfInBounds_toArray, List.set_cons_zero, List.set_cons_succ]
  obtain ⟨nP0, hnP0⟩ : ∃ b, (nP && k3) = b := ⟨_, rfl⟩
  rw [hnP0]
  refine wpList_sym (!r1) (.bool nP0) (if r1 = true then undef else .bool nP0) (by cases r1 <;> rfl) (fun hc => by cases r1 <;> (first | (exact absurd hc (by decide)) | (go_simp))) (by cases r1 <;> rfl) ?_
  simp only [Act.put, List.setIfInBounds_toArray, List.set_cons_zero, List.set_cons_succ]
  refine wpList_sym (!r1 && nP0) (.int .i64 x.K) (if (!r1 && nP0) = true then .int .i64 x.K else undef) (by cases r1 <;> cases nP0 <;> rfl) (fun hc => by cases r1 <;> cases nP0 <;> (first | (exact absurd hc (by decide)) | (go_simp))) (by cases r1 <;> cases nP0 <;> rfl) ?_
  simp only [Act.put, List.setIfInBounds_toArray, List.set_cons_zero, List.set_cons_succ]
  refine wpList_sym (!r1 && nP0) (.bool k4) (if (!r1 && nP0) = true then .bool k4 else undef) (by cases r1 <;> cases nP0 <;> rfl) (fun hc => by cases r1 <;> cases nP0 <;> (first | (exact absurd hc (by decide)) | (go_simp))) (by cases r1 <;> cases nP0 <;> rfl) ?_
  simp only [Act.put, List.setIfInBounds_toArray, List.set_cons_zero, List.set_cons_succ]
  refine wpList_sym (!r1) (.bool (nP0 && k4)) (if r1 = true then undef else .bool (nP0 && k4)) (by cases r1 <;> rfl) (fun hc => by cases r1 <;> cases nP0 <;> (first | (exact absurd hc (by decide)) | (go_simp))) (by cases r1 <;> rfl) ?_
  simp only [Act.put, List.setIfInBounds_toArray, List.set_cons_zero, List.set_cons_succ]
  obtain ⟨nP1, hnP1⟩ : ∃ b, (nP0 && k4) = b := ⟨_, rfl⟩
  rw [hnP1]
  refine wpList_sym true (.bool (r1 || nP1)) (.bool (r1 || nP1)) (by rfl) (fun _ => by cases r1 <;> go_simp) rfl ?_
  simp only [Act.put, List.setIfInBounds_toArray, List.set_cons_zero, List.set_cons_succ]
  obtain ⟨r2, hr2⟩ : ∃ b, (r1 || nP1) = b := ⟨_, rfl⟩
  rw [hr2]
  refine wpList_sym true (.bool r2) (.bool r2) (by rfl) (fun _ => by go_simp) rfl ?_
  simp only [Act.put, List.setIfInBounds_toArray, List.set_cons_zero, List.set_cons_succ]
  refine wpList_sym (!r2) (.pointer (some ⟨w.heap.size, 38, none⟩)) (if r2 = true then undef else .pointer (some ⟨w.heap.size, 38, none⟩)) (by cases r2 <;> rfl) (fun hc => by cases r2 <;> (first | (exact absurd hc (by decide)) | (go_simp))) (by cases r2 <;> rfl) ?_
  simp only [Act.put, List.setIfInBounds_toArray, List.set_cons_zero, List.set_cons_succ]
  refine wpList_sym (!r2) ((.slice x.cA x.cl.length x.cc)) (if r2 = true then undef else (.slice x.cA x.cl.length x.cc)) (by cases r2 <;> rfl) (fun hc => by cases r2 <;> (first | (exact absurd hc (by decide)) | (go_simp))) (by cases r2 <;> rfl) ?_
  simp only [Act.put, List.setIfInBounds_toArray, List.set_cons_zero, List.set_cons_succ]
  refine wpList_sym (!r2) ((.int .i64 x.cl.length)) (if r2 = true then undef else (.int .i64 x.cl.length)) (by cases r2 <;> rfl) (fun hc => by cases r2 <;> (first | (exact absurd hc (by decide)) | (go_simp))) (by cases r2 <;> rfl) ?_
  simp only [Act.put, List.setIfInBounds_toArray, List.set_cons_zero, List.set_cons_succ]
  refine wpList_sym (!r2) (.bool nC) (if r2 = true then undef else .bool nC) (by cases r2 <;> rfl) (fun hc => by cases r2 <;> (first | (exact absurd hc (by decide)) | (go_simp))) (by cases r2 <;> rfl) ?_
  simp only [Act.put, List.setIfInBounds_toArray, List.set_cons_zero, List.set_cons_succ]
  refine wpList_sym (!r2) (.bool nC) (if r2 = true then undef else .bool nC) (by cases r2 <;> rfl) (fun hc => by cases r2 <;> (first | (exact absurd hc (by decide)) | (go_simp))) (by cases r2 <;> rfl) ?_
  simp only [Act.put, List.setIfInBounds_toArray, List.set_cons_zero, List.set_cons_succ]
  refine wpList_sym (!r2 && nC) (.int .i64 x.K) (if (!r2 && nC) = true then .int .i64 x.K else undef) (by cases r2 <;> cases nC <;> rfl) (fun hc => by cases r2 <;> cases nC <;> (first | (exact absurd hc (by decide)) | (go_simp))) (by cases r2 <;> cases nC <;> rfl) ?_
  simp only [Act.put, List.setIfInBounds_toArray, List.set_cons_zero, List.set_cons_succ]
  refine wpList_sym (!r2 && nC) (.bool k2) (if (!r2 && nC) = true then .bool k2 else undef) (by cases r2 <;> cases nC <;> rfl) (fun hc => by cases r2 <;> cases nC <;> (first | (exact absurd hc (by decide)) | (go_simp))) (by cases r2 <;> cases nC <;> rfl) ?_
  simp only [Act.put, List.setIfInBounds_toArray, List.set_cons_zero, List.set_cons_succ]
  refine wpList_sym (!r2) (.bool (nC && k2)) (if r2 = true then undef else .bool (nC && k2)) (by cases r2 <;> rfl) (fun hc => by cases r2 <;> cases nC <;> (first | (exact absurd hc (by decide)) | (go_simp))) (by cases r2 <;> rfl) ?_
  simp only [Act.put, List.setIfInBounds_toArray, List.set_cons_zero, List.set_cons_succ]
  obtain ⟨nC0, hnC0⟩ : ∃ b, (nC && k2) = b := ⟨_, rfl⟩
  rw [hnC0]
  refine wpList_sym true (.bool (r2 || nC0)) (.bool (r2 || nC0)) (by rfl) (fun _ => by cases r2 <;> go_simp) rfl ?_
  simp only [Act.put, List.setIfInBounds_toArray, List.set_cons_zero, List.set_cons_succ]
  obtain ⟨r3, hr3⟩ : ∃ b, (r2 || nC0) = b := ⟨_, rfl⟩
  rw [hr3]
  refine wpList_sym true (.bool r3) (.bool r3) (by rfl) (fun _ => by go_simp) rfl ?_
  simp only [Act.put, List.setIfInBounds_toArray, List.set_cons_zero, List.set_cons_succ]
  refine wpList_sym (!r3) (.pointer (some ⟨w.heap.size, 39, none⟩)) (if r3 = true then undef else .pointer (some ⟨w.heap.size, 39, none⟩)) (by cases r3 <;> rfl) (fun hc => by cases r3 <;> (first | (exact absurd hc (by decide)) | (go_simp))) (by cases r3 <;> rfl) ?_
  simp only [Act.put, List.setIfInBounds_toArray, List.set_cons_zero, List.set_cons_succ]
  refine wpList_sym (!r3) ((.slice x.rA x.rs.length x.rc)) (if r3 = true then undef else (.slice x.rA x.rs.length x.rc)) (by cases r3 <;> rfl) (fun hc => by cases r3 <;> (first | (exact absurd hc (by decide)) | (go_simp))) (by cases r3 <;> rfl) ?_
  simp only [Act.put, List.setIfInBounds_toArray, List.set_cons_zero, List.set_cons_succ]
  refine wpList_sym (!r3) ((.int .i64 x.rs.length)) (if r3 = true then undef else (.int .i64 x.rs.length)) (by cases r3 <;> rfl) (fun hc => by cases r3 <;> (first | (exact absurd hc (by decide)) | (go_simp))) (by cases r3 <;> rfl) ?_
  simp only [Act.put, List.setIfInBounds_toArray, List.set_cons_zero, List.set_cons_succ]
  refine wpList_sym (!r3) (.bool nW) (if r3 = true then undef else .bool nW) (by cases r3 <;> rfl) (fun hc => by cases r3 <;> (first | (exact absurd hc (by decide)) | (go_simp))) (by cases r3 <;> rfl) ?_
  simp only [Act.put, List.setIfInBounds_toArray, List.set_cons_zero, List.set_cons_succ]
  refine wpList_sym (!r3) (.bool nW) (if r3 = true then undef else .bool nW) (by cases r3 <;> rfl) (fun hc => by cases r3 <;> (first | (exact absurd hc (by decide)) | (go_simp))) (by cases r3 <;> rfl) ?_
  simp only [Act.put, List.setIfInBounds_toArray, List.set_cons_zero, List.set_cons_succ]
  refine wpList_sym (!r3 && nW) (.int .i64 x.K) (if (!r3 && nW) = true then .int .i64 x.K else undef) (by cases r3 <;> cases nW <;> rfl) (fun hc => by cases r3 <;> cases nW <;> (first | (exact absurd hc (by decide)) | (go_simp))) (by cases r3 <;> cases nW <;> rfl) ?_
  simp only [Act.put, List.setIfInBounds_toArray, List.set_cons_zero, List.set_cons_succ]
  refine wpList_sym (!r3 && nW) (.bool k2) (if (!r3 && nW) = true then .bool k2 else undef) (by cases r3 <;> cases nW <;> rfl) (fun hc => by cases r3 <;> cases nW <;> (first | (exact absurd hc (by decide)) | (go_simp))) (by cases r3 <;> cases nW <;> rfl) ?_
  simp only [Act.put, List.setIfInBounds_toArray, List.set_cons_zero, List.set_cons_succ]
  refine wpList_sym (!r3) (.bool (nW && k2)) (if r3 = true then undef else .bool (nW && k2)) (by cases r3 <;> rfl) (fun hc => by cases r3 <;> cases nW <;> (first | (exact absurd hc (by decide)) | (go_simp))) (by cases r3 <;> rfl) ?_
  simp only [Act.put, List.setIfInBounds_toArray, List.set_cons_zero, List.set_cons_succ]
  obtain ⟨nW0, hnW0⟩ : ∃ b, (nW && k2) = b := ⟨_, rfl⟩
  rw [hnW0]
  refine wpList_sym true (.bool (r3 || nW0)) (.bool (r3 || nW0)) (by rfl) (fun _ => by cases r3 <;> go_simp) rfl ?_
  simp only [Act.put, List.setIfInBounds_toArray, List.set_cons_zero, List.set_cons_succ]
  obtain ⟨r4, hr4⟩ : ∃ b, (r3 || nW0) = b := ⟨_, rfl⟩
  rw [hr4]
  refine wpList_sym true (.bool r4) (.bool r4) (by rfl) (fun _ => by go_simp) rfl ?_
  simp only [Act.put, List.setIfInBounds_toArray, List.set_cons_zero, List.set_cons_succ]
  refine wpList_sym (!r4) (.pointer (some ⟨w.heap.size, 40, none⟩)) (if r4 = true then undef else .pointer (some ⟨w.heap.size, 40, none⟩)) (by cases r4 <;> rfl) (fun hc => by cases r4 <;> (first | (exact absurd hc (by decide)) | (go_simp))) (by cases r4 <;> rfl) ?_
  simp only [Act.put, List.setIfInBounds_toArray, List.set_cons_zero, List.set_cons_succ]
  refine wpList_sym (!r4) (.string x.Tx) (if r4 = true then undef else .string x.Tx) (by cases r4 <;> rfl) (fun hc => by cases r4 <;> (first | (exact absurd hc (by decide)) | (go_simp))) (by cases r4 <;> rfl) ?_
  simp only [Act.put, List.setIfInBounds_toArray, List.set_cons_zero, List.set_cons_succ]
  refine wpList_sym (!r4) (.bool nX) (if r4 = true then undef else .bool nX) (by cases r4 <;> rfl) (fun hc => by cases r4 <;> (first | (exact absurd hc (by decide)) | (go_simp))) (by cases r4 <;> rfl) ?_
  simp only [Act.put, List.setIfInBounds_toArray, List.set_cons_zero, List.set_cons_succ]
  refine wpList_sym (!r4) (.bool nX) (if r4 = true then undef else .bool nX) (by cases r4 <;> rfl) (fun hc => by cases r4 <;> (first | (exact absurd hc (by decide)) | (go_simp))) (by cases r4 <;> rfl) ?_
  simp only [Act.put, List.setIfInBounds_toArray, List.set_cons_zero, List.set_cons_succ]
  refine wpList_sym (!r4 && nX) (.int .i64 x.K) (if (!r4 && nX) = true then .int .i64 x.K else undef) (by cases r4 <;> cases nX <;> rfl) (fun hc => by cases r4 <;> cases nX <;> (first | (exact absurd hc (by decide)) | (go_simp))) (by cases r4 <;> cases nX <;> rfl) ?_
  simp only [Act.put, List.setIfInBounds_toArray, List.set_cons_zero, List.set_cons_succ]
  refine wpList_sym (!r4 && nX) (.bool k4) (if (!r4 && nX) = true then .bool k4 else undef) (by cases r4 <;> cases nX <;> rfl) (fun hc => by cases r4 <;> cases nX <;> (first | (exact absurd hc (by decide)) | (go_simp))) (by cases r4 <;> cases nX <;> rfl) ?_
  simp only [Act.put, List.setIfInBounds_toArray, List.set_cons_zero, List.set_cons_succ]
  refine wpList_sym (!r4) (.bool (nX && k4)) (if r4 = true then undef else .bool (nX && k4)) (by cases r4 <;> rfl) (fun hc => by cases r4 <;> cases nX <;> (first | (exact absurd hc (by decide)) | (go_simp))) (by cases r4 <;> rfl) ?_
  simp only [Act.put, List.setIfInBounds_toArray, List.set_cons_zero, List.set_cons_succ]
  obtain ⟨nX0, hnX0⟩ : ∃ b, (nX && k4) = b := ⟨_, rfl⟩
  rw [hnX0]
  refine wpList_sym true (.bool (r4 || nX0)) (.bool (r4 || nX0)) (by rfl) (fun _ => by cases r4 <;> go_simp) rfl ?_
  simp only [Act.put, List.setIfInBounds_toArray, List.set_cons_zero, List.set_cons_succ]
  obtain ⟨r5, hr5⟩ : ∃ b, (r4 || nX0) = b := ⟨_, rfl⟩
  rw [hr5]
  refine wpList_sym true (.bool r5) (.bool r5) (by rfl) (fun _ => by go_simp) rfl ?_
  simp only [Act.put, List.setIfInBounds_toArray, List.set_cons_zero, List.set_cons_succ]
  refine wpList_sym (!r5) (.pointer (some ⟨w.heap.size, 4, none⟩)) (if r5 = true then undef else .pointer (some ⟨w.heap.size, 4, none⟩)) (by cases r5 <;> rfl) (fun hc => by cases r5 <;> (first | (exact absurd hc (by decide)) | (go_simp))) (by cases r5 <;> rfl) ?_
  simp only [Act.put, List.setIfInBounds_toArray, List.set_cons_zero, List.set_cons_succ]
  refine wpList_sym (!r5) (.bool nT) (if r5 = true then undef else .bool nT) (by cases r5 <;> rfl) (fun hc => by cases r5 <;> (first | (exact absurd hc (by decide)) | (go_simp))) (by cases r5 <;> rfl) ?_
  simp only [Act.put, List.setIfInBounds_toArray, List.set_cons_zero, List.set_cons_succ]
  refine wpList_sym (!r5) (.bool nT) (if r5 = true then undef else .bool nT) (by cases r5 <;> rfl) (fun hc => by cases r5 <;> (first | (exact absurd hc (by decide)) | (go_simp))) (by cases r5 <;> rfl) ?_
  simp only [Act.put, List.setIfInBounds_toArray, List.set_cons_zero, List.set_cons_succ]
  refine wpList_sym (!r5 && nT) (.int .i64 x.K) (if (!r5 && nT) = true then .int .i64 x.K else undef) (by cases r5 <;> cases nT <;> rfl) (fun hc => by cases r5 <;> cases nT <;> (first | (exact absurd hc (by decide)) | (go_simp))) (by cases r5 <;> cases nT <;> rfl) ?_
  simp only [Act.put, List.setIfInBounds_toArray, List.set_cons_zero, List.set_cons_succ]
  refine wpList_sym (!r5 && nT) (.bool k6) (if (!r5 && nT) = true then .bool k6 else undef) (by cases r5 <;> cases nT <;> rfl) (fun hc => by cases r5 <;> cases nT <;> (first | (exact absurd hc (by decide)) | (go_simp))) (by cases r5 <;> cases nT <;> rfl) ?_
  simp only [Act.put, List.setIfInBounds_toArray, List.set_cons_zero, List.set_cons_succ]
  refine wpList_sym (!r5) (.bool (nT && k6)) (if r5 = true then undef else .bool (nT && k6)) (by cases r5 <;> rfl) (fun hc => by cases r5 <;> cases nT <;> (first | (exact absurd hc (by decide)) | (go_simp))) (by cases r5 <;> rfl) ?_
  simp only [Act.put, List.setIfInBounds_toArray, List.set_cons_zero, List.set_cons_succ]
  obtain ⟨nT0, hnT0⟩ : ∃ b, (nT && k6) = b := ⟨_, rfl⟩
  rw [hnT0]
  refine wpList_sym true (.bool (r5 || nT0)) (.bool (r5 || nT0)) (by rfl) (fun _ => by cases r5 <;> go_simp) rfl ?_
  simp only [Act.put, List.setIfInBounds_toArray, List.set_cons_zero, List.set_cons_succ]
  obtain ⟨r6, hr6⟩ : ∃ b, (r5 || nT0) = b := ⟨_, rfl⟩
  rw [hr6]
  refine wpList_nil ?_
  have hr6' : r6 = !bareB (zOf x) := by
    rw [HFV.out, ← hr6, ← hr5, ← hr4, ← hr3, ← hr2, ← hr1, ← hs1, ← hnP1, ← hnP0, ← hnC0, ← hnW0, ← hnX0, ← hnT0]
  clear hr6 hr5 hr4 hr3 hr2 hr1 hs1 hnP1 hnP0 hnC0 hnW0 hnX0 hnT0
  have HKK := Lib.hid hk1
  have HKL := Lib.hid hk6
  generalize ((if nR = true then .int .i64 x.K else undef) : Value) = z0
  generalize ((if nR = true then .bool k2 else undef) : Value) = z1
  generalize ((if s1 = true then .int .i64 x.K else undef) : Value) = z2
  generalize ((if s1 = true then .bool k3 else undef) : Value) = z3
  generalize ((if r1 = true then undef else .bool nP0) : Value) = z4
  generalize ((if r1 = true then undef else .bool nP1) : Value) = z5
  generalize ((if r2 = true then undef else .bool nC0) : Value) = z6
  generalize ((if r3 = true then undef else .bool nW0) : Value) = z7
  generalize ((if r4 = true then undef else .bool nX0) : Value) = z8
  generalize ((if r5 = true then undef else .bool nT0) : Value) = z9
  generalize ((if r1 = true then undef else .pointer (some ⟨w.heap.size, 5, none⟩)) : Value) = z10
  generalize ((if r1 = true then undef else .string x.Pa) : Value) = z11
  generalize ((if r1 = true then undef else .bool nP) : Value) = z12
  generalize ((if (!r1 && nP) = true then .int .i64 x.K else undef) : Value) = z13
  generalize ((if (!r1 && nP) = true then .bool k3 else undef) : Value) = z14
  generalize ((if r1 = true then undef else .bool (nP && k3)) : Value) = z15
  generalize ((if (!r1 && nP0) = true then .int .i64 x.K else undef) : Value) = z16
  generalize ((if (!r1 && nP0) = true then .bool k4 else undef) : Value) = z17
  generalize ((if r1 = true then undef else .bool (nP0 && k4)) : Value) = z18
  generalize ((if r2 = true then undef else .pointer (some ⟨w.heap.size, 38, none⟩)) : Value) = z19
  generalize ((if r2 = true then undef else (.slice x.cA x.cl.length x.cc)) : Value) = z20
  generalize ((if r2 = true then undef else (.int .i64 x.cl.length)) : Value) = z21
  generalize ((if r2 = true then undef else .bool nC) : Value) = z22
  generalize ((if (!r2 && nC) = true then .int .i64 x.K else undef) : Value) = z23
  generalize ((if (!r2 && nC) = true then .bool k2 else undef) : Value) = z24
  generalize ((if r2 = true then undef else .bool (nC && k2)) : Value) = z25
  generalize ((if r3 = true then undef else .pointer (some ⟨w.heap.size, 39, none⟩)) : Value) = z26
  generalize ((if r3 = true then undef else (.slice x.rA x.rs.length x.rc)) : Value) = z27
  generalize ((if r3 = true then undef else (.int .i64 x.rs.length)) : Value) = z28
  generalize ((if r3 = true then undef else .bool nW) : Value) = z29
  generalize ((if (!r3 && nW) = true then .int .i64 x.K else undef) : Value) = z30
  generalize ((if (!r3 && nW) = true then .bool k2 else undef) : Value) = z31
  generalize ((if r3 = true then undef else .bool (nW && k2)) : Value) = z32
  generalize ((if r4 = true then undef else .pointer (some ⟨w.heap.size, 40, none⟩)) : Value) = z33
  generalize ((if r4 = true then undef else .string x.Tx) : Value) = z34
  generalize ((if r4 = true then undef else .bool nX) : Value) = z35
  generalize ((if (!r4 && nX) = true then .int .i64 x.K else undef) : Value) = z36
  generalize ((if (!r4 && nX) = true then .bool k4 else undef) : Value) = z37
  generalize ((if r4 = true then undef else .bool (nX && k4)) : Value) = z38
  generalize ((if r5 = true then undef else .pointer (some ⟨w.heap.size, 4, none⟩)) : Value) = z39
  generalize ((if r5 = true then undef else .bool nT) : Value) = z40
  generalize ((if (!r5 && nT) = true then .int .i64 x.K else undef) : Value) = z41
  generalize ((if (!r5 && nT) = true then .bool k6 else undef) : Value) = z42
  generalize ((if r5 = true then undef else .bool (nT && k6)) : Value) = z43
  clear hnC hnW hnC' hnW' hk2 hk3 hk4 hk6' H2 HNP p1 p2 t1 t2 hsR hk1 hk6 HXR HXL
  cases hb : bareB (zOf x) with
  | false =>
    rw [hb] at hr6'
    obtain rfl : r6 = true := hr6'
    have hv : Hid (mChk x = 7) := Lib.hid (by rw [HMC.out, if_pos hb])
    clear hb
    go_wp2
    go_ret
    rw [hv.out]
    exact ⟨rfl, HG1.out⟩
  | true =>
    rw [hb] at hr6'
    obtain rfl : r6 = false := hr6'
    have hv : Hid (mChk x = restC x) := Lib.hid (by rw [HMC.out, if_neg (by rw [hb]; simp), restC_eq HKK.out HKL.out hb])
    clear hb
    by_cases hp : x.Pa = ⟨#[]⟩
    · have HPZ : Hid (pathC x.Pa 0 = 0) := Lib.hid (by rw [hp]; exact pathC_nil)
      rw [hp] at x5
      clear hp
      have GP : Hid (Gr w1 w1) := Lib.hid (Gr.rfl' _)
      have HK := Lib.hid (refCheck_any x.cA x.cc x.cl _ (HO1.out.ctx.gr GP.out))
      go_wp2_with fail
      refine (HK.out).mono ?_
      rintro r wc ⟨rfl, gc⟩
      have GC := Lib.hid (GP.out.tr gc)
      clear gc HK
      by_cases hc : chk x.cl = 0; rotate_left
      · have hcb : (chk x.cl != 0) = true := by simpa using hc
        have hv2 : Hid (restC x = chk x.cl) := Lib.hid (by unfold restC; rw [if_neg (by simpa using HPZ.out), if_pos hc])
        clear hc
        go_wp2
        go_ret
        rw [hv.out, hv2.out]
        exact ⟨rfl, HG1.out.tr GC.out⟩
      rw [hc]
      have HCZ := Lib.hid hc
      clear hc x4 x5 x38 x39 x40
      have c39 := (HA.out.gr GC.out).c39
      have c40 := (HA.out.gr GC.out).c40
      by_cases h6 : 64 < x.rs.length
      · have h6i : (64 : Int) < x.rs.length := by omega
        have hv2 : Hid (restC x = 2) := Lib.hid (by unfold restC; rw [if_neg (by simpa using HPZ.out), if_neg (by simpa using HCZ.out), if_pos h6])
        go_wp2
        go_ret
        rw [hv.out, hv2.out]
        exact ⟨rfl, HG1.out.tr GC.out⟩
      have h6i : ¬ (64 : Int) < x.rs.length := by omega
      have H6 := Lib.hid h6
      have HR := Lib.hid HO1.out.rows
      go_wp2
      go_loopw [3, 5] (fun s i wr => s = .int .i64 0 ∧ ∃ k : Nat, k ≤ x.rs.length ∧ i = .int .i64 k ∧ Hid (rowsF (x.rs.take k) 0 = 0) ∧ Hid (Gr w1 wr)) (fun _ i _ => x.rs.length - (intOf i).toNat)
      case atStart => exact ⟨rfl, 0, Nat.zero_le _, rfl, Lib.hid rfl, GC⟩
      case round =>
        obtain ⟨rfl, k, hk, rfl, HL, G⟩ := hrel
        replace c39 := (HA.out.gr G.out).c39
        replace c40 := (HA.out.gr G.out).c40
        clear GC
        by_cases hlt : k < x.rs.length
        · have hki : (k : Int) < x.rs.length := by omega
          obtain ⟨ad, he, hc, hd⟩ := (HR.out.gr G.out).2 k hlt
          rw [he] at c39
          have HT := Lib.hid (rowsF_take hlt 0)
          have HI := Lib.hid (fun hn => rowsF_hit hlt HL.out hn)
          obtain ⟨d, hdd⟩ : ∃ d, x.rs[k] = d := ⟨_, rfl⟩
          rw [hdd] at hc hd HT HI
          have HKD := Lib.hid (refCheck_any d.A d.cap d.l wr hd)
          clear hdd he hd
          go_wp2_with fail
          refine (HKD.out).mono ?_
          rintro r wd ⟨rfl, gd⟩
          have GD := Lib.hid (G.out.tr gd)
          clear gd HKD
          by_cases hcd : chk d.l = 0; rotate_left
          · have hcb : (chk d.l != 0) = true := by simpa using hcd
            have hv2 : Hid (restC x = chk d.l) := Lib.hid (by unfold restC; rw [if_neg (by simpa using HPZ.out), if_neg (by simpa using HCZ.out), if_neg H6.out, HI.out hcd, if_pos hcd])
            clear hcd
            go_wp2
            go_ret
            rw [hv.out, hv2.out]
            exact ⟨rfl, HG1.out.tr GD.out⟩
          rw [hcd]
          have HCD := Lib.hid hcd
          clear hcd hc c39 c40
          go_wp2
          go_roundw
          case rel => exact ⟨rfl, k + 1, by omega, by go_num, Lib.hid (by rw [HT.out, HL.out, HCD.out]; rfl), GD⟩
          case measure => simp [intOf]; omega
        · have hkk : k = x.rs.length := by omega
          subst hkk
          have hki : ¬ (x.rs.length : Int) < x.rs.length := by omega
          rw [List.take_length] at HL
          by_cases ht : 65536 < x.Tx.size
          · have hti : (65536 : Int) < x.Tx.size := by omega
            have hv2 : Hid (restC x = 2) := Lib.hid (by unfold restC; rw [if_neg (by simpa using HPZ.out), if_neg (by simpa using HCZ.out), if_neg H6.out, if_neg (by simpa using HL.out), if_pos ht])
            go_wp2
            go_ret
            rw [hv.out, hv2.out]
            exact ⟨rfl, HG1.out.tr G.out⟩
          · have hti : ¬ (65536 : Int) < x.Tx.size := by omega
            have hv2 : Hid (restC x = 0) := Lib.hid (by unfold restC; rw [if_neg (by simpa using HPZ.out), if_neg (by simpa using HCZ.out), if_neg H6.out, if_neg (by simpa using HL.out), if_neg ht])
            go_wp2
            go_ret
            rw [hv.out, hv2.out]
            exact ⟨rfl, HG1.out.tr G.out⟩
    · obtain ⟨n1, n2⟩ := nilList hp
      have HPC : Hid (pathC x.Pa 0 = pchk x.Pa) := Lib.hid (by unfold pathC; rw [if_neg hp, cw0])
      clear hp
      have HPK := Lib.hid (fun W => refPath_any x.Pa W hps)
      go_wp2_with fail
      refine (HPK.out _).mono ?_
      rintro r wp ⟨rfl, gp⟩
      have GP := Lib.hid gp
      replace x5 := gp.cell x5
      clear gp
      by_cases hz : pchk x.Pa = 0; rotate_left
      · have hzb : (pchk x.Pa != 0) = true := by simpa using hz
        have hv2 : Hid (restC x = pchk x.Pa) := Lib.hid (by unfold restC; rw [HPC.out, if_pos hz])
        clear hz
        go_wp2_with fail
        refine (HPK.out _).mono ?_
        rintro r wq ⟨rfl, gq⟩
        go_wp2
        go_ret
        rw [hv.out, hv2.out]
        exact ⟨rfl, HG1.out.tr (GP.out.tr gq)⟩
      rw [hz]
      have HPZ : Hid (pathC x.Pa 0 = 0) := Lib.hid (by rw [HPC.out]; exact hz)
      clear hz
      replace x38 := GP.out.cell x38
      replace x39 := GP.out.cell x39
      replace x40 := GP.out.cell x40
      have HK := Lib.hid (refCheck_any x.cA x.cc x.cl _ (HO1.out.ctx.gr GP.out))
      go_wp2_with fail
      refine (HK.out).mono ?_
      rintro r wc ⟨rfl, gc⟩
      have GC := Lib.hid (GP.out.tr gc)
      clear gc HK
      by_cases hc : chk x.cl = 0; rotate_left
      · have hcb : (chk x.cl != 0) = true := by simpa using hc
        have hv2 : Hid (restC x = chk x.cl) := Lib.hid (by unfold restC; rw [if_neg (by simpa using HPZ.out), if_pos hc])
        clear hc
        go_wp2
        go_ret
        rw [hv.out, hv2.out]
        exact ⟨rfl, HG1.out.tr GC.out⟩
      rw [hc]
      have HCZ := Lib.hid hc
      clear hc x4 x5 x38 x39 x40
      have c39 := (HA.out.gr GC.out).c39
      have c40 := (HA.out.gr GC.out).c40
      by_cases h6 : 64 < x.rs.length
      · have h6i : (64 : Int) < x.rs.length := by omega
        have hv2 : Hid (restC x = 2) := Lib.hid (by unfold restC; rw [if_neg (by simpa using HPZ.out), if_neg (by simpa using HCZ.out), if_pos h6])
        go_wp2
        go_ret
        rw [hv.out, hv2.out]
        exact ⟨rfl, HG1.out.tr GC.out⟩
      have h6i : ¬ (64 : Int) < x.rs.length := by omega
      have H6 := Lib.hid h6
      have HR := Lib.hid HO1.out.rows
      go_wp2
      go_loopw [3, 5] (fun s i wr => s = .int .i64 0 ∧ ∃ k : Nat, k ≤ x.rs.length ∧ i = .int .i64 k ∧ Hid (rowsF (x.rs.take k) 0 = 0) ∧ Hid (Gr w1 wr)) (fun _ i _ => x.rs.length - (intOf i).toNat)
      case atStart => exact ⟨rfl, 0, Nat.zero_le _, rfl, Lib.hid rfl, GC⟩
      case round =>
        obtain ⟨rfl, k, hk, rfl, HL, G⟩ := hrel
        replace c39 := (HA.out.gr G.out).c39
        replace c40 := (HA.out.gr G.out).c40
        clear GC
        by_cases hlt : k < x.rs.length
        · have hki : (k : Int) < x.rs.length := by omega
          obtain ⟨ad, he, hc, hd⟩ := (HR.out.gr G.out).2 k hlt
          rw [he] at c39
          have HT := Lib.hid (rowsF_take hlt 0)
          have HI := Lib.hid (fun hn => rowsF_hit hlt HL.out hn)
          obtain ⟨d, hdd⟩ : ∃ d, x.rs[k] = d := ⟨_, rfl⟩
          rw [hdd] at hc hd HT HI
          have HKD := Lib.hid (refCheck_any d.A d.cap d.l wr hd)
          clear hdd he hd
          go_wp2_with fail
          refine (HKD.out).mono ?_
          rintro r wd ⟨rfl, gd⟩
          have GD := Lib.hid (G.out.tr gd)
          clear gd HKD
          by_cases hcd : chk d.l = 0; rotate_left
          · have hcb : (chk d.l != 0) = true := by simpa using hcd
            have hv2 : Hid (restC x = chk d.l) := Lib.hid (by unfold restC; rw [if_neg (by simpa using HPZ.out), if_neg (by simpa using HCZ.out), if_neg H6.out, HI.out hcd, if_pos hcd])
            clear hcd
            go_wp2
            go_ret
            rw [hv.out, hv2.out]
            exact ⟨rfl, HG1.out.tr GD.out⟩
          rw [hcd]
          have HCD := Lib.hid hcd
          clear hcd hc c39 c40
          go_wp2
          go_roundw
          case rel => exact ⟨rfl, k + 1, by omega, by go_num, Lib.hid (by rw [HT.out, HL.out, HCD.out]; rfl), GD⟩
          case measure => simp [intOf]; omega
        · have hkk : k = x.rs.length := by omega
          subst hkk
          have hki : ¬ (x.rs.length : Int) < x.rs.length := by omega
          rw [List.take_length] at HL
          by_cases ht : 65536 < x.Tx.size
          · have hti : (65536 : Int) < x.Tx.size := by omega
            have hv2 : Hid (restC x = 2) := Lib.hid (by unfold restC; rw [if_neg (by simpa using HPZ.out), if_neg (by simpa using HCZ.out), if_neg H6.out, if_neg (by simpa using HL.out), if_pos ht])
            go_wp2
            go_ret
            rw [hv.out, hv2.out]
            exact ⟨rfl, HG1.out.tr G.out⟩
          · have hti : ¬ (65536 : Int) < x.Tx.size := by omega
            have hv2 : Hid (restC x = 0) := Lib.hid (by unfold restC; rw [if_neg (by simpa using HPZ.out), if_neg (by simpa using HCZ.out), if_neg H6.out, if_neg (by simpa using HL.out), if_neg ht])
            go_wp2
            go_ret
            rw [hv.out, hv2.out]
            exact ⟨rfl, HG1.out.tr G.out⟩
end Go.Proofs.YtfobnemocodomaaGreat
