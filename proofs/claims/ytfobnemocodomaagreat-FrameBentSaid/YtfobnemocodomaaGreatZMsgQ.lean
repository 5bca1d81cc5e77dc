/- A message's fields put, one by one. -/
import Derived.Test.YtfobnemocodomaaGreatZBw
import Derived.Test.YtfobnemocodomaaGreatZBo
import Derived.Test.YtfobnemocodomaaGreatZBl
set_option linter.unusedVariables false
set_option linter.unusedSimpArgs false
set_option maxHeartbeats 4000000
namespace Go.Proofs.YtfobnemocodomaaGreat
open Go.RowKit Go.Shelf Go.Great

/-- a text put -/
def wtxt (s : ByteArray) (st : List UInt8 × Int) : List UInt8 × Int := wput (decide (s.size ≤ 65536)) ((putS s.size).data.toList ++ s.data.toList) st
/-- a flag put -/
def flagB (b : Bool) : UInt8 := if b then 1 else 0
/-- rows put -/
def rowsP (l : List DRow) (st : List UInt8 × Int) : List UInt8 × Int := l.foldl (fun st d => vput d.l st) st
theorem rowsP_take {l : List DRow} {k : Nat} (h : k < l.length) (st : List UInt8 × Int) : rowsP (l.take (k + 1)) st = vput l[k].l (rowsP (l.take k) st) := by
  rw [List.take_succ_eq_append_getElem h]
  simp only [rowsP, List.foldl_append, List.foldl_cons, List.foldl_nil]
theorem vputQ_len (l : List Dot) (s : List UInt8 × Int) : (vput l s).1.length ≤ s.1.length + 5 + 10 * l.length := by
  unfold vput
  split
  · rw [wfail_lenL]; omega
  · have h1 := wnum_len l.length s
    have h2 := vnum_len l (wnum l.length s) l.length (Nat.le_refl _)
    rw [List.take_length] at h2
    omega
theorem rowsP_len (l : List DRow) (st : List UInt8 × Int) (h : ∀ d ∈ l, d.l.length ≤ 70) : ∀ k, k ≤ l.length → (rowsP (l.take k) st).1.length ≤ st.1.length + 705 * k
  | 0, _ => by simp [rowsP]
  | k + 1, hk => by
    rw [rowsP_take (by omega)]
    have h1 := vputQ_len l[k].l (rowsP (l.take k) st)
    have h2 := rowsP_len l st h k (by omega)
    have h3 := h l[k] (List.getElem_mem _)
    omega
set_option maxRecDepth 100000 in
theorem qRoot_any (B b g : Nat) (s : List UInt8 × Int) (x : Mx) (w0 w : World) (hM : MAt w0 g x) (hO : MxOk w0 x) (hg : Gr w0 w) (hB : w0.heap.size ≤ B) (hW : Wr B b s.1 s.2 w) (hl : s.1.length ≤ 100000000) :
    Calls Tryz.prog 178 #[.agg #[.pointer (some ⟨b, 0, none⟩)], .pointer (some ⟨g, 6, none⟩)] w fun r w' => r = .returned (.tuple #[]) ∧ Wr B b (wput true x.R s).1 (wput true x.R s).2 w' ∧ Gr w0 w' := by
  have HO := Lib.hid hO
  have hg1 : Gr w (w.alloc (.cells #[.pointer (some ⟨b, 0, none⟩)] 86)) := (Gr.rfl' w).al _
  have HG := Lib.hid (hg.tr hg1)
  have HP := World.alloc_heap_new w (.cells #[.pointer (some ⟨b, 0, none⟩)] 86)
  have cp : (w.alloc (.cells #[.pointer (some ⟨b, 0, none⟩)] 86)).cell? ⟨w.heap.size, 0, none⟩ = some (.pointer (some ⟨b, 0, none⟩)) := by
    simp only [World.cell?, HP]; rfl
  have HCP := Lib.hid cp
  have HX := Lib.hid ((mxAt hM hO.dig).gr (hg.tr hg1))
  have HW := Lib.hid (hW.gr hg1)
  have HB := Lib.hid hB
  have HL := Lib.hid hl
  clear hM hO hg hB hW hl HP cp hg1
  generalize hW1 : w.alloc (.cells #[.pointer (some ⟨b, 0, none⟩)] 86) = W1 at HG HCP HX HW
  go_enter Tryz.func178, Tryz.ntmps178
  go_upto_region 1 with (fail)
  have hSS : Gr W1 W1.drew := (Gr.rfl' _).dr
  refine region_T 5 (fun w' => Gr W1 w') (by kernel_rfl) ?_
  refine anyT_take (i := 0) (v := ?_) (some 4) rfl rfl (by kernel_rfl) (fun _ _ _ h => h) (Or.inl ⟨by rfl, ?_⟩) hSS ?_
  rotate_left
  · intro w' hSw; go_simp; (try with_reducible rfl)
  simp only [Act.put, List.setIfInBounds_toArray, List.set_cons_zero, List.set_cons_succ]
  refine anyT_take (i := 1) (v := ?_) (some 5) rfl rfl (by kernel_rfl) (fun _ _ _ h => h) (Or.inl ⟨by rfl, ?_⟩) hSS ?_
  rotate_left
  · intro w' hSw; have c := hSw.cell HCP.out; go_simp; (try with_reducible rfl)
  simp only [Act.put, List.setIfInBounds_toArray, List.set_cons_zero, List.set_cons_succ]
  refine anyT_take (i := 2) (v := ?_) (some 6) rfl rfl (by kernel_rfl) (fun _ _ _ h => h) (Or.inl ⟨by rfl, ?_⟩) hSS ?_
  rotate_left
  · intro w' hSw; go_simp; (try with_reducible rfl)
  simp only [Act.put, List.setIfInBounds_toArray, List.set_cons_zero, List.set_cons_succ]
  refine anyT_take (i := 3) (v := ?_) (some 7) rfl rfl (by kernel_rfl) (fun _ _ _ h => h) (Or.inl ⟨by rfl, ?_⟩) hSS ?_
  rotate_left
  · intro w' hSw; go_simp; (try with_reducible rfl)
  simp only [Act.put, List.setIfInBounds_toArray, List.set_cons_zero, List.set_cons_succ]
  refine anyT_take (i := 4) (some 8) rfl rfl (by kernel_rfl) (fun _ _ _ h => h) (yieldsIf_ldM (by rfl) 33 (.tmp 7) rfl (⟨g, 6, none⟩ : Addr) rfl (digC x.R).toList _ (fun w' hSw j v hj => hSw.cell (HX.out.cR j v hj)) Tryz.underlying33 rfl (digLen HO.out.dig)) hSS ?_
  simp only [Act.put, List.setIfInBounds_toArray, List.set_cons_zero, List.set_cons_succ]
  refine anyT_call (i := 5) (some 9) 63 #[.pointer (some ⟨b, 0, none⟩), .agg (digC x.R)] (by kernel_rfl) rfl rfl rfl (by go_simp) ?_
  refine (wDigest_any B b s.1 s.2 x.R HO.out.dig W1.drew (HW.out.gr hSS) (by have := HL.out; omega)).mono ?_
  rintro r w2 ⟨rfl, h2, m2⟩
  refine ⟨_, rfl, fun h => absurd rfl h, ?_⟩
  refine anyT_done (by kernel_rfl) ?_ 0
  simp only [Act.put, List.setIfInBounds_toArray, List.set_cons_zero, List.set_cons_succ]
  have H2 : Hid (Wr B b (wput true x.R s).1 (wput true x.R s).2 w2) := Lib.hid h2
  have G2 := Lib.hid (m2.below (HG.out.tr hSS) HB.out)
  clear h2 m2 hSS
  go_wp2
  go_end0
  exact ⟨rfl, H2.out, G2.out⟩
set_option maxRecDepth 100000 in
theorem qPath_any (B b g : Nat) (s : List UInt8 × Int) (x : Mx) (w0 w : World) (hM : MAt w0 g x) (hO : MxOk w0 x) (hg : Gr w0 w) (hB : w0.heap.size ≤ B) (hW : Wr B b s.1 s.2 w) (hl : s.1.length ≤ 100000000) :
    Calls Tryz.prog 177 #[.agg #[.pointer (some ⟨b, 0, none⟩)], .pointer (some ⟨g, 5, none⟩)] w fun r w' => r = .returned (.tuple #[]) ∧ Wr B b (wtxt x.Pa s).1 (wtxt x.Pa s).2 w' ∧ Gr w0 w' := by
  have HO := Lib.hid hO
  have hg1 : Gr w (w.alloc (.cells #[.pointer (some ⟨b, 0, none⟩)] 86)) := (Gr.rfl' w).al _
  have HG := Lib.hid (hg.tr hg1)
  have HP := World.alloc_heap_new w (.cells #[.pointer (some ⟨b, 0, none⟩)] 86)
  have cp : (w.alloc (.cells #[.pointer (some ⟨b, 0, none⟩)] 86)).cell? ⟨w.heap.size, 0, none⟩ = some (.pointer (some ⟨b, 0, none⟩)) := by
    simp only [World.cell?, HP]; rfl
  have HCP := Lib.hid cp
  have HX := Lib.hid ((mxAt hM hO.dig).gr (hg.tr hg1))
  have HW := Lib.hid (hW.gr hg1)
  have HB := Lib.hid hB
  have HL := Lib.hid hl
  clear hM hO hg hB hW hl HP cp hg1
  generalize hW1 : w.alloc (.cells #[.pointer (some ⟨b, 0, none⟩)] 86) = W1 at HG HCP HX HW
  go_enter Tryz.func177, Tryz.ntmps177
  go_upto_region 1 with (fail)
  have hSS : Gr W1 W1.drew := (Gr.rfl' _).dr
  refine region_T 5 (fun w' => Gr W1 w') (by kernel_rfl) ?_
  refine anyT_take (i := 0) (v := ?_) (some 4) rfl rfl (by kernel_rfl) (fun _ _ _ h => h) (Or.inl ⟨by rfl, ?_⟩) hSS ?_
  rotate_left
  · intro w' hSw; go_simp; (try with_reducible rfl)
  simp only [Act.put, List.setIfInBounds_toArray, List.set_cons_zero, List.set_cons_succ]
  refine anyT_take (i := 1) (v := ?_) (some 5) rfl rfl (by kernel_rfl) (fun _ _ _ h => h) (Or.inl ⟨by rfl, ?_⟩) hSS ?_
  rotate_left
  · intro w' hSw; have c := hSw.cell HCP.out; go_simp; (try with_reducible rfl)
  simp only [Act.put, List.setIfInBounds_toArray, List.set_cons_zero, List.set_cons_succ]
  refine anyT_take (i := 2) (v := ?_) (some 6) rfl rfl (by kernel_rfl) (fun _ _ _ h => h) (Or.inl ⟨by rfl, ?_⟩) hSS ?_
  rotate_left
  · intro w' hSw; go_simp; (try with_reducible rfl)
  simp only [Act.put, List.setIfInBounds_toArray, List.set_cons_zero, List.set_cons_succ]
  refine anyT_take (i := 3) (v := ?_) (some 7) rfl rfl (by kernel_rfl) (fun _ _ _ h => h) (Or.inl ⟨by rfl, ?_⟩) hSS ?_
  rotate_left
  · intro w' hSw; go_simp; (try with_reducible rfl)
  simp only [Act.put, List.setIfInBounds_toArray, List.set_cons_zero, List.set_cons_succ]
  refine anyT_take (i := 4) (v := ?_) (some 8) rfl rfl (by kernel_rfl) (fun _ _ _ h => h) (Or.inl ⟨by rfl, ?_⟩) hSS ?_
  rotate_left
  · intro w' hSw; have c := hSw.cell HX.out.c5; go_simp; (try with_reducible rfl)
  simp only [Act.put, List.setIfInBounds_toArray, List.set_cons_zero, List.set_cons_succ]
  refine anyT_call (i := 5) (some 9) 62 #[.pointer (some ⟨b, 0, none⟩), .string x.Pa] (by kernel_rfl) rfl rfl rfl (by go_simp) ?_
  refine (wText_any B b s.1 s.2 x.Pa W1.drew (HW.out.gr hSS) (by have := HL.out; omega)).mono ?_
  rintro r w2 ⟨rfl, h2, m2⟩
  refine ⟨_, rfl, fun h => absurd rfl h, ?_⟩
  refine anyT_done (by kernel_rfl) ?_ 0
  simp only [Act.put, List.setIfInBounds_toArray, List.set_cons_zero, List.set_cons_succ]
  have H2 : Hid (Wr B b (wtxt x.Pa s).1 (wtxt x.Pa s).2 w2) := Lib.hid h2
  have G2 := Lib.hid (m2.below (HG.out.tr hSS) HB.out)
  clear h2 m2 hSS
  go_wp2
  go_end0
  exact ⟨rfl, H2.out, G2.out⟩
set_option maxRecDepth 100000 in
theorem qText_any (B b g : Nat) (s : List UInt8 × Int) (x : Mx) (w0 w : World) (hM : MAt w0 g x) (hO : MxOk w0 x) (hg : Gr w0 w) (hB : w0.heap.size ≤ B) (hW : Wr B b s.1 s.2 w) (hl : s.1.length ≤ 100000000) :
    Calls Tryz.prog 180 #[.agg #[.pointer (some ⟨b, 0, none⟩)], .pointer (some ⟨g, 40, none⟩)] w fun r w' => r = .returned (.tuple #[]) ∧ Wr B b (wtxt x.Tx s).1 (wtxt x.Tx s).2 w' ∧ Gr w0 w' := by
  have HO := Lib.hid hO
  have hg1 : Gr w (w.alloc (.cells #[.pointer (some ⟨b, 0, none⟩)] 86)) := (Gr.rfl' w).al _
  have HG := Lib.hid (hg.tr hg1)
  have HP := World.alloc_heap_new w (.cells #[.pointer (some ⟨b, 0, none⟩)] 86)
  have cp : (w.alloc (.cells #[.pointer (some ⟨b, 0, none⟩)] 86)).cell? ⟨w.heap.size, 0, none⟩ = some (.pointer (some ⟨b, 0, none⟩)) := by
    simp only [World.cell?, HP]; rfl
  have HCP := Lib.hid cp
  have HX := Lib.hid ((mxAt hM hO.dig).gr (hg.tr hg1))
  have HW := Lib.hid (hW.gr hg1)
  have HB := Lib.hid hB
  have HL := Lib.hid hl
  clear hM hO hg hB hW hl HP cp hg1
  generalize hW1 : w.alloc (.cells #[.pointer (some ⟨b, 0, none⟩)] 86) = W1 at HG HCP HX HW
  go_enter Tryz.func180, Tryz.ntmps180
  go_upto_region 1 with (fail)
  have hSS : Gr W1 W1.drew := (Gr.rfl' _).dr
  refine region_T 5 (fun w' => Gr W1 w') (by kernel_rfl) ?_
  refine anyT_take (i := 0) (v := ?_) (some 4) rfl rfl (by kernel_rfl) (fun _ _ _ h => h) (Or.inl ⟨by rfl, ?_⟩) hSS ?_
  rotate_left
  · intro w' hSw; go_simp; (try with_reducible rfl)
  simp only [Act.put, List.setIfInBounds_toArray, List.set_cons_zero, List.set_cons_succ]
  refine anyT_take (i := 1) (v := ?_) (some 5) rfl rfl (by kernel_rfl) (fun _ _ _ h => h) (Or.inl ⟨by rfl, ?_⟩) hSS ?_
  rotate_left
  · intro w' hSw; have c := hSw.cell HCP.out; go_simp; (try with_reducible rfl)
  simp only [Act.put, List.setIfInBounds_toArray, List.set_cons_zero, List.set_cons_succ]
  refine anyT_take (i := 2) (v := ?_) (some 6) rfl rfl (by kernel_rfl) (fun _ _ _ h => h) (Or.inl ⟨by rfl, ?_⟩) hSS ?_
  rotate_left
  · intro w' hSw; go_simp; (try with_reducible rfl)
  simp only [Act.put, List.setIfInBounds_toArray, List.set_cons_zero, List.set_cons_succ]
  refine anyT_take (i := 3) (v := ?_) (some 7) rfl rfl (by kernel_rfl) (fun _ _ _ h => h) (Or.inl ⟨by rfl, ?_⟩) hSS ?_
  rotate_left
  · intro w' hSw; go_simp; (try with_reducible rfl)
  simp only [Act.put, List.setIfInBounds_toArray, List.set_cons_zero, List.set_cons_succ]
  refine anyT_take (i := 4) (v := ?_) (some 8) rfl rfl (by kernel_rfl) (fun _ _ _ h => h) (Or.inl ⟨by rfl, ?_⟩) hSS ?_
  rotate_left
  · intro w' hSw; have c := hSw.cell HX.out.c40; go_simp; (try with_reducible rfl)
  simp only [Act.put, List.setIfInBounds_toArray, List.set_cons_zero, List.set_cons_succ]
  refine anyT_call (i := 5) (some 9) 62 #[.pointer (some ⟨b, 0, none⟩), .string x.Tx] (by kernel_rfl) rfl rfl rfl (by go_simp) ?_
  refine (wText_any B b s.1 s.2 x.Tx W1.drew (HW.out.gr hSS) (by have := HL.out; omega)).mono ?_
  rintro r w2 ⟨rfl, h2, m2⟩
  refine ⟨_, rfl, fun h => absurd rfl h, ?_⟩
  refine anyT_done (by kernel_rfl) ?_ 0
  simp only [Act.put, List.setIfInBounds_toArray, List.set_cons_zero, List.set_cons_succ]
  have H2 : Hid (Wr B b (wtxt x.Tx s).1 (wtxt x.Tx s).2 w2) := Lib.hid h2
  have G2 := Lib.hid (m2.below (HG.out.tr hSS) HB.out)
  clear h2 m2 hSS
  go_wp2
  go_end0
  exact ⟨rfl, H2.out, G2.out⟩
set_option maxRecDepth 100000 in
theorem qCtx_any (B b g : Nat) (s : List UInt8 × Int) (x : Mx) (w0 w : World) (hM : MAt w0 g x) (hO : MxOk w0 x) (hg : Gr w0 w) (hB : w0.heap.size ≤ B) (hW : Wr B b s.1 s.2 w) (hc7 : x.cl.length ≤ 70) (hl : s.1.length ≤ 100000000) :
    Calls Tryz.prog 176 #[.agg #[.pointer (some ⟨b, 0, none⟩)], .pointer (some ⟨g, 38, none⟩)] w fun r w' => r = .returned (.tuple #[]) ∧ Wr B b (vput x.cl s).1 (vput x.cl s).2 w' ∧ Gr w0 w' := by
  have HO := Lib.hid hO
  have hg1 : Gr w (w.alloc (.cells #[.pointer (some ⟨b, 0, none⟩)] 86)) := (Gr.rfl' w).al _
  have HG := Lib.hid (hg.tr hg1)
  have HP := World.alloc_heap_new w (.cells #[.pointer (some ⟨b, 0, none⟩)] 86)
  have cp : (w.alloc (.cells #[.pointer (some ⟨b, 0, none⟩)] 86)).cell? ⟨w.heap.size, 0, none⟩ = some (.pointer (some ⟨b, 0, none⟩)) := by
    simp only [World.cell?, HP]; rfl
  have HCP := Lib.hid cp
  have HX := Lib.hid ((mxAt hM hO.dig).gr (hg.tr hg1))
  have HW := Lib.hid (hW.gr hg1)
  have HB := Lib.hid hB
  have HL := Lib.hid hl
  have HC7 := Lib.hid hc7
  clear hM hO hg hB hW hl hc7 HP cp hg1
  generalize hW1 : w.alloc (.cells #[.pointer (some ⟨b, 0, none⟩)] 86) = W1 at HG HCP HX HW
  go_enter Tryz.func176, Tryz.ntmps176
  go_upto_region 1 with (fail)
  have hSS : Gr W1 W1.drew := (Gr.rfl' _).dr
  refine region_T 5 (fun w' => Gr W1 w') (by kernel_rfl) ?_
  refine anyT_take (i := 0) (v := ?_) (some 4) rfl rfl (by kernel_rfl) (fun _ _ _ h => h) (Or.inl ⟨by rfl, ?_⟩) hSS ?_
  rotate_left
  · intro w' hSw; go_simp; (try with_reducible rfl)
  simp only [Act.put, List.setIfInBounds_toArray, List.set_cons_zero, List.set_cons_succ]
  refine anyT_take (i := 1) (v := ?_) (some 5) rfl rfl (by kernel_rfl) (fun _ _ _ h => h) (Or.inl ⟨by rfl, ?_⟩) hSS ?_
  rotate_left
  · intro w' hSw; have c := hSw.cell HCP.out; go_simp; (try with_reducible rfl)
  simp only [Act.put, List.setIfInBounds_toArray, List.set_cons_zero, List.set_cons_succ]
  refine anyT_take (i := 2) (v := ?_) (some 6) rfl rfl (by kernel_rfl) (fun _ _ _ h => h) (Or.inl ⟨by rfl, ?_⟩) hSS ?_
  rotate_left
  · intro w' hSw; go_simp; (try with_reducible rfl)
  simp only [Act.put, List.setIfInBounds_toArray, List.set_cons_zero, List.set_cons_succ]
  refine anyT_take (i := 3) (v := ?_) (some 7) rfl rfl (by kernel_rfl) (fun _ _ _ h => h) (Or.inl ⟨by rfl, ?_⟩) hSS ?_
  rotate_left
  · intro w' hSw; go_simp; (try with_reducible rfl)
  simp only [Act.put, List.setIfInBounds_toArray, List.set_cons_zero, List.set_cons_succ]
  refine anyT_take (i := 4) (v := ?_) (some 8) rfl rfl (by kernel_rfl) (fun _ _ _ h => h) (Or.inl ⟨by rfl, ?_⟩) hSS ?_
  rotate_left
  · intro w' hSw; have c := hSw.cell HX.out.c38; go_simp; (try with_reducible rfl)
  simp only [Act.put, List.setIfInBounds_toArray, List.set_cons_zero, List.set_cons_succ]
  refine anyT_call (i := 5) (some 9) 120 #[.pointer (some ⟨b, 0, none⟩), .slice x.cA x.cl.length x.cc] (by kernel_rfl) rfl rfl rfl (by go_simp) ?_
  refine (PutVec_any B b s.1 s.2 x.cA x.cc x.cl w0 W1.drew HO.out.ctx (HG.out.tr hSS) HB.out (HW.out.gr hSS) (by have := HL.out; have := HC7.out; omega)).mono ?_
  rintro r w2 ⟨rfl, h2, m2⟩
  refine ⟨_, rfl, fun h => absurd rfl h, ?_⟩
  refine anyT_done (by kernel_rfl) ?_ 0
  simp only [Act.put, List.setIfInBounds_toArray, List.set_cons_zero, List.set_cons_succ]
  have H2 : Hid (Wr B b (vput x.cl s).1 (vput x.cl s).2 w2) := Lib.hid h2
  have G2 := Lib.hid (m2.below (HG.out.tr hSS) HB.out)
  clear h2 m2 hSS
  go_wp2
  go_end0
  exact ⟨rfl, H2.out, G2.out⟩
set_option maxRecDepth 100000 in
theorem qTurn_any (B b g : Nat) (s : List UInt8 × Int) (x : Mx) (w0 w : World) (hM : MAt w0 g x) (hO : MxOk w0 x) (hg : Gr w0 w) (hB : w0.heap.size ≤ B) (hW : Wr B b s.1 s.2 w) (hl : s.1.length ≤ 100000000) :
    Calls Tryz.prog 181 #[.agg #[.pointer (some ⟨b, 0, none⟩)], .pointer (some ⟨g, 4, none⟩)] w fun r w' => r = .returned (.tuple #[]) ∧ Wr B b (wput true [flagB x.Tn] s).1 (wput true [flagB x.Tn] s).2 w' ∧ Gr w0 w' := by
  have HO := Lib.hid hO
  have hg1 : Gr w (w.alloc (.cells #[.pointer (some ⟨b, 0, none⟩)] 86)) := (Gr.rfl' w).al _
  have HG := Lib.hid (hg.tr hg1)
  have HP := World.alloc_heap_new w (.cells #[.pointer (some ⟨b, 0, none⟩)] 86)
  have cp : (w.alloc (.cells #[.pointer (some ⟨b, 0, none⟩)] 86)).cell? ⟨w.heap.size, 0, none⟩ = some (.pointer (some ⟨b, 0, none⟩)) := by
    simp only [World.cell?, HP]; rfl
  have HCP := Lib.hid cp
  have HX := Lib.hid ((mxAt hM hO.dig).gr (hg.tr hg1))
  have HW := Lib.hid (hW.gr hg1)
  have HB := Lib.hid hB
  have HL := Lib.hid hl
  clear hM hO hg hB hW hl HP cp hg1
  generalize hW1 : w.alloc (.cells #[.pointer (some ⟨b, 0, none⟩)] 86) = W1 at HG HCP HX HW
  go_enter Tryz.func181, Tryz.ntmps181
  go_upto_region 1 with (fail)
  have hSS : Gr W1 W1.drew := (Gr.rfl' _).dr
  refine region_T 5 (fun w' => Gr W1 w') (by kernel_rfl) ?_
  refine anyT_take (i := 0) (v := ?_) (some 4) rfl rfl (by kernel_rfl) (fun _ _ _ h => h) (Or.inl ⟨by rfl, ?_⟩) hSS ?_
  rotate_left
  · intro w' hSw; go_simp; (try with_reducible rfl)
  simp only [Act.put, List.setIfInBounds_toArray, List.set_cons_zero, List.set_cons_succ]
  refine anyT_take (i := 1) (v := ?_) (some 5) rfl rfl (by kernel_rfl) (fun _ _ _ h => h) (Or.inl ⟨by rfl, ?_⟩) hSS ?_
  rotate_left
  · intro w' hSw; have c := hSw.cell HCP.out; go_simp; (try with_reducible rfl)
  simp only [Act.put, List.setIfInBounds_toArray, List.set_cons_zero, List.set_cons_succ]
  refine anyT_take (i := 2) (v := ?_) (some 6) rfl rfl (by kernel_rfl) (fun _ _ _ h => h) (Or.inl ⟨by rfl, ?_⟩) hSS ?_
  rotate_left
  · intro w' hSw; go_simp; (try with_reducible rfl)
  simp only [Act.put, List.setIfInBounds_toArray, List.set_cons_zero, List.set_cons_succ]
  refine anyT_take (i := 3) (v := ?_) (some 7) rfl rfl (by kernel_rfl) (fun _ _ _ h => h) (Or.inl ⟨by rfl, ?_⟩) hSS ?_
  rotate_left
  · intro w' hSw; go_simp; (try with_reducible rfl)
  simp only [Act.put, List.setIfInBounds_toArray, List.set_cons_zero, List.set_cons_succ]
  refine anyT_take (i := 4) (v := ?_) (some 8) rfl rfl (by kernel_rfl) (fun _ _ _ h => h) (Or.inl ⟨by rfl, ?_⟩) hSS ?_
  rotate_left
  · intro w' hSw; have c := hSw.cell HX.out.c4; go_simp; (try with_reducible rfl)
  simp only [Act.put, List.setIfInBounds_toArray, List.set_cons_zero, List.set_cons_succ]
  refine anyT_call (i := 5) (some 9) 121 #[.pointer (some ⟨b, 0, none⟩), .bool x.Tn] (by kernel_rfl) rfl rfl rfl (by go_simp) ?_
  refine (wFlag_any B b s.1 s.2 x.Tn W1.drew (HW.out.gr hSS) (by have := HL.out; omega)).mono ?_
  rintro r w2 ⟨rfl, h2, m2⟩
  refine ⟨_, rfl, fun h => absurd rfl h, ?_⟩
  refine anyT_done (by kernel_rfl) ?_ 0
  simp only [Act.put, List.setIfInBounds_toArray, List.set_cons_zero, List.set_cons_succ]
  have H2 : Hid (Wr B b (wput true [flagB x.Tn] s).1 (wput true [flagB x.Tn] s).2 w2) := Lib.hid h2
  have G2 := Lib.hid (m2.below (HG.out.tr hSS) HB.out)
  clear h2 m2 hSS
  go_wp2
  go_end0
  exact ⟨rfl, H2.out, G2.out⟩
set_option maxRecDepth 100000 in
theorem qRows_any (B b g : Nat) (s : List UInt8 × Int) (x : Mx) (w0 w : World) (hM : MAt w0 g x) (hO : MxOk w0 x) (hg : Gr w0 w) (hB : w0.heap.size ≤ B) (hW : Wr B b s.1 s.2 w) (h70 : ∀ d ∈ x.rs, d.l.length ≤ 70) (hr7 : x.rs.length ≤ 70) (hl : s.1.length ≤ 1000000) :
    Calls Tryz.prog 179 #[.agg #[.pointer (some ⟨b, 0, none⟩)], .pointer (some ⟨g, 39, none⟩)] w fun r w' => r = .returned (.tuple #[]) ∧ Wr B b (rowsP x.rs (wnum x.rs.length s)).1 (rowsP x.rs (wnum x.rs.length s)).2 w' ∧ Gr w0 w' := by
  have HO := Lib.hid hO
  have hg1 : Gr w (w.alloc (.cells #[.pointer (some ⟨b, 0, none⟩)] 86)) := (Gr.rfl' w).al _
  have HG := Lib.hid (hg.tr hg1)
  have HP := World.alloc_heap_new w (.cells #[.pointer (some ⟨b, 0, none⟩)] 86)
  have cp : (w.alloc (.cells #[.pointer (some ⟨b, 0, none⟩)] 86)).cell? ⟨w.heap.size, 0, none⟩ = some (.pointer (some ⟨b, 0, none⟩)) := by
    simp only [World.cell?, HP]; rfl
  have HCP := Lib.hid cp
  have HX := Lib.hid ((mxAt hM hO.dig).gr (hg.tr hg1))
  have HW := Lib.hid (hW.gr hg1)
  have HB := Lib.hid hB
  have HMA := Lib.hid hM
  have HBW := Lib.hid hW.lt
  have HL := Lib.hid hl
  have H70 := Lib.hid h70
  have HR7 := Lib.hid hr7
  have HRW := Lib.hid hO.rows
  clear hM hO hg hB hW hl h70 hr7 HP cp hg1
  generalize hW1 : w.alloc (.cells #[.pointer (some ⟨b, 0, none⟩)] 86) = W1 at HG HCP HX HW
  go_enter Tryz.func179, Tryz.ntmps179
  go_upto_region 1 with (fail)
  have hSS : Gr W1 W1.drew := (Gr.rfl' _).dr
  refine region_T 6 (fun w' => Gr W1 w') (by kernel_rfl) ?_
  refine anyT_take (i := 0) (v := ?_) (some 6) rfl rfl (by kernel_rfl) (fun _ _ _ h => h) (Or.inl ⟨by rfl, ?_⟩) hSS ?_
  rotate_left
  · intro w' hSw; go_simp; (try with_reducible rfl)
  simp only [Act.put, List.setIfInBounds_toArray, List.set_cons_zero, List.set_cons_succ]
  refine anyT_take (i := 1) (v := ?_) (some 7) rfl rfl (by kernel_rfl) (fun _ _ _ h => h) (Or.inl ⟨by rfl, ?_⟩) hSS ?_
  rotate_left
  · intro w' hSw; have c := hSw.cell HCP.out; go_simp; (try with_reducible rfl)
  simp only [Act.put, List.setIfInBounds_toArray, List.set_cons_zero, List.set_cons_succ]
  refine anyT_take (i := 2) (v := ?_) (some 8) rfl rfl (by kernel_rfl) (fun _ _ _ h => h) (Or.inl ⟨by rfl, ?_⟩) hSS ?_
  rotate_left
  · intro w' hSw; go_simp; (try with_reducible rfl)
  simp only [Act.put, List.setIfInBounds_toArray, List.set_cons_zero, List.set_cons_succ]
  refine anyT_take (i := 3) (v := ?_) (some 9) rfl rfl (by kernel_rfl) (fun _ _ _ h => h) (Or.inl ⟨by rfl, ?_⟩) hSS ?_
  rotate_left
  · intro w' hSw; go_simp; (try with_reducible rfl)
  simp only [Act.put, List.setIfInBounds_toArray, List.set_cons_zero, List.set_cons_succ]
  refine anyT_take (i := 4) (v := ?_) (some 10) rfl rfl (by kernel_rfl) (fun _ _ _ h => h) (Or.inl ⟨by rfl, ?_⟩) hSS ?_
  rotate_left
  · intro w' hSw; have c := hSw.cell HX.out.c39; go_simp; (try with_reducible rfl)
  simp only [Act.put, List.setIfInBounds_toArray, List.set_cons_zero, List.set_cons_succ]
  refine anyT_take (i := 5) (v := ?_) (some 11) rfl rfl (by kernel_rfl) (fun _ _ _ h => h) (Or.inl ⟨by rfl, ?_⟩) hSS ?_
  rotate_left
  · intro w' hSw; go_simp; (try with_reducible rfl)
  simp only [Act.put, List.setIfInBounds_toArray, List.set_cons_zero, List.set_cons_succ]
  refine anyT_call (i := 6) (some 12) 52 #[.pointer (some ⟨b, 0, none⟩), .int .i64 x.rs.length] (by kernel_rfl) rfl rfl rfl (by go_simp) ?_
  refine (wNumber_any B b s.1 s.2 x.rs.length W1.drew (HW.out.gr hSS) (by have := HL.out; omega)).mono ?_
  rintro r w2 ⟨rfl, h2, m2⟩
  refine ⟨_, rfl, fun h => absurd rfl h, ?_⟩
  refine anyT_done (by kernel_rfl) ?_ 0
  simp only [Act.put, List.setIfInBounds_toArray, List.set_cons_zero, List.set_cons_succ]
  have hG2 : Gr w0 w2 := m2.below (HG.out.tr hSS) HB.out
  have hM2 : Wm B b W1 w2 := ((Wm.refl B b W1).gr hSS).trans m2
  have HM2 := Lib.hid hM2
  have G2 := Lib.hid hG2
  have H2 : Hid (Wr B b (wnum x.rs.length s).1 (wnum x.rs.length s).2 w2) := Lib.hid h2
  have HN5 := Lib.hid (wnum_len x.rs.length s)
  obtain ⟨st, hst⟩ : ∃ st, wnum x.rs.length s = st := ⟨_, rfl⟩
  rw [hst] at H2 HN5
  have HST := Lib.hid hst
  clear hst h2 m2 hSS hG2 hM2 HW HCP HX
  have HPC : Hid (∀ w', Wm B b W1 w' → w'.cell? ⟨w.heap.size, 0, none⟩ = some (.pointer (some ⟨b, 0, none⟩))) := Lib.hid (fun w' m => by
    have hp := World.alloc_heap_new w (.cells #[.pointer (some ⟨b, 0, none⟩)] 86)
    rw [hW1] at hp
    have := m.typ _ _ hp (by have := HBW.out; omega) (by rfl)
    simp only [World.cell?, this]; rfl)
  have HXC : Hid (∀ w', Gr w0 w' → w'.cell? ⟨g, 39, none⟩ = some (.slice x.rA x.rs.length x.rc)) := Lib.hid (fun w' k => (mxAt (mat_gr HMA.out k) HO.out.dig).c39)
  clear hW1
  have c39 := HXC.out _ G2.out
  have hma := HRW.out.1
  go_wp2
  go_loopw [17] (fun i wr => ∃ k : Nat, k ≤ x.rs.length ∧ i = .int .i64 k ∧ Hid (Wr B b (rowsP (x.rs.take k) st).1 (rowsP (x.rs.take k) st).2 wr) ∧ Hid (Wm B b W1 wr) ∧ Hid (Gr w0 wr)) (fun i _ => x.rs.length - (intOf i).toNat)
  case atStart => exact ⟨0, Nat.zero_le _, rfl, H2, HM2, G2⟩
  case round =>
    obtain ⟨k, hk, rfl, HS, HM, G⟩ := hrel
    replace c39 := HXC.out _ G.out
    have cp := HPC.out _ HM.out
    clear H2 HM2 G2
    by_cases hlt : k < x.rs.length
    · have hki : (k : Int) < x.rs.length := by omega
      obtain ⟨ad, he, hc, hd⟩ := HRW.out.2 k hlt
      rw [he] at c39 ⊢
      have hc' := G.out.cell hc
      have HT := Lib.hid (rowsP_take hlt st)
      have hle := rowsP_len x.rs st H70.out k hk
      have hd7 := H70.out x.rs[k] (List.getElem_mem _)
      have HLN : Hid ((rowsP (x.rs.take k) st).1.length + 5 + 10 * x.rs[k].l.length + 10 ≤ 140737488355328) := Lib.hid (by have := HL.out; have := HN5.out; have := HR7.out; omega)
      obtain ⟨d, hdd⟩ : ∃ d, x.rs[k] = d := ⟨_, rfl⟩
      rw [hdd] at hc' hd HT HLN
      have HPV := Lib.hid (PutVec_any B b (rowsP (x.rs.take k) st).1 (rowsP (x.rs.take k) st).2 d.A d.cap d.l w0 wr hd G.out HB.out HS.out HLN.out)
      clear hdd he hc hd hle hd7
      go_wp2_with fail
      refine (HPV.out).mono ?_
      rintro r w4 ⟨rfl, h4, m4⟩
      have H4 : Hid (Wr B b (rowsP (x.rs.take (k + 1)) st).1 (rowsP (x.rs.take (k + 1)) st).2 w4) := Lib.hid (by rw [HT.out]; exact h4)
      have M4 := Lib.hid (HM.out.trans m4)
      have G4 := Lib.hid (m4.below G.out HB.out)
      clear h4 m4 hc' cp c39 HPV
      go_wp2
      go_roundw
      case rel => exact ⟨k + 1, by omega, by go_num, H4, M4, G4⟩
      case measure => simp [intOf]; omega
    · have hkk : k = x.rs.length := by omega
      subst hkk
      have hki : ¬ (x.rs.length : Int) < x.rs.length := by omega
      rw [List.take_length] at HS
      go_wp2
      go_end0
      rw [HST.out]
      exact ⟨rfl, HS.out, G.out⟩
end Go.Proofs.YtfobnemocodomaaGreat
