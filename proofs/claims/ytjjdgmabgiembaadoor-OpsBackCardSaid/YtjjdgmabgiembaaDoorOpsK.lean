/- ops.take: the walk. -/
import Derived.Test.YtjjdgmabgiembaaDoorOpsJ
import Derived.Test.YtjjdgmabgiembaaDoorRegT
set_option linter.unusedVariables false
set_option linter.unusedSimpArgs false
set_option maxHeartbeats 4000000
namespace Go.Proofs.YtjjdgmabgiembaaDoor
open Go.RowKit Go.Shelf

theorem flds_and : ∀ k (h : k < 13), (bits .and .i64 (flds[k]'h) 1 != 0) = bitB (flds[k]'h) 1 := by decide
theorem oOne (x : Opx) : (x.cells.all (fun v => v.oneCell')) = true := by obtain ⟨_, _, _, _, _, _, _, _⟩ := x; simp [Opx.cells, Value.oneCell']
theorem OpAt.setRow {w : World} {g : Nat} {x : Opx} (h : OpAt w g x) (y : Opx) : OpAt (w.setRow g y.cells) g y := by
  have h' : w.heap[g]? = _ := h
  unfold OpAt
  simp [World.setRow, Array.getElem?_modify, h']
theorem zOp_at (w : World) : OpAt (w.alloc (.cells #[.int .i64 0, .int .i64 0, .int .i64 0, .int .i64 0, .int .i64 0, .int .i64 0, .string ⟨#[]⟩, .string ⟨#[]⟩] 23)) w.heap.size zOp := World.alloc_heap_new w _
set_option maxRecDepth 100000 in
theorem take_any (b : Nat) (S : ByteArray) (e : Int) (w0 w : World) (hF : Fl w0) (hg0 : Gr w0 w) (hb0 : w0.heap.size ≤ b) (h : Sr 75 b S e w) (hS : S.size ≤ 9223372036854775807) :
    Calls Tryd.prog 33 #[.pointer (some ⟨b, 0, none⟩)] w fun r w' => r = .returned (.agg (otake S e).1.cells) ∧ Sr 75 b (otake S e).2.1 (otake S e).2.2 w' ∧ Rm b w w' := by
  have hbl := h.lt
  obtain ⟨K, S1, e1, hn⟩ : ∃ K S1 e1, numM 1073741824 S e = (K, S1, e1) := ⟨_, _, _, rfl⟩
  have hK := numM_bd2 1073741824 S e
  have hS1 := numM_size 1073741824 S e
  have hga : Gr w (w.alloc (.cells #[.int .i64 0, .int .i64 0, .int .i64 0, .int .i64 0, .int .i64 0, .int .i64 0, .string ⟨#[]⟩, .string ⟨#[]⟩] 23)) := (Gr.rfl' w).al _
  have HR0 := Lib.hid (zOp_at w)
  have HN := Lib.hid (dNumber_any b S e 1073741824 _ (h.gr hga) hS)
  rw [hn] at hK hS1
  simp only [hn] at HN
  have HOT : Hid (otake S e = if e1 ≠ 0 then (zOp, S1, e1) else if ¬ (K < 13) then (zOp, S1, 15) else rtTo (flds.getD K.toNat 0) (rnTo (flds.getD K.toNat 0) (ctnum (bitB (flds.getD K.toNat 0) 1) 0 63 ({ zOp with K := K, P := (numM 63 S1 0).1 }, (numM 63 S1 0).2.1, (numM 63 S1 0).2.2)) 3) 2) := Lib.hid (by unfold otake; simp only [hn])
  have hr0b : w.heap.size ≠ b := by omega
  have HGA := Lib.hid hga
  have HG0 := Lib.hid hg0
  have HF := Lib.hid hF
  clear h hn hga hg0 hF
  go_enter Tryd.func33, Tryd.ntmps33
  go_wp2_with fail
  refine (HN.out).mono ?_
  rintro r w2 ⟨rfl, h2, m2⟩
  have HR2 := Lib.hid (HR0.out.rm m2 hr0b)
  have M2 := Lib.hid ((Rm.of HGA.out).trans m2)
  have h2s := M2.out.size
  have h2r := (Array.getElem?_eq_some_iff.1 HR2.out).1
  have hal : Gr w2 (w2.alloc (.cells #[.int .i64 K, .int .i64 0, .int .i64 0, .int .i64 0, .int .i64 0, .int .i64 0, .string ⟨#[]⟩, .string ⟨#[]⟩] 23)) := (Gr.rfl' w2).al _
  have HX3 : Hid (OpAt (w2.alloc (.cells #[.int .i64 K, .int .i64 0, .int .i64 0, .int .i64 0, .int .i64 0, .int .i64 0, .string ⟨#[]⟩, .string ⟨#[]⟩] 23)) w2.heap.size { zOp with K := K }) := Lib.hid (World.alloc_heap_new w2 _)
  have H3 := Lib.hid (h2.gr hal)
  have HR3 := Lib.hid (show OpAt _ w.heap.size zOp from (hal.block _ h2r).trans HR2.out)
  have M3 := Lib.hid (M2.out.gr hal)
  have HE := Lib.hid (Err_any b S1 e1 _ H3.out)
  clear h2 m2 HN HR2 M2 HR0 hal
  go_wp2_with fail
  refine (HE.out).mono ?_
  rintro r w3 ⟨rfl, hw3⟩
  rw [← hw3] at HX3 H3 HR3 M3
  clear hw3 HE
  obtain ⟨gx, hgx⟩ : ∃ gx, w2.heap.size = gx := ⟨_, rfl⟩
  rw [hgx] at HX3 ⊢
  have hgb : gx ≠ b := by omega
  have hgr : gx ≠ w.heap.size := by omega
  have hgw : w.heap.size ≤ gx := by omega
  clear h2s h2r hgx
  by_cases he1 : e1 = 0
  · subst he1
    have q0 : w3.cell? ⟨gx, 0, none⟩ = some (.int .i64 K) := HX3.out.cell rfl
    have HKD := Lib.hid (kind_any K w3)
    by_cases hk13 : K < 13
    · rw [decide_eq_true (show 0 ≤ K ∧ K < 13 from ⟨hK.1, hk13⟩)] at HKD
      obtain ⟨k, rfl⟩ : ∃ k : Nat, K = (k : Int) := ⟨K.toNat, by omega⟩
      have hk : k < 13 := by omega
      have hki : (k : Int) < 13 := by omega
      have hfd : flds.getD ((k : Int)).toNat 0 = flds[k]'hk := by rw [Int.toNat_natCast, List.getD_eq_getElem?_getD, List.getElem?_eq_getElem (show k < flds.length from hk)]; rfl
      have hfa := flds_and k hk
      have HFK : Hid (∀ W, Gr w0 W → W.cell? ⟨0, k, none⟩ = some (.int .i64 (flds[k]'hk))) := Lib.hid (fun W g => (HF.out.gr g) k hk)
      have HN2 := Lib.hid (dNumber_any b S1 0 63 w3 H3.out (by omega))
      have hS2 := numM_size 63 S1 0
      have hot := HOT.out
      rw [if_neg (by decide), if_neg (by omega), hfd] at hot
      obtain ⟨fl, hfl⟩ : ∃ fl, flds[k]'hk = fl := ⟨_, rfl⟩
      rw [hfl] at hfa HFK hot
      obtain ⟨P, S2, e2, hn2⟩ : ∃ P S2 e2, numM 63 S1 0 = (P, S2, e2) := ⟨_, _, _, rfl⟩
      simp only [hn2] at HN2 hS2 hot
      have HOT2 := Lib.hid hot
      clear hot hn2 hfl hfd HOT hk13
      go_wp2_with fail
      refine (HKD.out).mono ?_
      rintro r w4 ⟨rfl, rfl⟩
      go_wp2_with fail
      refine (HN2.out).mono ?_
      rintro r w5 ⟨rfl, h5, m5⟩
      have HX5 := Lib.hid (HX3.out.rm m5 hgb)
      have HR5 := Lib.hid (HR3.out.rm m5 hr0b)
      have M5 := Lib.hid (M3.out.trans m5)
      have H5 := Lib.hid h5
      have q1 : w5.cell? ⟨gx, 1, none⟩ = some (.int .i64 0) := HX5.out.cell rfl
      have f1 := HX5.out.frz 1
      clear h5 m5 HN2 HKD HX3 HR3 M3 H3 q0
      go_upto_region 8 with (fail)
      obtain ⟨w6, hw6⟩ : ∃ w6, w5.setCell ⟨gx, 1, none⟩ (.int .i64 P) = w6 := ⟨_, rfl⟩
      rw [hw6]
      have HX6 := Lib.hid (HX5.out.setP P)
      have H6 := Lib.hid (H5.out.setOther (Ne.symm hgb) 1 (.int .i64 P))
      have HR6 : Hid (OpAt (w5.setCell ⟨gx, 1, none⟩ (.int .i64 P)) w.heap.size zOp) := Lib.hid ((Below.heap_setCell _ _ _ _ (Ne.symm hgr)).trans HR5.out)
      have M6 := Lib.hid (M5.out.set hgw 1 (.int .i64 P))
      rw [hw6] at HX6 H6 HR6 M6
      clear hw6 HX5 H5 HR5 M5 q1 f1
      have q0 : w6.cell? ⟨gx, 0, none⟩ = some (.int .i64 k) := HX6.out.cell rfl
      have qf := HFK.out _ (M6.out.below HG0.out hb0)
      cases hb : (bits .and .i64 fl 1 != 0) with
      | true =>
        have hbb : bitB fl 1 = true := by rw [← hfa]; exact hb
        have HN3 := Lib.hid (dNumber_any b S2 e2 63 w6 H6.out (by omega))
        have hS3 := numM_size 63 S2 e2
        have hot := HOT2.out
        rw [hbb] at hot
        obtain ⟨s2, hs2⟩ : ∃ s2, tnum 0 63 (({ zOp with K := (k : Int), P := P } : Opx), S2, e2) = s2 := ⟨_, rfl⟩
        have HO2 : Hid (otake S e = rtTo fl (rnTo fl s2 3) 2) := Lib.hid (by rw [← hs2]; exact hot)
        clear hot hfa
        go_wp2_with fail
        refine (HN3.out).mono ?_
        rintro r w7 ⟨rfl, h7, m7⟩
        have HX7 := Lib.hid (HX6.out.rm m7 hgb)
        have HR7 := Lib.hid (HR6.out.rm m7 hr0b)
        have M7 := Lib.hid (M6.out.trans m7)
        have H7 := Lib.hid h7
        have q2 : w7.cell? ⟨gx, 2, none⟩ = some (.int .i64 0) := HX7.out.cell rfl
        have f2 := HX7.out.frz 2
        clear h7 m7 HN3 HX6 HR6 M6 H6 q0 qf
        go_upto_region 11 with (fail)
        obtain ⟨ws, hws⟩ : ∃ ws, w7.setCell ⟨gx, 2, none⟩ (.int .i64 (numM 63 S2 e2).1) = ws := ⟨_, rfl⟩
        rw [hws]
        have HXs := Lib.hid (HX7.out.setN 0 (by decide) (numM 63 S2 e2).1)
        have Hs := Lib.hid (H7.out.setOther (Ne.symm hgb) 2 (.int .i64 (numM 63 S2 e2).1))
        have HRs : Hid (OpAt (w7.setCell ⟨gx, 2, none⟩ (.int .i64 (numM 63 S2 e2).1)) w.heap.size zOp) := Lib.hid ((Below.heap_setCell _ _ _ _ (Ne.symm hgr)).trans HR7.out)
        have Ms := Lib.hid (M7.out.set hgw 2 (.int .i64 (numM 63 S2 e2).1))
        change Hid (OpAt (w7.setCell ⟨gx, 2, none⟩ (.int .i64 (numM 63 S2 e2).1)) gx _) at HXs
        rw [hws] at HXs Hs HRs Ms
        change Hid (OpAt ws gx (tnum 0 63 (({ zOp with K := (k : Int), P := P } : Opx), S2, e2)).1) at HXs
        change Hid (Sr 75 b (tnum 0 63 (({ zOp with K := (k : Int), P := P } : Opx), S2, e2)).2.1 (tnum 0 63 (({ zOp with K := (k : Int), P := P } : Opx), S2, e2)).2.2 ws) at Hs
        have hss : s2.2.1.size ≤ 9223372036854775807 := by rw [← hs2]; show (numM 63 S2 e2).2.1.size ≤ _; omega
        rw [hs2] at HXs Hs
        clear hws HX7 H7 HR7 M7 q2 f2 hs2 hb hbb
        have i0 : ∀ w, (Instr.index 80 (.agg #[.pointer (some ⟨gx, 3, none⟩), .pointer (some ⟨gx, 4, none⟩), .pointer (some ⟨gx, 5, none⟩)]) (.int .i64 0)).run Tryd.prog w = .ok (.pointer (some ⟨gx, 3, none⟩)) w := fun _ => by kernel_rfl
        have i1 : ∀ w, (Instr.index 80 (.agg #[.pointer (some ⟨gx, 3, none⟩), .pointer (some ⟨gx, 4, none⟩), .pointer (some ⟨gx, 5, none⟩)]) (.int .i64 1)).run Tryd.prog w = .ok (.pointer (some ⟨gx, 4, none⟩)) w := fun _ => by kernel_rfl
        have i2 : ∀ w, (Instr.index 80 (.agg #[.pointer (some ⟨gx, 3, none⟩), .pointer (some ⟨gx, 4, none⟩), .pointer (some ⟨gx, 5, none⟩)]) (.int .i64 2)).run Tryd.prog w = .ok (.pointer (some ⟨gx, 5, none⟩)) w := fun _ => by kernel_rfl
        go_wp2
        go_loopw [40] (fun i wr => ∃ j : Nat, ∃ q : Int, j ≤ 3 ∧ i = .int .i64 q ∧ q = j ∧ Hid (OpAt wr gx (rnTo fl s2 j).1) ∧ Hid (Sr 75 b (rnTo fl s2 j).2.1 (rnTo fl s2 j).2.2 wr) ∧ Hid (OpAt wr w.heap.size zOp) ∧ Hid (Rm b w wr)) (fun i _ => 3 - (intOf i).toNat)
        case atStart => exact ⟨0, 0, by omega, rfl, rfl, HXs, Hs, HRs, Ms⟩
        case round =>
          clear HXs Hs HRs Ms
          obtain ⟨j, q, hj, rfl, hq, HX, H, HR, M⟩ := hrel
          have h5 : j = 0 ∨ j = 1 ∨ j = 2 ∨ j = 3 := by omega
          rcases h5 with rfl | rfl | rfl | rfl
          · obtain rfl : q = 0 := by omega
            clear hq
            have hbe : Hid (bitB fl (2 ^ (1 + 0)) = (bits .and .i64 (fl / 2) 1 == 1)) := by show _ = _; unfold bitB; rfl
            cases hb : (bits .and .i64 (fl / 2) 1 == 1) with
            | true =>
              have HNN := Lib.hid (dNumber_any b (rnTo fl s2 0).2.1 (rnTo fl s2 0).2.2 1073741824 wr H.out (by have := rnTo_size fl s2 0; omega))
              go_wp2_with fail
              refine (HNN.out).mono ?_
              rintro r wn ⟨rfl, hn, mn⟩
              have HXn := HX.out.rm mn hgb
              have qn : wn.cell? ⟨gx, 3, none⟩ = some (.int .i64 _) := HXn.cell (j := 3) rfl
              have fn := HXn.frz (3)
              have HXm : Hid (OpAt (wn.setCell ⟨gx, 3, none⟩ (.int .i64 (numM 1073741824 (rnTo fl s2 0).2.1 (rnTo fl s2 0).2.2).1)) gx (rnTo fl s2 (0 + 1)).1) := Lib.hid (by rw [rnTo_t (hbe.out.trans hb)]; exact HXn.setN 1 (by decide) _)
              have Hm : Hid (Sr 75 b (rnTo fl s2 (0 + 1)).2.1 (rnTo fl s2 (0 + 1)).2.2 (wn.setCell ⟨gx, 3, none⟩ (.int .i64 (numM 1073741824 (rnTo fl s2 0).2.1 (rnTo fl s2 0).2.2).1))) := Lib.hid (by rw [rnTo_t (hbe.out.trans hb)]; exact hn.setOther (Ne.symm hgb) _ _)
              have HRm : Hid (OpAt (wn.setCell ⟨gx, 3, none⟩ (.int .i64 (numM 1073741824 (rnTo fl s2 0).2.1 (rnTo fl s2 0).2.2).1)) w.heap.size zOp) := Lib.hid ((Below.heap_setCell _ _ _ _ (Ne.symm hgr)).trans (HR.out.rm mn hr0b))
              have Mm := Lib.hid ((M.out.trans mn).set hgw (3) (.int .i64 (numM 1073741824 (rnTo fl s2 0).2.1 (rnTo fl s2 0).2.2).1))
              clear hn mn HXn HNN HX H HR M
              go_wp2
              go_roundw
              case rel => exact ⟨1, 1, by omega, rfl, rfl, HXm, Hm, HRm, Mm⟩
              case measure => simp [intOf]
            | false =>
              have HXm : Hid (OpAt wr gx (rnTo fl s2 (0 + 1)).1) := by rw [rnTo_f (hbe.out.trans hb)]; exact HX
              have Hm : Hid (Sr 75 b (rnTo fl s2 (0 + 1)).2.1 (rnTo fl s2 (0 + 1)).2.2 wr) := by rw [rnTo_f (hbe.out.trans hb)]; exact H
              go_wp2
              go_roundw
              case rel => exact ⟨1, 1, by omega, rfl, rfl, HXm, Hm, HR, M⟩
              case measure => simp [intOf]
          · obtain rfl : q = 1 := by omega
            clear hq
            have hbe : Hid (bitB fl (2 ^ (1 + 1)) = (bits .and .i64 (fl / 4) 1 == 1)) := by show _ = _; unfold bitB; rfl
            cases hb : (bits .and .i64 (fl / 4) 1 == 1) with
            | true =>
              have HNN := Lib.hid (dNumber_any b (rnTo fl s2 1).2.1 (rnTo fl s2 1).2.2 1073741824 wr H.out (by have := rnTo_size fl s2 1; omega))
              go_wp2_with fail
              refine (HNN.out).mono ?_
              rintro r wn ⟨rfl, hn, mn⟩
              have HXn := HX.out.rm mn hgb
              have qn : wn.cell? ⟨gx, 4, none⟩ = some (.int .i64 _) := HXn.cell (j := 4) rfl
              have fn := HXn.frz (4)
              have HXm : Hid (OpAt (wn.setCell ⟨gx, 4, none⟩ (.int .i64 (numM 1073741824 (rnTo fl s2 1).2.1 (rnTo fl s2 1).2.2).1)) gx (rnTo fl s2 (1 + 1)).1) := Lib.hid (by rw [rnTo_t (hbe.out.trans hb)]; exact HXn.setN 2 (by decide) _)
              have Hm : Hid (Sr 75 b (rnTo fl s2 (1 + 1)).2.1 (rnTo fl s2 (1 + 1)).2.2 (wn.setCell ⟨gx, 4, none⟩ (.int .i64 (numM 1073741824 (rnTo fl s2 1).2.1 (rnTo fl s2 1).2.2).1))) := Lib.hid (by rw [rnTo_t (hbe.out.trans hb)]; exact hn.setOther (Ne.symm hgb) _ _)
              have HRm : Hid (OpAt (wn.setCell ⟨gx, 4, none⟩ (.int .i64 (numM 1073741824 (rnTo fl s2 1).2.1 (rnTo fl s2 1).2.2).1)) w.heap.size zOp) := Lib.hid ((Below.heap_setCell _ _ _ _ (Ne.symm hgr)).trans (HR.out.rm mn hr0b))
              have Mm := Lib.hid ((M.out.trans mn).set hgw (4) (.int .i64 (numM 1073741824 (rnTo fl s2 1).2.1 (rnTo fl s2 1).2.2).1))
              clear hn mn HXn HNN HX H HR M
              go_wp2
              go_roundw
              case rel => exact ⟨2, 2, by omega, rfl, rfl, HXm, Hm, HRm, Mm⟩
              case measure => simp [intOf]
            | false =>
              have HXm : Hid (OpAt wr gx (rnTo fl s2 (1 + 1)).1) := by rw [rnTo_f (hbe.out.trans hb)]; exact HX
              have Hm : Hid (Sr 75 b (rnTo fl s2 (1 + 1)).2.1 (rnTo fl s2 (1 + 1)).2.2 wr) := by rw [rnTo_f (hbe.out.trans hb)]; exact H
              go_wp2
              go_roundw
              case rel => exact ⟨2, 2, by omega, rfl, rfl, HXm, Hm, HR, M⟩
              case measure => simp [intOf]
          · obtain rfl : q = 2 := by omega
            clear hq
            have hbe : Hid (bitB fl (2 ^ (1 + 2)) = (bits .and .i64 (fl / 8) 1 == 1)) := by show _ = _; unfold bitB; rfl
            cases hb : (bits .and .i64 (fl / 8) 1 == 1) with
            | true =>
              have HNN := Lib.hid (dNumber_any b (rnTo fl s2 2).2.1 (rnTo fl s2 2).2.2 1073741824 wr H.out (by have := rnTo_size fl s2 2; omega))
              go_wp2_with fail
              refine (HNN.out).mono ?_
              rintro r wn ⟨rfl, hn, mn⟩
              have HXn := HX.out.rm mn hgb
              have qn : wn.cell? ⟨gx, 5, none⟩ = some (.int .i64 _) := HXn.cell (j := 5) rfl
              have fn := HXn.frz (5)
              have HXm : Hid (OpAt (wn.setCell ⟨gx, 5, none⟩ (.int .i64 (numM 1073741824 (rnTo fl s2 2).2.1 (rnTo fl s2 2).2.2).1)) gx (rnTo fl s2 (2 + 1)).1) := Lib.hid (by rw [rnTo_t (hbe.out.trans hb)]; exact HXn.setN 3 (by decide) _)
              have Hm : Hid (Sr 75 b (rnTo fl s2 (2 + 1)).2.1 (rnTo fl s2 (2 + 1)).2.2 (wn.setCell ⟨gx, 5, none⟩ (.int .i64 (numM 1073741824 (rnTo fl s2 2).2.1 (rnTo fl s2 2).2.2).1))) := Lib.hid (by rw [rnTo_t (hbe.out.trans hb)]; exact hn.setOther (Ne.symm hgb) _ _)
              have HRm : Hid (OpAt (wn.setCell ⟨gx, 5, none⟩ (.int .i64 (numM 1073741824 (rnTo fl s2 2).2.1 (rnTo fl s2 2).2.2).1)) w.heap.size zOp) := Lib.hid ((Below.heap_setCell _ _ _ _ (Ne.symm hgr)).trans (HR.out.rm mn hr0b))
              have Mm := Lib.hid ((M.out.trans mn).set hgw (5) (.int .i64 (numM 1073741824 (rnTo fl s2 2).2.1 (rnTo fl s2 2).2.2).1))
              clear hn mn HXn HNN HX H HR M
              go_wp2
              go_roundw
              case rel => exact ⟨3, 3, by omega, rfl, rfl, HXm, Hm, HRm, Mm⟩
              case measure => simp [intOf]
            | false =>
              have HXm : Hid (OpAt wr gx (rnTo fl s2 (2 + 1)).1) := by rw [rnTo_f (hbe.out.trans hb)]; exact HX
              have Hm : Hid (Sr 75 b (rnTo fl s2 (2 + 1)).2.1 (rnTo fl s2 (2 + 1)).2.2 wr) := by rw [rnTo_f (hbe.out.trans hb)]; exact H
              go_wp2
              go_roundw
              case rel => exact ⟨3, 3, by omega, rfl, rfl, HXm, Hm, HR, M⟩
              case measure => simp [intOf]
          · obtain rfl : q = 3 := by omega
            clear hq i0 i1 i2
            have hs3 := rnTo_size fl s2 3
            obtain ⟨s3, hs3e⟩ : ∃ s3, rnTo fl s2 3 = s3 := ⟨_, rfl⟩
            rw [hs3e] at HX H hs3 HO2
            clear hs3e
            have j0 : ∀ w, (Instr.index 82 (.agg #[.pointer (some ⟨gx, 6, none⟩), .pointer (some ⟨gx, 7, none⟩)]) (.int .i64 0)).run Tryd.prog w = .ok (.pointer (some ⟨gx, 6, none⟩)) w := fun _ => by kernel_rfl
            have j1 : ∀ w, (Instr.index 82 (.agg #[.pointer (some ⟨gx, 6, none⟩), .pointer (some ⟨gx, 7, none⟩)]) (.int .i64 1)).run Tryd.prog w = .ok (.pointer (some ⟨gx, 7, none⟩)) w := fun _ => by kernel_rfl
            go_wp2
            have HX0 := HX
            have H0 := H
            have HR0 := HR
            have M0 := M
            go_loopw [58] (fun i wr => ∃ j : Nat, ∃ q : Int, j ≤ 2 ∧ i = .int .i64 q ∧ q = j ∧ Hid (OpAt wr gx (rtTo fl s3 j).1) ∧ Hid (Sr 75 b (rtTo fl s3 j).2.1 (rtTo fl s3 j).2.2 wr) ∧ Hid (OpAt wr w.heap.size zOp) ∧ Hid (Rm b w wr)) (fun i _ => 2 - (intOf i).toNat)
            case atStart => exact ⟨0, 0, by omega, rfl, rfl, HX0, H0, HR0, M0⟩
            case round =>
              clear HX H HR M HX0 H0 HR0 M0
              obtain ⟨j, q, hj, rfl, hq, HX, H, HR, M⟩ := hrel
              have h3 : j = 0 ∨ j = 1 ∨ j = 2 := by omega
              rcases h3 with rfl | rfl | rfl
              · obtain rfl : q = 0 := by omega
                clear hq
                have hbe : Hid (bitB fl (2 ^ (4 + 0)) = (bits .and .i64 (fl / 16) 1 == 1)) := by show _ = _; unfold bitB; rfl
                cases hb : (bits .and .i64 (fl / 16) 1 == 1) with
                | true =>
                  have HNN := Lib.hid (dText_any b 255 (rtTo fl s3 0).2.1 (rtTo fl s3 0).2.2 wr H.out (by have := rtTo_size fl s3 0; omega))
                  go_wp2_with fail
                  refine (HNN.out).mono ?_
                  rintro r wn ⟨rfl, hn, mn⟩
                  have HXn := HX.out.rm mn hgb
                  have qn : wn.cell? ⟨gx, 6, none⟩ = some (.string _) := HXn.cell (j := 6) rfl
                  have fn := HXn.frz (6)
                  have HXm : Hid (OpAt (wn.setCell ⟨gx, 6, none⟩ (.string (txtM 255 (rtTo fl s3 0).2.1 (rtTo fl s3 0).2.2).1)) gx (rtTo fl s3 (0 + 1)).1) := Lib.hid (by rw [rtTo_t (hbe.out.trans hb)]; exact HXn.setT 0 (by decide) _)
                  have Hm : Hid (Sr 75 b (rtTo fl s3 (0 + 1)).2.1 (rtTo fl s3 (0 + 1)).2.2 (wn.setCell ⟨gx, 6, none⟩ (.string (txtM 255 (rtTo fl s3 0).2.1 (rtTo fl s3 0).2.2).1))) := Lib.hid (by rw [rtTo_t (hbe.out.trans hb)]; exact hn.setOther (Ne.symm hgb) _ _)
                  have HRm : Hid (OpAt (wn.setCell ⟨gx, 6, none⟩ (.string (txtM 255 (rtTo fl s3 0).2.1 (rtTo fl s3 0).2.2).1)) w.heap.size zOp) := Lib.hid ((Below.heap_setCell _ _ _ _ (Ne.symm hgr)).trans (HR.out.rm mn hr0b))
                  have Mm := Lib.hid ((M.out.trans mn).set hgw (6) (.string (txtM 255 (rtTo fl s3 0).2.1 (rtTo fl s3 0).2.2).1))
                  clear hn mn HXn HNN HX H HR M
                  go_wp2
                  go_roundw
                  case rel => exact ⟨1, 1, by omega, rfl, rfl, HXm, Hm, HRm, Mm⟩
                  case measure => simp [intOf]
                | false =>
                  have HXm : Hid (OpAt wr gx (rtTo fl s3 (0 + 1)).1) := by rw [rtTo_f (hbe.out.trans hb)]; exact HX
                  have Hm : Hid (Sr 75 b (rtTo fl s3 (0 + 1)).2.1 (rtTo fl s3 (0 + 1)).2.2 wr) := by rw [rtTo_f (hbe.out.trans hb)]; exact H
                  go_wp2
                  go_roundw
                  case rel => exact ⟨1, 1, by omega, rfl, rfl, HXm, Hm, HR, M⟩
                  case measure => simp [intOf]
              · obtain rfl : q = 1 := by omega
                clear hq
                have hbe : Hid (bitB fl (2 ^ (4 + 1)) = (bits .and .i64 (fl / 32) 1 == 1)) := by show _ = _; unfold bitB; rfl
                cases hb : (bits .and .i64 (fl / 32) 1 == 1) with
                | true =>
                  have HNN := Lib.hid (dText_any b 255 (rtTo fl s3 1).2.1 (rtTo fl s3 1).2.2 wr H.out (by have := rtTo_size fl s3 1; omega))
                  go_wp2_with fail
                  refine (HNN.out).mono ?_
                  rintro r wn ⟨rfl, hn, mn⟩
                  have HXn := HX.out.rm mn hgb
                  have qn : wn.cell? ⟨gx, 7, none⟩ = some (.string _) := HXn.cell (j := 7) rfl
                  have fn := HXn.frz (7)
                  have HXm : Hid (OpAt (wn.setCell ⟨gx, 7, none⟩ (.string (txtM 255 (rtTo fl s3 1).2.1 (rtTo fl s3 1).2.2).1)) gx (rtTo fl s3 (1 + 1)).1) := Lib.hid (by rw [rtTo_t (hbe.out.trans hb)]; exact HXn.setT 1 (by decide) _)
                  have Hm : Hid (Sr 75 b (rtTo fl s3 (1 + 1)).2.1 (rtTo fl s3 (1 + 1)).2.2 (wn.setCell ⟨gx, 7, none⟩ (.string (txtM 255 (rtTo fl s3 1).2.1 (rtTo fl s3 1).2.2).1))) := Lib.hid (by rw [rtTo_t (hbe.out.trans hb)]; exact hn.setOther (Ne.symm hgb) _ _)
                  have HRm : Hid (OpAt (wn.setCell ⟨gx, 7, none⟩ (.string (txtM 255 (rtTo fl s3 1).2.1 (rtTo fl s3 1).2.2).1)) w.heap.size zOp) := Lib.hid ((Below.heap_setCell _ _ _ _ (Ne.symm hgr)).trans (HR.out.rm mn hr0b))
                  have Mm := Lib.hid ((M.out.trans mn).set hgw (7) (.string (txtM 255 (rtTo fl s3 1).2.1 (rtTo fl s3 1).2.2).1))
                  clear hn mn HXn HNN HX H HR M
                  go_wp2
                  go_roundw
                  case rel => exact ⟨2, 2, by omega, rfl, rfl, HXm, Hm, HRm, Mm⟩
                  case measure => simp [intOf]
                | false =>
                  have HXm : Hid (OpAt wr gx (rtTo fl s3 (1 + 1)).1) := by rw [rtTo_f (hbe.out.trans hb)]; exact HX
                  have Hm : Hid (Sr 75 b (rtTo fl s3 (1 + 1)).2.1 (rtTo fl s3 (1 + 1)).2.2 wr) := by rw [rtTo_f (hbe.out.trans hb)]; exact H
                  go_wp2
                  go_roundw
                  case rel => exact ⟨2, 2, by omega, rfl, rfl, HXm, Hm, HR, M⟩
                  case measure => simp [intOf]
              · obtain rfl : q = 2 := by omega
                clear hq j0 j1
                obtain ⟨s4, hs4⟩ : ∃ s4, rtTo fl s3 2 = s4 := ⟨_, rfl⟩
                rw [hs4] at HX H HO2
                obtain ⟨x4, S4, e4⟩ := s4
                clear hs4
                go_wp2_with (first
                  | ((with_reducible refine at_ld 23 (.tmp 3) ?_); refine wpList_load_row rfl 23 _ rfl gx rfl 23 x4.cells (0, 0) _ HX.out Tryd.underlying23 rfl (by kernel_rfl) ?_)
                  | ((with_reducible refine at_st 23 (.tmp 2) (.tmp 73) ?_); refine wpList_store_row rfl 23 _ _ rfl w.heap.size x4.cells rfl rfl 23 zOp.cells HR.out (by kernel_rfl) rfl (oOne _) ?_))
                refine bodyPost_ret (v := .agg (otake S e).1.cells) ?_ rfl ?_
                · skip
                  simp [results, Tryd.results33, Act.put, asA2]
                  refine run_loadVar_row _ _ 23 23 _ (0, 0) _ ?_ Tryd.underlying23 rfl (by kernel_rfl)
                  rw [HO2.out]
                  exact HR.out.setRow x4
                · rw [HO2.out]
                  exact ⟨rfl, (setRow_other _ _ _ _ (Ne.symm hr0b)).trans H.out, M.out.setRow (Nat.le_refl _) _⟩
      | false =>
        have hbb : bitB fl 1 = false := by rw [← hfa]; exact hb
        have hot := HOT2.out
        rw [hbb] at hot
        obtain ⟨s2, hs2⟩ : ∃ s2 : Rst, (({ zOp with K := (k : Int), P := P } : Opx), S2, e2) = s2 := ⟨_, rfl⟩
        have HO2 : Hid (otake S e = rtTo fl (rnTo fl s2 3) 2) := Lib.hid (by rw [← hs2]; exact hot)
        have HXs : Hid (OpAt w6 gx s2.1) := by rw [← hs2]; exact HX6
        have Hs : Hid (Sr 75 b s2.2.1 s2.2.2 w6) := by rw [← hs2]; exact H6
        have HRs := HR6
        have Ms := M6
        have hss : s2.2.1.size ≤ 9223372036854775807 := by rw [← hs2]; show S2.size ≤ _; omega
        go_upto_region 11 with (fail)
        clear hot hfa HX6 HR6 M6 H6 q0 qf hs2 hbb
        have i0 : ∀ w, (Instr.index 80 (.agg #[.pointer (some ⟨gx, 3, none⟩), .pointer (some ⟨gx, 4, none⟩), .pointer (some ⟨gx, 5, none⟩)]) (.int .i64 0)).run Tryd.prog w = .ok (.pointer (some ⟨gx, 3, none⟩)) w := fun _ => by kernel_rfl
        have i1 : ∀ w, (Instr.index 80 (.agg #[.pointer (some ⟨gx, 3, none⟩), .pointer (some ⟨gx, 4, none⟩), .pointer (some ⟨gx, 5, none⟩)]) (.int .i64 1)).run Tryd.prog w = .ok (.pointer (some ⟨gx, 4, none⟩)) w := fun _ => by kernel_rfl
        have i2 : ∀ w, (Instr.index 80 (.agg #[.pointer (some ⟨gx, 3, none⟩), .pointer (some ⟨gx, 4, none⟩), .pointer (some ⟨gx, 5, none⟩)]) (.int .i64 2)).run Tryd.prog w = .ok (.pointer (some ⟨gx, 5, none⟩)) w := fun _ => by kernel_rfl
        go_wp2
        go_loopw [40] (fun i wr => ∃ j : Nat, ∃ q : Int, j ≤ 3 ∧ i = .int .i64 q ∧ q = j ∧ Hid (OpAt wr gx (rnTo fl s2 j).1) ∧ Hid (Sr 75 b (rnTo fl s2 j).2.1 (rnTo fl s2 j).2.2 wr) ∧ Hid (OpAt wr w.heap.size zOp) ∧ Hid (Rm b w wr)) (fun i _ => 3 - (intOf i).toNat)
        case atStart => exact ⟨0, 0, by omega, rfl, rfl, HXs, Hs, HRs, Ms⟩
        case round =>
          clear HXs Hs HRs Ms
          obtain ⟨j, q, hj, rfl, hq, HX, H, HR, M⟩ := hrel
          have h5 : j = 0 ∨ j = 1 ∨ j = 2 ∨ j = 3 := by omega
          rcases h5 with rfl | rfl | rfl | rfl
          · obtain rfl : q = 0 := by omega
            clear hq
            have hbe : Hid (bitB fl (2 ^ (1 + 0)) = (bits .and .i64 (fl / 2) 1 == 1)) := by show _ = _; unfold bitB; rfl
            cases hb : (bits .and .i64 (fl / 2) 1 == 1) with
            | true =>
              have HNN := Lib.hid (dNumber_any b (rnTo fl s2 0).2.1 (rnTo fl s2 0).2.2 1073741824 wr H.out (by have := rnTo_size fl s2 0; omega))
              go_wp2_with fail
              refine (HNN.out).mono ?_
              rintro r wn ⟨rfl, hn, mn⟩
              have HXn := HX.out.rm mn hgb
              have qn : wn.cell? ⟨gx, 3, none⟩ = some (.int .i64 _) := HXn.cell (j := 3) rfl
              have fn := HXn.frz (3)
              have HXm : Hid (OpAt (wn.setCell ⟨gx, 3, none⟩ (.int .i64 (numM 1073741824 (rnTo fl s2 0).2.1 (rnTo fl s2 0).2.2).1)) gx (rnTo fl s2 (0 + 1)).1) := Lib.hid (by rw [rnTo_t (hbe.out.trans hb)]; exact HXn.setN 1 (by decide) _)
              have Hm : Hid (Sr 75 b (rnTo fl s2 (0 + 1)).2.1 (rnTo fl s2 (0 + 1)).2.2 (wn.setCell ⟨gx, 3, none⟩ (.int .i64 (numM 1073741824 (rnTo fl s2 0).2.1 (rnTo fl s2 0).2.2).1))) := Lib.hid (by rw [rnTo_t (hbe.out.trans hb)]; exact hn.setOther (Ne.symm hgb) _ _)
              have HRm : Hid (OpAt (wn.setCell ⟨gx, 3, none⟩ (.int .i64 (numM 1073741824 (rnTo fl s2 0).2.1 (rnTo fl s2 0).2.2).1)) w.heap.size zOp) := Lib.hid ((Below.heap_setCell _ _ _ _ (Ne.symm hgr)).trans (HR.out.rm mn hr0b))
              have Mm := Lib.hid ((M.out.trans mn).set hgw (3) (.int .i64 (numM 1073741824 (rnTo fl s2 0).2.1 (rnTo fl s2 0).2.2).1))
              clear hn mn HXn HNN HX H HR M
              go_wp2
              go_roundw
              case rel => exact ⟨1, 1, by omega, rfl, rfl, HXm, Hm, HRm, Mm⟩
              case measure => simp [intOf]
            | false =>
              have HXm : Hid (OpAt wr gx (rnTo fl s2 (0 + 1)).1) := by rw [rnTo_f (hbe.out.trans hb)]; exact HX
              have Hm : Hid (Sr 75 b (rnTo fl s2 (0 + 1)).2.1 (rnTo fl s2 (0 + 1)).2.2 wr) := by rw [rnTo_f (hbe.out.trans hb)]; exact H
              go_wp2
              go_roundw
              case rel => exact ⟨1, 1, by omega, rfl, rfl, HXm, Hm, HR, M⟩
              case measure => simp [intOf]
          · obtain rfl : q = 1 := by omega
            clear hq
            have hbe : Hid (bitB fl (2 ^ (1 + 1)) = (bits .and .i64 (fl / 4) 1 == 1)) := by show _ = _; unfold bitB; rfl
            cases hb : (bits .and .i64 (fl / 4) 1 == 1) with
            | true =>
              have HNN := Lib.hid (dNumber_any b (rnTo fl s2 1).2.1 (rnTo fl s2 1).2.2 1073741824 wr H.out (by have := rnTo_size fl s2 1; omega))
              go_wp2_with fail
              refine (HNN.out).mono ?_
              rintro r wn ⟨rfl, hn, mn⟩
              have HXn := HX.out.rm mn hgb
              have qn : wn.cell? ⟨gx, 4, none⟩ = some (.int .i64 _) := HXn.cell (j := 4) rfl
              have fn := HXn.frz (4)
              have HXm : Hid (OpAt (wn.setCell ⟨gx, 4, none⟩ (.int .i64 (numM 1073741824 (rnTo fl s2 1).2.1 (rnTo fl s2 1).2.2).1)) gx (rnTo fl s2 (1 + 1)).1) := Lib.hid (by rw [rnTo_t (hbe.out.trans hb)]; exact HXn.setN 2 (by decide) _)
              have Hm : Hid (Sr 75 b (rnTo fl s2 (1 + 1)).2.1 (rnTo fl s2 (1 + 1)).2.2 (wn.setCell ⟨gx, 4, none⟩ (.int .i64 (numM 1073741824 (rnTo fl s2 1).2.1 (rnTo fl s2 1).2.2).1))) := Lib.hid (by rw [rnTo_t (hbe.out.trans hb)]; exact hn.setOther (Ne.symm hgb) _ _)
              have HRm : Hid (OpAt (wn.setCell ⟨gx, 4, none⟩ (.int .i64 (numM 1073741824 (rnTo fl s2 1).2.1 (rnTo fl s2 1).2.2).1)) w.heap.size zOp) := Lib.hid ((Below.heap_setCell _ _ _ _ (Ne.symm hgr)).trans (HR.out.rm mn hr0b))
              have Mm := Lib.hid ((M.out.trans mn).set hgw (4) (.int .i64 (numM 1073741824 (rnTo fl s2 1).2.1 (rnTo fl s2 1).2.2).1))
              clear hn mn HXn HNN HX H HR M
              go_wp2
              go_roundw
              case rel => exact ⟨2, 2, by omega, rfl, rfl, HXm, Hm, HRm, Mm⟩
              case measure => simp [intOf]
            | false =>
              have HXm : Hid (OpAt wr gx (rnTo fl s2 (1 + 1)).1) := by rw [rnTo_f (hbe.out.trans hb)]; exact HX
              have Hm : Hid (Sr 75 b (rnTo fl s2 (1 + 1)).2.1 (rnTo fl s2 (1 + 1)).2.2 wr) := by rw [rnTo_f (hbe.out.trans hb)]; exact H
              go_wp2
              go_roundw
              case rel => exact ⟨2, 2, by omega, rfl, rfl, HXm, Hm, HR, M⟩
              case measure => simp [intOf]
          · obtain rfl : q = 2 := by omega
            clear hq
            have hbe : Hid (bitB fl (2 ^ (1 + 2)) = (bits .and .i64 (fl / 8) 1 == 1)) := by show _ = _; unfold bitB; rfl
            cases hb : (bits .and .i64 (fl / 8) 1 == 1) with
            | true =>
              have HNN := Lib.hid (dNumber_any b (rnTo fl s2 2).2.1 (rnTo fl s2 2).2.2 1073741824 wr H.out (by have := rnTo_size fl s2 2; omega))
              go_wp2_with fail
              refine (HNN.out).mono ?_
              rintro r wn ⟨rfl, hn, mn⟩
              have HXn := HX.out.rm mn hgb
              have qn : wn.cell? ⟨gx, 5, none⟩ = some (.int .i64 _) := HXn.cell (j := 5) rfl
              have fn := HXn.frz (5)
              have HXm : Hid (OpAt (wn.setCell ⟨gx, 5, none⟩ (.int .i64 (numM 1073741824 (rnTo fl s2 2).2.1 (rnTo fl s2 2).2.2).1)) gx (rnTo fl s2 (2 + 1)).1) := Lib.hid (by rw [rnTo_t (hbe.out.trans hb)]; exact HXn.setN 3 (by decide) _)
              have Hm : Hid (Sr 75 b (rnTo fl s2 (2 + 1)).2.1 (rnTo fl s2 (2 + 1)).2.2 (wn.setCell ⟨gx, 5, none⟩ (.int .i64 (numM 1073741824 (rnTo fl s2 2).2.1 (rnTo fl s2 2).2.2).1))) := Lib.hid (by rw [rnTo_t (hbe.out.trans hb)]; exact hn.setOther (Ne.symm hgb) _ _)
              have HRm : Hid (OpAt (wn.setCell ⟨gx, 5, none⟩ (.int .i64 (numM 1073741824 (rnTo fl s2 2).2.1 (rnTo fl s2 2).2.2).1)) w.heap.size zOp) := Lib.hid ((Below.heap_setCell _ _ _ _ (Ne.symm hgr)).trans (HR.out.rm mn hr0b))
              have Mm := Lib.hid ((M.out.trans mn).set hgw (5) (.int .i64 (numM 1073741824 (rnTo fl s2 2).2.1 (rnTo fl s2 2).2.2).1))
              clear hn mn HXn HNN HX H HR M
              go_wp2
              go_roundw
              case rel => exact ⟨3, 3, by omega, rfl, rfl, HXm, Hm, HRm, Mm⟩
              case measure => simp [intOf]
            | false =>
              have HXm : Hid (OpAt wr gx (rnTo fl s2 (2 + 1)).1) := by rw [rnTo_f (hbe.out.trans hb)]; exact HX
              have Hm : Hid (Sr 75 b (rnTo fl s2 (2 + 1)).2.1 (rnTo fl s2 (2 + 1)).2.2 wr) := by rw [rnTo_f (hbe.out.trans hb)]; exact H
              go_wp2
              go_roundw
              case rel => exact ⟨3, 3, by omega, rfl, rfl, HXm, Hm, HR, M⟩
              case measure => simp [intOf]
          · obtain rfl : q = 3 := by omega
            clear hq i0 i1 i2
            have hs3 := rnTo_size fl s2 3
            obtain ⟨s3, hs3e⟩ : ∃ s3, rnTo fl s2 3 = s3 := ⟨_, rfl⟩
            rw [hs3e] at HX H hs3 HO2
            clear hs3e
            have j0 : ∀ w, (Instr.index 82 (.agg #[.pointer (some ⟨gx, 6, none⟩), .pointer (some ⟨gx, 7, none⟩)]) (.int .i64 0)).run Tryd.prog w = .ok (.pointer (some ⟨gx, 6, none⟩)) w := fun _ => by kernel_rfl
            have j1 : ∀ w, (Instr.index 82 (.agg #[.pointer (some ⟨gx, 6, none⟩), .pointer (some ⟨gx, 7, none⟩)]) (.int .i64 1)).run Tryd.prog w = .ok (.pointer (some ⟨gx, 7, none⟩)) w := fun _ => by kernel_rfl
            go_wp2
            have HX0 := HX
            have H0 := H
            have HR0 := HR
            have M0 := M
            go_loopw [58] (fun i wr => ∃ j : Nat, ∃ q : Int, j ≤ 2 ∧ i = .int .i64 q ∧ q = j ∧ Hid (OpAt wr gx (rtTo fl s3 j).1) ∧ Hid (Sr 75 b (rtTo fl s3 j).2.1 (rtTo fl s3 j).2.2 wr) ∧ Hid (OpAt wr w.heap.size zOp) ∧ Hid (Rm b w wr)) (fun i _ => 2 - (intOf i).toNat)
            case atStart => exact ⟨0, 0, by omega, rfl, rfl, HX0, H0, HR0, M0⟩
            case round =>
              clear HX H HR M HX0 H0 HR0 M0
              obtain ⟨j, q, hj, rfl, hq, HX, H, HR, M⟩ := hrel
              have h3 : j = 0 ∨ j = 1 ∨ j = 2 := by omega
              rcases h3 with rfl | rfl | rfl
              · obtain rfl : q = 0 := by omega
                clear hq
                have hbe : Hid (bitB fl (2 ^ (4 + 0)) = (bits .and .i64 (fl / 16) 1 == 1)) := by show _ = _; unfold bitB; rfl
                cases hb : (bits .and .i64 (fl / 16) 1 == 1) with
                | true =>
                  have HNN := Lib.hid (dText_any b 255 (rtTo fl s3 0).2.1 (rtTo fl s3 0).2.2 wr H.out (by have := rtTo_size fl s3 0; omega))
                  go_wp2_with fail
                  refine (HNN.out).mono ?_
                  rintro r wn ⟨rfl, hn, mn⟩
                  have HXn := HX.out.rm mn hgb
                  have qn : wn.cell? ⟨gx, 6, none⟩ = some (.string _) := HXn.cell (j := 6) rfl
                  have fn := HXn.frz (6)
                  have HXm : Hid (OpAt (wn.setCell ⟨gx, 6, none⟩ (.string (txtM 255 (rtTo fl s3 0).2.1 (rtTo fl s3 0).2.2).1)) gx (rtTo fl s3 (0 + 1)).1) := Lib.hid (by rw [rtTo_t (hbe.out.trans hb)]; exact HXn.setT 0 (by decide) _)
                  have Hm : Hid (Sr 75 b (rtTo fl s3 (0 + 1)).2.1 (rtTo fl s3 (0 + 1)).2.2 (wn.setCell ⟨gx, 6, none⟩ (.string (txtM 255 (rtTo fl s3 0).2.1 (rtTo fl s3 0).2.2).1))) := Lib.hid (by rw [rtTo_t (hbe.out.trans hb)]; exact hn.setOther (Ne.symm hgb) _ _)
                  have HRm : Hid (OpAt (wn.setCell ⟨gx, 6, none⟩ (.string (txtM 255 (rtTo fl s3 0).2.1 (rtTo fl s3 0).2.2).1)) w.heap.size zOp) := Lib.hid ((Below.heap_setCell _ _ _ _ (Ne.symm hgr)).trans (HR.out.rm mn hr0b))
                  have Mm := Lib.hid ((M.out.trans mn).set hgw (6) (.string (txtM 255 (rtTo fl s3 0).2.1 (rtTo fl s3 0).2.2).1))
                  clear hn mn HXn HNN HX H HR M
                  go_wp2
                  go_roundw
                  case rel => exact ⟨1, 1, by omega, rfl, rfl, HXm, Hm, HRm, Mm⟩
                  case measure => simp [intOf]
                | false =>
                  have HXm : Hid (OpAt wr gx (rtTo fl s3 (0 + 1)).1) := by rw [rtTo_f (hbe.out.trans hb)]; exact HX
                  have Hm : Hid (Sr 75 b (rtTo fl s3 (0 + 1)).2.1 (rtTo fl s3 (0 + 1)).2.2 wr) := by rw [rtTo_f (hbe.out.trans hb)]; exact H
                  go_wp2
                  go_roundw
                  case rel => exact ⟨1, 1, by omega, rfl, rfl, HXm, Hm, HR, M⟩
                  case measure => simp [intOf]
              · obtain rfl : q = 1 := by omega
                clear hq
                have hbe : Hid (bitB fl (2 ^ (4 + 1)) = (bits .and .i64 (fl / 32) 1 == 1)) := by show _ = _; unfold bitB; rfl
                cases hb : (bits .and .i64 (fl / 32) 1 == 1) with
                | true =>
                  have HNN := Lib.hid (dText_any b 255 (rtTo fl s3 1).2.1 (rtTo fl s3 1).2.2 wr H.out (by have := rtTo_size fl s3 1; omega))
                  go_wp2_with fail
                  refine (HNN.out).mono ?_
                  rintro r wn ⟨rfl, hn, mn⟩
                  have HXn := HX.out.rm mn hgb
                  have qn : wn.cell? ⟨gx, 7, none⟩ = some (.string _) := HXn.cell (j := 7) rfl
                  have fn := HXn.frz (7)
                  have HXm : Hid (OpAt (wn.setCell ⟨gx, 7, none⟩ (.string (txtM 255 (rtTo fl s3 1).2.1 (rtTo fl s3 1).2.2).1)) gx (rtTo fl s3 (1 + 1)).1) := Lib.hid (by rw [rtTo_t (hbe.out.trans hb)]; exact HXn.setT 1 (by decide) _)
                  have Hm : Hid (Sr 75 b (rtTo fl s3 (1 + 1)).2.1 (rtTo fl s3 (1 + 1)).2.2 (wn.setCell ⟨gx, 7, none⟩ (.string (txtM 255 (rtTo fl s3 1).2.1 (rtTo fl s3 1).2.2).1))) := Lib.hid (by rw [rtTo_t (hbe.out.trans hb)]; exact hn.setOther (Ne.symm hgb) _ _)
                  have HRm : Hid (OpAt (wn.setCell ⟨gx, 7, none⟩ (.string (txtM 255 (rtTo fl s3 1).2.1 (rtTo fl s3 1).2.2).1)) w.heap.size zOp) := Lib.hid ((Below.heap_setCell _ _ _ _ (Ne.symm hgr)).trans (HR.out.rm mn hr0b))
                  have Mm := Lib.hid ((M.out.trans mn).set hgw (7) (.string (txtM 255 (rtTo fl s3 1).2.1 (rtTo fl s3 1).2.2).1))
                  clear hn mn HXn HNN HX H HR M
                  go_wp2
                  go_roundw
                  case rel => exact ⟨2, 2, by omega, rfl, rfl, HXm, Hm, HRm, Mm⟩
                  case measure => simp [intOf]
                | false =>
                  have HXm : Hid (OpAt wr gx (rtTo fl s3 (1 + 1)).1) := by rw [rtTo_f (hbe.out.trans hb)]; exact HX
                  have Hm : Hid (Sr 75 b (rtTo fl s3 (1 + 1)).2.1 (rtTo fl s3 (1 + 1)).2.2 wr) := by rw [rtTo_f (hbe.out.trans hb)]; exact H
                  go_wp2
                  go_roundw
                  case rel => exact ⟨2, 2, by omega, rfl, rfl, HXm, Hm, HR, M⟩
                  case measure => simp [intOf]
              · obtain rfl : q = 2 := by omega
                clear hq j0 j1
                obtain ⟨s4, hs4⟩ : ∃ s4, rtTo fl s3 2 = s4 := ⟨_, rfl⟩
                rw [hs4] at HX H HO2
                obtain ⟨x4, S4, e4⟩ := s4
                clear hs4
                go_wp2_with (first
                  | ((with_reducible refine at_ld 23 (.tmp 3) ?_); refine wpList_load_row rfl 23 _ rfl gx rfl 23 x4.cells (0, 0) _ HX.out Tryd.underlying23 rfl (by kernel_rfl) ?_)
                  | ((with_reducible refine at_st 23 (.tmp 2) (.tmp 73) ?_); refine wpList_store_row rfl 23 _ _ rfl w.heap.size x4.cells rfl rfl 23 zOp.cells HR.out (by kernel_rfl) rfl (oOne _) ?_))
                refine bodyPost_ret (v := .agg (otake S e).1.cells) ?_ rfl ?_
                · skip
                  simp [results, Tryd.results33, Act.put, asA2]
                  refine run_loadVar_row _ _ 23 23 _ (0, 0) _ ?_ Tryd.underlying23 rfl (by kernel_rfl)
                  rw [HO2.out]
                  exact HR.out.setRow x4
                · rw [HO2.out]
                  exact ⟨rfl, (setRow_other _ _ _ _ (Ne.symm hr0b)).trans H.out, M.out.setRow (Nat.le_refl _) _⟩
    · have HO : Hid (otake S e = (zOp, S1, 15)) := Lib.hid (by rw [HOT.out, if_neg (by decide), if_pos (by omega)])
      rw [decide_eq_false (show ¬ (0 ≤ K ∧ K < 13) from fun h => hk13 h.2)] at HKD
      have HFA := Lib.hid (dFail_any b S1 0 15 w3 H3.out)
      go_wp2_with fail
      refine (HKD.out).mono ?_
      rintro r w4 ⟨rfl, rfl⟩
      go_wp2_with fail
      refine (HFA.out).mono ?_
      rintro r w5 ⟨rfl, h5, m5⟩
      have HR5 := Lib.hid (HR3.out.rm m5 hr0b)
      have M5 := Lib.hid (M3.out.trans m5)
      have H5 := Lib.hid h5
      clear h5 m5 HFA HKD HR3 M3
      go_wp2_with ((with_reducible refine at_st 23 (.tmp 2) (.tmp 22) ?_); refine wpList_store_row rfl 23 _ _ rfl w.heap.size zOp.cells rfl rfl 23 zOp.cells HR5.out (by kernel_rfl) rfl (oOne _) ?_)
      refine bodyPost_ret (v := .agg (otake S e).1.cells) ?_ rfl ?_
      · skip
        simp [results, Tryd.results33, Act.put, asA2]
        refine run_loadVar_row _ _ 23 23 _ (0, 0) _ ?_ Tryd.underlying23 rfl (by kernel_rfl)
        rw [HO.out]
        exact HR5.out.setRow zOp
      · rw [HO.out]
        exact ⟨rfl, (setRow_other _ _ _ _ (Ne.symm hr0b)).trans H5.out, M5.out.setRow (Nat.le_refl _) _⟩
  · have HO : Hid (otake S e = (zOp, S1, e1)) := Lib.hid (by rw [HOT.out, if_pos he1])
    go_wp2_with ((with_reducible refine at_st 23 (.tmp 2) (.tmp 15) ?_); refine wpList_store_row rfl 23 _ _ rfl w.heap.size zOp.cells rfl rfl 23 zOp.cells HR3.out (by kernel_rfl) rfl (oOne _) ?_)
    refine bodyPost_ret (v := .agg (otake S e).1.cells) ?_ rfl ?_
    · skip
      simp [results, Tryd.results33, Act.put, asA2]
      refine run_loadVar_row _ _ 23 23 _ (0, 0) _ ?_ Tryd.underlying23 rfl (by kernel_rfl)
      rw [HO.out]
      exact HR3.out.setRow zOp
    · rw [HO.out]
      exact ⟨rfl, (setRow_other _ _ _ _ (Ne.symm hr0b)).trans H3.out, M3.out.setRow (Nat.le_refl _) _⟩
end Go.Proofs.YtjjdgmabgiembaaDoor
