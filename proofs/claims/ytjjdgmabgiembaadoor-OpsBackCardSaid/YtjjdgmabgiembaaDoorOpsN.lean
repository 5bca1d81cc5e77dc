/- ops.Read, and the document's. -/
import Derived.Test.YtjjdgmabgiembaaDoorOpsM
set_option linter.unusedVariables false
set_option linter.unusedSimpArgs false
set_option maxHeartbeats 8000000
namespace Go.Proofs.YtjjdgmabgiembaaDoor
open Go.RowKit Go.Shelf

theorem readV_ok {S : ByteArray} {l : List Opx} {S2 : ByteArray} {e2 : Int} (h : readS S = (l, S2, e2)) : readV S = if rdDone S2 e2 ≠ 0 then ([], rdDone S2 e2) else (l, 0) := by unfold readV; rw [h]
theorem rdDone_err (S : ByteArray) (e : Int) (h : e ≠ 0) : rdDone S e = e := by unfold rdDone; rw [if_pos h]
theorem OwnO.nil (W : World) (B : Nat) : OwnO W B (.slice none 0 0) [] := Or.inl ⟨rfl, rfl⟩
theorem Sr.made (w : World) (t : TypeId) (S : ByteArray) : Sr t w.heap.size S 0 (w.alloc (.cells #[.string S, .int .i64 0] t)) := World.alloc_heap_new w _
set_option maxRecDepth 100000 in
theorem Read_any (S : ByteArray) (w : World) (hF : Fl w) (hS : S.size ≤ 9223372036854775807) :
    Calls Tryd.prog 13 #[.string S] w fun r w' => (∃ v, r = .returned (.tuple #[v, .int .i64 (readV S).2]) ∧ OwnO w' (w.heap.size + 1) v (readV S).1) ∧ Gr w w' := by
  have HF := Lib.hid hF
  have HNW := Lib.hid (New_any S w)
  have HS0 := Lib.hid (Sr.made w 75 S)
  have HG0 : Hid (Gr w (w.alloc (.cells #[.string S, .int .i64 0] 75))) := Lib.hid ((Gr.rfl' w).al _)
  have HN := Lib.hid (dNumber_any w.heap.size S 0 400 _ HS0.out hS)
  obtain ⟨nI, S1, e1, hn⟩ : ∃ nI S1 e1, numM 400 S 0 = (nI, S1, e1) := ⟨_, _, _, rfl⟩
  have hb := numM_bd2 400 S 0
  have hz1 := numM_size 400 S 0
  have hne : e1 ≠ 0 → nI = 0 := fun he => by have := numM_err2 400 S 0 (by rw [hn]; exact he); rw [hn] at this; exact this
  have hrs : readS S = readGo nI.toNat ([], S1, e1) := by unfold readS; rw [hn]
  rw [hn] at hb hz1
  simp only [hn] at HN
  simp only at hb hz1
  obtain ⟨n, rfl⟩ : ∃ n : Nat, nI = (n : Int) := ⟨nI.toNat, by omega⟩
  rw [Int.toNat_natCast] at hrs
  have HRS := Lib.hid hrs
  have hn30 : n ≤ 1073741824 := by omega
  have HNE : Hid (0 < n → e1 = 0) := Lib.hid (fun h0 => Classical.byContradiction fun he => by have := hne he; omega)
  have hz1' : S1.size ≤ 9223372036854775807 := by omega
  obtain ⟨i0, hi, hz0, hzs, hz2⟩ := info_parts infoOp
  clear hn hb hz1 hne hrs hF
  go_enter Tryd.func13, Tryd.ntmps13
  go_wp2_with fail
  refine (HNW.out).mono ?_
  rintro r w1 ⟨rfl, hw1⟩
  rw [hw1]
  clear hw1 w1 HNW
  go_wp2_with fail
  refine (HN.out).mono ?_
  rintro r w2 ⟨rfl, hs2, m2⟩
  have HS2 := Lib.hid hs2
  have HG2 := Lib.hid (m2.below HG0.out (Nat.le_refl _))
  clear hs2 m2 HN HS0 HG0
  go_wp2
  go_loopw [5, 11] (fun v i wr => ∃ (l : List Opx) (S2 : ByteArray) (e2 : Int), l.length ≤ n ∧ i = .int .i64 l.length ∧ Hid (l.length < n → e2 = 0) ∧ Hid (readGo (n - l.length) (l, S2, e2) = readS S) ∧ S2.size ≤ 9223372036854775807 ∧ Hid (txOk l) ∧ Hid (OwnO wr (w.heap.size + 1) v l) ∧ Hid (Sr 75 w.heap.size S2 e2 wr) ∧ Hid (Gr w wr)) (fun _ i _ => n - (intOf i).toNat)
  case atStart => exact ⟨[], S1, e1, Nat.zero_le _, rfl, HNE, Lib.hid HRS.out.symm, hz1', Lib.hid (fun x hx => absurd hx (by simp)), Lib.hid (OwnO.nil _ _), HS2, HG2⟩
  case round =>
    clear HS2 HG2 hz1' HRS HNE
    obtain ⟨l, S2, e2, hk, rfl, HE2, HRG, hz2', HTX, HO, HS, HG⟩ := hrel
    by_cases hlt : l.length < n
    · have hki : (l.length : Int) < (n : Int) := by omega
      obtain rfl := HE2.out hlt
      have HT := Lib.hid (take_any w.heap.size S2 0 w wr HF.out HG.out (Nat.le_refl _) HS.out hz2')
      have hrg := HRG.out
      rw [show n - l.length = n - (l.length + 1) + 1 by omega, readGo_step _ _ rfl] at hrg
      have hx1 := otake_txt S2 0
      have hz3 := otake_size S2 0
      unfold adv at hrg
      obtain ⟨x, S3, e3, ht⟩ : ∃ x S3 e3, otake S2 0 = (x, S3, e3) := ⟨_, _, _, rfl⟩
      simp only [ht] at HT hrg hx1 hz3
      replace hz3 : S3.size ≤ 9223372036854775807 := by omega
      have HX1 : Hid (x.Pa.size ≤ 9223372036854775807 ∧ x.Da.size ≤ 9223372036854775807) := Lib.hid ⟨by omega, by omega⟩
      replace HRG := Lib.hid hrg
      clear hrg ht hx1 HE2
      go_wp2_with fail
      refine (HT.out).mono ?_
      rintro r wt ⟨rfl, hs3, m3⟩
      have GT := Lib.hid (m3.below HG.out (Nat.le_refl _))
      replace HO := Lib.hid (HO.out.rm m3 (Nat.lt_succ_self _))
      replace HS := Lib.hid hs3
      clear hs3 m3 HT HG
      rcases HO.out with ⟨rfl, rfl⟩ | ⟨g, hgB, hog⟩
      · have HA : Hid (Gr wt (wt.alloc (.cells x.cells 23))) := Lib.hid ((Gr.rfl' _).al _)
        have HNW := Lib.hid (opNew wt x)
        have HCL : Hid (x.cells.toList = opCells [x]) := Lib.hid (by simp [opCells])
        have HO1 : Hid (∀ u ∈ x.cells.toList, u.oneCell' = true) := Lib.hid (by rw [HCL.out]; exact opOne [x])
        have HGA : Hid (Gr w (wt.alloc (.cells x.cells 23))) := Lib.hid (GT.out.tr HA.out)
        have HSA := Lib.hid (HS.out.gr HA.out)
        have hwsz : w.heap.size < wt.heap.size := HS.out.lt
        have hasz : (wt.alloc (.cells x.cells 23)).heap.size = wt.heap.size + 1 := by simp
        have HASZ := Lib.hid hasz
        clear hasz
        obtain ⟨xK, xP, xT, xN, xA, xM, xPa, xDa⟩ := x
        unfold Opx.cells at HA HNW HCL HO1 HGA HSA HASZ
        unfold Opx.cells
        go_wp2_with (at_builtin; go_loud (refine wp_appendN rfl _ _ 28 rfl 23 i0 (.agg Z8) 8 80 Tryd.underlying28 hi hz0 hzs hz2 rfl (by decide) rfl ⟨_, 0, none⟩ 1 1 _ rfl rfl HNW.out HO1.out (by decide) (by decide) (by decide) ?_); intro v' w4 g' hown' hg' hgrow)
        have hgq : Gr (wt.alloc (.cells #[.int .i64 xK, .int .i64 xP, .int .i64 xT, .int .i64 xN, .int .i64 xA, .int .i64 xM, .string xPa, .string xDa] 23)) w4 := ⟨hgrow.os, hgrow.tape, hgrow.output, hgrow.size, fun k hk => hgrow.block k hk (by simp)⟩
        have GT4 := Lib.hid (HGA.out.tr hgq)
        have HS4 := Lib.hid (HSA.out.gr hgq)
        have HO4 : Hid (OwnO w4 (w.heap.size + 1) v' ([] ++ [⟨xK, xP, xT, xN, xA, xM, xPa, xDa⟩])) := Lib.hid (Or.inr ⟨g', by have := HASZ.out; omega, by rw [HCL.out] at hown'; exact hown'⟩)
        clear hown' hg' hgrow hgq
        have HE := Lib.hid (Err_any w.heap.size S3 e3 w4 HS4.out)
        go_wp2_with fail
        refine (HE.out).mono ?_
        rintro r w5 ⟨rfl, hw5⟩
        rw [hw5]
        clear hw5 w5 HE
        by_cases he3 : e3 = 0
        · subst he3
          go_wp2
          go_roundw
          case rel => exact ⟨([] : List Opx) ++ [⟨xK, xP, xT, xN, xA, xM, xPa, xDa⟩], S3, 0, by simp; omega, by simp, Lib.hid (fun _ => rfl), Lib.hid (by have h := HRG.out; simpa using h), hz3, Lib.hid (txSnoc HTX.out HX1.out), HO4, HS4, GT4⟩
          case measure => simp [intOf]; omega
        · have HV : Hid (readV S = ([], e3)) := Lib.hid (by
            have h := HRG.out
            rw [readGo_err _ _ he3] at h
            rw [readV_ok h.symm, rdDone_err _ _ he3, if_pos he3])
          have HDN := Lib.hid (dDone_any w.heap.size S3 e3 w4 HS4.out)
          rw [rdDone_err _ _ he3] at HDN
          go_wp2_with fail
          refine (HDN.out).mono ?_
          rintro r w5 ⟨rfl, hw5⟩
          rw [hw5]
          clear hw5 w5
          go_wp2
          refine bodyPost_ret (v := .tuple #[.slice none 0 0, .int .i64 e3]) (by simp [results, Tryd.results13, go_sem]) rfl ?_
          rw [HV.out]
          exact ⟨⟨_, rfl, OwnO.nil _ _⟩, GT4.out⟩
      · have HA : Hid (Gr wt (wt.alloc (.cells x.cells 23))) := Lib.hid ((Gr.rfl' _).al _)
        have HOG := Lib.hid (hog.gr HA.out)
        obtain ⟨cv, hcv, _, _⟩ := hog.shape
        subst hcv
        have HNW := Lib.hid (opNew wt x)
        have HCL : Hid (x.cells.toList = opCells [x]) := Lib.hid (by simp [opCells])
        have HO1 : Hid (∀ u ∈ x.cells.toList, u.oneCell' = true) := Lib.hid (by rw [HCL.out]; exact opOne [x])
        have HGA : Hid (Gr w (wt.alloc (.cells x.cells 23))) := Lib.hid (GT.out.tr HA.out)
        have HSA := Lib.hid (HS.out.gr HA.out)
        have hwsz : w.heap.size < wt.heap.size := HS.out.lt
        have hasz : (wt.alloc (.cells x.cells 23)).heap.size = wt.heap.size + 1 := by simp
        have HASZ := Lib.hid hasz
        clear hasz
        obtain ⟨xK, xP, xT, xN, xA, xM, xPa, xDa⟩ := x
        unfold Opx.cells at HA HNW HCL HO1 HGA HSA HASZ HOG
        unfold Opx.cells
        go_wp2_with (at_builtin; go_loud (refine wp_appendG rfl _ _ 28 rfl 23 i0 (.agg Z8) 8 80 Tryd.underlying28 hi hz0 hzs hz2 rfl (by decide) g _ _ _ rfl HOG.out ⟨_, 0, none⟩ 1 1 _ rfl rfl HNW.out HO1.out (by simp only [maxLen]; omega) (by omega) ?_); intro v' w4 g' hown' hg' hgrow)
        have GT4 := Lib.hid (HGA.out.grown hgrow HGA.out.size (fun j e => by cases e; omega))
        have HS4 : Hid (Sr 75 w.heap.size _ _ w4) := Lib.hid ((hgrow.block w.heap.size (by have := HSA.out.lt; exact this) (fun e => by cases e; omega)).trans HSA.out)
        have HO4 : Hid (OwnO w4 (w.heap.size + 1) v' (l ++ [⟨xK, xP, xT, xN, xA, xM, xPa, xDa⟩])) := Lib.hid (Or.inr ⟨g', by have := HASZ.out; rcases hg' with rfl | hg' <;> omega, by rw [HCL.out] at hown'; rw [opCells_app]; simpa using hown'⟩)
        clear hown' hg' hgrow
        have HE := Lib.hid (Err_any w.heap.size S3 e3 w4 HS4.out)
        go_wp2_with fail
        refine (HE.out).mono ?_
        rintro r w5 ⟨rfl, hw5⟩
        rw [hw5]
        clear hw5 w5 HE
        by_cases he3 : e3 = 0
        · subst he3
          go_wp2
          go_roundw
          case rel => exact ⟨l ++ [⟨xK, xP, xT, xN, xA, xM, xPa, xDa⟩], S3, 0, by simp; omega, by simp, Lib.hid (fun _ => rfl), Lib.hid (by have h := HRG.out; simpa using h), hz3, Lib.hid (txSnoc HTX.out HX1.out), HO4, HS4, GT4⟩
          case measure => simp [intOf]; omega
        · have HV : Hid (readV S = ([], e3)) := Lib.hid (by
            have h := HRG.out
            rw [readGo_err _ _ he3] at h
            rw [readV_ok h.symm, rdDone_err _ _ he3, if_pos he3])
          have HDN := Lib.hid (dDone_any w.heap.size S3 e3 w4 HS4.out)
          rw [rdDone_err _ _ he3] at HDN
          go_wp2_with fail
          refine (HDN.out).mono ?_
          rintro r w5 ⟨rfl, hw5⟩
          rw [hw5]
          clear hw5 w5
          go_wp2
          refine bodyPost_ret (v := .tuple #[.slice none 0 0, .int .i64 e3]) (by simp [results, Tryd.results13, go_sem]) rfl ?_
          rw [HV.out]
          exact ⟨⟨_, rfl, OwnO.nil _ _⟩, GT4.out⟩
    · have hln : l.length = n := by omega
      have hki : ¬ (l.length : Int) < (n : Int) := by omega
      have hrg := HRG.out
      rw [hln, Nat.sub_self] at hrg
      have hvo := readV_ok hrg.symm
      have HDN := Lib.hid (dDone_any w.heap.size S2 e2 wr HS.out)
      obtain ⟨d, hd⟩ : ∃ d, rdDone S2 e2 = d := ⟨_, rfl⟩
      rw [hd] at hvo HDN
      have HVO := Lib.hid hvo
      clear hrg hvo hd HRG
      go_wp2_with fail
      refine (HDN.out).mono ?_
      rintro r w5 ⟨rfl, hw5⟩
      rw [hw5]
      clear hw5 w5 HDN
      by_cases hd0 : d = 0
      · subst hd0
        have HV : Hid (readV S = (l, 0)) := Lib.hid (by rw [HVO.out, if_neg (by simp)])
        rcases HO.out with ⟨rfl, rfl⟩ | ⟨g, hgB, hog⟩
        · go_wp2
          refine bodyPost_ret (v := .tuple #[.slice none 0 0, .int .i64 0]) (by simp [results, Tryd.results13, go_sem]) rfl ?_
          rw [HV.out]
          exact ⟨⟨_, rfl, HO.out⟩, HG.out⟩
        · obtain ⟨cv, hcv, _, _⟩ := hog.shape
          subst hcv
          clear hog
          obtain ⟨m, hm⟩ : ∃ m, l.length = m := ⟨_, rfl⟩
          rw [hm] at HO ⊢
          go_wp2
          refine bodyPost_ret (v := .tuple #[.slice (some ⟨g, 0, none⟩) m cv, .int .i64 0]) (by simp [results, Tryd.results13, go_sem]) rfl ?_
          rw [HV.out]
          exact ⟨⟨_, rfl, HO.out⟩, HG.out⟩
      · have HV : Hid (readV S = ([], d)) := Lib.hid (by rw [HVO.out, if_pos hd0])
        go_wp2
        refine bodyPost_ret (v := .tuple #[.slice none 0 0, .int .i64 d]) (by simp [results, Tryd.results13, go_sem]) rfl ?_
        rw [HV.out]
        exact ⟨⟨_, rfl, OwnO.nil _ _⟩, HG.out⟩
end Go.Proofs.YtjjdgmabgiembaaDoor
