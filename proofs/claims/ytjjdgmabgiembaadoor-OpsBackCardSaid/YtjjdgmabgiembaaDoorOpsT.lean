/- The document's First. -/
import Derived.Test.YtjjdgmabgiembaaDoorOpsQ
import Derived.Test.YtjjdgmabgiembaaDoorOpsS
set_option linter.unusedVariables false
set_option linter.unusedSimpArgs false
set_option maxHeartbeats 8000000
namespace Go.Proofs.YtjjdgmabgiembaaDoor
open Go.RowKit Go.Shelf

theorem store8g {ops : Array Oper} {rest : List Oper} {o : Oper} {a : Act} {w : World} {Q : Exit → Act → World → Prop} (c : Opx) (hg : o.guard = none) (x y : Operand) (ho : o.op = .store 23 x y) (hd : o.dst = none)
    (hx : a.eval x = .pointer (some ⟨w.heap.size, 0, none⟩)) (hy : a.eval y = .agg c.cells)
    (h : ∀ wt : World, wt.heap[w.heap.size]? = some (.cells c.cells 23 (0, 0)) → Gr w wt → wpList Tryd.prog ops Q rest a wt) : wpList Tryd.prog ops Q (o :: rest) a (w.alloc (.cells Z8 23)) :=
  store8 c hg x y ho hd hx hy (h _ (World.alloc_heap_new _ _) ((Gr.rfl' w).al _))
set_option maxRecDepth 100000 in
theorem refFirst_any (S : ByteArray) (w : World) (hS : S.size ≤ 9223372036854775807) :
    Calls Tryd.prog 16 #[.string S] w fun r w' => (∃ v, r = .returned (.tuple #[v, .int .i64 ((S.size : Int) - (firstS S).2.size)]) ∧ OwnO w' w.heap.size v (firstS S).1) ∧ Gr w w' := by
  have HG2 := Lib.hid (Gr.rfl' w)
  obtain ⟨i0, hi, hz0, hzs, hz2⟩ := info_parts infoOp
  go_enter Tryd.func16, Tryd.ntmps16
  go_wp2
  go_loopw [4, 5] (fun v s wr => ∃ (l : List Opx) (S2 : ByteArray), l.length ≤ 400 ∧ s = .int .i64 ((S.size : Int) - S2.size) ∧ Hid (firstGo (400 - l.length) (l, S2) = firstS S) ∧ S2.size ≤ S.size ∧ Hid (Suf S2 S) ∧ Hid (txOk l) ∧ Hid (OwnO wr w.heap.size v l) ∧ Hid (Gr w wr)) (fun v _ _ => 400 - slLen v)
  case atStart => exact ⟨[], S, by simp, by simp, Lib.hid rfl, Nat.le_refl _, Lib.hid (Suf.refl S), Lib.hid (fun x hx => absurd hx (by simp)), Lib.hid (OwnO.nil _ _), HG2⟩
  case round =>
    clear HG2
    obtain ⟨l, S2, hk, rfl, HRG, hz2', HSU, HTX, HO, HG⟩ := hrel
    obtain ⟨Av, ln, cvv, rfl, HLN, HGL⟩ := HO.out.shp
    by_cases hlt : l.length < 400
    · have hki : (ln : Int) < 400 := by have := HLN.out; omega
      have hs2 : S2.size ≤ 9223372036854775807 := by omega
      have HS0 := Lib.hid (Sr.made wr 61 S2)
      have HGn : Hid (Gr wr (wr.alloc (.cells #[.string S2, .int .i64 0] 61))) := Lib.hid ((Gr.rfl' wr).al _)
      have HGw := Lib.hid (HG.out.tr HGn.out)
      have hwr : w.heap.size ≤ wr.heap.size := HG.out.size
      have HT := Lib.hid (rTake2 wr.heap.size S2 _ HS0.out hs2)
      have hst := firstGo_step (400 - (l.length + 1)) l S2
      have hsp := firstGo_stop (400 - (l.length + 1)) l S2
      rw [show 400 - (l.length + 1) + 1 = 400 - l.length by omega] at hst hsp
      have hx1 := otake_txt S2 0
      have hz3 := otake_size S2 0
      have hsf := otake_suf S2 0
      obtain ⟨y, S3, e3, ht⟩ : ∃ x S3 e3, otake S2 0 = (x, S3, e3) := ⟨_, _, _, rfl⟩
      simp only [ht] at HT hst hsp hx1 hz3 hsf
      have HST := Lib.hid hst
      have HSP := Lib.hid hsp
      have HSF := Lib.hid (hsf.trans HSU.out)
      have HX1 : Hid (y.Pa.size ≤ 9223372036854775807 ∧ y.Da.size ≤ 9223372036854775807) := Lib.hid ⟨by omega, by omega⟩
      have hcut : S.extract (S.size - S2.size) S.size = S2 := HSU.out.2.symm
      clear ht hx1 hst hsp hsf
      go_wp2_with fail
      refine (HT.out).mono ?_
      rintro r wt0 ⟨⟨x, rfl, hxe⟩, hs3, m3⟩
      have HEQ := Lib.hid hxe
      have GT0 := Lib.hid (m3.below HGw.out hwr)
      have HO0 := Lib.hid (HO.out.fresh HGn.out (Nat.le_refl _) m3)
      have GX0 : Hid (Gr wt0 (wt0.alloc (.cells x.cells 23))) := Lib.hid ((Gr.rfl' _).al _)
      have HS3 := Lib.hid hs3
      clear hs3 m3 HT HO HG HS0 HGn HGw hxe GX0
      by_cases he3 : e3 = 0
      · subst he3
        clear HSP
        replace HEQ := Lib.hid (HEQ.out rfl)

        go_upto_region 8 with (first | refine alloc8 rfl rfl ?_ | (refine store8g x rfl _ _ rfl rfl rfl rfl ?_; intro wt hx5 hga; have HX5 := Lib.hid hx5; have HS := Lib.hid (HS3.out.gr hga); have c1 := HS.out.cell1; have GT : Hid (Gr w wt) := Lib.hid (GT0.out.tr hga); have HO : Hid (OwnO wt w.heap.size (.slice Av ln cvv) l) := Lib.hid (HO0.out.gr hga); obtain ⟨gX, hgX⟩ : ∃ g, wt0.heap.size = g := ⟨_, rfl⟩; rw [hgX]; rw [hgX] at HX5; clear hx5 hga hgX HS3 GT0 HO0))
        rcases HO.out with ⟨hvn, rfl⟩ | ⟨g, hgB, hog⟩
        · cases hvn
          have HA : Hid (Gr wt (wt.alloc (.cells x.cells 23))) := Lib.hid ((Gr.rfl' _).al _)
          have HNW := Lib.hid (opNew wt x)
          have HCL : Hid (x.cells.toList = opCells [x]) := Lib.hid (by simp [opCells])
          have HO1 : Hid (∀ u ∈ x.cells.toList, u.oneCell' = true) := Lib.hid (by rw [HCL.out]; exact opOne [x])
          have HGA : Hid (Gr w (wt.alloc (.cells x.cells 23))) := Lib.hid (GT.out.tr HA.out)
          have HSA := Lib.hid (HS.out.gr HA.out)
          have hwsz : wr.heap.size < wt.heap.size := HS.out.lt
          have hasz : (wt.alloc (.cells x.cells 23)).heap.size = wt.heap.size + 1 := by simp
          have HASZ := Lib.hid hasz
          clear hasz
          obtain ⟨xK, xP, xT, xN, xA, xM, xPa, xDa⟩ := x
          unfold Opx.cells at HA HNW HCL HO1 HGA HSA HASZ HX5
          try dsimp only at HA HNW HCL HO1 HGA HSA HASZ HX5
          go_wp2_with (first | refine wpList_load_row rfl 23 _ rfl gX rfl 23 #[.int .i64 xK, .int .i64 xP, .int .i64 xT, .int .i64 xN, .int .i64 xA, .int .i64 xM, .string xPa, .string xDa] (0, 0) _ HX5.out Tryd.underlying23 rfl (by kernel_rfl) ?_ | (at_builtin; go_loud (refine wp_appendN rfl _ _ 28 rfl 23 i0 (.agg Z8) 8 80 Tryd.underlying28 hi hz0 hzs hz2 rfl (by decide) rfl ⟨_, 0, none⟩ 1 1 _ rfl rfl HNW.out HO1.out (by decide) (by decide) (by decide) ?_); intro v' w4 g' hown' hg' hgrow; obtain ⟨cq, hcq, _, _⟩ := hown'.shape; subst hcq; have hgq : Gr (wt.alloc (.cells #[.int .i64 xK, .int .i64 xP, .int .i64 xT, .int .i64 xN, .int .i64 xA, .int .i64 xM, .string xPa, .string xDa] 23)) w4 := ⟨hgrow.os, hgrow.tape, hgrow.output, hgrow.size, fun k hk => hgrow.block k hk (by simp)⟩; have GT4 := Lib.hid (HGA.out.tr hgq); have HS4 := Lib.hid (HSA.out.gr hgq); have HO4 : Hid (OwnO w4 w.heap.size _ (([] : List Opx) ++ [⟨xK, xP, xT, xN, xA, xM, xPa, xDa⟩])) := Lib.hid (Or.inr ⟨g', by have := HASZ.out; omega, by rw [HCL.out] at hown'; exact hown'⟩); clear hown' hg' hgrow hgq; have d0 := HS4.out.cell0))
          go_roundw
          case rel => exact ⟨([] : List Opx) ++ [⟨xK, xP, xT, xN, xA, xM, xPa, xDa⟩], S3, by simp; try omega, by rfl, Lib.hid (by have h := HST.out (by trivial); rw [HRG.out] at h; rw [HEQ.out]; simpa using h.symm), by omega, HSF, Lib.hid (txSnoc HTX.out (by rw [HEQ.out]; exact HX1.out)), by simpa using HO4, GT4⟩
          case measure => simp [slLen]; try omega
        · have HA : Hid (Gr wt (wt.alloc (.cells x.cells 23))) := Lib.hid ((Gr.rfl' _).al _)
          have HOG := Lib.hid (hog.gr HA.out)
          obtain ⟨cv, hcv, _, _⟩ := hog.shape
          cases hcv
          have hgw : g < wr.heap.size := HGL.out _ rfl
          have HNW := Lib.hid (opNew wt x)
          have HCL : Hid (x.cells.toList = opCells [x]) := Lib.hid (by simp [opCells])
          have HO1 : Hid (∀ u ∈ x.cells.toList, u.oneCell' = true) := Lib.hid (by rw [HCL.out]; exact opOne [x])
          have HGA : Hid (Gr w (wt.alloc (.cells x.cells 23))) := Lib.hid (GT.out.tr HA.out)
          have HSA := Lib.hid (HS.out.gr HA.out)
          have hwsz : wr.heap.size < wt.heap.size := HS.out.lt
          have hasz : (wt.alloc (.cells x.cells 23)).heap.size = wt.heap.size + 1 := by simp
          have HASZ := Lib.hid hasz
          clear hasz
          obtain ⟨xK, xP, xT, xN, xA, xM, xPa, xDa⟩ := x
          unfold Opx.cells at HA HNW HCL HO1 HGA HSA HASZ HX5 HOG
          try dsimp only at HA HNW HCL HO1 HGA HSA HASZ HX5 HOG
          go_wp2_with (first | refine wpList_load_row rfl 23 _ rfl gX rfl 23 #[.int .i64 xK, .int .i64 xP, .int .i64 xT, .int .i64 xN, .int .i64 xA, .int .i64 xM, .string xPa, .string xDa] (0, 0) _ HX5.out Tryd.underlying23 rfl (by kernel_rfl) ?_ | (at_builtin; go_loud (refine wp_appendG rfl _ _ 28 rfl 23 i0 (.agg Z8) 8 80 Tryd.underlying28 hi hz0 hzs hz2 rfl (by decide) g _ _ _ rfl HOG.out ⟨_, 0, none⟩ 1 1 _ rfl rfl HNW.out HO1.out (by simp only [maxLen]; omega) (by omega) ?_); intro v' w4 g' hown' hg' hgrow; obtain ⟨cq, hcq, _, _⟩ := hown'.shape; subst hcq; have GT4 := Lib.hid (HGA.out.grown hgrow HGA.out.size (fun j e => by cases e; omega)); have HS4 : Hid (Sr 61 wr.heap.size _ _ w4) := Lib.hid ((hgrow.block wr.heap.size (by have := HSA.out.lt; exact this) (fun e => by cases e; omega)).trans HSA.out); have HO4 : Hid (OwnO w4 w.heap.size _ (l ++ [⟨xK, xP, xT, xN, xA, xM, xPa, xDa⟩])) := Lib.hid (Or.inr ⟨g', by have := HASZ.out; rcases hg' with rfl | hg' <;> omega, by rw [HCL.out] at hown'; rw [opCells_app]; simpa using hown'⟩); clear hown' hg' hgrow; have d0 := HS4.out.cell0))
          go_roundw
          case rel => exact ⟨l ++ [⟨xK, xP, xT, xN, xA, xM, xPa, xDa⟩], S3, by simp; try omega, by rfl, Lib.hid (by have h := HST.out (by trivial); rw [HRG.out] at h; rw [HEQ.out]; simpa using h.symm), by omega, HSF, Lib.hid (txSnoc HTX.out (by rw [HEQ.out]; exact HX1.out)), by simpa using HO4, GT4⟩
          case measure => simp [slLen]; try omega
      · have HV : Hid (firstS S = (l, S2)) := Lib.hid (by rw [← HRG.out, HSP.out he3])
        go_wp2_with (first | refine alloc8 rfl rfl ?_ | (refine store8g x rfl _ _ rfl rfl rfl rfl ?_; intro wt hx5 hga; have HX5 := Lib.hid hx5; have HS := Lib.hid (HS3.out.gr hga); have c1 := HS.out.cell1; have GT : Hid (Gr w wt) := Lib.hid (GT0.out.tr hga); have HO : Hid (OwnO wt w.heap.size (.slice Av ln cvv) l) := Lib.hid (HO0.out.gr hga); obtain ⟨gX, hgX⟩ : ∃ g, wt0.heap.size = g := ⟨_, rfl⟩; rw [hgX]; rw [hgX] at HX5; clear hx5 hga hgX HS3 GT0 HO0))
        refine bodyPost_ret (v := .tuple #[.slice Av ln cvv, .int .i64 ((S.size : Int) - S2.size)]) (by simp [results, Tryd.results16, go_sem]) rfl ?_
        rw [HV.out]
        exact ⟨⟨_, rfl, HO.out⟩, GT.out⟩
    · have hki : ¬ (ln : Int) < 400 := by have := HLN.out; omega
      have HV : Hid (firstS S = (l, S2)) := Lib.hid (by have h := HRG.out; rw [show 400 - l.length = 0 by omega] at h; exact h.symm)
      go_wp2
      refine bodyPost_ret (v := .tuple #[.slice Av ln cvv, .int .i64 ((S.size : Int) - S2.size)]) (by simp [results, Tryd.results16, go_sem]) rfl ?_
      rw [HV.out]
      exact ⟨⟨_, rfl, HO.out⟩, HG.out⟩
end Go.Proofs.YtjjdgmabgiembaaDoor
