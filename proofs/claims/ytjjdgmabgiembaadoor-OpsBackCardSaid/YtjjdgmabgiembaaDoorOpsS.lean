/- ops.First. -/
import Derived.Test.YtjjdgmabgiembaaDoorOpsQ
import Derived.Test.YtjjdgmabgiembaaDoorOpsR
set_option linter.unusedVariables false
set_option linter.unusedSimpArgs false
set_option maxHeartbeats 8000000
namespace Go.Proofs.YtjjdgmabgiembaaDoor
open Go.RowKit Go.Shelf

theorem firstGo_step (k : Nat) (l : List Opx) (S : ByteArray) (h : (otake S 0).2.2 = 0) : firstGo (k + 1) (l, S) = firstGo k (l ++ [(otake S 0).1], (otake S 0).2.1) := by rw [firstGo, if_neg (by simpa using h)]
theorem firstGo_stop (k : Nat) (l : List Opx) (S : ByteArray) (h : (otake S 0).2.2 ≠ 0) : firstGo (k + 1) (l, S) = (l, S) := by rw [firstGo, if_pos h]
theorem OwnO.fresh {W W1 W' : World} {B b : Nat} {v : Value} {l : List Opx} (h : OwnO W B v l) (k : Gr W W1) (hb : W.heap.size ≤ b) (m : Rm b W1 W') : OwnO W' B v l := by
  rcases h with h | ⟨g, h1, h2⟩
  · exact Or.inl h
  · have := h2.lt
    exact Or.inr ⟨g, h1, (h2.gr k).same (m.keep g (h2.gr k).lt (by omega))⟩
theorem OwnO.shp {W : World} {B : Nat} {v : Value} {l : List Opx} (h : OwnO W B v l) : ∃ A n c, v = .slice A n c ∧ Hid (n = l.length) ∧ Hid (∀ D, A = some D → D.block < W.heap.size) := by
  rcases h with ⟨rfl, rfl⟩ | ⟨g, _, hog⟩
  · exact ⟨none, 0, 0, rfl, Lib.hid rfl, Lib.hid (fun _ h => by cases h)⟩
  · obtain ⟨c, h, _⟩ := hog.shape; exact ⟨_, _, c, h, Lib.hid rfl, Lib.hid (fun D hD => by cases hD; exact hog.lt)⟩
def slLen : Value → Nat
  | .slice _ n _ => n
  | _ => 0
theorem OwnO.mono {W : World} {B B' : Nat} {v : Value} {l : List Opx} (h : OwnO W B v l) (k : B' ≤ B) : OwnO W B' v l := by
  rcases h with h | ⟨g, h1, h2⟩
  · exact Or.inl h
  · exact Or.inr ⟨g, by omega, h2⟩
set_option maxRecDepth 100000 in
theorem First_any (S : ByteArray) (w : World) (hF : Fl w) (hS : S.size ≤ 9223372036854775807) :
    Calls Tryd.prog 15 #[.string S] w fun r w' => (∃ v, r = .returned (.tuple #[v, .int .i64 ((S.size : Int) - (firstS S).2.size)]) ∧ OwnO w' w.heap.size v (firstS S).1) ∧ Gr w w' := by
  have HF := Lib.hid hF
  have HG2 := Lib.hid (Gr.rfl' w)
  obtain ⟨i0, hi, hz0, hzs, hz2⟩ := info_parts infoOp
  clear hF
  go_enter Tryd.func15, Tryd.ntmps15
  go_wp2
  go_loopw [4, 5] (fun v s wr => ∃ (l : List Opx) (S2 : ByteArray), l.length ≤ 400 ∧ s = .string S2 ∧ Hid (firstGo (400 - l.length) (l, S2) = firstS S) ∧ S2.size ≤ S.size ∧ Hid (txOk l) ∧ Hid (OwnO wr w.heap.size v l) ∧ Hid (Gr w wr)) (fun v _ _ => 400 - slLen v)
  case atStart => exact ⟨[], S, by simp, rfl, Lib.hid rfl, Nat.le_refl _, Lib.hid (fun x hx => absurd hx (by simp)), Lib.hid (OwnO.nil _ _), HG2⟩
  case round =>
    clear HG2
    obtain ⟨l, S2, hk, rfl, HRG, hz2', HTX, HO, HG⟩ := hrel
    obtain ⟨Av, ln, cvv, rfl, HLN, HGL⟩ := HO.out.shp
    by_cases hlt : l.length < 400
    · have hki : (ln : Int) < 400 := by have := HLN.out; omega
      have hs2 : S2.size ≤ 9223372036854775807 := by omega
      have HNW := Lib.hid (New_any S2 wr)
      have HS0 := Lib.hid (Sr.made wr 75 S2)
      have HGn : Hid (Gr wr (wr.alloc (.cells #[.string S2, .int .i64 0] 75))) := Lib.hid ((Gr.rfl' wr).al _)
      have HGw := Lib.hid (HG.out.tr HGn.out)
      have hwr : w.heap.size ≤ wr.heap.size := HG.out.size
      have HT := Lib.hid (take_any wr.heap.size S2 0 w _ HF.out HGw.out hwr HS0.out hs2)
      have hst := firstGo_step (400 - (l.length + 1)) l S2
      have hsp := firstGo_stop (400 - (l.length + 1)) l S2
      rw [show 400 - (l.length + 1) + 1 = 400 - l.length by omega] at hst hsp
      have hx1 := otake_txt S2 0
      have hz3 := otake_size S2 0
      have hsf := otake_suf S2 0
      obtain ⟨x, S3, e3, ht⟩ : ∃ x S3 e3, otake S2 0 = (x, S3, e3) := ⟨_, _, _, rfl⟩
      simp only [ht] at HT hst hsp hx1 hz3 hsf
      have HST := Lib.hid hst
      have HSP := Lib.hid hsp
      have HSF := Lib.hid hsf
      have HX1 : Hid (x.Pa.size ≤ 9223372036854775807 ∧ x.Da.size ≤ 9223372036854775807) := Lib.hid ⟨by omega, by omega⟩
      clear ht hx1 hst hsp hsf
      go_wp2_with fail
      refine (HNW.out).mono ?_
      rintro r w1 ⟨rfl, hw1⟩
      rw [hw1]
      clear hw1 w1 HNW
      go_wp2_with fail
      refine (HT.out).mono ?_
      rintro r wt0 ⟨rfl, hs3, m3⟩
      have GT0 := Lib.hid (m3.below HGw.out hwr)
      have HO0 := Lib.hid (HO.out.fresh HGn.out (Nat.le_refl _) m3)
      have GX0 : Hid (Gr wt0 (wt0.alloc (.cells x.cells 23))) := Lib.hid ((Gr.rfl' _).al _)
      have HSX := Lib.hid (hs3.gr GX0.out)
      have HE := Lib.hid (Err_any wr.heap.size S3 e3 _ HSX.out)
      clear hs3 m3 HT HO HG HS0 HGn HGw
      go_wp2_with (first | refine alloc8 rfl rfl ?_ | refine store8 x rfl _ _ rfl rfl rfl rfl ?_)
      refine (HE.out).mono ?_
      rintro r wt ⟨rfl, hw5⟩
      obtain ⟨gX, hgX⟩ : ∃ g, wt0.heap.size = g := ⟨_, rfl⟩
      have HX5 : Hid (wt.heap[gX]? = some (.cells x.cells 23 (0, 0))) := Lib.hid (by rw [hw5, ← hgX]; exact World.alloc_heap_new _ _)
      have HS : Hid (Sr 75 wr.heap.size S3 e3 wt) := Lib.hid (by rw [hw5]; exact HSX.out)
      have GT : Hid (Gr w wt) := Lib.hid (by rw [hw5]; exact GT0.out.tr GX0.out)
      have HO : Hid (OwnO wt w.heap.size (.slice Av ln cvv) l) := Lib.hid (by rw [hw5]; exact HO0.out.gr GX0.out)
      rw [hgX]
      clear hw5 hgX HSX GT0 HO0 GX0 HE wt0
      by_cases he3 : e3 = 0
      · subst he3
        clear HSP
        rcases HO.out with ⟨hvn, rfl⟩ | ⟨g, hgB, hog⟩
        · cases hvn
          have HA : Hid (Gr wt (wt.alloc (.cells x.cells 23))) := Lib.hid ((Gr.rfl' _).al _)
          have HNW := Lib.hid (opNew wt x)
          have HCL : Hid (x.cells.toList = opCells [x]) := Lib.hid (by simp [opCells])
          have HO1 : Hid (∀ u ∈ x.cells.toList, u.oneCell' = true) := Lib.hid (by rw [HCL.out]; exact opOne [x])
          have HGA : Hid (Gr w (wt.alloc (.cells x.cells 23))) := Lib.hid (GT.out.tr HA.out)
          have HSA := Lib.hid (HS.out.gr HA.out)
          have hwsz : wr.heap.size < wt.heap.size := HS.out.lt
          have hasz : (wt.alloc (.cells x.cells 23)).heap.size = wt.heap.size + 1 := by simp
          have HASZ := Lib.hid hasz
          clear hasz
          obtain ⟨xK, xP, xT, xN, xA, xM, xPa, xDa⟩ := x
          unfold Opx.cells at HA HNW HCL HO1 HGA HSA HASZ HX5
          try dsimp only at HA HNW HCL HO1 HGA HSA HASZ HX5
          go_wp2_with (first | refine wpList_load_row rfl 23 _ rfl gX rfl 23 #[.int .i64 xK, .int .i64 xP, .int .i64 xT, .int .i64 xN, .int .i64 xA, .int .i64 xM, .string xPa, .string xDa] (0, 0) _ HX5.out Tryd.underlying23 rfl (by kernel_rfl) ?_ | (at_builtin; go_loud (refine wp_appendN rfl _ _ 28 rfl 23 i0 (.agg Z8) 8 80 Tryd.underlying28 hi hz0 hzs hz2 rfl (by decide) rfl ⟨_, 0, none⟩ 1 1 _ rfl rfl HNW.out HO1.out (by decide) (by decide) (by decide) ?_); intro v' w4 g' hown' hg' hgrow; obtain ⟨cq, hcq, _, _⟩ := hown'.shape; subst hcq; have hgq : Gr (wt.alloc (.cells #[.int .i64 xK, .int .i64 xP, .int .i64 xT, .int .i64 xN, .int .i64 xA, .int .i64 xM, .string xPa, .string xDa] 23)) w4 := ⟨hgrow.os, hgrow.tape, hgrow.output, hgrow.size, fun k hk => hgrow.block k hk (by simp)⟩; have GT4 := Lib.hid (HGA.out.tr hgq); have HS4 := Lib.hid (HSA.out.gr hgq); have HO4 : Hid (OwnO w4 w.heap.size _ (([] : List Opx) ++ [⟨xK, xP, xT, xN, xA, xM, xPa, xDa⟩])) := Lib.hid (Or.inr ⟨g', by have := HASZ.out; omega, by rw [HCL.out] at hown'; exact hown'⟩); clear hown' hg' hgrow hgq; have HLF := Lib.hid (Left_any wr.heap.size S3 0 w4 HS4.out)))
          go_wp2_with fail
          refine (HLF.out).mono ?_
          rintro r w5 ⟨rfl, hw5⟩
          rw [hw5]
          clear hw5 w5 HLF
          have hsl : Value.string (S2.extract (S2.size - S3.size) S2.size) = .string S3 := by rw [show S2.extract (S2.size - S3.size) S2.size = S3 from HSF.out.2.symm]
          go_wp2
          go_roundw
          case rel => exact ⟨([] : List Opx) ++ [⟨xK, xP, xT, xN, xA, xM, xPa, xDa⟩], S3, by simp; try omega, by first | rfl | exact hsl, Lib.hid (by have h := HST.out (by trivial); rw [HRG.out] at h; simpa using h.symm), by omega, Lib.hid (txSnoc HTX.out HX1.out), by simpa using HO4, GT4⟩
          case measure => simp [slLen]; try omega
        · have HA : Hid (Gr wt (wt.alloc (.cells x.cells 23))) := Lib.hid ((Gr.rfl' _).al _)
          have HOG := Lib.hid (hog.gr HA.out)
          obtain ⟨cv, hcv, _, _⟩ := hog.shape
          cases hcv
          have hgw : g < wr.heap.size := HGL.out _ rfl
          have HNW := Lib.hid (opNew wt x)
          have HCL : Hid (x.cells.toList = opCells [x]) := Lib.hid (by simp [opCells])
          have HO1 : Hid (∀ u ∈ x.cells.toList, u.oneCell' = true) := Lib.hid (by rw [HCL.out]; exact opOne [x])
          have HGA : Hid (Gr w (wt.alloc (.cells x.cells 23))) := Lib.hid (GT.out.tr HA.out)
          have HSA := Lib.hid (HS.out.gr HA.out)
          have hwsz : wr.heap.size < wt.heap.size := HS.out.lt
          have hasz : (wt.alloc (.cells x.cells 23)).heap.size = wt.heap.size + 1 := by simp
          have HASZ := Lib.hid hasz
          clear hasz
          obtain ⟨xK, xP, xT, xN, xA, xM, xPa, xDa⟩ := x
          unfold Opx.cells at HA HNW HCL HO1 HGA HSA HASZ HX5 HOG
          try dsimp only at HA HNW HCL HO1 HGA HSA HASZ HX5 HOG
          go_wp2_with (first | refine wpList_load_row rfl 23 _ rfl gX rfl 23 #[.int .i64 xK, .int .i64 xP, .int .i64 xT, .int .i64 xN, .int .i64 xA, .int .i64 xM, .string xPa, .string xDa] (0, 0) _ HX5.out Tryd.underlying23 rfl (by kernel_rfl) ?_ | (at_builtin; go_loud (refine wp_appendG rfl _ _ 28 rfl 23 i0 (.agg Z8) 8 80 Tryd.underlying28 hi hz0 hzs hz2 rfl (by decide) g _ _ _ rfl HOG.out ⟨_, 0, none⟩ 1 1 _ rfl rfl HNW.out HO1.out (by simp only [maxLen]; omega) (by omega) ?_); intro v' w4 g' hown' hg' hgrow; obtain ⟨cq, hcq, _, _⟩ := hown'.shape; subst hcq; have GT4 := Lib.hid (HGA.out.grown hgrow HGA.out.size (fun j e => by cases e; omega)); have HS4 : Hid (Sr 75 wr.heap.size _ _ w4) := Lib.hid ((hgrow.block wr.heap.size (by have := HSA.out.lt; exact this) (fun e => by cases e; omega)).trans HSA.out); have HO4 : Hid (OwnO w4 w.heap.size _ (l ++ [⟨xK, xP, xT, xN, xA, xM, xPa, xDa⟩])) := Lib.hid (Or.inr ⟨g', by have := HASZ.out; rcases hg' with rfl | hg' <;> omega, by rw [HCL.out] at hown'; rw [opCells_app]; simpa using hown'⟩); clear hown' hg' hgrow; have HLF := Lib.hid (Left_any wr.heap.size S3 0 w4 HS4.out)))
          go_wp2_with fail
          refine (HLF.out).mono ?_
          rintro r w5 ⟨rfl, hw5⟩
          rw [hw5]
          clear hw5 w5 HLF
          have hsl : Value.string (S2.extract (S2.size - S3.size) S2.size) = .string S3 := by rw [show S2.extract (S2.size - S3.size) S2.size = S3 from HSF.out.2.symm]
          go_wp2
          go_roundw
          case rel => exact ⟨l ++ [⟨xK, xP, xT, xN, xA, xM, xPa, xDa⟩], S3, by simp; try omega, by first | rfl | exact hsl, Lib.hid (by have h := HST.out (by trivial); rw [HRG.out] at h; simpa using h.symm), by omega, Lib.hid (txSnoc HTX.out HX1.out), by simpa using HO4, GT4⟩
          case measure => simp [slLen]; try omega
      · have HV : Hid (firstS S = (l, S2)) := Lib.hid (by rw [← HRG.out, HSP.out he3])
        go_wp2
        refine bodyPost_ret (v := .tuple #[.slice Av ln cvv, .int .i64 ((S.size : Int) - S2.size)]) (by simp [results, Tryd.results15, go_sem]) rfl ?_
        rw [HV.out]
        exact ⟨⟨_, rfl, HO.out⟩, GT.out⟩
    · have hki : ¬ (ln : Int) < 400 := by have := HLN.out; omega
      have HV : Hid (firstS S = (l, S2)) := Lib.hid (by have h := HRG.out; rw [show 400 - l.length = 0 by omega] at h; exact h.symm)
      go_wp2
      refine bodyPost_ret (v := .tuple #[.slice Av ln cvv, .int .i64 ((S.size : Int) - S2.size)]) (by simp [results, Tryd.results15, go_sem]) rfl ?_
      rw [HV.out]
      exact ⟨⟨_, rfl, HO.out⟩, HG.out⟩
end Go.Proofs.YtjjdgmabgiembaaDoor
