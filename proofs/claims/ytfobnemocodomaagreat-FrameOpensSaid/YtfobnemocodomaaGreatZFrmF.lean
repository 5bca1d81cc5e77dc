/- frame.Open: the other steps. -/
import Derived.Test.YtfobnemocodomaaGreatZFrmE
set_option linter.unusedVariables false
set_option linter.unusedSimpArgs false
set_option maxHeartbeats 4000000
namespace Go.Proofs.YtfobnemocodomaaGreat
open Go.RowKit Go.Shelf Go.Great

def HeadR (o : Nat) (t : ByteArray) (x : Mx) (W : World) (e : Ending) (w' : World) : Prop := e = .returned (.int .i64 (hdE t)) ∧ (hdE t = 0 → OAt w' o (restT t) x) ∧ Rm o W w'
set_option maxRecDepth 100000 in
theorem stHead_any (o : Nat) (t : ByteArray) (x : Mx) (W : World) (h : OAt W o t x) (ht : t.size ≤ 9223372036854775807) :
    Calls Tryz.prog 89 #[.pointer (some ⟨o, 0, none⟩)] W fun e w' => HeadR o t x W e w' := by
  obtain ⟨c0, f0⟩ := h.cell
  have HO := Lib.hid h
  clear h
  by_cases h3 : t.size < 3
  · have h3i : (t.size : Int) ≤ 2 := by omega
    have HV : Hid (hdE t = 5) := Lib.hid (by unfold hdE; rw [dif_pos h3])
    clear h3
    go_enter Tryz.func89, Tryz.ntmps89
    go_wp2
    go_ret
    exact ⟨by rw [HV.out]; rfl, (fun h => by rw [HV.out] at h; cases h), Rm.refl _ _⟩
  have h3i : ¬ (t.size : Int) ≤ 2 := by omega
  have hz0 : 0 < t.size := by omega
  have hz1 : 1 < t.size := by omega
  have hz2 : 2 < t.size := by omega
  have hE : hdE t = if t[0] ≠ 104 ∨ t[1] ≠ 115 then 7 else if t[2] ≠ 1 then 15 else 0 := by unfold hdE; rw [dif_neg h3]
  have HE := Lib.hid hE
  have h2e := ext2 t (by omega)
  clear hE
  by_cases p : t[0] = 104 ∧ t[1] = 115; rotate_left
  · have HV : Hid (hdE t = 7) := Lib.hid (by
      rw [HE.out, if_pos]
      by_cases p0 : t[0] = 104
      · exact Or.inr (fun k => p ⟨p0, k⟩)
      · exact Or.inl p0)
    have hn : ¬ (t.extract 0 2).toList = [104, 115] := by
      rw [h2e]
      intro k
      simp only [List.cons.injEq, and_true] at k
      exact p k
    have hnb : ((t.extract 0 2).toList == [104, 115]) = false := by simpa using hn
    clear p h2e
    go_enter Tryz.func89, Tryz.ntmps89
    go_wp2
    go_ret
    exact ⟨by rw [HV.out]; rfl, (fun h => by rw [HV.out] at h; cases h), Rm.refl _ _⟩
  have hn : (t.extract 0 2).toList = [104, 115] := by rw [h2e, p.1, p.2]
  clear h2e
  by_cases p2 : t[2] = 1; rotate_left
  · have q0 := u8ne (n := 1) (by decide) p2
    have HV : Hid (hdE t = 15) := Lib.hid (by
      rw [HE.out, if_neg (by rintro (k | k); exact k p.1; exact k p.2), if_pos p2])
    clear p p2
    go_enter Tryz.func89, Tryz.ntmps89
    go_wp2
    go_ret
    exact ⟨by rw [HV.out]; rfl, (fun h => by rw [HV.out] at h; cases h), Rm.refl _ _⟩
  have e2 : ((t[2].toNat : Nat) : Int) = 1 := by rw [p2]; rfl
  have HV : Hid (hdE t = 0) := Lib.hid (by
    rw [HE.out, if_neg (by rintro (k | k); exact k p.1; exact k p.2), if_neg (by simpa using p2)])
  have hrs : t.extract 3 t.size = restT t := rfl
  have HRS := Lib.hid hrs
  clear p p2 hrs
  go_enter Tryz.func89, Tryz.ntmps89
  go_wp2
  go_ret
  exact ⟨by rw [HV.out]; rfl, (fun _ => HO.out.put), rm_set0 _ _ _⟩
def TextR (o : Nat) (q : ByteArray) (x : Mx) (W : World) (e : Ending) (w' : World) : Prop := e = .returned (.int .i64 (openB q).2) ∧ OAt w' o (openB q).1 x ∧ Rm o W w'
set_option maxRecDepth 100000 in
theorem stText_any (o : Nat) (q : ByteArray) (x : Mx) (W : World) (h : OAt W o q x) (hq : q.size ≤ 9223372036854775807) :
    Calls Tryz.prog 90 #[.pointer (some ⟨o, 0, none⟩)] W fun e w' => TextR o q x W e w' := by
  obtain ⟨c0, f0⟩ := h.cell
  have HO := Lib.hid h
  have HOL := Lib.hid (Array.getElem?_eq_some_iff.1 h).1
  have HNW := Lib.hid (New_any q W)
  have HQ := Lib.hid hq
  have HPB : Hid (openB q = ((txtM 131072 q 0).1, rdDone (txtM 131072 q 0).2.1 (txtM 131072 q 0).2.2)) := Lib.hid rfl
  clear h hq
  have hga : Gr W (W.alloc (.cells #[.string q, .int .i64 0] 109)) := (Gr.rfl' W).al _
  have HGA := Lib.hid hga
  have HSR : Hid (Sr 109 W.heap.size q 0 (W.alloc (.cells #[.string q, .int .i64 0] 109))) := Lib.hid (Sr.made W _ q)
  obtain ⟨b, hb⟩ : ∃ b, W.heap.size = b := ⟨_, rfl⟩
  have HBB := Lib.hid hb
  obtain ⟨W1, hW1⟩ : ∃ W1, W.alloc (.cells #[.string q, .int .i64 0] 109) = W1 := ⟨_, rfl⟩
  rw [hW1] at HGA HSR HNW
  rw [hb] at HSR HNW
  clear hga hW1 hb
  have HTX := Lib.hid (dText_any b 131072 q 0 W1 HSR.out HQ.out)
  obtain ⟨p, s2, hp⟩ : ∃ p s2, txtM 131072 q 0 = (p, s2) := ⟨_, _, rfl⟩
  simp only [hp] at HTX HPB
  clear hp
  go_enter Tryz.func90, Tryz.ntmps90
  go_wp2_with fail
  refine (HNW.out).mono ?_
  rintro e wn ⟨rfl, rfl⟩
  go_wp2_with fail
  refine (HTX.out).mono ?_
  rintro e w2 ⟨rfl, h2, m2⟩
  have HR2 := Lib.hid h2
  have HG2 : Hid (Gr W w2) := Lib.hid (m2.below HGA.out (Nat.le_of_eq HBB.out))
  have HO2 := Lib.hid (HO.out.gr HG2.out)
  have HBO : Hid (b ≠ o) := Lib.hid (by have := HBB.out; have := HOL.out; omega)
  clear h2 m2 HTX HNW HSR HGA c0 f0
  obtain ⟨c0, f0⟩ := HO2.out.cell
  go_upto_region 3 with (fail)
  have HR3 := Lib.hid (HR2.out.setO HBO.out 0 (.string p))
  have HO3 := Lib.hid (HO2.out.put (q := p))
  have HM3 := Lib.hid ((Rm.of (c := o) HG2.out).trans (rm_set0 o (.string p) w2))
  clear c0 f0
  generalize w2.setCell ⟨o, 0, none⟩ (.string p) = w3 at HR3 HO3 HM3 ⊢
  go_wp2_with fail
  refine (dDone_any b s2.1 s2.2 w3 HR3.out).mono ?_
  rintro e w4 ⟨rfl, rfl⟩
  go_wp2
  go_ret
  exact ⟨by rw [HPB.out]; rfl, by rw [HPB.out]; exact HO3.out, HM3.out⟩
def RdStR (o : Nat) (p : ByteArray) (W : World) (r : Ending) (w' : World) : Prop := ∃ y e, r = .returned (.int .i64 e) ∧ (mst y, e) = readM p ∧ y.R.length = 32 ∧ OAt w' o p y ∧ (∀ W2 : World, (∀ j, W.heap.size ≤ j → j < w'.heap.size → W2.heap[j]? = w'.heap[j]?) → MxOk W2 y) ∧ Rm o W w'
set_option maxRecDepth 100000 in
theorem stRead_any (o : Nat) (p : ByteArray) (x : Mx) (W : World) (h : OAt W o p x) (hx : x.R.length = 32) (hp : p.size ≤ 9223372036854775807) (hP : Pt.Mx W) :
    Calls Tryz.prog 91 #[.pointer (some ⟨o, 0, none⟩)] W fun e w' => RdStR o p W e w' := by
  obtain ⟨c0, f0⟩ := h.cell
  have HO := Lib.hid h
  have HOL := Lib.hid (Array.getElem?_eq_some_iff.1 h).1
  have HXD := Lib.hid hx
  have HRD := Lib.hid (mReadN_any p W hp hP)
  clear h hx hp hP
  go_enter Tryz.func91, Tryz.ntmps91
  go_wp2_with fail
  refine (HRD.out).mono ?_
  rintro r w1 ⟨y, e, rfl, hm, ho, hg, hcl⟩
  have HM := Lib.hid hm
  have HCL := Lib.hid hcl
  have HD := Lib.hid ho.dig
  have HO1 := Lib.hid (HO.out.gr hg)
  have HG1 := Lib.hid hg
  clear hm hcl ho hg HRD c0 f0 HO
  go_upto_region 2 with (first
    | refine allocM rfl rfl ?_
    | (refine storeM y HD.out rfl (.tmp 3) _ rfl rfl rfl rfl ?_; intro w2 hx1 hg1; have HX2 := Lib.hid hx1; have HG2 := Lib.hid hg1; clear hx1 hg1))
  obtain ⟨b2, hb2⟩ : ∃ b2, w1.heap.size = b2 := ⟨_, rfl⟩
  rw [hb2] at HX2 ⊢
  have HO2 := Lib.hid (HO1.out.gr HG2.out)
  clear hb2
  have HTH := Lib.hid (HO2.out.there HXD.out HD.out)
  have HSY := Lib.hid (Mx.size y HD.out)
  go_upto_region 3 with (first
    | ((with_reducible refine at_ld 37 (.tmp 3) ?_); refine loadM y HD.out rfl (.tmp 3) rfl b2 rfl HX2.out ?_)
    | ((with_reducible refine at_st 37 _ _ ?_); refine wpList_store_mid rfl 37 _ _ rfl o 1 y.cells rfl rfl HTH.out (by rw [HSY.out]; exact sizeM) (mOne y) ?_))
  have HO3 := Lib.hid (HO2.out.putX HXD.out HD.out)
  have HM3 := Lib.hid (((Rm.of (c := o) (HG1.out.tr HG2.out))).trans (rm_cells o 1 y.cells.toList w2))
  have HC3 : Hid (∀ W2 : World, (∀ j, W.heap.size ≤ j → j < (w2.setCells o 1 y.cells.toList).heap.size → W2.heap[j]? = (w2.setCells o 1 y.cells.toList).heap[j]?) → MxOk W2 y) := Lib.hid (fun W2 k => HCL.out W2 (fun j h1 h2 => by
    have h3 : j < w2.heap.size := Nat.lt_of_lt_of_le h2 HG2.out.size
    have h4 : j ≠ o := by have := HOL.out; omega
    rw [k j h1 (by rw [rg_size]; exact h3), rg_other h4, HG2.out.block j h2]))
  generalize w2.setCells o 1 y.cells.toList = w3 at HO3 HM3 HC3 ⊢
  go_wp2
  go_ret
  exact ⟨y, e, rfl, HM.out, HD.out, HO3.out, HC3.out, HM3.out⟩
def stepsC : Array Value := #[.func (.func 87) #[] #[], .func (.func 88) #[] #[], .func (.func 89) #[] #[], .func (.func 90) #[] #[], .func (.func 91) #[] #[]]
set_option maxRecDepth 100000 in
theorem steps_any (W : World) : Calls Tryz.prog 57 #[] W fun r w' => r = .returned (.slice (some ⟨W.heap.size, 0, none⟩) 5 5) ∧ w' = W.alloc (.cells stepsC 101) := by
  go_enter Tryz.func57, Tryz.ntmps57
  go_wp2
  go_ret
  exact ⟨rfl, rfl⟩
end Go.Proofs.YtfobnemocodomaaGreat
