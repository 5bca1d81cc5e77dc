/- Joined texts: FrmD FrmE FrmF. -/
import Derived.Test.YtfobnemocodomaaGreatZBz
import Derived.Test.YtfobnemocodomaaGreatZMrF
set_option linter.unusedVariables false
set_option linter.unusedSimpArgs false
set_option maxHeartbeats 4000000
namespace Go.Proofs.YtfobnemocodomaaGreat
open Go.RowKit Go.Shelf Go.Great

/-- what is wrong with a frame's head -/
def hdE (t : ByteArray) : Int := if h : t.size < 3 then 5 else if t[0] ≠ 104 ∨ t[1] ≠ 115 then 7 else if t[2] ≠ 1 then 15 else 0
def restT (t : ByteArray) : ByteArray := t.extract 3 t.size
/-- the message's bytes in a frame, or what is wrong -/
def openB (r : ByteArray) : ByteArray × Int := ((txtM 131072 r 0).1, rdDone (txtM 131072 r 0).2.1 (txtM 131072 r 0).2.2)
def openM (S : ByteArray) : Mx × Int :=
  if 131072 < S.size then (zMx, 2) else if (unsV S).2 = false then (zMx, 9) else if hdE (unsV S).1 ≠ 0 then (zMx, hdE (unsV S).1)
  else if (openB (restT (unsV S).1)).2 ≠ 0 then (zMx, (openB (restT (unsV S).1)).2) else readM (openB (restT (unsV S).1)).1
/-- what an opening comes to -/
def OpenR (S : ByteArray) (w : World) (r : Ending) (w' : World) : Prop := ∃ y e, r = .returned (.tuple #[.agg y.cells, .int .i64 e]) ∧ (mst y, e) = openM S ∧ MxOk w' y ∧ Gr w w'
theorem unsV_sz (S : ByteArray) : (unsV S).1.size ≤ S.size := by
  unfold unsV
  split
  · show (⟨#[]⟩ : ByteArray).size ≤ _; exact Nat.zero_le _
  · split
    · show (S.extract 0 (S.size - 4)).size ≤ _; rw [ByteArray.size_extract]; omega
    · show (⟨#[]⟩ : ByteArray).size ≤ _; exact Nat.zero_le _
theorem u8ne {a : UInt8} {n : Nat} (hn : n < 256) (h : a ≠ UInt8.ofNat n) : (((a.toNat : Nat) : Int) != (n : Int)) = true := by
  simp only [bne_iff_ne, ne_eq]
  intro k
  apply h
  have k' : a.toNat = n := by omega
  rw [← k']; simp
set_option maxRecDepth 100000 in
theorem rfOpen_any (S : ByteArray) (w : World) (hS : S.size ≤ 9223372036854775807) :
    Calls Tryz.prog 23 #[.string S] w fun r w' => OpenR S w r w' := by
  obtain ⟨W0, hW0⟩ : ∃ W0, w.alloc (.cells zMx.cells 37) = W0 := ⟨_, rfl⟩
  have HRX : Hid (MAt W0 w.heap.size zMx) := Lib.hid (by rw [← hW0]; exact World.alloc_heap_new w _)
  have HGX : Hid (Gr w W0) := Lib.hid (by rw [← hW0]; exact (Gr.rfl' w).al _)
  by_cases hbig : 131072 < S.size
  · have hbi : (131072 : Int) < S.size := by omega
    have HV : Hid (openM S = (zMx, 2)) := Lib.hid (if_pos hbig)
    clear hbig
    go_enter Tryz.func23, Tryz.ntmps23
    go_wp2_with (first
      | refine allocM rfl rfl ?_
      | refine buildZM rfl rfl ?_
      | ((with_reducible refine at_st 37 _ _ ?_); refine storeMR zMx zMx Z32L_len Z32L_len w.heap.size rfl _ _ rfl rfl rfl rfl HRX.out ?_; intro wz hz1 hz2; have HZ1 := Lib.hid hz1; have HZ2 := Lib.hid hz2; clear hz1 hz2))
    have hld := ldMsg HZ1.out Z32L_len
    refine bodyPost_ret (v := .tuple #[.agg zMx.cells, .int .i64 2]) ?_ rfl ?_
    · simp [results, Tryz.results23, Act.put, asAR, hld]
    exact ⟨zMx, 2, rfl, by rw [HV.out]; rfl, zMx_ok _, HZ2.out.below HGX.out (Nat.le_refl _)⟩
  have hbi : ¬ (131072 : Int) < S.size := by omega
  have HBG := Lib.hid hbig
  have HCO := Lib.hid (rOpen_any S W0 hS)
  have HTS := Lib.hid (unsV_sz S)
  obtain ⟨t, ok, hu⟩ : ∃ t ok, unsV S = (t, ok) := ⟨_, _, rfl⟩
  have HU := Lib.hid hu
  simp only [hu] at HCO HTS
  clear hu hbig
  cases ok with
  | false =>
    have HV : Hid (openM S = (zMx, 9)) := Lib.hid (by unfold openM; rw [if_neg HBG.out, HU.out, if_pos rfl])
    go_enter Tryz.func23, Tryz.ntmps23
    go_wp2_with (first | refine allocM rfl rfl ?_)
    refine (HCO.out).mono ?_
    rintro r w1 ⟨rfl, g1⟩
    replace HRX := Lib.hid (mat_gr HRX.out g1)
    replace HGX := Lib.hid (HGX.out.tr g1)
    clear g1 HCO hW0
    go_wp2_with (first
      | refine buildZM rfl rfl ?_
      | ((with_reducible refine at_st 37 _ _ ?_); refine storeMR zMx zMx Z32L_len Z32L_len w.heap.size rfl _ _ rfl rfl rfl rfl HRX.out ?_; intro wz hz1 hz2; have HZ1 := Lib.hid hz1; have HZ2 := Lib.hid hz2; clear hz1 hz2))
    have hld := ldMsg HZ1.out Z32L_len
    refine bodyPost_ret (v := .tuple #[.agg zMx.cells, .int .i64 9]) ?_ rfl ?_
    · simp [results, Tryz.results23, Act.put, asAR, hld]
    exact ⟨zMx, 9, rfl, by rw [HV.out]; rfl, zMx_ok _, HZ2.out.below HGX.out (Nat.le_refl _)⟩
  | true =>
    have HO : Hid (openM S = if hdE t ≠ 0 then (zMx, hdE t) else if (openB (restT t)).2 ≠ 0 then (zMx, (openB (restT t)).2) else readM (openB (restT t)).1) := Lib.hid (by unfold openM; rw [if_neg HBG.out, HU.out, if_neg (by simp)])
    by_cases h3 : t.size < 3
    · have h3i : (t.size : Int) < 3 := by omega
      have HV : Hid (openM S = (zMx, 5)) := Lib.hid (by
        have e : hdE t = 5 := by unfold hdE; rw [dif_pos h3]
        rw [HO.out, e, if_pos (by decide)])
      clear h3
      go_enter Tryz.func23, Tryz.ntmps23
      go_wp2_with (first | refine allocM rfl rfl ?_)
      refine (HCO.out).mono ?_
      rintro r w1 ⟨rfl, g1⟩
      replace HRX := Lib.hid (mat_gr HRX.out g1)
      replace HGX := Lib.hid (HGX.out.tr g1)
      clear g1 HCO hW0
      go_wp2_with (first
        | refine buildZM rfl rfl ?_
        | ((with_reducible refine at_st 37 _ _ ?_); refine storeMR zMx zMx Z32L_len Z32L_len w.heap.size rfl _ _ rfl rfl rfl rfl HRX.out ?_; intro wz hz1 hz2; have HZ1 := Lib.hid hz1; have HZ2 := Lib.hid hz2; clear hz1 hz2))
      have hld := ldMsg HZ1.out Z32L_len
      refine bodyPost_ret (v := .tuple #[.agg zMx.cells, .int .i64 5]) ?_ rfl ?_
      · simp [results, Tryz.results23, Act.put, asAR, hld]
      exact ⟨zMx, 5, rfl, by rw [HV.out]; rfl, zMx_ok _, HZ2.out.below HGX.out (Nat.le_refl _)⟩
    have h3i : ¬ (t.size : Int) < 3 := by omega
    have hz0 : 0 < t.size := by omega
    have hz1 : 1 < t.size := by omega
    have hz2 : 2 < t.size := by omega
    have hE : hdE t = if t[0] ≠ 104 ∨ t[1] ≠ 115 then 7 else if t[2] ≠ 1 then 15 else 0 := by unfold hdE; rw [dif_neg h3]
    have HE := Lib.hid hE
    clear hE
    by_cases p0 : t[0] = 104; rotate_left
    · have q0 := u8ne (n := 104) (by decide) p0
      have HV : Hid (openM S = (zMx, 7)) := Lib.hid (by
        rw [HO.out, HE.out, if_pos (Or.inl p0), if_pos (by decide)])
      clear p0
      go_enter Tryz.func23, Tryz.ntmps23
      go_wp2_with (first | refine allocM rfl rfl ?_)
      refine (HCO.out).mono ?_
      rintro r w1 ⟨rfl, g1⟩
      replace HRX := Lib.hid (mat_gr HRX.out g1)
      replace HGX := Lib.hid (HGX.out.tr g1)
      clear g1 HCO hW0
      go_wp2_with (first
        | refine buildZM rfl rfl ?_
        | ((with_reducible refine at_st 37 _ _ ?_); refine storeMR zMx zMx Z32L_len Z32L_len w.heap.size rfl _ _ rfl rfl rfl rfl HRX.out ?_; intro wz hz1 hz2; have HZ1 := Lib.hid hz1; have HZ2 := Lib.hid hz2; clear hz1 hz2))
      have hld := ldMsg HZ1.out Z32L_len
      refine bodyPost_ret (v := .tuple #[.agg zMx.cells, .int .i64 7]) ?_ rfl ?_
      · simp [results, Tryz.results23, Act.put, asAR, hld]
      exact ⟨zMx, 7, rfl, by rw [HV.out]; rfl, zMx_ok _, HZ2.out.below HGX.out (Nat.le_refl _)⟩
    have e0 : ((t[0].toNat : Nat) : Int) = 104 := by rw [p0]; rfl
    by_cases p1 : t[1] = 115; rotate_left
    · have q0 := u8ne (n := 115) (by decide) p1
      have HV : Hid (openM S = (zMx, 7)) := Lib.hid (by
        rw [HO.out, HE.out, if_pos (Or.inr p1), if_pos (by decide)])
      clear p1 p0
      go_enter Tryz.func23, Tryz.ntmps23
      go_wp2_with (first | refine allocM rfl rfl ?_)
      refine (HCO.out).mono ?_
      rintro r w1 ⟨rfl, g1⟩
      replace HRX := Lib.hid (mat_gr HRX.out g1)
      replace HGX := Lib.hid (HGX.out.tr g1)
      clear g1 HCO hW0
      go_wp2_with (first
        | refine buildZM rfl rfl ?_
        | ((with_reducible refine at_st 37 _ _ ?_); refine storeMR zMx zMx Z32L_len Z32L_len w.heap.size rfl _ _ rfl rfl rfl rfl HRX.out ?_; intro wz hz1 hz2; have HZ1 := Lib.hid hz1; have HZ2 := Lib.hid hz2; clear hz1 hz2))
      have hld := ldMsg HZ1.out Z32L_len
      refine bodyPost_ret (v := .tuple #[.agg zMx.cells, .int .i64 7]) ?_ rfl ?_
      · simp [results, Tryz.results23, Act.put, asAR, hld]
      exact ⟨zMx, 7, rfl, by rw [HV.out]; rfl, zMx_ok _, HZ2.out.below HGX.out (Nat.le_refl _)⟩
    have e1 : ((t[1].toNat : Nat) : Int) = 115 := by rw [p1]; rfl
    by_cases p2 : t[2] = 1; rotate_left
    · have q0 := u8ne (n := 1) (by decide) p2
      have HV : Hid (openM S = (zMx, 15)) := Lib.hid (by
        have e : hdE t = 15 := by rw [HE.out, if_neg (by rintro (k | k); exact k p0; exact k p1), if_pos p2]
        rw [HO.out, e, if_pos (by decide)])
      clear p2 p1 p0
      go_enter Tryz.func23, Tryz.ntmps23
      go_wp2_with (first | refine allocM rfl rfl ?_)
      refine (HCO.out).mono ?_
      rintro r w1 ⟨rfl, g1⟩
      replace HRX := Lib.hid (mat_gr HRX.out g1)
      replace HGX := Lib.hid (HGX.out.tr g1)
      clear g1 HCO hW0
      go_wp2_with (first
        | refine buildZM rfl rfl ?_
        | ((with_reducible refine at_st 37 _ _ ?_); refine storeMR zMx zMx Z32L_len Z32L_len w.heap.size rfl _ _ rfl rfl rfl rfl HRX.out ?_; intro wz hz1 hz2; have HZ1 := Lib.hid hz1; have HZ2 := Lib.hid hz2; clear hz1 hz2))
      have hld := ldMsg HZ1.out Z32L_len
      refine bodyPost_ret (v := .tuple #[.agg zMx.cells, .int .i64 15]) ?_ rfl ?_
      · simp [results, Tryz.results23, Act.put, asAR, hld]
      exact ⟨zMx, 15, rfl, by rw [HV.out]; rfl, zMx_ok _, HZ2.out.below HGX.out (Nat.le_refl _)⟩
    have e2 : ((t[2].toNat : Nat) : Int) = 1 := by rw [p2]; rfl
    have HO2 : Hid (openM S = if (openB (restT t)).2 ≠ 0 then (zMx, (openB (restT t)).2) else readM (openB (restT t)).1) := Lib.hid (by
      have e : hdE t = 0 := by rw [HE.out, if_neg (by rintro (k | k); exact k p0; exact k p1), if_neg (by simpa using p2)]
      rw [HO.out, e, if_neg (by simp)])
    clear p0 p1 p2 HE HO
    have hrs : t.extract 3 t.size = restT t := rfl
    have HRZ : Hid ((restT t).size ≤ 9223372036854775807) := Lib.hid (by unfold restT; rw [ByteArray.size_extract]; have := HTS.out; omega)
    obtain ⟨q, hq⟩ : ∃ q, restT t = q := ⟨_, rfl⟩
    rw [hq] at hrs HO2 HRZ
    have HRS := Lib.hid hrs
    clear hq hrs
    have HPB : Hid (openB q = ((txtM 131072 q 0).1, rdDone (txtM 131072 q 0).2.1 (txtM 131072 q 0).2.2)) := Lib.hid rfl
    go_enter Tryz.func23, Tryz.ntmps23
    go_wp2_with (first | refine allocM rfl rfl ?_)
    refine (HCO.out).mono ?_
    rintro r w1 ⟨rfl, g1⟩
    replace HRX := Lib.hid (mat_gr HRX.out g1)
    replace HGX := Lib.hid (HGX.out.tr g1)
    clear g1 HCO hW0
    go_upto_region 13 with (fail)
    rw [HRS.out]
    have HSR : Hid (Sr 66 w1.heap.size q 0 (w1.alloc (.cells #[.string q, .int .i64 0] 66))) := Lib.hid (Sr.made w1 _ q)
    have hgb : Gr w1 (w1.alloc (.cells #[.string q, .int .i64 0] 66)) := (Gr.rfl' _).al _
    have HRXo := HRX
    replace HRX := Lib.hid (mat_gr HRX.out hgb)
    have HGX2 := Lib.hid (HGX.out.tr hgb)
    obtain ⟨b, hb⟩ : ∃ b, w1.heap.size = b := ⟨_, rfl⟩
    have HBB : Hid (w.heap.size < b) := Lib.hid (by have := (Array.getElem?_eq_some_iff.1 HRXo.out).1; omega)
    rw [hb] at HSR ⊢
    clear hgb HGX HRXo
    generalize w1.alloc (.cells #[.string q, .int .i64 0] 66) = w2 at HSR HRX HGX2 ⊢
    clear hb
    have HTX := Lib.hid (sText_any b 131072 q 0 w2 HSR.out HRZ.out)
    have HPS := Lib.hid (Nat.le_trans (txtM_tszR 131072 q 0) HRZ.out)
    obtain ⟨p, s2, hp⟩ : ∃ p s2, txtM 131072 q 0 = (p, s2) := ⟨_, _, rfl⟩
    simp only [hp] at HTX HPS HPB
    clear hp
    go_wp2_with fail
    refine (HTX.out).mono ?_
    rintro r w3 ⟨rfl, h3, m3⟩
    have HR3 := Lib.hid h3
    replace HRX := Lib.hid (mat_rm HRX.out m3 (by have := HBB.out; omega))
    have HGX : Hid (Gr w w3) := Lib.hid (m3.below HGX2.out (by have := HBB.out; omega))
    clear h3 m3 HTX HSR HGX2
    have HDN := Lib.hid (sDone_any b s2.1 s2.2 w3 HR3.out)
    obtain ⟨ev, hev⟩ : ∃ ev, rdDone s2.1 s2.2 = ev := ⟨_, rfl⟩
    rw [hev] at HDN HPB
    clear hev
    go_wp2_with fail
    refine (HDN.out).mono ?_
    rintro r w4 ⟨rfl, rfl⟩
    clear HDN
    by_cases he : ev = 0; rotate_left
    · have heb : (ev != 0) = true := by simpa using he
      have HV : Hid (openM S = (zMx, ev)) := Lib.hid (by rw [HO2.out, HPB.out, if_pos he])
      clear he
      go_wp2_with (first
        | refine buildZM rfl rfl ?_
        | ((with_reducible refine at_st 37 _ _ ?_); refine storeMR zMx zMx Z32L_len Z32L_len w.heap.size rfl _ _ rfl rfl rfl rfl HRX.out ?_; intro wz hz1 hz2; have HZ1 := Lib.hid hz1; have HZ2 := Lib.hid hz2; clear hz1 hz2))
      have hld := ldMsg HZ1.out Z32L_len
      refine bodyPost_ret (v := .tuple #[.agg zMx.cells, .int .i64 ev]) ?_ rfl ?_
      · simp [results, Tryz.results23, Act.put, asAR, hld]
      exact ⟨zMx, ev, rfl, by rw [HV.out]; rfl, zMx_ok _, HZ2.out.below HGX.out (Nat.le_refl _)⟩
    subst he
    have HV : Hid (openM S = readM p) := Lib.hid (by rw [HO2.out, HPB.out, if_neg (by simp)])
    have HRD := Lib.hid (refMReadN_any p w4 HPS.out)
    go_wp2_with fail
    refine (HRD.out).mono ?_
    rintro r w5 ⟨y, e, rfl, hm, ho, hg, hcl⟩
    have HM := Lib.hid hm
    have HCL := Lib.hid hcl
    have HD := Lib.hid ho.dig
    have HLT := Lib.hid (Array.getElem?_eq_some_iff.1 HRX.out).1
    replace HRX := Lib.hid (mat_gr HRX.out hg)
    replace HGX := Lib.hid (HGX.out.tr hg)
    clear hm hcl ho hg HRD
    go_wp2_with (first
      | ((with_reducible refine at_st 37 _ _ ?_); refine storeMR y zMx HD.out Z32L_len w.heap.size rfl _ _ rfl rfl rfl rfl HRX.out ?_; intro wz hz1 hz2; have HZ1 := Lib.hid hz1; have HZ2 := Lib.hid hz2; clear hz1 hz2))
    have hld := ldMsg HZ1.out HD.out
    refine bodyPost_ret (v := .tuple #[.agg y.cells, .int .i64 e]) ?_ rfl ?_
    · simp [results, Tryz.results23, Act.put, asAR, hld]
    exact ⟨y, e, rfl, by rw [HV.out]; exact HM.out, HCL.out _ (fun j h1 h3 => HZ2.out.keep j h3 (by have := HLT.out; omega)), HZ2.out.below HGX.out (Nat.le_refl _)⟩
end Go.Proofs.YtfobnemocodomaaGreat
set_option linter.unusedVariables false
set_option linter.unusedSimpArgs false
set_option maxHeartbeats 4000000
namespace Go.Proofs.YtfobnemocodomaaGreat
open Go.RowKit Go.Shelf Go.Great

def OAt (W : World) (o : Nat) (rest : ByteArray) (x : Mx) : Prop := W.heap[o]? = some (.cells (.string rest :: x.list).toArray 96 (0, 0))
theorem OAt.gr {W W' : World} {o : Nat} {r : ByteArray} {x : Mx} (h : OAt W o r x) (k : Gr W W') : OAt W' o r x := (k.block o (Array.getElem?_eq_some_iff.1 h).1).trans h
theorem OAt.cell {W : World} {o : Nat} {r : ByteArray} {x : Mx} (h : OAt W o r x) : W.cell? ⟨o, 0, none⟩ = some (.string r) ∧ W.frozen? ⟨o, 0, none⟩ = false := by
  have h' : W.heap[o]? = _ := h
  refine ⟨?_, by simp [World.frozen?, h']⟩
  simp only [World.cell?, h']; rfl
theorem OAt.put {W : World} {o : Nat} {r q : ByteArray} {x : Mx} (h : OAt W o r x) : OAt (W.setCell ⟨o, 0, none⟩ (.string q)) o q x := by
  have := heap_set_sameW (o := 0) h (.string q)
  exact this
theorem OAt.out {W : World} {o : Nat} {r : ByteArray} {x : Mx} (h : OAt W o r x) : ∀ j v, x.cells.toList[j]? = some v → W.cell? ((⟨o, 1, none⟩ : Addr).add j) = some v := fun j v hj => by
  rw [add_midM]
  have h' : W.heap[o]? = _ := h
  simp only [World.cell?, h']
  have hj' : x.list[j]? = some v := by simpa [Mx.cells] using hj
  rw [List.getElem?_toArray, show 1 + j = j + 1 by omega, List.getElem?_cons_succ]
  exact hj'
theorem OAt.there {W : World} {o : Nat} {r : ByteArray} {x : Mx} (h : OAt W o r x) (hx : x.R.length = 32) {y : Mx} (hy : y.R.length = 32) : W.there o 1 y.cells.size := fun q hq => by
  have h' : W.heap[o]? = _ := h
  have hs := Mx.size x hx
  have hsy := Mx.size y hy
  have hl : x.list.length = 41 := by simpa [Mx.cells] using hs
  refine ⟨?_, by simp [World.frozen?, h']⟩
  simp only [World.cell?, h']
  rw [List.getElem?_toArray, List.getElem?_eq_getElem (by rw [List.length_cons, hl]; omega)]
  rfl
theorem OAt.putX {W : World} {o : Nat} {r : ByteArray} {x : Mx} (h : OAt W o r x) (hx : x.R.length = 32) {y : Mx} (hy : y.R.length = 32) : OAt (W.setCells o 1 y.cells.toList) o r y := by
  have hl : x.list.length = 41 := by have := Mx.size x hx; simpa [Mx.cells] using this
  have hly : y.list.length = 41 := by have := Mx.size y hy; simpa [Mx.cells] using this
  have hc : y.cells.toList = y.list := by simp [Mx.cells]
  obtain ⟨cs', k1, k2, k3, k4, k5⟩ := rg_same (b := o) (t := 96) (fr := (0, 0)) y.cells.toList 1 W (Value.string r :: x.list).toArray h (by rw [hc, hly]; simp [hl])
  have e : cs' = (.string r :: y.list).toArray := by
    apply Array.ext_getElem?
    intro j
    have er : (Value.string r :: y.list).toArray[j]? = (Value.string r :: y.list)[j]? := List.getElem?_toArray
    rw [er]
    rcases (by omega : j = 0 ∨ 1 ≤ j) with rfl | hj
    · rw [k3 0 (by omega)]; rfl
    · by_cases h2 : j < 42
      · have := k4 (j - 1) (by rw [hc, hly]; omega)
        rw [show 1 + (j - 1) = j by omega, hc] at this
        rw [this]
        obtain ⟨i, rfl⟩ : ∃ i, j = i + 1 := ⟨j - 1, by omega⟩
        rw [List.getElem?_cons_succ]; rfl
      · rw [k5 j (by rw [hc, hly]; omega), List.getElem?_toArray, List.getElem?_eq_none (by rw [List.length_cons, hl]; omega), List.getElem?_eq_none (by rw [List.length_cons, hly]; omega)]
  unfold OAt
  rw [k1, e]
/-- what is left to do -/
def cont3 (q : ByteArray) : Mx × Int := if (openB q).2 ≠ 0 then (zMx, (openB q).2) else readM (openB q).1
def cont2 (t : ByteArray) : Mx × Int := if hdE t ≠ 0 then (zMx, hdE t) else cont3 (restT t)
def cont1 (r : ByteArray) : Mx × Int := if (unsV r).2 = false then (zMx, 9) else cont2 (unsV r).1
theorem openM_cont (S : ByteArray) : openM S = if 131072 < S.size then (zMx, 2) else cont1 S := rfl
set_option maxRecDepth 100000 in
theorem stSize_any (o : Nat) (r : ByteArray) (x : Mx) (W : World) (h : OAt W o r x) :
    Calls Tryz.prog 87 #[.pointer (some ⟨o, 0, none⟩)] W fun e w' => e = .returned (.int .i64 (if 131072 < r.size then 2 else 0)) ∧ w' = W := by
  have c0 := h.cell.1
  clear h
  by_cases hb : 131072 < r.size
  · have hbi : (131072 : Int) < r.size := by omega
    rw [if_pos hb]
    go_enter Tryz.func87, Tryz.ntmps87
    go_wp2
    go_ret
    exact ⟨rfl, rfl⟩
  · have hbi : ¬ (131072 : Int) < r.size := by omega
    rw [if_neg hb]
    go_enter Tryz.func87, Tryz.ntmps87
    go_wp2
    go_ret
    exact ⟨rfl, rfl⟩
theorem rm_set0 (o : Nat) (u : Value) (W : World) : Rm o W (W.setCell ⟨o, 0, none⟩ u) := rm_set o 0 u W
def SumR (o : Nat) (r : ByteArray) (x : Mx) (W : World) (e : Ending) (w' : World) : Prop := ((e = .returned (.int .i64 9) ∧ (unsV r).2 = false) ∨ (e = .returned (.int .i64 0) ∧ (unsV r).2 = true ∧ OAt w' o (unsV r).1 x)) ∧ Rm o W w'
set_option maxRecDepth 100000 in
theorem stSum_any (o : Nat) (r : ByteArray) (x : Mx) (W : World) (h : OAt W o r x) (hr : r.size ≤ 9223372036854775807) :
    Calls Tryz.prog 88 #[.pointer (some ⟨o, 0, none⟩)] W fun e w' => SumR o r x W e w' := by
  have c0 := h.cell.1
  have HO := Lib.hid h
  have HC := Lib.hid (cOpen_any r W hr)
  obtain ⟨t, ok, hu⟩ : ∃ t ok, unsV r = (t, ok) := ⟨_, _, rfl⟩
  have HU := Lib.hid hu
  simp only [hu] at HC
  clear h hu hr
  cases ok with
  | false =>
    go_enter Tryz.func88, Tryz.ntmps88
    go_wp2_with fail
    refine (HC.out).mono ?_
    rintro e w1 ⟨rfl, g1⟩
    go_wp2
    go_ret
    exact ⟨Or.inl ⟨rfl, by rw [HU.out]⟩, Rm.of g1⟩
  | true =>
    go_enter Tryz.func88, Tryz.ntmps88
    go_wp2_with fail
    refine (HC.out).mono ?_
    rintro e w1 ⟨rfl, g1⟩
    have HO1 := Lib.hid (HO.out.gr g1)
    have G1 := Lib.hid g1
    obtain ⟨c1, f1⟩ := HO1.out.cell
    clear g1 HC HO c0
    go_wp2
    go_ret
    exact ⟨Or.inr ⟨rfl, by rw [HU.out], by rw [HU.out]; exact HO1.out.put⟩, (Rm.of G1.out).trans (rm_set0 _ _ _)⟩
theorem ext2 (t : ByteArray) (h : 2 ≤ t.size) : (t.extract 0 2).toList = [t[0], t[1]] := by
  have h2 : (2 : Nat) ≤ t.data.toList.length := by have : t.data.toList.length = t.size := by rw [Lib.size_eq]
                                                   omega
  rw [Lib.toList_data, ByteArray.data_extract]
  have e : (t.data.extract 0 2).toList = t.data.toList.take 2 := by simp
  rw [e]
  match hl : t.data.toList, h2 with
  | a :: b :: l, _ =>
    have ha : t[0] = a := by
      rw [ByteArray.getElem_eq_getElem_data]
      have : t.data[0]? = some a := by rw [← Array.getElem?_toList, hl]; rfl
      exact (Array.getElem?_eq_some_iff.1 this).2
    have hb : t[1] = b := by
      rw [ByteArray.getElem_eq_getElem_data]
      have : t.data[1]? = some b := by rw [← Array.getElem?_toList, hl]; rfl
      exact (Array.getElem?_eq_some_iff.1 this).2
    rw [ha, hb]; rfl
end Go.Proofs.YtfobnemocodomaaGreat
set_option linter.unusedVariables false
set_option linter.unusedSimpArgs false
set_option maxHeartbeats 4000000
namespace Go.Proofs.YtfobnemocodomaaGreat
open Go.RowKit Go.Shelf Go.Great

def HeadR (o : Nat) (t : ByteArray) (x : Mx) (W : World) (e : Ending) (w' : World) : Prop := e = .returned (.int .i64 (hdE t)) ∧ (hdE t = 0 → OAt w' o (restT t) x) ∧ Rm o W w'
set_option maxRecDepth 100000 in
theorem stHead_any (o : Nat) (t : ByteArray) (x : Mx) (W : World) (h : OAt W o t x) (ht : t.size ≤ 9223372036854775807) :
    Calls Tryz.prog 89 #[.pointer (some ⟨o, 0, none⟩)] W fun e w' => HeadR o t x W e w' := by
  obtain ⟨c0, f0⟩ := h.cell
  have HO := Lib.hid h
  clear h
  by_cases h3 : t.size < 3
  · have h3i : (t.size : Int) ≤ 2 := by omega
    have HV : Hid (hdE t = 5) := Lib.hid (by unfold hdE; rw [dif_pos h3])
    clear h3
    go_enter Tryz.func89, Tryz.ntmps89
    go_wp2
    go_ret
    exact ⟨by rw [HV.out]; rfl, (fun h => by rw [HV.out] at h; cases h), Rm.refl _ _⟩
  have h3i : ¬ (t.size : Int) ≤ 2 := by omega
  have hz0 : 0 < t.size := by omega
  have hz1 : 1 < t.size := by omega
  have hz2 : 2 < t.size := by omega
  have hE : hdE t = if t[0] ≠ 104 ∨ t[1] ≠ 115 then 7 else if t[2] ≠ 1 then 15 else 0 := by unfold hdE; rw [dif_neg h3]
  have HE := Lib.hid hE
  have h2e := ext2 t (by omega)
  clear hE
  by_cases p : t[0] = 104 ∧ t[1] = 115; rotate_left
  · have HV : Hid (hdE t = 7) := Lib.hid (by
      rw [HE.out, if_pos]
      by_cases p0 : t[0] = 104
      · exact Or.inr (fun k => p ⟨p0, k⟩)
      · exact Or.inl p0)
    have hn : ¬ (t.extract 0 2).toList = [104, 115] := by
      rw [h2e]
      intro k
      simp only [List.cons.injEq, and_true] at k
      exact p k
    have hnb : ((t.extract 0 2).toList == [104, 115]) = false := by simpa using hn
    clear p h2e
    go_enter Tryz.func89, Tryz.ntmps89
    go_wp2
    go_ret
    exact ⟨by rw [HV.out]; rfl, (fun h => by rw [HV.out] at h; cases h), Rm.refl _ _⟩
  have hn : (t.extract 0 2).toList = [104, 115] := by rw [h2e, p.1, p.2]
  clear h2e
  by_cases p2 : t[2] = 1; rotate_left
  · have q0 := u8ne (n := 1) (by decide) p2
    have HV : Hid (hdE t = 15) := Lib.hid (by
      rw [HE.out, if_neg (by rintro (k | k); exact k p.1; exact k p.2), if_pos p2])
    clear p p2
    go_enter Tryz.func89, Tryz.ntmps89
    go_wp2
    go_ret
    exact ⟨by rw [HV.out]; rfl, (fun h => by rw [HV.out] at h; cases h), Rm.refl _ _⟩
  have e2 : ((t[2].toNat : Nat) : Int) = 1 := by rw [p2]; rfl
  have HV : Hid (hdE t = 0) := Lib.hid (by
    rw [HE.out, if_neg (by rintro (k | k); exact k p.1; exact k p.2), if_neg (by simpa using p2)])
  have hrs : t.extract 3 t.size = restT t := rfl
  have HRS := Lib.hid hrs
  clear p p2 hrs
  go_enter Tryz.func89, Tryz.ntmps89
  go_wp2
  go_ret
  exact ⟨by rw [HV.out]; rfl, (fun _ => HO.out.put), rm_set0 _ _ _⟩
def TextR (o : Nat) (q : ByteArray) (x : Mx) (W : World) (e : Ending) (w' : World) : Prop := e = .returned (.int .i64 (openB q).2) ∧ OAt w' o (openB q).1 x ∧ Rm o W w'
set_option maxRecDepth 100000 in
theorem stText_any (o : Nat) (q : ByteArray) (x : Mx) (W : World) (h : OAt W o q x) (hq : q.size ≤ 9223372036854775807) :
    Calls Tryz.prog 90 #[.pointer (some ⟨o, 0, none⟩)] W fun e w' => TextR o q x W e w' := by
  obtain ⟨c0, f0⟩ := h.cell
  have HO := Lib.hid h
  have HOL := Lib.hid (Array.getElem?_eq_some_iff.1 h).1
  have HNW := Lib.hid (New_any q W)
  have HQ := Lib.hid hq
  have HPB : Hid (openB q = ((txtM 131072 q 0).1, rdDone (txtM 131072 q 0).2.1 (txtM 131072 q 0).2.2)) := Lib.hid rfl
  clear h hq
  have hga : Gr W (W.alloc (.cells #[.string q, .int .i64 0] 109)) := (Gr.rfl' W).al _
  have HGA := Lib.hid hga
  have HSR : Hid (Sr 109 W.heap.size q 0 (W.alloc (.cells #[.string q, .int .i64 0] 109))) := Lib.hid (Sr.made W _ q)
  obtain ⟨b, hb⟩ : ∃ b, W.heap.size = b := ⟨_, rfl⟩
  have HBB := Lib.hid hb
  obtain ⟨W1, hW1⟩ : ∃ W1, W.alloc (.cells #[.string q, .int .i64 0] 109) = W1 := ⟨_, rfl⟩
  rw [hW1] at HGA HSR HNW
  rw [hb] at HSR HNW
  clear hga hW1 hb
  have HTX := Lib.hid (dText_any b 131072 q 0 W1 HSR.out HQ.out)
  obtain ⟨p, s2, hp⟩ : ∃ p s2, txtM 131072 q 0 = (p, s2) := ⟨_, _, rfl⟩
  simp only [hp] at HTX HPB
  clear hp
  go_enter Tryz.func90, Tryz.ntmps90
  go_wp2_with fail
  refine (HNW.out).mono ?_
  rintro e wn ⟨rfl, rfl⟩
  go_wp2_with fail
  refine (HTX.out).mono ?_
  rintro e w2 ⟨rfl, h2, m2⟩
  have HR2 := Lib.hid h2
  have HG2 : Hid (Gr W w2) := Lib.hid (m2.below HGA.out (Nat.le_of_eq HBB.out))
  have HO2 := Lib.hid (HO.out.gr HG2.out)
  have HBO : Hid (b ≠ o) := Lib.hid (by have := HBB.out; have := HOL.out; omega)
  clear h2 m2 HTX HNW HSR HGA c0 f0
  obtain ⟨c0, f0⟩ := HO2.out.cell
  go_upto_region 3 with (fail)
  have HR3 := Lib.hid (HR2.out.setO HBO.out 0 (.string p))
  have HO3 := Lib.hid (HO2.out.put (q := p))
  have HM3 := Lib.hid ((Rm.of (c := o) HG2.out).trans (rm_set0 o (.string p) w2))
  clear c0 f0
  generalize w2.setCell ⟨o, 0, none⟩ (.string p) = w3 at HR3 HO3 HM3 ⊢
  go_wp2_with fail
  refine (dDone_any b s2.1 s2.2 w3 HR3.out).mono ?_
  rintro e w4 ⟨rfl, rfl⟩
  go_wp2
  go_ret
  exact ⟨by rw [HPB.out]; rfl, by rw [HPB.out]; exact HO3.out, HM3.out⟩
def RdStR (o : Nat) (p : ByteArray) (W : World) (r : Ending) (w' : World) : Prop := ∃ y e, r = .returned (.int .i64 e) ∧ (mst y, e) = readM p ∧ y.R.length = 32 ∧ OAt w' o p y ∧ (∀ W2 : World, (∀ j, W.heap.size ≤ j → j < w'.heap.size → W2.heap[j]? = w'.heap[j]?) → MxOk W2 y) ∧ Rm o W w'
set_option maxRecDepth 100000 in
theorem stRead_any (o : Nat) (p : ByteArray) (x : Mx) (W : World) (h : OAt W o p x) (hx : x.R.length = 32) (hp : p.size ≤ 9223372036854775807) (hP : Pt.Mx W) :
    Calls Tryz.prog 91 #[.pointer (some ⟨o, 0, none⟩)] W fun e w' => RdStR o p W e w' := by
  obtain ⟨c0, f0⟩ := h.cell
  have HO := Lib.hid h
  have HOL := Lib.hid (Array.getElem?_eq_some_iff.1 h).1
  have HXD := Lib.hid hx
  have HRD := Lib.hid (mReadN_any p W hp hP)
  clear h hx hp hP
  go_enter Tryz.func91, Tryz.ntmps91
  go_wp2_with fail
  refine (HRD.out).mono ?_
  rintro r w1 ⟨y, e, rfl, hm, ho, hg, hcl⟩
  have HM := Lib.hid hm
  have HCL := Lib.hid hcl
  have HD := Lib.hid ho.dig
  have HO1 := Lib.hid (HO.out.gr hg)
  have HG1 := Lib.hid hg
  clear hm hcl ho hg HRD c0 f0 HO
  go_upto_region 2 with (first
    | refine allocM rfl rfl ?_
    | (refine storeM y HD.out rfl (.tmp 3) _ rfl rfl rfl rfl ?_; intro w2 hx1 hg1; have HX2 := Lib.hid hx1; have HG2 := Lib.hid hg1; clear hx1 hg1))
  obtain ⟨b2, hb2⟩ : ∃ b2, w1.heap.size = b2 := ⟨_, rfl⟩
  rw [hb2] at HX2 ⊢
  have HO2 := Lib.hid (HO1.out.gr HG2.out)
  clear hb2
  have HTH := Lib.hid (HO2.out.there HXD.out HD.out)
  have HSY := Lib.hid (Mx.size y HD.out)
  go_upto_region 3 with (first
    | ((with_reducible refine at_ld 37 (.tmp 3) ?_); refine loadM y HD.out rfl (.tmp 3) rfl b2 rfl HX2.out ?_)
    | ((with_reducible refine at_st 37 _ _ ?_); refine wpList_store_mid rfl 37 _ _ rfl o 1 y.cells rfl rfl HTH.out (by rw [HSY.out]; exact sizeM) (mOne y) ?_))
  have HO3 := Lib.hid (HO2.out.putX HXD.out HD.out)
  have HM3 := Lib.hid (((Rm.of (c := o) (HG1.out.tr HG2.out))).trans (rm_cells o 1 y.cells.toList w2))
  have HC3 : Hid (∀ W2 : World, (∀ j, W.heap.size ≤ j → j < (w2.setCells o 1 y.cells.toList).heap.size → W2.heap[j]? = (w2.setCells o 1 y.cells.toList).heap[j]?) → MxOk W2 y) := Lib.hid (fun W2 k => HCL.out W2 (fun j h1 h2 => by
    have h3 : j < w2.heap.size := Nat.lt_of_lt_of_le h2 HG2.out.size
    have h4 : j ≠ o := by have := HOL.out; omega
    rw [k j h1 (by rw [rg_size]; exact h3), rg_other h4, HG2.out.block j h2]))
  generalize w2.setCells o 1 y.cells.toList = w3 at HO3 HM3 HC3 ⊢
  go_wp2
  go_ret
  exact ⟨y, e, rfl, HM.out, HD.out, HO3.out, HC3.out, HM3.out⟩
def stepsC : Array Value := #[.func (.func 87) #[] #[], .func (.func 88) #[] #[], .func (.func 89) #[] #[], .func (.func 90) #[] #[], .func (.func 91) #[] #[]]
set_option maxRecDepth 100000 in
theorem steps_any (W : World) : Calls Tryz.prog 57 #[] W fun r w' => r = .returned (.slice (some ⟨W.heap.size, 0, none⟩) 5 5) ∧ w' = W.alloc (.cells stepsC 101) := by
  go_enter Tryz.func57, Tryz.ntmps57
  go_wp2
  go_ret
  exact ⟨rfl, rfl⟩
end Go.Proofs.YtfobnemocodomaaGreat
