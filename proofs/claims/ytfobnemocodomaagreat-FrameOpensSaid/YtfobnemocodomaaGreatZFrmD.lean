/- hearsayref13.Open. -/
import Derived.Test.YtfobnemocodomaaGreatZBz
import Derived.Test.YtfobnemocodomaaGreatZMrF
set_option linter.unusedVariables false
set_option linter.unusedSimpArgs false
set_option maxHeartbeats 4000000
namespace Go.Proofs.YtfobnemocodomaaGreat
open Go.RowKit Go.Shelf Go.Great

/-- what is wrong with a frame's head -/
def hdE (t : ByteArray) : Int := if h : t.size < 3 then 5 else if t[0] ≠ 104 ∨ t[1] ≠ 115 then 7 else if t[2] ≠ 1 then 15 else 0
def restT (t : ByteArray) : ByteArray := t.extract 3 t.size
/-- the message's bytes in a frame, or what is wrong -/
def openB (r : ByteArray) : ByteArray × Int := ((txtM 131072 r 0).1, rdDone (txtM 131072 r 0).2.1 (txtM 131072 r 0).2.2)
def openM (S : ByteArray) : Mx × Int :=
  if 131072 < S.size then (zMx, 2) else if (unsV S).2 = false then (zMx, 9) else if hdE (unsV S).1 ≠ 0 then (zMx, hdE (unsV S).1)
  else if (openB (restT (unsV S).1)).2 ≠ 0 then (zMx, (openB (restT (unsV S).1)).2) else readM (openB (restT (unsV S).1)).1
/-- what an opening comes to -/
def OpenR (S : ByteArray) (w : World) (r : Ending) (w' : World) : Prop := ∃ y e, r = .returned (.tuple #[.agg y.cells, .int .i64 e]) ∧ (mst y, e) = openM S ∧ MxOk w' y ∧ Gr w w'
theorem unsV_sz (S : ByteArray) : (unsV S).1.size ≤ S.size := by
  unfold unsV
  split
  · show (⟨#[]⟩ : ByteArray).size ≤ _; exact Nat.zero_le _
  · split
    · show (S.extract 0 (S.size - 4)).size ≤ _; rw [ByteArray.size_extract]; omega
    · show (⟨#[]⟩ : ByteArray).size ≤ _; exact Nat.zero_le _
theorem u8ne {a : UInt8} {n : Nat} (hn : n < 256) (h : a ≠ UInt8.ofNat n) : (((a.toNat : Nat) : Int) != (n : Int)) = true := by
  simp only [bne_iff_ne, ne_eq]
  intro k
  apply h
  have k' : a.toNat = n := by omega
  rw [← k']; simp
set_option maxRecDepth 100000 in
theorem rfOpen_any (S : ByteArray) (w : World) (hS : S.size ≤ 9223372036854775807) :
    Calls Tryz.prog 23 #[.string S] w fun r w' => OpenR S w r w' := by
  obtain ⟨W0, hW0⟩ : ∃ W0, w.alloc (.cells zMx.cells 37) = W0 := ⟨_, rfl⟩
  have HRX : Hid (MAt W0 w.heap.size zMx) := Lib.hid (by rw [← hW0]; exact World.alloc_heap_new w _)
  have HGX : Hid (Gr w W0) := Lib.hid (by rw [← hW0]; exact (Gr.rfl' w).al _)
  by_cases hbig : 131072 < S.size
  · have hbi : (131072 : Int) < S.size := by omega
    have HV : Hid (openM S = (zMx, 2)) := Lib.hid (if_pos hbig)
    clear hbig
    go_enter Tryz.func23, Tryz.ntmps23
    go_wp2_with (first
      | refine allocM rfl rfl ?_
      | refine buildZM rfl rfl ?_
      | ((with_reducible refine at_st 37 _ _ ?_); refine storeMR zMx zMx Z32L_len Z32L_len w.heap.size rfl _ _ rfl rfl rfl rfl HRX.out ?_; intro wz hz1 hz2; have HZ1 := Lib.hid hz1; have HZ2 := Lib.hid hz2; clear hz1 hz2))
    have hld := ldMsg HZ1.out Z32L_len
    refine bodyPost_ret (v := .tuple #[.agg zMx.cells, .int .i64 2]) ?_ rfl ?_
    · simp [results, Tryz.results23, Act.put, asAR, hld]
    exact ⟨zMx, 2, rfl, by rw [HV.out]; rfl, zMx_ok _, HZ2.out.below HGX.out (Nat.le_refl _)⟩
  have hbi : ¬ (131072 : Int) < S.size := by omega
  have HBG := Lib.hid hbig
  have HCO := Lib.hid (rOpen_any S W0 hS)
  have HTS := Lib.hid (unsV_sz S)
  obtain ⟨t, ok, hu⟩ : ∃ t ok, unsV S = (t, ok) := ⟨_, _, rfl⟩
  have HU := Lib.hid hu
  simp only [hu] at HCO HTS
  clear hu hbig
  cases ok with
  | false =>
    have HV : Hid (openM S = (zMx, 9)) := Lib.hid (by unfold openM; rw [if_neg HBG.out, HU.out, if_pos rfl])
    go_enter Tryz.func23, Tryz.ntmps23
    go_wp2_with (first | refine allocM rfl rfl ?_)
    refine (HCO.out).mono ?_
    rintro r w1 ⟨rfl, g1⟩
    replace HRX := Lib.hid (mat_gr HRX.out g1)
    replace HGX := Lib.hid (HGX.out.tr g1)
    clear g1 HCO hW0
    go_wp2_with (first
      | refine buildZM rfl rfl ?_
      | ((with_reducible refine at_st 37 _ _ ?_); refine storeMR zMx zMx Z32L_len Z32L_len w.heap.size rfl _ _ rfl rfl rfl rfl HRX.out ?_; intro wz hz1 hz2; have HZ1 := Lib.hid hz1; have HZ2 := Lib.hid hz2; clear hz1 hz2))
    have hld := ldMsg HZ1.out Z32L_len
    refine bodyPost_ret (v := .tuple #[.agg zMx.cells, .int .i64 9]) ?_ rfl ?_
    · simp [results, Tryz.results23, Act.put, asAR, hld]
    exact ⟨zMx, 9, rfl, by rw [HV.out]; rfl, zMx_ok _, HZ2.out.below HGX.out (Nat.le_refl _)⟩
  | true =>
    have HO : Hid (openM S = if hdE t ≠ 0 then (zMx, hdE t) else if (openB (restT t)).2 ≠ 0 then (zMx, (openB (restT t)).2) else readM (openB (restT t)).1) := Lib.hid (by unfold openM; rw [if_neg HBG.out, HU.out, if_neg (by simp)])
    by_cases h3 : t.size < 3
    · have h3i : (t.size : Int) < 3 := by omega
      have HV : Hid (openM S = (zMx, 5)) := Lib.hid (by
        have e : hdE t = 5 := by unfold hdE; rw [dif_pos h3]
        rw [HO.out, e, if_pos (by decide)])
      clear h3
      go_enter Tryz.func23, Tryz.ntmps23
      go_wp2_with (first | refine allocM rfl rfl ?_)
      refine (HCO.out).mono ?_
      rintro r w1 ⟨rfl, g1⟩
      replace HRX := Lib.hid (mat_gr HRX.out g1)
      replace HGX := Lib.hid (HGX.out.tr g1)
      clear g1 HCO hW0
      go_wp2_with (first
        | refine buildZM rfl rfl ?_
        | ((with_reducible refine at_st 37 _ _ ?_); refine storeMR zMx zMx Z32L_len Z32L_len w.heap.size rfl _ _ rfl rfl rfl rfl HRX.out ?_; intro wz hz1 hz2; have HZ1 := Lib.hid hz1; have HZ2 := Lib.hid hz2; clear hz1 hz2))
      have hld := ldMsg HZ1.out Z32L_len
      refine bodyPost_ret (v := .tuple #[.agg zMx.cells, .int .i64 5]) ?_ rfl ?_
      · simp [results, Tryz.results23, Act.put, asAR, hld]
      exact ⟨zMx, 5, rfl, by rw [HV.out]; rfl, zMx_ok _, HZ2.out.below HGX.out (Nat.le_refl _)⟩
    have h3i : ¬ (t.size : Int) < 3 := by omega
    have hz0 : 0 < t.size := by omega
    have hz1 : 1 < t.size := by omega
    have hz2 : 2 < t.size := by omega
    have hE : hdE t = if t[0] ≠ 104 ∨ t[1] ≠ 115 then 7 else if t[2] ≠ 1 then 15 else 0 := by unfold hdE; rw [dif_neg h3]
    have HE := Lib.hid hE
    clear hE
    by_cases p0 : t[0] = 104; rotate_left
    · have q0 := u8ne (n := 104) (by decide) p0
      have HV : Hid (openM S = (zMx, 7)) := Lib.hid (by
        rw [HO.out, HE.out, if_pos (Or.inl p0), if_pos (by decide)])
      clear p0
      go_enter Tryz.func23, Tryz.ntmps23
      go_wp2_with (first | refine allocM rfl rfl ?_)
      refine (HCO.out).mono ?_
      rintro r w1 ⟨rfl, g1⟩
      replace HRX := Lib.hid (mat_gr HRX.out g1)
      replace HGX := Lib.hid (HGX.out.tr g1)
      clear g1 HCO hW0
      go_wp2_with (first
        | refine buildZM rfl rfl ?_
        | ((with_reducible refine at_st 37 _ _ ?_); refine storeMR zMx zMx Z32L_len Z32L_len w.heap.size rfl _ _ rfl rfl rfl rfl HRX.out ?_; intro wz hz1 hz2; have HZ1 := Lib.hid hz1; have HZ2 := Lib.hid hz2; clear hz1 hz2))
      have hld := ldMsg HZ1.out Z32L_len
      refine bodyPost_ret (v := .tuple #[.agg zMx.cells, .int .i64 7]) ?_ rfl ?_
      · simp [results, Tryz.results23, Act.put, asAR, hld]
      exact ⟨zMx, 7, rfl, by rw [HV.out]; rfl, zMx_ok _, HZ2.out.below HGX.out (Nat.le_refl _)⟩
    have e0 : ((t[0].toNat : Nat) : Int) = 104 := by rw [p0]; rfl
    by_cases p1 : t[1] = 115; rotate_left
    · have q0 := u8ne (n := 115) (by decide) p1
      have HV : Hid (openM S = (zMx, 7)) := Lib.hid (by
        rw [HO.out, HE.out, if_pos (Or.inr p1), if_pos (by decide)])
      clear p1 p0
      go_enter Tryz.func23, Tryz.ntmps23
      go_wp2_with (first | refine allocM rfl rfl ?_)
      refine (HCO.out).mono ?_
      rintro r w1 ⟨rfl, g1⟩
      replace HRX := Lib.hid (mat_gr HRX.out g1)
      replace HGX := Lib.hid (HGX.out.tr g1)
      clear g1 HCO hW0
      go_wp2_with (first
        | refine buildZM rfl rfl ?_
        | ((with_reducible refine at_st 37 _ _ ?_); refine storeMR zMx zMx Z32L_len Z32L_len w.heap.size rfl _ _ rfl rfl rfl rfl HRX.out ?_; intro wz hz1 hz2; have HZ1 := Lib.hid hz1; have HZ2 := Lib.hid hz2; clear hz1 hz2))
      have hld := ldMsg HZ1.out Z32L_len
      refine bodyPost_ret (v := .tuple #[.agg zMx.cells, .int .i64 7]) ?_ rfl ?_
      · simp [results, Tryz.results23, Act.put, asAR, hld]
      exact ⟨zMx, 7, rfl, by rw [HV.out]; rfl, zMx_ok _, HZ2.out.below HGX.out (Nat.le_refl _)⟩
    have e1 : ((t[1].toNat : Nat) : Int) = 115 := by rw [p1]; rfl
    by_cases p2 : t[2] = 1; rotate_left
    · have q0 := u8ne (n := 1) (by decide) p2
      have HV : Hid (openM S = (zMx, 15)) := Lib.hid (by
        have e : hdE t = 15 := by rw [HE.out, if_neg (by rintro (k | k); exact k p0; exact k p1), if_pos p2]
        rw [HO.out, e, if_pos (by decide)])
      clear p2 p1 p0
      go_enter Tryz.func23, Tryz.ntmps23
      go_wp2_with (first | refine allocM rfl rfl ?_)
      refine (HCO.out).mono ?_
      rintro r w1 ⟨rfl, g1⟩
      replace HRX := Lib.hid (mat_gr HRX.out g1)
      replace HGX := Lib.hid (HGX.out.tr g1)
      clear g1 HCO hW0
      go_wp2_with (first
        | refine buildZM rfl rfl ?_
        | ((with_reducible refine at_st 37 _ _ ?_); refine storeMR zMx zMx Z32L_len Z32L_len w.heap.size rfl _ _ rfl rfl rfl rfl HRX.out ?_; intro wz hz1 hz2; have HZ1 := Lib.hid hz1; have HZ2 := Lib.hid hz2; clear hz1 hz2))
      have hld := ldMsg HZ1.out Z32L_len
      refine bodyPost_ret (v := .tuple #[.agg zMx.cells, .int .i64 15]) ?_ rfl ?_
      · simp [results, Tryz.results23, Act.put, asAR, hld]
      exact ⟨zMx, 15, rfl, by rw [HV.out]; rfl, zMx_ok _, HZ2.out.below HGX.out (Nat.le_refl _)⟩
    have e2 : ((t[2].toNat : Nat) : Int) = 1 := by rw [p2]; rfl
    have HO2 : Hid (openM S = if (openB (restT t)).2 ≠ 0 then (zMx, (openB (restT t)).2) else readM (openB (restT t)).1) := Lib.hid (by
      have e : hdE t = 0 := by rw [HE.out, if_neg (by rintro (k | k); exact k p0; exact k p1), if_neg (by simpa using p2)]
      rw [HO.out, e, if_neg (by simp)])
    clear p0 p1 p2 HE HO
    have hrs : t.extract 3 t.size = restT t := rfl
    have HRZ : Hid ((restT t).size ≤ 9223372036854775807) := Lib.hid (by unfold restT; rw [ByteArray.size_extract]; have := HTS.out; omega)
    obtain ⟨q, hq⟩ : ∃ q, restT t = q := ⟨_, rfl⟩
    rw [hq] at hrs HO2 HRZ
    have HRS := Lib.hid hrs
    clear hq hrs
    have HPB : Hid (openB q = ((txtM 131072 q 0).1, rdDone (txtM 131072 q 0).2.1 (txtM 131072 q 0).2.2)) := Lib.hid rfl
    go_enter Tryz.func23, Tryz.ntmps23
    go_wp2_with (first | refine allocM rfl rfl ?_)
    refine (HCO.out).mono ?_
    rintro r w1 ⟨rfl, g1⟩
    replace HRX := Lib.hid (mat_gr HRX.out g1)
    replace HGX := Lib.hid (HGX.out.tr g1)
    clear g1 HCO hW0
    go_upto_region 13 with (fail)
    rw [HRS.out]
    have HSR : Hid (Sr 66 w1.heap.size q 0 (w1.alloc (.cells #[.string q, .int .i64 0] 66))) := Lib.hid (Sr.made w1 _ q)
    have hgb : Gr w1 (w1.alloc (.cells #[.string q, .int .i64 0] 66)) := (Gr.rfl' _).al _
    have HRXo := HRX
    replace HRX := Lib.hid (mat_gr HRX.out hgb)
    have HGX2 := Lib.hid (HGX.out.tr hgb)
    obtain ⟨b, hb⟩ : ∃ b, w1.heap.size = b := ⟨_, rfl⟩
    have HBB : Hid (w.heap.size < b) := Lib.hid (by have := (Array.getElem?_eq_some_iff.1 HRXo.out).1; omega)
    rw [hb] at HSR ⊢
    clear hgb HGX HRXo
    generalize w1.alloc (.cells #[.string q, .int .i64 0] 66) = w2 at HSR HRX HGX2 ⊢
    clear hb
    have HTX := Lib.hid (sText_any b 131072 q 0 w2 HSR.out HRZ.out)
    have HPS := Lib.hid (Nat.le_trans (txtM_tszR 131072 q 0) HRZ.out)
    obtain ⟨p, s2, hp⟩ : ∃ p s2, txtM 131072 q 0 = (p, s2) := ⟨_, _, rfl⟩
    simp only [hp] at HTX HPS HPB
    clear hp
    go_wp2_with fail
    refine (HTX.out).mono ?_
    rintro r w3 ⟨rfl, h3, m3⟩
    have HR3 := Lib.hid h3
    replace HRX := Lib.hid (mat_rm HRX.out m3 (by have := HBB.out; omega))
    have HGX : Hid (Gr w w3) := Lib.hid (m3.below HGX2.out (by have := HBB.out; omega))
    clear h3 m3 HTX HSR HGX2
    have HDN := Lib.hid (sDone_any b s2.1 s2.2 w3 HR3.out)
    obtain ⟨ev, hev⟩ : ∃ ev, rdDone s2.1 s2.2 = ev := ⟨_, rfl⟩
    rw [hev] at HDN HPB
    clear hev
    go_wp2_with fail
    refine (HDN.out).mono ?_
    rintro r w4 ⟨rfl, rfl⟩
    clear HDN
    by_cases he : ev = 0; rotate_left
    · have heb : (ev != 0) = true := by simpa using he
      have HV : Hid (openM S = (zMx, ev)) := Lib.hid (by rw [HO2.out, HPB.out, if_pos he])
      clear he
      go_wp2_with (first
        | refine buildZM rfl rfl ?_
        | ((with_reducible refine at_st 37 _ _ ?_); refine storeMR zMx zMx Z32L_len Z32L_len w.heap.size rfl _ _ rfl rfl rfl rfl HRX.out ?_; intro wz hz1 hz2; have HZ1 := Lib.hid hz1; have HZ2 := Lib.hid hz2; clear hz1 hz2))
      have hld := ldMsg HZ1.out Z32L_len
      refine bodyPost_ret (v := .tuple #[.agg zMx.cells, .int .i64 ev]) ?_ rfl ?_
      · simp [results, Tryz.results23, Act.put, asAR, hld]
      exact ⟨zMx, ev, rfl, by rw [HV.out]; rfl, zMx_ok _, HZ2.out.below HGX.out (Nat.le_refl _)⟩
    subst he
    have HV : Hid (openM S = readM p) := Lib.hid (by rw [HO2.out, HPB.out, if_neg (by simp)])
    have HRD := Lib.hid (refMReadN_any p w4 HPS.out)
    go_wp2_with fail
    refine (HRD.out).mono ?_
    rintro r w5 ⟨y, e, rfl, hm, ho, hg, hcl⟩
    have HM := Lib.hid hm
    have HCL := Lib.hid hcl
    have HD := Lib.hid ho.dig
    have HLT := Lib.hid (Array.getElem?_eq_some_iff.1 HRX.out).1
    replace HRX := Lib.hid (mat_gr HRX.out hg)
    replace HGX := Lib.hid (HGX.out.tr hg)
    clear hm hcl ho hg HRD
    go_wp2_with (first
      | ((with_reducible refine at_st 37 _ _ ?_); refine storeMR y zMx HD.out Z32L_len w.heap.size rfl _ _ rfl rfl rfl rfl HRX.out ?_; intro wz hz1 hz2; have HZ1 := Lib.hid hz1; have HZ2 := Lib.hid hz2; clear hz1 hz2))
    have hld := ldMsg HZ1.out HD.out
    refine bodyPost_ret (v := .tuple #[.agg y.cells, .int .i64 e]) ?_ rfl ?_
    · simp [results, Tryz.results23, Act.put, asAR, hld]
    exact ⟨y, e, rfl, by rw [HV.out]; exact HM.out, HCL.out _ (fun j h1 h3 => HZ2.out.keep j h3 (by have := HLT.out; omega)), HZ2.out.below HGX.out (Nat.le_refl _)⟩
end Go.Proofs.YtfobnemocodomaaGreat
