/- OpsReads, OpsBack: the walks. -/
import Derived.Test.YtjjdgmabgiembaaDoorOpsU
set_option linter.unusedVariables false
set_option linter.unusedSimpArgs false
set_option maxHeartbeats 4000000
namespace Go.Proofs.YtjjdgmabgiembaaDoor
open Go.RowKit Go.Shelf

theorem readV_err {S : ByteArray} (h : (readV S).2 ≠ 0) : (readV S).1 = [] := by
  unfold readV at h ⊢
  split
  · rfl
  · rename_i c; rw [if_neg c] at h; exact absurd rfl h
theorem good_tx {l : List Opx} (h : ∀ x ∈ l, GoodO x) : txOk l := fun x hx => by
  have := (h x hx).pa
  have := (h x hx).da
  omega
theorem readV_can {S : ByteArray} (h : (readV S).2 = 0) : bytesV (readV S).1 = (S.data.toList, 0) := by
  obtain ⟨x, e, hx⟩ : ∃ x e, readV S = (x, e) := ⟨_, _, rfl⟩
  rw [hx] at h ⊢
  simp only at h
  subst h
  exact ops_can hx
theorem readV_tx (S : ByteArray) : txOk (readV S).1 := by
  by_cases h : (readV S).2 = 0
  · exact good_tx (bytesV_ok (readV_can h)).2.1
  · rw [readV_err h]; exact fun x hx => absurd hx (by simp)
theorem first_tx (S : ByteArray) : txOk (firstS S).1 := good_tx (bytesV_ok (first_bytes S).1).2.1

set_option maxRecDepth 100000 in
theorem OpsReads_any (S : ByteArray) (w : World) (hF : Fl w) (hS : S.size ≤ 9223372036854775807) :
    Calls Tryd.prog 5 #[.string S] w fun r w' => r = .returned (.bool true) ∧ Gr w w' := by
  have HF := Lib.hid hF; clear hF
  by_cases hgr : 20000 < S.size
  · have hgi : (20000 : Int) < S.size := by omega
    go_enter Tryd.func5, Tryd.ntmps5
    go_wp2_with fail
    refine (awake_any _ HF.out).mono ?_
    rintro r w2 ⟨rfl, g2⟩
    go_wp2
    go_ret
    exact ⟨rfl, g2⟩
  · have hgi : ¬ (20000 : Int) < S.size := by omega
    go_enter Tryd.func5, Tryd.ntmps5
    go_wp2_with fail
    refine (Read_any S w HF.out hS).mono ?_
    rintro r w1 ⟨⟨v1, rfl, o1⟩, g1⟩
    obtain ⟨A1, c1, rfl, _, x1⟩ := o1.oxs (readV_tx S)
    have X1 := Lib.hid x1
    have G1 := Lib.hid g1
    clear x1 g1 o1
    go_wp2_with fail
    refine (refRead_any S w1 hS).mono ?_
    rintro r w2 ⟨⟨v2, rfl, o2⟩, g2⟩
    obtain ⟨A2, c2, rfl, _, x2⟩ := o2.oxs (readV_tx S)
    have X2 := Lib.hid x2
    replace X1 := Lib.hid (X1.out.gr g2)
    replace G1 := Lib.hid (G1.out.tr g2)
    clear x2 g2 o2
    go_wp2_with fail
    refine (First_any S w2 (HF.out.gr G1.out) hS).mono ?_
    rintro r w3 ⟨⟨v3, rfl, o3⟩, g3⟩
    obtain ⟨A3, c3, rfl, _, x3⟩ := o3.oxs (first_tx S)
    have X3 := Lib.hid x3
    replace X1 := Lib.hid (X1.out.gr g3)
    replace X2 := Lib.hid (X2.out.gr g3)
    replace G1 := Lib.hid (G1.out.tr g3)
    clear x3 g3 o3
    go_wp2_with fail
    refine (refFirst_any S w3 hS).mono ?_
    rintro r w4 ⟨⟨v4, rfl, o4⟩, g4⟩
    obtain ⟨A4, c4, rfl, _, x4⟩ := o4.oxs (first_tx S)
    have X4 := Lib.hid x4
    replace X1 := Lib.hid (X1.out.gr g4)
    replace X2 := Lib.hid (X2.out.gr g4)
    replace X3 := Lib.hid (X3.out.gr g4)
    replace G1 := Lib.hid (G1.out.tr g4)
    clear x4 g4 o4
    go_wp2_with fail
    refine (Same_any A1 A2 c1 c2 _ w4 X1.out X2.out).mono ?_
    rintro r w5 ⟨rfl, g5⟩
    replace X3 := Lib.hid (X3.out.gr g5)
    replace X4 := Lib.hid (X4.out.gr g5)
    replace G1 := Lib.hid (G1.out.tr g5)
    clear g5
    go_wp2_with fail
    refine (Same_any A3 A4 c3 c4 _ w5 X3.out X4.out).mono ?_
    rintro r w6 ⟨rfl, g6⟩
    replace G1 := Lib.hid (G1.out.tr g6)
    clear g6
    go_wp2_with fail
    refine (awake_any _ (HF.out.gr G1.out)).mono ?_
    rintro r w7 ⟨rfl, g7⟩
    go_wp2
    go_ret
    exact ⟨rfl, G1.out.tr g7⟩

theorem bytesV_size {l : List Opx} {t : List UInt8} (h : bytesV l = (t, 0)) : t.length ≤ 60000000 := by
  have hl := (bytesV_ok h).1
  unfold bytesV at h
  rw [if_neg (by omega)] at h
  have h1 := oputs_len l (wnum l.length ([], 0)) l.length (Nat.le_refl _)
  have h2 := wnum_len l.length ([], 0)
  rw [List.take_length] at h1
  have h3 : (doneV (oputs l (wnum l.length ([], 0)))).1.length ≤ (oputs l (wnum l.length ([], 0))).1.length := by
    unfold doneV; split
    · simp
    · exact Nat.le_refl _
  rw [h] at h3
  simp only [List.length_nil] at h2 h3
  have h4 : 131112 * l.length ≤ 131112 * 400 := Nat.mul_le_mul_left _ hl
  omega
theorem bytes_tx {l : List Opx} {t : List UInt8} (h : bytesV l = (t, 0)) : txOk l := good_tx (bytesV_ok h).2.1
theorem first_facts (S : ByteArray) : ∃ (tf : List UInt8) (m k : Nat), bytesV (firstS S).1 = (tf, 0) ∧ ((S.size : Int) - (firstS S).2.size) = m ∧ m ≤ S.size ∧ (⟨tf.toArray⟩ : ByteArray).size = k + m ∧
    (⟨tf.toArray⟩ : ByteArray).extract k (⟨tf.toArray⟩ : ByteArray).size = S.extract 0 m := by
  obtain ⟨h1, h2, _⟩ := first_bytes S
  have hs : S.size = (encs (firstS S).1).length + (firstS S).2.size := by rw [Lib.size_eq, h2, List.length_append, ← Lib.size_eq]
  refine ⟨_, (encs (firstS S).1).length, (putL (firstS S).1.length).length, h1, by omega, by omega, by rw [sizeL, List.length_append], ?_⟩
  apply ByteArray.ext
  apply Array.ext'
  rw [Lib.extract_data, Lib.extract_data, h2, sizeL]
  simp
set_option maxRecDepth 100000 in
theorem OpsBack_any (A : Option Addr) (cap : Nat) (l : List Opx) (S : ByteArray) (w : World) (hO : Oxs w A l) (hF : Fl w) (hS : S.size ≤ 9223372036854775807) :
    Calls Tryd.prog 6 #[.slice A l.length cap, .string S] w fun r w' => r = .returned (.bool true) ∧ Gr w w' := by
  have HO := Lib.hid hO; clear hO
  have HF := Lib.hid hF; clear hF
  go_enter Tryd.func6, Tryd.ntmps6
  go_wp2_with fail
  refine (great_any A cap l w HO.out).mono ?_
  rintro r w1 ⟨rfl | rfl, g1⟩
  rotate_left
  · go_wp2_with fail
    refine (awake_any _ (HF.out.gr g1)).mono ?_
    rintro r w2 ⟨rfl, g2⟩
    go_wp2
    go_ret
    exact ⟨rfl, g1.tr g2⟩
  · by_cases hgr : 20000 < S.size
    · have hgi : (20000 : Int) < S.size := by omega
      go_wp2_with fail
      refine (awake_any _ (HF.out.gr g1)).mono ?_
      rintro r w2 ⟨rfl, g2⟩
      go_wp2
      go_ret
      exact ⟨rfl, g1.tr g2⟩
    · have hgi : ¬ (20000 : Int) < S.size := by omega
      obtain ⟨tf, m, k, hfb, hm, hmS, htk, hex⟩ := first_facts S
      have HFB := Lib.hid hfb
      have HM := Lib.hid hm
      obtain ⟨T, hT⟩ : ∃ T : ByteArray, T = ⟨tf.toArray⟩ := ⟨_, rfl⟩
      rw [← hT] at htk hex
      have HT := Lib.hid hT
      have HEX := Lib.hid hex
      have HTK := Lib.hid htk
      clear hfb hm hT hex htk
      obtain ⟨t, e, hb⟩ : ∃ t e, bytesV l = (t, e) := ⟨_, _, rfl⟩
      have HB := Lib.hid hb
      have G1 := Lib.hid g1
      have HW := Lib.hid (Bytes_any A cap l _ (HO.out.gr g1) (HF.out.gr g1))
      rw [hb] at HW
      clear hb g1
      go_wp2_with fail
      refine (HW.out).mono ?_
      rintro r w2 ⟨rfl, g2⟩
      replace G1 := Lib.hid (G1.out.tr g2)
      clear g2 HW
      by_cases he : e = 0
      · subst he
        have HRB := Lib.hid (ops_back HB.out)
        have hts := bytesV_size HB.out
        go_wp2_with fail
        refine (Read_any ⟨t.toArray⟩ w2 (HF.out.gr G1.out) (by rw [sizeL]; omega)).mono ?_
        rintro r w3 ⟨⟨v3, hr, o3⟩, g3⟩
        rw [show readV ⟨t.toArray⟩ = (l, 0) from HRB.out] at hr o3
        subst hr
        obtain ⟨A3, c3, rfl, _, x3⟩ := o3.oxs (bytes_tx HB.out)
        have X3 := Lib.hid x3
        replace G1 := Lib.hid (G1.out.tr g3)
        clear x3 g3 o3 HRB HB
        go_wp2_with fail
        refine (Same_any A3 A c3 cap l w3 X3.out (HO.out.gr G1.out)).mono ?_
        rintro r w4 ⟨rfl, g4⟩
        replace G1 := Lib.hid (G1.out.tr g4)
        clear g4 X3
        obtain ⟨x, e, hx⟩ : ∃ x e, readV S = (x, e) := ⟨_, _, rfl⟩
        have HX := Lib.hid hx
        clear hx
        go_wp2_with fail
        refine (Read_any S _ (HF.out.gr G1.out) hS).mono ?_
        rintro r w5 ⟨⟨v5, hr, o5⟩, g5⟩
        have htx := readV_tx S
        rw [HX.out] at hr o5 htx
        subst hr
        obtain ⟨A5, c5, rfl, _, x5⟩ := o5.oxs htx
        have X5 := Lib.hid x5
        replace G1 := Lib.hid (G1.out.tr g5)
        clear x5 g5 o5 htx
        by_cases he : e = 0
        · subst he
          have HXB := Lib.hid (ops_can HX.out)
          go_wp2_with fail
          refine (Bytes_any A5 c5 x w5 X5.out (HF.out.gr G1.out)).mono ?_
          rintro r w6 ⟨hr, g6⟩
          rw [HXB.out] at hr
          subst hr
          replace G1 := Lib.hid (G1.out.tr g6)
          clear g6 X5 HXB HX
          have hSS : (⟨S.data.toList.toArray⟩ : ByteArray) = S := rfl
          rw [hSS]
          go_wp2_with fail
          refine (First_any S _ (HF.out.gr G1.out) hS).mono ?_
          rintro r wa ⟨⟨va, hr, oa⟩, ga⟩
          rw [HM.out] at hr
          subst hr
          obtain ⟨A1, c1, rfl, _, xa⟩ := oa.oxs (first_tx S)
          have XA := Lib.hid xa
          replace G1 := Lib.hid (G1.out.tr ga)
          clear xa ga oa
          go_wp2_with fail
          refine (Bytes_any A1 c1 _ wa XA.out (HF.out.gr G1.out)).mono ?_
          rintro r wb ⟨hr, gb⟩
          rw [HFB.out] at hr
          simp only at hr
          rw [← HT.out] at hr
          subst hr
          replace G1 := Lib.hid (G1.out.tr gb)
          clear gb XA
          go_upto_region 15 with (fail)
          have htk := HTK.out
          have hsub : (T.size : Int) - m = k := by omega
          have hex := HEX.out
          have h0m : (0 : Int) ≤ m := by omega
          have hmS' : (m : Int) ≤ S.size := by omega
          have hmT : (m : Int) ≤ T.size := by omega
          have hkT : (k : Int) ≤ T.size := by omega
          have hbT : decide ((m : Int) ≤ (T.size : Int)) = true := decide_eq_true hmT
          have hbS : decide ((m : Int) ≤ (S.size : Int)) = true := decide_eq_true hmS'
          have hb0 : decide ((0 : Int) ≤ (m : Int)) = true := decide_eq_true h0m
          have hts2 := bytesV_size HFB.out
          have hT2 : T.size ≤ 60000000 := by rw [HT.out, sizeL]; exact hts2
          have hk0 : (0 : Int) ≤ k := by omega
          have hwr1 : IntKind.i64.wrap ((T.size : Int) - m) = k := by rw [IntKind.wrap_i64]; omega
          have hwr2 : IntKind.i64.wrap (k : Int) = k := by rw [IntKind.wrap_i64]; omega
          clear htk hts2
          have hgd : Gr w wb.drew := G1.out.dr
          go_region_held3 (fun _ => True) (exact trivial) (first | (go_at_call 9; refine (awake_any _ (HF.out.gr hgd)).mono ?_; rintro r wc ⟨rfl, hgc⟩; replace hgd := hgd.tr hgc; clear hgc))
          all_goals
            go_wp2
            go_ret
            exact ⟨rfl, hgd⟩
        · skip
          go_wp2_with fail
          refine (First_any S _ (HF.out.gr G1.out) hS).mono ?_
          rintro r wa ⟨⟨va, hr, oa⟩, ga⟩
          rw [HM.out] at hr
          subst hr
          obtain ⟨A1, c1, rfl, _, xa⟩ := oa.oxs (first_tx S)
          have XA := Lib.hid xa
          replace G1 := Lib.hid (G1.out.tr ga)
          clear xa ga oa
          go_wp2_with fail
          refine (Bytes_any A1 c1 _ wa XA.out (HF.out.gr G1.out)).mono ?_
          rintro r wb ⟨hr, gb⟩
          rw [HFB.out] at hr
          simp only at hr
          rw [← HT.out] at hr
          subst hr
          replace G1 := Lib.hid (G1.out.tr gb)
          clear gb XA
          go_upto_region 15 with (fail)
          have htk := HTK.out
          have hsub : (T.size : Int) - m = k := by omega
          have hex := HEX.out
          have h0m : (0 : Int) ≤ m := by omega
          have hmS' : (m : Int) ≤ S.size := by omega
          have hmT : (m : Int) ≤ T.size := by omega
          have hkT : (k : Int) ≤ T.size := by omega
          have hbT : decide ((m : Int) ≤ (T.size : Int)) = true := decide_eq_true hmT
          have hbS : decide ((m : Int) ≤ (S.size : Int)) = true := decide_eq_true hmS'
          have hb0 : decide ((0 : Int) ≤ (m : Int)) = true := decide_eq_true h0m
          have hts2 := bytesV_size HFB.out
          have hT2 : T.size ≤ 60000000 := by rw [HT.out, sizeL]; exact hts2
          have hk0 : (0 : Int) ≤ k := by omega
          have hwr1 : IntKind.i64.wrap ((T.size : Int) - m) = k := by rw [IntKind.wrap_i64]; omega
          have hwr2 : IntKind.i64.wrap (k : Int) = k := by rw [IntKind.wrap_i64]; omega
          clear htk hts2
          have hgd : Gr w wb.drew := G1.out.dr
          go_region_held3 (fun _ => True) (exact trivial) (first | (go_at_call 9; refine (awake_any _ (HF.out.gr hgd)).mono ?_; rintro r wc ⟨rfl, hgc⟩; replace hgd := hgd.tr hgc; clear hgc))
          all_goals
            go_wp2
            go_ret
            exact ⟨rfl, hgd⟩
      · clear HB
        obtain ⟨x, e, hx⟩ : ∃ x e, readV S = (x, e) := ⟨_, _, rfl⟩
        have HX := Lib.hid hx
        clear hx
        go_wp2_with fail
        refine (Read_any S _ (HF.out.gr G1.out) hS).mono ?_
        rintro r w5 ⟨⟨v5, hr, o5⟩, g5⟩
        have htx := readV_tx S
        rw [HX.out] at hr o5 htx
        subst hr
        obtain ⟨A5, c5, rfl, _, x5⟩ := o5.oxs htx
        have X5 := Lib.hid x5
        replace G1 := Lib.hid (G1.out.tr g5)
        clear x5 g5 o5 htx
        by_cases he : e = 0
        · subst he
          have HXB := Lib.hid (ops_can HX.out)
          go_wp2_with fail
          refine (Bytes_any A5 c5 x w5 X5.out (HF.out.gr G1.out)).mono ?_
          rintro r w6 ⟨hr, g6⟩
          rw [HXB.out] at hr
          subst hr
          replace G1 := Lib.hid (G1.out.tr g6)
          clear g6 X5 HXB HX
          have hSS : (⟨S.data.toList.toArray⟩ : ByteArray) = S := rfl
          rw [hSS]
          go_wp2_with fail
          refine (First_any S _ (HF.out.gr G1.out) hS).mono ?_
          rintro r wa ⟨⟨va, hr, oa⟩, ga⟩
          rw [HM.out] at hr
          subst hr
          obtain ⟨A1, c1, rfl, _, xa⟩ := oa.oxs (first_tx S)
          have XA := Lib.hid xa
          replace G1 := Lib.hid (G1.out.tr ga)
          clear xa ga oa
          go_wp2_with fail
          refine (Bytes_any A1 c1 _ wa XA.out (HF.out.gr G1.out)).mono ?_
          rintro r wb ⟨hr, gb⟩
          rw [HFB.out] at hr
          simp only at hr
          rw [← HT.out] at hr
          subst hr
          replace G1 := Lib.hid (G1.out.tr gb)
          clear gb XA
          go_upto_region 15 with (fail)
          have htk := HTK.out
          have hsub : (T.size : Int) - m = k := by omega
          have hex := HEX.out
          have h0m : (0 : Int) ≤ m := by omega
          have hmS' : (m : Int) ≤ S.size := by omega
          have hmT : (m : Int) ≤ T.size := by omega
          have hkT : (k : Int) ≤ T.size := by omega
          have hbT : decide ((m : Int) ≤ (T.size : Int)) = true := decide_eq_true hmT
          have hbS : decide ((m : Int) ≤ (S.size : Int)) = true := decide_eq_true hmS'
          have hb0 : decide ((0 : Int) ≤ (m : Int)) = true := decide_eq_true h0m
          have hts2 := bytesV_size HFB.out
          have hT2 : T.size ≤ 60000000 := by rw [HT.out, sizeL]; exact hts2
          have hk0 : (0 : Int) ≤ k := by omega
          have hwr1 : IntKind.i64.wrap ((T.size : Int) - m) = k := by rw [IntKind.wrap_i64]; omega
          have hwr2 : IntKind.i64.wrap (k : Int) = k := by rw [IntKind.wrap_i64]; omega
          clear htk hts2
          have hgd : Gr w wb.drew := G1.out.dr
          go_region_held3 (fun _ => True) (exact trivial) (first | (go_at_call 9; refine (awake_any _ (HF.out.gr hgd)).mono ?_; rintro r wc ⟨rfl, hgc⟩; replace hgd := hgd.tr hgc; clear hgc))
          all_goals
            go_wp2
            go_ret
            exact ⟨rfl, hgd⟩
        · skip
          go_wp2_with fail
          refine (First_any S _ (HF.out.gr G1.out) hS).mono ?_
          rintro r wa ⟨⟨va, hr, oa⟩, ga⟩
          rw [HM.out] at hr
          subst hr
          obtain ⟨A1, c1, rfl, _, xa⟩ := oa.oxs (first_tx S)
          have XA := Lib.hid xa
          replace G1 := Lib.hid (G1.out.tr ga)
          clear xa ga oa
          go_wp2_with fail
          refine (Bytes_any A1 c1 _ wa XA.out (HF.out.gr G1.out)).mono ?_
          rintro r wb ⟨hr, gb⟩
          rw [HFB.out] at hr
          simp only at hr
          rw [← HT.out] at hr
          subst hr
          replace G1 := Lib.hid (G1.out.tr gb)
          clear gb XA
          go_upto_region 15 with (fail)
          have htk := HTK.out
          have hsub : (T.size : Int) - m = k := by omega
          have hex := HEX.out
          have h0m : (0 : Int) ≤ m := by omega
          have hmS' : (m : Int) ≤ S.size := by omega
          have hmT : (m : Int) ≤ T.size := by omega
          have hkT : (k : Int) ≤ T.size := by omega
          have hbT : decide ((m : Int) ≤ (T.size : Int)) = true := decide_eq_true hmT
          have hbS : decide ((m : Int) ≤ (S.size : Int)) = true := decide_eq_true hmS'
          have hb0 : decide ((0 : Int) ≤ (m : Int)) = true := decide_eq_true h0m
          have hts2 := bytesV_size HFB.out
          have hT2 : T.size ≤ 60000000 := by rw [HT.out, sizeL]; exact hts2
          have hk0 : (0 : Int) ≤ k := by omega
          have hwr1 : IntKind.i64.wrap ((T.size : Int) - m) = k := by rw [IntKind.wrap_i64]; omega
          have hwr2 : IntKind.i64.wrap (k : Int) = k := by rw [IntKind.wrap_i64]; omega
          clear htk hts2
          have hgd : Gr w wb.drew := G1.out.dr
          go_region_held3 (fun _ => True) (exact trivial) (first | (go_at_call 9; refine (awake_any _ (HF.out.gr hgd)).mono ?_; rintro r wc ⟨rfl, hgc⟩; replace hgd := hgd.tr hgc; clear hgc))
          all_goals
            go_wp2
            go_ret
            exact ⟨rfl, hgd⟩
end Go.Proofs.YtjjdgmabgiembaaDoor
