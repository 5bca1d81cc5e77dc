/- hearsaylaw11.RecordReads, RecordBack. -/
import Derived.Test.YtfobnemocodomaaZBr
import Derived.Test.YtfobnemocodomaaZBo
set_option linter.unusedVariables false
set_option linter.unusedSimpArgs false
set_option maxHeartbeats 1000000
namespace Go.Proofs.Ytfobnemocodomaa
open Go.RowKit Go.Shelf Go.Great

set_option maxRecDepth 100000 in
theorem RecordReads_any (S : ByteArray) (w : World) (hS : S.size ≤ 9223372036854775807) :
    Calls Try.prog 5 #[.string S] w fun r w' => r = .returned (.bool true) ∧ Gr w w' := by
  by_cases h5 : 5000 < S.size
  · have h5i : (5000 : Int) < S.size := by omega
    go_enter Try.func5, Try.ntmps5
    go_wp2_with fail
    refine (awake_any _).mono ?_
    rintro r w3 ⟨rfl, hg3⟩
    go_wp2
    go_ret
    exact ⟨rfl, hg3⟩
  · have h5i : ¬ (5000 : Int) < S.size := by omega
    obtain ⟨x, e, hv⟩ : ∃ x e, wholeV (vecM (S, 0)) = (x, e) := ⟨_, _, rfl⟩
    obtain ⟨y, f, hl⟩ : ∃ y f, wholeV (leafM (S, 0)) = (y, f) := ⟨_, _, rfl⟩
    have HA := Lib.hid (VecOf_any S w hS)
    have HB : Hid (∀ W, Calls _ _ _ W _) := Lib.hid (fun W => refVecOf_any S W hS)
    have HC : Hid (∀ W, Calls _ _ _ W _) := Lib.hid (fun W => LeafOf_any S W hS)
    have HD : Hid (∀ W, Calls _ _ _ W _) := Lib.hid (fun W => refLeafOfS_any S W hS)
    simp only [hv] at HA HB
    simp only [hl] at HC HD
    clear hv hl
    go_enter Try.func5, Try.ntmps5
    go_wp2_with fail
    refine (HA.out).mono ?_
    rintro r w1 ⟨⟨v1, rfl, o1⟩, g1⟩
    have O1 := Lib.hid o1
    have G := Lib.hid g1
    clear o1 g1 HA
    go_wp2_with fail
    refine (HB.out _).mono ?_
    rintro r w2 ⟨⟨v2, rfl, o2⟩, g2⟩
    have O2 := Lib.hid o2
    replace O1 := Lib.hid (ownDots_gr O1.out g2)
    replace G := Lib.hid (G.out.tr g2)
    clear o2 g2 HB
    go_wp2_with fail
    refine (HC.out _).mono ?_
    rintro r w3 ⟨⟨v3, rfl, o3⟩, g3⟩
    have O3 := Lib.hid o3
    replace O1 := Lib.hid (ownDots_gr O1.out g3)
    replace O2 := Lib.hid (ownDots_gr O2.out g3)
    replace G := Lib.hid (G.out.tr g3)
    clear o3 g3 HC
    go_wp2_with fail
    refine (HD.out _).mono ?_
    rintro r w4 ⟨⟨v4, rfl, o4⟩, g4⟩
    obtain ⟨A4, l4, c4, rfl, _, q4, _, s4⟩ := o4.vers
    obtain ⟨A3, l3, c3, rfl, _, q3, _, s3⟩ := (O3.out.gr g4).vers
    obtain ⟨A1, c1, rfl, _, q1⟩ := (ownDots_gr O1.out g4).dots
    obtain ⟨A2, c2, rfl, _, q2⟩ := (ownDots_gr O2.out g4).dots
    have Q1 := Lib.hid q1
    have Q2 := Lib.hid q2
    have Q3 := Lib.hid q3
    have Q4 := Lib.hid q4
    have HSM := Lib.hid (vsames_strip l3 l4 (s3.trans s4.symm))
    replace G := Lib.hid (G.out.tr g4)
    clear q1 q2 q3 q4 s3 s4 o4 g4 O1 O2 O3 HD
    go_wp2_with fail
    refine (refSame_any A1 A2 c1 c2 x x _ Q1.out Q2.out).mono ?_
    rintro r w5 ⟨rfl, g5⟩
    rw [decide_eq_true rfl]
    go_wp2_with fail
    refine (vSames2_any A3 A4 c3 c4 l3 l4 _ (Q3.out.gr g5) (Q4.out.gr g5)).mono ?_
    rintro r w6 ⟨rfl, g6⟩
    rw [HSM.out]
    go_wp2_with fail
    refine (awake_any _).mono ?_
    rintro r w7 ⟨rfl, g7⟩
    go_wp2
    go_ret
    exact ⟨rfl, G.out.tr ((g5.tr g6).tr g7)⟩
theorem lput_bd {l : List Vx} {t : List UInt8} (h : doneV (lput l ([], 0)) = (t, 0)) : t.length ≤ 100000 := by
  have h0 : (lput l ([], 0)).2 = 0 := Classical.byContradiction fun he => by
    unfold doneV at h; rw [if_pos he] at h; simp only [Prod.mk.injEq] at h; exact he h.2
  have hc := lput_good h0
  have hl := leaf_len hc
  have e : doneV (lput l ([], 0)) = lput l ([], 0) := by unfold doneV; rw [if_neg (by simpa using h0)]
  rw [e] at h
  have h1 : t = (lput l ([], 0)).1 := by rw [h]
  rw [h1]
  unfold lput
  rw [if_neg (by simpa using hc)]
  have h2 := versW_len l ((leaf_zero l).1 hc).1 (wnum l.length ([], 0)) l.length (Nat.le_refl _)
  rw [List.take_length] at h2
  have h3 := wnum_len l.length ([], 0)
  simp only [List.length_nil] at h3
  omega
theorem vput_bd {l : List Dot} (hl : l.length ≤ 1000) {t : List UInt8} (h : doneV (vput l ([], 0)) = (t, 0)) : t.length ≤ 100000 := by
  have h0 : (vput l ([], 0)).2 = 0 := Classical.byContradiction fun he => by
    unfold doneV at h; rw [if_pos he] at h; simp only [Prod.mk.injEq] at h; exact he h.2
  have e : doneV (vput l ([], 0)) = vput l ([], 0) := by unfold doneV; rw [if_neg (by simpa using h0)]
  rw [e] at h
  have h1 : t = (vput l ([], 0)).1 := by rw [h]
  rw [h1]
  have := vput_len l ([], 0)
  simp only [List.length_nil] at this
  omega
set_option maxRecDepth 100000 in
theorem RecordBack_any (A : Option Addr) (cap : Nat) (l : List Vx) (B : Option Addr) (cap2 : Nat) (v : List Dot) (S : ByteArray) (w : World) (hD : Vers w A l) (hV : Dots w B v) (hS : S.size ≤ 9223372036854775807) :
    Calls Try.prog 6 #[.slice A l.length cap, .slice B v.length cap2, .string S] w fun r w' => r = .returned (.bool true) ∧ Gr w w' := by
  have HV := Lib.hid (VRows.one (cap := cap) hD 22)
  have HD := Lib.hid hD; clear hD
  have HV2 := Lib.hid hV; clear hV
  have hga := Lib.hid ((Gr.rfl' w).al (.cells #[.slice A l.length cap] 22))
  go_enter Try.func6, Try.ntmps6
  go_wp2_with fail
  refine (vGreat_any _ 1 [⟨A, cap, l⟩] _ HV.out).mono ?_
  rintro r wx ⟨⟨rfl, h70⟩ | rfl, hg0⟩
  · have h7 : l.length ≤ 70 := h70 ⟨A, cap, l⟩ (by simp)
    have G := Lib.hid (hga.out.tr hg0)
    clear h70 hg0 hga
    by_cases h90 : 90 < v.length
    · have h90i : (90 : Int) < v.length := by omega
      go_wp2_with fail
      refine (awake_any _).mono ?_
      rintro r w9 ⟨rfl, g9⟩
      go_wp2
      go_ret
      exact ⟨rfl, G.out.tr g9⟩
    · have h90i : ¬ (90 : Int) < v.length := by omega
      by_cases h5 : 5000 < S.size
      · have h5i : (5000 : Int) < S.size := by omega
        go_wp2_with fail
        refine (awake_any _).mono ?_
        rintro r w9 ⟨rfl, g9⟩
        go_wp2
        go_ret
        exact ⟨rfl, G.out.tr g9⟩
      · have h5i : ¬ (5000 : Int) < S.size := by omega
        have HA := Lib.hid (recLeaf_any A cap l wx (HD.out.gr G.out))
        obtain ⟨t1, e1, hd1⟩ : ∃ t e, doneV (lput l ([], 0)) = (t, e) := ⟨_, _, rfl⟩
        rw [hd1] at HA
        by_cases he1 : e1 = 0
        · subst he1
          have HBK := Lib.hid (leafOf_back hd1)
          have ht1 := lput_bd hd1
          clear hd1
          go_wp2_with fail
          refine (HA.out).mono ?_
          rintro r w1 ⟨rfl, g1⟩
          have HC := Lib.hid (LeafOf_any (bsq t1) w1 (by rw [bsq_size]; omega))
          rw [HBK.out] at HC
          replace G := Lib.hid (G.out.tr g1)
          clear g1 HA
          go_wp2_with fail
          refine (HC.out).mono ?_
          rintro r w2 ⟨⟨v2, rfl, o2⟩, g2⟩
          obtain ⟨A2, l2, c2, rfl, _, q2, _, s2⟩ := o2.vers
          have Q2 := Lib.hid q2
          have HSM := Lib.hid (vsames_strip l2 l s2)
          replace G := Lib.hid (G.out.tr g2)
          clear o2 q2 s2 g2 HC
          go_wp2_with fail
          refine (vSames2_any A2 A c2 cap l2 l _ Q2.out (HD.out.gr G.out)).mono ?_
          rintro r wy ⟨rfl, gy⟩
          rw [HSM.out]
          replace G := Lib.hid (G.out.tr gy)
          clear gy
          have HB := Lib.hid (recVec_any B cap2 v wy (HV2.out.gr G.out) (by omega))
          obtain ⟨t2, e2, hd2⟩ : ∃ t e, doneV (vput v ([], 0)) = (t, e) := ⟨_, _, rfl⟩
          rw [hd2] at HB
          by_cases he2 : e2 = 0
          · subst he2
            have HBK := Lib.hid (vecOf_back hd2)
            have ht2 := vput_bd (by omega) hd2
            clear hd2
            go_wp2_with fail
            refine (HB.out).mono ?_
            rintro r w3 ⟨rfl, g3⟩
            have HC := Lib.hid (VecOf_any (bsq t2) w3 (by rw [bsq_size]; omega))
            rw [HBK.out] at HC
            replace G := Lib.hid (G.out.tr g3)
            clear g3 HB
            go_wp2_with fail
            refine (HC.out).mono ?_
            rintro r w4 ⟨⟨v4, rfl, o4⟩, g4⟩
            obtain ⟨A4, c4, rfl, _, q4⟩ := o4.dots
            have Q4 := Lib.hid q4
            replace G := Lib.hid (G.out.tr g4)
            clear o4 q4 g4 HC
            go_wp2_with fail
            refine (refSame_any A4 B c4 cap2 v v _ Q4.out (HV2.out.gr G.out)).mono ?_
            rintro r wz ⟨rfl, gz⟩
            rw [decide_eq_true rfl]
            replace G := Lib.hid (G.out.tr gz)
            clear gz
            have HC := Lib.hid (LeafOf_any S wz hS)
            obtain ⟨y, f, hl⟩ : ∃ y f, wholeV (leafM (S, 0)) = (y, f) := ⟨_, _, rfl⟩
            rw [hl] at HC
            by_cases hf : f = 0
            · subst hf
              have HCAN := Lib.hid (leafOf_can hl)
              clear hl
              go_wp2_with fail
              refine (HC.out).mono ?_
              rintro r w5 ⟨⟨v5, rfl, o5⟩, g5⟩
              obtain ⟨A5, l5, c5, rfl, _, q5, _, s5⟩ := o5.vers
              have HLP : Hid (doneV (lput l5 ([], 0)) = (S.data.toList, 0)) := Lib.hid (by rw [← lput_strip, s5]; exact HCAN.out)
              have HRL := Lib.hid (recLeaf_any A5 c5 l5 w5 q5)
              rw [HLP.out] at HRL
              replace G := Lib.hid (G.out.tr g5)
              clear o5 q5 s5 g5 HC
              go_wp2_with fail
              refine (HRL.out).mono ?_
              rintro r w6 ⟨rfl, g6⟩
              replace G := Lib.hid (G.out.tr g6)
              have hsl : (⟨S.data.toList.toArray⟩ : ByteArray) = S := rfl
              rw [hsl]
              clear g6 HRL
              go_wp2_with fail
              refine (awake_any _).mono ?_
              rintro r w9 ⟨rfl, g9⟩
              go_wp2
              go_ret
              exact ⟨rfl, G.out.tr g9⟩
            · have hfb : (f == 0) = false := by simpa using hf
              clear hl
              go_wp2_with fail
              refine (HC.out).mono ?_
              rintro r w5 ⟨⟨v5, rfl, o5⟩, g5⟩
              replace G := Lib.hid (G.out.tr g5)
              clear o5 g5 HC
              go_wp2_with fail
              refine (awake_any _).mono ?_
              rintro r w9 ⟨rfl, g9⟩
              go_wp2
              go_ret
              exact ⟨rfl, G.out.tr g9⟩
          · have heb2 : (e2 == 0) = false := by simpa using he2
            clear hd2
            go_wp2_with fail
            refine (HB.out).mono ?_
            rintro r wz ⟨rfl, gz⟩
            replace G := Lib.hid (G.out.tr gz)
            clear gz HB
            have HC := Lib.hid (LeafOf_any S wz hS)
            obtain ⟨y, f, hl⟩ : ∃ y f, wholeV (leafM (S, 0)) = (y, f) := ⟨_, _, rfl⟩
            rw [hl] at HC
            by_cases hf : f = 0
            · subst hf
              have HCAN := Lib.hid (leafOf_can hl)
              clear hl
              go_wp2_with fail
              refine (HC.out).mono ?_
              rintro r w5 ⟨⟨v5, rfl, o5⟩, g5⟩
              obtain ⟨A5, l5, c5, rfl, _, q5, _, s5⟩ := o5.vers
              have HLP : Hid (doneV (lput l5 ([], 0)) = (S.data.toList, 0)) := Lib.hid (by rw [← lput_strip, s5]; exact HCAN.out)
              have HRL := Lib.hid (recLeaf_any A5 c5 l5 w5 q5)
              rw [HLP.out] at HRL
              replace G := Lib.hid (G.out.tr g5)
              clear o5 q5 s5 g5 HC
              go_wp2_with fail
              refine (HRL.out).mono ?_
              rintro r w6 ⟨rfl, g6⟩
              replace G := Lib.hid (G.out.tr g6)
              have hsl : (⟨S.data.toList.toArray⟩ : ByteArray) = S := rfl
              rw [hsl]
              clear g6 HRL
              go_wp2_with fail
              refine (awake_any _).mono ?_
              rintro r w9 ⟨rfl, g9⟩
              go_wp2
              go_ret
              exact ⟨rfl, G.out.tr g9⟩
            · have hfb : (f == 0) = false := by simpa using hf
              clear hl
              go_wp2_with fail
              refine (HC.out).mono ?_
              rintro r w5 ⟨⟨v5, rfl, o5⟩, g5⟩
              replace G := Lib.hid (G.out.tr g5)
              clear o5 g5 HC
              go_wp2_with fail
              refine (awake_any _).mono ?_
              rintro r w9 ⟨rfl, g9⟩
              go_wp2
              go_ret
              exact ⟨rfl, G.out.tr g9⟩
        · have heb1 : (e1 == 0) = false := by simpa using he1
          clear hd1
          go_wp2_with fail
          refine (HA.out).mono ?_
          rintro r wy ⟨rfl, gy⟩
          replace G := Lib.hid (G.out.tr gy)
          clear gy HA
          have HB := Lib.hid (recVec_any B cap2 v wy (HV2.out.gr G.out) (by omega))
          obtain ⟨t2, e2, hd2⟩ : ∃ t e, doneV (vput v ([], 0)) = (t, e) := ⟨_, _, rfl⟩
          rw [hd2] at HB
          by_cases he2 : e2 = 0
          · subst he2
            have HBK := Lib.hid (vecOf_back hd2)
            have ht2 := vput_bd (by omega) hd2
            clear hd2
            go_wp2_with fail
            refine (HB.out).mono ?_
            rintro r w3 ⟨rfl, g3⟩
            have HC := Lib.hid (VecOf_any (bsq t2) w3 (by rw [bsq_size]; omega))
            rw [HBK.out] at HC
            replace G := Lib.hid (G.out.tr g3)
            clear g3 HB
            go_wp2_with fail
            refine (HC.out).mono ?_
            rintro r w4 ⟨⟨v4, rfl, o4⟩, g4⟩
            obtain ⟨A4, c4, rfl, _, q4⟩ := o4.dots
            have Q4 := Lib.hid q4
            replace G := Lib.hid (G.out.tr g4)
            clear o4 q4 g4 HC
            go_wp2_with fail
            refine (refSame_any A4 B c4 cap2 v v _ Q4.out (HV2.out.gr G.out)).mono ?_
            rintro r wz ⟨rfl, gz⟩
            rw [decide_eq_true rfl]
            replace G := Lib.hid (G.out.tr gz)
            clear gz
            have HC := Lib.hid (LeafOf_any S wz hS)
            obtain ⟨y, f, hl⟩ : ∃ y f, wholeV (leafM (S, 0)) = (y, f) := ⟨_, _, rfl⟩
            rw [hl] at HC
            by_cases hf : f = 0
            · subst hf
              have HCAN := Lib.hid (leafOf_can hl)
              clear hl
              go_wp2_with fail
              refine (HC.out).mono ?_
              rintro r w5 ⟨⟨v5, rfl, o5⟩, g5⟩
              obtain ⟨A5, l5, c5, rfl, _, q5, _, s5⟩ := o5.vers
              have HLP : Hid (doneV (lput l5 ([], 0)) = (S.data.toList, 0)) := Lib.hid (by rw [← lput_strip, s5]; exact HCAN.out)
              have HRL := Lib.hid (recLeaf_any A5 c5 l5 w5 q5)
              rw [HLP.out] at HRL
              replace G := Lib.hid (G.out.tr g5)
              clear o5 q5 s5 g5 HC
              go_wp2_with fail
              refine (HRL.out).mono ?_
              rintro r w6 ⟨rfl, g6⟩
              replace G := Lib.hid (G.out.tr g6)
              have hsl : (⟨S.data.toList.toArray⟩ : ByteArray) = S := rfl
              rw [hsl]
              clear g6 HRL
              go_wp2_with fail
              refine (awake_any _).mono ?_
              rintro r w9 ⟨rfl, g9⟩
              go_wp2
              go_ret
              exact ⟨rfl, G.out.tr g9⟩
            · have hfb : (f == 0) = false := by simpa using hf
              clear hl
              go_wp2_with fail
              refine (HC.out).mono ?_
              rintro r w5 ⟨⟨v5, rfl, o5⟩, g5⟩
              replace G := Lib.hid (G.out.tr g5)
              clear o5 g5 HC
              go_wp2_with fail
              refine (awake_any _).mono ?_
              rintro r w9 ⟨rfl, g9⟩
              go_wp2
              go_ret
              exact ⟨rfl, G.out.tr g9⟩
          · have heb2 : (e2 == 0) = false := by simpa using he2
            clear hd2
            go_wp2_with fail
            refine (HB.out).mono ?_
            rintro r wz ⟨rfl, gz⟩
            replace G := Lib.hid (G.out.tr gz)
            clear gz HB
            have HC := Lib.hid (LeafOf_any S wz hS)
            obtain ⟨y, f, hl⟩ : ∃ y f, wholeV (leafM (S, 0)) = (y, f) := ⟨_, _, rfl⟩
            rw [hl] at HC
            by_cases hf : f = 0
            · subst hf
              have HCAN := Lib.hid (leafOf_can hl)
              clear hl
              go_wp2_with fail
              refine (HC.out).mono ?_
              rintro r w5 ⟨⟨v5, rfl, o5⟩, g5⟩
              obtain ⟨A5, l5, c5, rfl, _, q5, _, s5⟩ := o5.vers
              have HLP : Hid (doneV (lput l5 ([], 0)) = (S.data.toList, 0)) := Lib.hid (by rw [← lput_strip, s5]; exact HCAN.out)
              have HRL := Lib.hid (recLeaf_any A5 c5 l5 w5 q5)
              rw [HLP.out] at HRL
              replace G := Lib.hid (G.out.tr g5)
              clear o5 q5 s5 g5 HC
              go_wp2_with fail
              refine (HRL.out).mono ?_
              rintro r w6 ⟨rfl, g6⟩
              replace G := Lib.hid (G.out.tr g6)
              have hsl : (⟨S.data.toList.toArray⟩ : ByteArray) = S := rfl
              rw [hsl]
              clear g6 HRL
              go_wp2_with fail
              refine (awake_any _).mono ?_
              rintro r w9 ⟨rfl, g9⟩
              go_wp2
              go_ret
              exact ⟨rfl, G.out.tr g9⟩
            · have hfb : (f == 0) = false := by simpa using hf
              clear hl
              go_wp2_with fail
              refine (HC.out).mono ?_
              rintro r w5 ⟨⟨v5, rfl, o5⟩, g5⟩
              replace G := Lib.hid (G.out.tr g5)
              clear o5 g5 HC
              go_wp2_with fail
              refine (awake_any _).mono ?_
              rintro r w9 ⟨rfl, g9⟩
              go_wp2
              go_ret
              exact ⟨rfl, G.out.tr g9⟩
  · have G := Lib.hid (hga.out.tr hg0)
    clear hg0 hga
    go_wp2_with fail
    refine (awake_any _).mono ?_
    rintro r w9 ⟨rfl, g9⟩
    go_wp2
    go_ret
    exact ⟨rfl, G.out.tr g9⟩
end Go.Proofs.Ytfobnemocodomaa
