/- VecRow: the law's walk. -/
import Derived.Test.YtfhanmopoafdeaaLawLeast
set_option linter.unusedVariables false
set_option linter.unusedSimpArgs false
set_option maxHeartbeats 4000000
namespace Go.Proofs.Ytfhanmopoafdeaa
open Go.RowKit

set_option maxRecDepth 100000 in
theorem VecRow_any (A1 A2 A9 : Option Addr) (c1 c2 c3 : Nat) (a b c : List Dot) (w : World) (h1 : Dots w A1 a) (h2 : Dots w A2 b) (h3 : Dots w A9 c) (hc1 : a.length ≤ c1) (hc2 : b.length ≤ c2) (hc3 : c.length ≤ c3) :
    Calls Try.prog 5 #[.slice A1 a.length c1, .slice A2 b.length c2, .slice A9 c.length c3] w fun e w' => e = .returned (.bool true) ∧ Gr w w' := by
  have H1 := Lib.hid h1; clear h1
  have H2 := Lib.hid h2; clear h2
  have H9 := Lib.hid h3; clear h3
  have H3 := Lib.hid (DRows.three (c := c1) (d := c2) (f := c3) H1.out H2.out H9.out 22)
  have hg : Gr w (w.alloc (.cells #[.slice A1 a.length c1, .slice A2 b.length c2, .slice A9 c.length c3] 22)) := (Gr.rfl' w).al _
  replace H1 := Lib.hid (H1.out.gr hg)
  replace H2 := Lib.hid (H2.out.gr hg)
  replace H9 := Lib.hid (H9.out.gr hg)
  rcases hm : manyB [⟨A1, c1, a⟩, ⟨A2, c2, b⟩, ⟨A9, c3, c⟩] with _ | _
  · by_cases ha : chk a = 0
    · have ha' : (chk a != 0) = false := by simp [ha]
      by_cases hb : chk b = 0
      · have hb' : (chk b != 0) = false := by simp [hb]
        by_cases hc : chk c = 0
        · have hc' : (chk c != 0) = false := by simp [hc]
          have VA := Lib.hid ((chk_ok a).1 ha)
          have VB := Lib.hid ((chk_ok b).1 hb)
          have VC := Lib.hid ((chk_ok c).1 hc)
          have HS1 := Lib.hid (join_self VA.out)
          have HS2 := Lib.hid (join_comm VA.out VB.out)
          have HS3 := Lib.hid (join_assoc VA.out VB.out VC.out)
          have HS4 := Lib.hid (absorb VA.out VB.out)
          have hsz : (sizeV (joinL a b) + sizeV (meetL a b) != sizeV a + sizeV b) = false := by rw [sizes VA.out VB.out]; simp
          obtain ⟨z1, z2⟩ := sizeV_bd (joinL a b)
          obtain ⟨z3, z4⟩ := sizeV_bd (meetL a b)
          obtain ⟨z5, z6⟩ := sizeV_bd a
          obtain ⟨z7, z8⟩ := sizeV_bd b
          clear ha hb hc
          go_enter Try.func5, Try.ntmps5
          go_wp2_with fail
          refine (many_any _ _ [⟨A1, c1, a⟩, ⟨A2, c2, b⟩, ⟨A9, c3, c⟩] _ H3.out).mono ?_
          rintro e wc ⟨rfl, hgc⟩
          replace H1 := Lib.hid (H1.out.gr hgc)
          replace H2 := Lib.hid (H2.out.gr hgc)
          replace H9 := Lib.hid (H9.out.gr hgc)
          replace hg := hg.tr hgc
          clear hgc
          rw [hm]
          go_wp2_with fail
          refine (Check_any A1 c1 a _ H1.out).mono ?_
          rintro e wc ⟨rfl, hgc⟩
          replace H1 := Lib.hid (H1.out.gr hgc)
          replace H2 := Lib.hid (H2.out.gr hgc)
          replace H9 := Lib.hid (H9.out.gr hgc)
          replace hg := hg.tr hgc
          clear hgc
          go_wp2_with fail
          refine (Check_any A2 c2 b _ H2.out).mono ?_
          rintro e wc ⟨rfl, hgc⟩
          replace H1 := Lib.hid (H1.out.gr hgc)
          replace H2 := Lib.hid (H2.out.gr hgc)
          replace H9 := Lib.hid (H9.out.gr hgc)
          replace hg := hg.tr hgc
          clear hgc
          go_wp2_with fail
          refine (Check_any A9 c3 c _ H9.out).mono ?_
          rintro e wc ⟨rfl, hgc⟩
          replace H1 := Lib.hid (H1.out.gr hgc)
          replace H2 := Lib.hid (H2.out.gr hgc)
          replace H9 := Lib.hid (H9.out.gr hgc)
          replace hg := hg.tr hgc
          clear hgc
          go_wp2_with fail
          refine (Join_any A1 A1 c1 c1 a a _ H1.out H1.out hc1 hc1).mono ?_
          rintro e wc ⟨vJ, rfl, hoJ, hgc⟩
          replace H1 := Lib.hid (H1.out.gr hgc)
          replace H2 := Lib.hid (H2.out.gr hgc)
          replace H9 := Lib.hid (H9.out.gr hgc)
          replace hg := hg.tr hgc
          obtain ⟨AJ, cJ, rfl, hcJ, hDJ⟩ := hoJ.dots
          have HJ := Lib.hid hDJ
          clear hDJ hoJ
          clear hgc
          go_wp2_with fail
          refine (refSame_any AJ A1 cJ c1 (joinL a a) a _ HJ.out H1.out).mono ?_
          rintro e wc ⟨rfl, hgc⟩
          replace H1 := Lib.hid (H1.out.gr hgc)
          replace H2 := Lib.hid (H2.out.gr hgc)
          replace H9 := Lib.hid (H9.out.gr hgc)
          replace hg := hg.tr hgc
          clear hgc
          rw [decide_eq_true HS1.out]
          clear HJ
          go_wp2_with fail
          refine (Join_any A1 A2 c1 c2 a b _ H1.out H2.out hc1 hc2).mono ?_
          rintro e wc ⟨vK, rfl, hoK, hgc⟩
          replace H1 := Lib.hid (H1.out.gr hgc)
          replace H2 := Lib.hid (H2.out.gr hgc)
          replace H9 := Lib.hid (H9.out.gr hgc)
          replace hg := hg.tr hgc
          obtain ⟨AK, cK, rfl, hcK, hDK⟩ := hoK.dots
          have HK := Lib.hid hDK
          clear hDK hoK
          clear hgc
          go_wp2_with fail
          refine (Join_any A2 A1 c2 c1 b a _ H2.out H1.out hc2 hc1).mono ?_
          rintro e wc ⟨vL, rfl, hoL, hgc⟩
          replace H1 := Lib.hid (H1.out.gr hgc)
          replace H2 := Lib.hid (H2.out.gr hgc)
          replace H9 := Lib.hid (H9.out.gr hgc)
          replace HK := Lib.hid (HK.out.gr hgc)
          replace hg := hg.tr hgc
          obtain ⟨AL, cL, rfl, hcL, hDL⟩ := hoL.dots
          have HL := Lib.hid hDL
          clear hDL hoL
          clear hgc
          go_wp2_with fail
          refine (refSame_any AK AL cK cL (joinL a b) (joinL b a) _ HK.out HL.out).mono ?_
          rintro e wc ⟨rfl, hgc⟩
          replace H1 := Lib.hid (H1.out.gr hgc)
          replace H2 := Lib.hid (H2.out.gr hgc)
          replace H9 := Lib.hid (H9.out.gr hgc)
          replace hg := hg.tr hgc
          clear hgc
          rw [decide_eq_true HS2.out]
          clear HK HL
          go_wp2_with fail
          refine (Join_any A1 A2 c1 c2 a b _ H1.out H2.out hc1 hc2).mono ?_
          rintro e wc ⟨vM, rfl, hoM, hgc⟩
          replace H1 := Lib.hid (H1.out.gr hgc)
          replace H2 := Lib.hid (H2.out.gr hgc)
          replace H9 := Lib.hid (H9.out.gr hgc)
          replace hg := hg.tr hgc
          obtain ⟨AM, cM, rfl, hcM, hDM⟩ := hoM.dots
          have HM := Lib.hid hDM
          clear hDM hoM
          clear hgc
          go_wp2_with fail
          refine (Join_any AM A9 cM c3 (joinL a b) c _ HM.out H9.out hcM hc3).mono ?_
          rintro e wc ⟨vN, rfl, hoN, hgc⟩
          replace H1 := Lib.hid (H1.out.gr hgc)
          replace H2 := Lib.hid (H2.out.gr hgc)
          replace H9 := Lib.hid (H9.out.gr hgc)
          replace hg := hg.tr hgc
          obtain ⟨AN, cN, rfl, hcN, hDN⟩ := hoN.dots
          have HN := Lib.hid hDN
          clear hDN hoN
          clear hgc
          go_wp2_with fail
          refine (Join_any A2 A9 c2 c3 b c _ H2.out H9.out hc2 hc3).mono ?_
          rintro e wc ⟨vO, rfl, hoO, hgc⟩
          replace H1 := Lib.hid (H1.out.gr hgc)
          replace H2 := Lib.hid (H2.out.gr hgc)
          replace H9 := Lib.hid (H9.out.gr hgc)
          replace HN := Lib.hid (HN.out.gr hgc)
          replace hg := hg.tr hgc
          obtain ⟨AO, cO, rfl, hcO, hDO⟩ := hoO.dots
          have HO := Lib.hid hDO
          clear hDO hoO
          clear hgc
          go_wp2_with fail
          refine (Join_any A1 AO c1 cO a (joinL b c) _ H1.out HO.out hc1 hcO).mono ?_
          rintro e wc ⟨vP, rfl, hoP, hgc⟩
          replace H1 := Lib.hid (H1.out.gr hgc)
          replace H2 := Lib.hid (H2.out.gr hgc)
          replace H9 := Lib.hid (H9.out.gr hgc)
          replace HN := Lib.hid (HN.out.gr hgc)
          replace hg := hg.tr hgc
          obtain ⟨AP, cP, rfl, hcP, hDP⟩ := hoP.dots
          have HP := Lib.hid hDP
          clear hDP hoP
          clear hgc
          go_wp2_with fail
          refine (refSame_any AN AP cN cP (joinL (joinL a b) c) (joinL a (joinL b c)) _ HN.out HP.out).mono ?_
          rintro e wc ⟨rfl, hgc⟩
          replace H1 := Lib.hid (H1.out.gr hgc)
          replace H2 := Lib.hid (H2.out.gr hgc)
          replace H9 := Lib.hid (H9.out.gr hgc)
          replace hg := hg.tr hgc
          clear hgc
          rw [decide_eq_true HS3.out]
          clear HM HN HO HP
          go_wp2_with fail
          refine (Join_any A1 A2 c1 c2 a b _ H1.out H2.out hc1 hc2).mono ?_
          rintro e wc ⟨vQ, rfl, hoQ, hgc⟩
          replace H1 := Lib.hid (H1.out.gr hgc)
          replace H2 := Lib.hid (H2.out.gr hgc)
          replace H9 := Lib.hid (H9.out.gr hgc)
          replace hg := hg.tr hgc
          obtain ⟨AQ, cQ, rfl, hcQ, hDQ⟩ := hoQ.dots
          have HQ := Lib.hid hDQ
          clear hDQ hoQ
          clear hgc
          go_wp2_with fail
          refine (Size_any AQ cQ (joinL a b) _ HQ.out).mono ?_
          rintro e wc ⟨rfl, hgc⟩
          replace H1 := Lib.hid (H1.out.gr hgc)
          replace H2 := Lib.hid (H2.out.gr hgc)
          replace H9 := Lib.hid (H9.out.gr hgc)
          replace hg := hg.tr hgc
          clear hgc
          clear HQ
          go_wp2_with fail
          refine (Meet_any A1 A2 c1 c2 a b _ H1.out H2.out hc1 hc2).mono ?_
          rintro e wc ⟨vR, rfl, hoR, hgc⟩
          replace H1 := Lib.hid (H1.out.gr hgc)
          replace H2 := Lib.hid (H2.out.gr hgc)
          replace H9 := Lib.hid (H9.out.gr hgc)
          replace hg := hg.tr hgc
          obtain ⟨AR, cR, rfl, hcR, hDR⟩ := hoR.dots
          have HR := Lib.hid hDR
          clear hDR hoR
          clear hgc
          go_wp2_with fail
          refine (Size_any AR cR (meetL a b) _ HR.out).mono ?_
          rintro e wc ⟨rfl, hgc⟩
          replace H1 := Lib.hid (H1.out.gr hgc)
          replace H2 := Lib.hid (H2.out.gr hgc)
          replace H9 := Lib.hid (H9.out.gr hgc)
          replace hg := hg.tr hgc
          clear hgc
          clear HR
          go_wp2_with fail
          refine (Size_any A1 c1 a _ H1.out).mono ?_
          rintro e wc ⟨rfl, hgc⟩
          replace H1 := Lib.hid (H1.out.gr hgc)
          replace H2 := Lib.hid (H2.out.gr hgc)
          replace H9 := Lib.hid (H9.out.gr hgc)
          replace hg := hg.tr hgc
          clear hgc
          go_wp2_with fail
          refine (Size_any A2 c2 b _ H2.out).mono ?_
          rintro e wc ⟨rfl, hgc⟩
          replace H1 := Lib.hid (H1.out.gr hgc)
          replace H2 := Lib.hid (H2.out.gr hgc)
          replace H9 := Lib.hid (H9.out.gr hgc)
          replace hg := hg.tr hgc
          clear hgc
          go_wp2_with fail
          refine (Join_any A1 A2 c1 c2 a b _ H1.out H2.out hc1 hc2).mono ?_
          rintro e wc ⟨vS, rfl, hoS, hgc⟩
          replace H1 := Lib.hid (H1.out.gr hgc)
          replace H2 := Lib.hid (H2.out.gr hgc)
          replace H9 := Lib.hid (H9.out.gr hgc)
          replace hg := hg.tr hgc
          obtain ⟨AS, cS, rfl, hcS, hDS⟩ := hoS.dots
          have HS := Lib.hid hDS
          clear hDS hoS
          clear hgc
          go_wp2_with fail
          refine (Meet_any AS A1 cS c1 (joinL a b) a _ HS.out H1.out hcS hc1).mono ?_
          rintro e wc ⟨vT, rfl, hoT, hgc⟩
          replace H1 := Lib.hid (H1.out.gr hgc)
          replace H2 := Lib.hid (H2.out.gr hgc)
          replace H9 := Lib.hid (H9.out.gr hgc)
          replace hg := hg.tr hgc
          obtain ⟨AT, cT, rfl, hcT, hDT⟩ := hoT.dots
          have HT := Lib.hid hDT
          clear hDT hoT
          clear hgc
          go_wp2_with fail
          refine (refSame_any AT A1 cT c1 (meetL (joinL a b) a) a _ HT.out H1.out).mono ?_
          rintro e wc ⟨rfl, hgc⟩
          replace H1 := Lib.hid (H1.out.gr hgc)
          replace H2 := Lib.hid (H2.out.gr hgc)
          replace H9 := Lib.hid (H9.out.gr hgc)
          replace hg := hg.tr hgc
          clear hgc
          rw [decide_eq_true HS4.out]
          go_wp2_with fail
          refine (awake_any _).mono ?_
          rintro e wc ⟨rfl, hgc⟩
          replace hg := hg.tr hgc
          clear hgc
          go_wp2
          go_ret
          exact ⟨rfl, hg⟩
        · have hc' : (chk c != 0) = true := by simp [hc]
          clear ha hb hc
          go_enter Try.func5, Try.ntmps5
          go_wp2_with fail
          refine (many_any _ _ [⟨A1, c1, a⟩, ⟨A2, c2, b⟩, ⟨A9, c3, c⟩] _ H3.out).mono ?_
          rintro e wc ⟨rfl, hgc⟩
          replace H1 := Lib.hid (H1.out.gr hgc)
          replace H2 := Lib.hid (H2.out.gr hgc)
          replace H9 := Lib.hid (H9.out.gr hgc)
          replace hg := hg.tr hgc
          clear hgc
          rw [hm]
          go_wp2_with fail
          refine (Check_any A1 c1 a _ H1.out).mono ?_
          rintro e wc ⟨rfl, hgc⟩
          replace H1 := Lib.hid (H1.out.gr hgc)
          replace H2 := Lib.hid (H2.out.gr hgc)
          replace H9 := Lib.hid (H9.out.gr hgc)
          replace hg := hg.tr hgc
          clear hgc
          go_wp2_with fail
          refine (Check_any A2 c2 b _ H2.out).mono ?_
          rintro e wc ⟨rfl, hgc⟩
          replace H1 := Lib.hid (H1.out.gr hgc)
          replace H2 := Lib.hid (H2.out.gr hgc)
          replace H9 := Lib.hid (H9.out.gr hgc)
          replace hg := hg.tr hgc
          clear hgc
          go_wp2_with fail
          refine (Check_any A9 c3 c _ H9.out).mono ?_
          rintro e wc ⟨rfl, hgc⟩
          replace H1 := Lib.hid (H1.out.gr hgc)
          replace H2 := Lib.hid (H2.out.gr hgc)
          replace H9 := Lib.hid (H9.out.gr hgc)
          replace hg := hg.tr hgc
          clear hgc
          go_wp2_with fail
          refine (awake_any _).mono ?_
          rintro e wc ⟨rfl, hgc⟩
          replace hg := hg.tr hgc
          clear hgc
          go_wp2
          go_ret
          exact ⟨rfl, hg⟩
      · have hb' : (chk b != 0) = true := by simp [hb]
        clear ha hb
        go_enter Try.func5, Try.ntmps5
        go_wp2_with fail
        refine (many_any _ _ [⟨A1, c1, a⟩, ⟨A2, c2, b⟩, ⟨A9, c3, c⟩] _ H3.out).mono ?_
        rintro e wc ⟨rfl, hgc⟩
        replace H1 := Lib.hid (H1.out.gr hgc)
        replace H2 := Lib.hid (H2.out.gr hgc)
        replace H9 := Lib.hid (H9.out.gr hgc)
        replace hg := hg.tr hgc
        clear hgc
        rw [hm]
        go_wp2_with fail
        refine (Check_any A1 c1 a _ H1.out).mono ?_
        rintro e wc ⟨rfl, hgc⟩
        replace H1 := Lib.hid (H1.out.gr hgc)
        replace H2 := Lib.hid (H2.out.gr hgc)
        replace H9 := Lib.hid (H9.out.gr hgc)
        replace hg := hg.tr hgc
        clear hgc
        go_wp2_with fail
        refine (Check_any A2 c2 b _ H2.out).mono ?_
        rintro e wc ⟨rfl, hgc⟩
        replace H1 := Lib.hid (H1.out.gr hgc)
        replace H2 := Lib.hid (H2.out.gr hgc)
        replace H9 := Lib.hid (H9.out.gr hgc)
        replace hg := hg.tr hgc
        clear hgc
        go_wp2_with fail
        refine (awake_any _).mono ?_
        rintro e wc ⟨rfl, hgc⟩
        replace hg := hg.tr hgc
        clear hgc
        go_wp2
        go_ret
        exact ⟨rfl, hg⟩
    · have ha' : (chk a != 0) = true := by simp [ha]
      clear ha
      go_enter Try.func5, Try.ntmps5
      go_wp2_with fail
      refine (many_any _ _ [⟨A1, c1, a⟩, ⟨A2, c2, b⟩, ⟨A9, c3, c⟩] _ H3.out).mono ?_
      rintro e wc ⟨rfl, hgc⟩
      replace H1 := Lib.hid (H1.out.gr hgc)
      replace H2 := Lib.hid (H2.out.gr hgc)
      replace H9 := Lib.hid (H9.out.gr hgc)
      replace hg := hg.tr hgc
      clear hgc
      rw [hm]
      go_wp2_with fail
      refine (Check_any A1 c1 a _ H1.out).mono ?_
      rintro e wc ⟨rfl, hgc⟩
      replace H1 := Lib.hid (H1.out.gr hgc)
      replace H2 := Lib.hid (H2.out.gr hgc)
      replace H9 := Lib.hid (H9.out.gr hgc)
      replace hg := hg.tr hgc
      clear hgc
      go_wp2_with fail
      refine (awake_any _).mono ?_
      rintro e wc ⟨rfl, hgc⟩
      replace hg := hg.tr hgc
      clear hgc
      go_wp2
      go_ret
      exact ⟨rfl, hg⟩
  · go_enter Try.func5, Try.ntmps5
    go_wp2_with fail
    refine (many_any _ _ [⟨A1, c1, a⟩, ⟨A2, c2, b⟩, ⟨A9, c3, c⟩] _ H3.out).mono ?_
    rintro e wc ⟨rfl, hgc⟩
    replace hg := hg.tr hgc
    clear hgc
    rw [hm]
    go_wp2_with fail
    refine (awake_any _).mono ?_
    rintro e wc ⟨rfl, hgc⟩
    replace hg := hg.tr hgc
    clear hgc
    go_wp2
    go_ret
    exact ⟨rfl, hg⟩
end Go.Proofs.Ytfhanmopoafdeaa
