/- hearsaylaw04: PathsBack. -/
import Derived.Test.YtehephlblnacgaaDoorPthU
import Derived.Test.YtehephlblnacgaaDoorPthT
set_option linter.unusedVariables false
set_option linter.unusedSimpArgs false
set_option maxHeartbeats 4000000
namespace Go.Proofs.YtehephlblnacgaaDoor
open Go.RowKit

theorem pathsBack_tx (a : List UInt8) (A : Option Addr) (c : Nat) (ps : List (List UInt8)) (w : World) (hm : Mx w) (hn : ps.length ≤ 9223372036854775807) (h : Tx w A ps) (hc : ps.length ≤ c) :
    Calls Tryd.prog 8 #[.string (bs a), .slice A ps.length c] w fun r w' => r = .returned (.bool true) ∧ Gr w w' := by
  have HM := Lib.hid hm
  have AW : Hid (∀ w, Mx w → Calls Tryd.prog 10 #[] w fun r w' => r = .returned (.bool true) ∧ Gr w w') := Lib.hid awake_any
  have HL : Hid (Calls Tryd.prog 9 #[.slice (some ⟨w.heap.size, 0, none⟩) 1 1] (w.alloc (.cells #[.string (bs a)] 9)) fun r w' => r = .returned (.bool (longV [a])) ∧ Gr w w') := Lib.hid (long_new w [a] (by simp))
  have HL2 := Lib.hid (fun w' (g : Gr w w') => long_any A c ps w' hn (h.gr g))
  clear hm
  by_cases h20 : ps.length ≤ 20
  · have hi : ¬ (20 : Int) < (ps.length : Int) := by omega
    cases hl1 : longV [a] with
    | true =>
      obtain ⟨s1, hs1⟩ : ∃ s1, bs a = s1 := ⟨_, rfl⟩
      rw [hl1, hs1] at HL
      rw [hs1]
      clear hs1 h hl1 hc hn HL2
      go_enter Tryd.func8, Tryd.ntmps8
      go_wp2_with fail
      refine (HL.out).mono ?_
      rintro r w1 ⟨rfl, hg⟩
      have HG := Lib.hid hg
      clear hg HL
      go_wp2_with fail
      refine (AW.out _ (HM.out.gr HG.out)).mono ?_
      rintro r wAW ⟨rfl, hg⟩
      replace HG := Lib.hid (HG.out.tr hg)
      clear hg
      go_wp2
      go_ret
      exact ⟨rfl, HG.out⟩
    | false =>
      rw [hl1] at HL
      cases hl2 : longV ps with
      | true =>
        obtain ⟨s1, hs1⟩ : ∃ s1, bs a = s1 := ⟨_, rfl⟩
        rw [hs1] at HL
        rw [hl2] at HL2
        rw [hs1]
        clear hs1 h hl1 hc hn hl2
        go_enter Tryd.func8, Tryd.ntmps8
        go_wp2_with fail
        refine (HL.out).mono ?_
        rintro r w1 ⟨rfl, hg⟩
        have HG := Lib.hid hg
        clear hg HL
        go_wp2_with fail
        refine (HL2.out _ HG.out).mono ?_
        rintro r w2 ⟨rfl, rfl⟩
        clear HL2
        go_wp2_with fail
        refine (AW.out _ (HM.out.gr HG.out)).mono ?_
        rintro r wAW ⟨rfl, hg⟩
        replace HG := Lib.hid (HG.out.tr hg)
        clear hg
        go_wp2
        go_ret
        exact ⟨rfl, HG.out⟩
      | false =>
        rw [hl2] at HL2
        have hml : ∀ p ∈ ps, p.length ≤ 4096 := fun p hp => by have := longV_mem hl2 p hp; omega
        have ha : a.length < 4294967281 := by have := longV_mem hl1 a (by simp); omega
        have C1 := Lib.hid (fun w hm => Check_any a w ha hm)
        have J2 := Lib.hid (fun w' (g : Gr w w') => Join_any A c ps w' hn (h.gr g) hc hml)
        have U1 := Lib.hid (fun w hm => Up_any a w ha hm)
        have L1 := Lib.hid (fun w hm => Last_any a w ha hm)
        have P1 : pathV a = true → Hid (∀ w, Mx w → Calls Tryd.prog 16 #[.string (bs a)] w fun r w' => (∃ g, r = .returned (.slice (some ⟨g, 0, none⟩) (pieces a).length (pieces a).length) ∧ Calls Tryd.prog 21 #[.slice (some ⟨g, 0, none⟩) (pieces a).length (pieces a).length] w' fun r w2 => r = .returned (.tuple #[.string (bs a), .int .i64 0]) ∧ Gr w' w2) ∧ Gr w w') := fun hv => Lib.hid (fun w hm => (Parts_any a w ha hm).mono (by
          obtain ⟨h51, h1, h4, hnm⟩ := pathV_parts hv
          rintro r w' ⟨⟨v, rfl, hr⟩, hg⟩
          rcases hr with ⟨_, g, rfl, ht⟩ | ⟨hv2, _⟩
          · refine ⟨⟨g, rfl, ?_⟩, hg⟩
            have hj := Join_any (some ⟨g, 0, none⟩) (pieces a).length (pieces a) w' (by omega) ht.tx (Nat.le_refl _) (fun p hp => by have := name_len (hnm p hp); omega)
            have hpo : partsOk (pieces a) = true := by unfold pathV at hv; simp only [Bool.and_eq_true] at hv; exact hv.2
            rw [joinR_yes hpo, join_pieces] at hj
            exact hj
          · rw [hv] at hv2; cases hv2))
        have P3 : partsOk ps = true → Hid (∀ w', Gr w w' → Mx w' → Calls Tryd.prog 16 #[.string (bs (joinP ps))] w' fun r w2 => (∃ g, r = .returned (.slice (some ⟨g, 0, none⟩) ps.length ps.length) ∧ Calls Tryd.prog 15 #[.slice (some ⟨g, 0, none⟩) ps.length ps.length, .slice A ps.length c] w2 fun r w3 => r = .returned (.bool true) ∧ Gr w2 w3) ∧ Gr w' w2) := fun hv => Lib.hid (fun w' hgw hm => (Parts_any (joinP ps) w' (by
            have h1 := joinP_len ps 4096 hml
            have h2 : ps.length * (4096 + 1) ≤ 20 * 4097 := Nat.mul_le_mul h20 (Nat.le_refl _)
            omega) hm).mono (by
          obtain ⟨hpj, hpv⟩ := parts_joined hv
          rintro r w2 ⟨⟨v, rfl, hr⟩, hg⟩
          rcases hr with ⟨_, g, rfl, ht⟩ | ⟨hv2, _⟩
          · rw [hpj] at ht ⊢
            refine ⟨⟨g, rfl, ?_⟩, hg⟩
            have hs := SameTexts_any (some ⟨g, 0, none⟩) A ps.length c ps ps w2 hn ht.tx (h.gr (hgw.tr hg))
            rw [decide_eq_true (rfl : ps = ps)] at hs
            exact hs
          · rw [hpv] at hv2; cases hv2))
        have C3 : partsOk ps = true → Hid (∀ w, Mx w → Calls Tryd.prog 13 #[.string (bs (joinP ps))] w fun r w' => r = .returned (.int .i64 0) ∧ Gr w w') := fun hv => Lib.hid (fun w hm => by
          have hc := Check_any (joinP ps) w (by
            have h1 := joinP_len ps 4096 hml
            have h2 : ps.length * (4096 + 1) ≤ 20 * 4097 := Nat.mul_le_mul h20 (Nat.le_refl _)
            omega) hm
          rw [(chkV_ok _).2 (parts_joined hv).2] at hc
          exact hc)
        clear h hl1 hl2 hc hml ha
        cases hpa : pathV a with
        | false =>
          have hne : ¬ chkV a = 0 := fun e => by rw [(chkV_ok a).1 e] at hpa; cases hpa
          obtain ⟨n, hnc⟩ : ∃ n, chkV a = n := ⟨_, rfl⟩
          rw [hnc] at C1 hne
          clear U1 L1 P1 hpa hnc
          obtain ⟨s1, hs1⟩ : ∃ s1, bs a = s1 := ⟨_, rfl⟩
          rw [hs1] at HL C1 ⊢
          clear hs1
          cases hpo : partsOk ps with
          | false =>
            rw [joinR_no hpo] at J2
            clear C3 P3 hpo
            go_enter Tryd.func8, Tryd.ntmps8
            go_wp2_with fail
            refine (HL.out).mono ?_
            rintro r w1 ⟨rfl, hg⟩
            have HG := Lib.hid hg
            clear hg HL
            go_wp2_with fail
            refine (HL2.out _ HG.out).mono ?_
            rintro r w2 ⟨rfl, rfl⟩
            clear HL2
            go_wp2_with fail
            refine (C1.out _ (HM.out.gr HG.out)).mono ?_
            rintro r w3 ⟨rfl, hg⟩
            replace HG := Lib.hid (HG.out.tr hg)
            clear hg C1
            go_wp2_with fail
            refine (J2.out _ HG.out).mono ?_
            rintro r w8 ⟨rfl, hg⟩
            replace HG := Lib.hid (HG.out.tr hg)
            clear hg J2
            go_wp2_with fail
            refine (AW.out _ (HM.out.gr HG.out)).mono ?_
            rintro r wAW ⟨rfl, hg⟩
            replace HG := Lib.hid (HG.out.tr hg)
            clear hg
            go_wp2
            go_ret
            exact ⟨rfl, HG.out⟩
          | true =>
            replace C3 := C3 hpo
            replace P3 := P3 hpo
            rw [joinR_yes hpo] at J2
            obtain ⟨t, ht⟩ : ∃ t, bs (joinP ps) = t := ⟨_, rfl⟩
            rw [ht] at J2 C3 P3
            clear ht hpo
            go_enter Tryd.func8, Tryd.ntmps8
            go_wp2_with fail
            refine (HL.out).mono ?_
            rintro r w1 ⟨rfl, hg⟩
            have HG := Lib.hid hg
            clear hg HL
            go_wp2_with fail
            refine (HL2.out _ HG.out).mono ?_
            rintro r w2 ⟨rfl, rfl⟩
            clear HL2
            go_wp2_with fail
            refine (C1.out _ (HM.out.gr HG.out)).mono ?_
            rintro r w3 ⟨rfl, hg⟩
            replace HG := Lib.hid (HG.out.tr hg)
            clear hg C1
            go_wp2_with fail
            refine (J2.out _ HG.out).mono ?_
            rintro r w8 ⟨rfl, hg⟩
            replace HG := Lib.hid (HG.out.tr hg)
            clear hg J2
            go_wp2_with fail
            refine (C3.out _ (HM.out.gr HG.out)).mono ?_
            rintro r w9 ⟨rfl, hg⟩
            replace HG := Lib.hid (HG.out.tr hg)
            clear hg C3
            go_wp2_with fail
            refine (P3.out _ HG.out (HM.out.gr HG.out)).mono ?_
            rintro r w10 ⟨⟨g3, rfl, hs⟩, hg⟩
            have HS := Lib.hid hs
            replace HG := Lib.hid (HG.out.tr hg)
            clear hg P3 hs
            go_wp2_with fail
            refine (HS.out).mono ?_
            rintro r w11 ⟨rfl, hg⟩
            replace HG := Lib.hid (HG.out.tr hg)
            clear hg HS
            go_wp2_with fail
            refine (AW.out _ (HM.out.gr HG.out)).mono ?_
            rintro r wAW ⟨rfl, hg⟩
            replace HG := Lib.hid (HG.out.tr hg)
            clear hg
            go_wp2
            go_ret
            exact ⟨rfl, HG.out⟩
        | true =>
          rw [(chkV_ok a).2 hpa] at C1
          replace P1 := P1 hpa
          have hul := up_last hpa
          obtain ⟨m, hpm⟩ : ∃ m, (pieces a).length = m := ⟨_, rfl⟩
          rw [hpm] at P1
          obtain ⟨s1, hs1⟩ : ∃ s1, bs a = s1 := ⟨_, rfl⟩
          rcases hul with ⟨hu, hla⟩ | ⟨hu, hla⟩
          · rw [hu, show bs [] = ⟨#[]⟩ from rfl] at U1
            rw [hla] at L1
            rw [hs1] at HL C1 P1 U1 L1 ⊢
            have hz : 0 + s1.size ≤ 9223372036854775807 := by rw [← hs1, bs_size]; have := (pathV_parts hpa).1; omega
            have hee : (⟨#[]⟩ : ByteArray) ++ s1 = s1 := by rw [← hs1]; exact bs_app [] a
            have q1 : ((⟨#[]⟩ : ByteArray) ++ s1).toList = s1.toList := by rw [hee]
            have q2 : (((⟨#[]⟩ : ByteArray) ++ s1).toList == s1.toList) = true := by rw [hee]; simp
            clear hs1 hu hla hpm hpa
            cases hpo : partsOk ps with
            | false =>
              rw [joinR_no hpo] at J2
              clear C3 P3 hpo
              go_enter Tryd.func8, Tryd.ntmps8
              go_wp2_with fail
              refine (HL.out).mono ?_
              rintro r w1 ⟨rfl, hg⟩
              have HG := Lib.hid hg
              clear hg HL
              go_wp2_with fail
              refine (HL2.out _ HG.out).mono ?_
              rintro r w2 ⟨rfl, rfl⟩
              clear HL2
              go_wp2_with fail
              refine (C1.out _ (HM.out.gr HG.out)).mono ?_
              rintro r w3 ⟨rfl, hg⟩
              replace HG := Lib.hid (HG.out.tr hg)
              clear hg C1
              go_wp2_with fail
              refine (P1.out _ (HM.out.gr HG.out)).mono ?_
              rintro r w4 ⟨⟨g, rfl, hj⟩, hg⟩
              have HJ := Lib.hid hj
              replace HG := Lib.hid (HG.out.tr hg)
              clear hg P1 hj
              go_wp2_with fail
              refine (HJ.out).mono ?_
              rintro r w5 ⟨rfl, hg⟩
              replace HG := Lib.hid (HG.out.tr hg)
              clear hg HJ
              go_wp2_with fail
              refine (U1.out _ (HM.out.gr HG.out)).mono ?_
              rintro r w6 ⟨rfl, hg⟩
              replace HG := Lib.hid (HG.out.tr hg)
              clear hg U1
              go_wp2_with fail
              refine (L1.out _ (HM.out.gr HG.out)).mono ?_
              rintro r w7 ⟨rfl, hg⟩
              replace HG := Lib.hid (HG.out.tr hg)
              clear hg L1
              go_wp2_with fail
              refine (J2.out _ HG.out).mono ?_
              rintro r w8 ⟨rfl, hg⟩
              replace HG := Lib.hid (HG.out.tr hg)
              clear hg J2
              go_wp2_with fail
              refine (AW.out _ (HM.out.gr HG.out)).mono ?_
              rintro r wAW ⟨rfl, hg⟩
              replace HG := Lib.hid (HG.out.tr hg)
              clear hg
              go_wp2
              go_ret
              exact ⟨rfl, HG.out⟩
            | true =>
              replace C3 := C3 hpo
              replace P3 := P3 hpo
              rw [joinR_yes hpo] at J2
              obtain ⟨t, ht⟩ : ∃ t, bs (joinP ps) = t := ⟨_, rfl⟩
              rw [ht] at J2 C3 P3
              clear ht hpo
              go_enter Tryd.func8, Tryd.ntmps8
              go_wp2_with fail
              refine (HL.out).mono ?_
              rintro r w1 ⟨rfl, hg⟩
              have HG := Lib.hid hg
              clear hg HL
              go_wp2_with fail
              refine (HL2.out _ HG.out).mono ?_
              rintro r w2 ⟨rfl, rfl⟩
              clear HL2
              go_wp2_with fail
              refine (C1.out _ (HM.out.gr HG.out)).mono ?_
              rintro r w3 ⟨rfl, hg⟩
              replace HG := Lib.hid (HG.out.tr hg)
              clear hg C1
              go_wp2_with fail
              refine (P1.out _ (HM.out.gr HG.out)).mono ?_
              rintro r w4 ⟨⟨g, rfl, hj⟩, hg⟩
              have HJ := Lib.hid hj
              replace HG := Lib.hid (HG.out.tr hg)
              clear hg P1 hj
              go_wp2_with fail
              refine (HJ.out).mono ?_
              rintro r w5 ⟨rfl, hg⟩
              replace HG := Lib.hid (HG.out.tr hg)
              clear hg HJ
              go_wp2_with fail
              refine (U1.out _ (HM.out.gr HG.out)).mono ?_
              rintro r w6 ⟨rfl, hg⟩
              replace HG := Lib.hid (HG.out.tr hg)
              clear hg U1
              go_wp2_with fail
              refine (L1.out _ (HM.out.gr HG.out)).mono ?_
              rintro r w7 ⟨rfl, hg⟩
              replace HG := Lib.hid (HG.out.tr hg)
              clear hg L1
              go_wp2_with fail
              refine (J2.out _ HG.out).mono ?_
              rintro r w8 ⟨rfl, hg⟩
              replace HG := Lib.hid (HG.out.tr hg)
              clear hg J2
              go_wp2_with fail
              refine (C3.out _ (HM.out.gr HG.out)).mono ?_
              rintro r w9 ⟨rfl, hg⟩
              replace HG := Lib.hid (HG.out.tr hg)
              clear hg C3
              go_wp2_with fail
              refine (P3.out _ HG.out (HM.out.gr HG.out)).mono ?_
              rintro r w10 ⟨⟨g3, rfl, hs⟩, hg⟩
              have HS := Lib.hid hs
              replace HG := Lib.hid (HG.out.tr hg)
              clear hg P3 hs
              go_wp2_with fail
              refine (HS.out).mono ?_
              rintro r w11 ⟨rfl, hg⟩
              replace HG := Lib.hid (HG.out.tr hg)
              clear hg HS
              go_wp2_with fail
              refine (AW.out _ (HM.out.gr HG.out)).mono ?_
              rintro r wAW ⟨rfl, hg⟩
              replace HG := Lib.hid (HG.out.tr hg)
              clear hg
              go_wp2
              go_ret
              exact ⟨rfl, HG.out⟩
          · have h51 := (pathV_parts hpa).1
            have hlu : (upV a).length + 1 + (lastV a).length = a.length := by have := congrArg List.length hla; simp only [List.length_append, List.length_cons] at this; omega
            have hbu : (bs (upV a)).size + 1 + (bs (lastV a)).size ≤ 51 := by rw [bs_size, bs_size]; omega
            have n1 : ¬ (bs (upV a)).toList = [] := by rw [Lib.toList_data]; exact hu
            have n2 : (bs (upV a)).toList.isEmpty = false := by rw [Lib.toList_data, bs_list]; simp [hu]
            have hee : bs (upV a) ++ ⟨#[47]⟩ ++ bs (lastV a) = s1 := by
              show bs _ ++ bs [47] ++ bs _ = _
              rw [bs_app, bs_app, List.append_assoc, ← hs1, ← hla]; simp [hla]
            obtain ⟨u, hu2⟩ : ∃ u, bs (upV a) = u := ⟨_, rfl⟩
            obtain ⟨x, hx⟩ : ∃ x, bs (lastV a) = x := ⟨_, rfl⟩
            rw [hu2] at U1 hee n1 n2 hbu
            rw [hx] at L1 hee hbu
            rw [hs1] at HL C1 P1 U1 L1 ⊢
            have hz : u.size + 1 ≤ 9223372036854775807 := by omega
            have hz2 : (u ++ ⟨#[47]⟩).size + x.size ≤ 9223372036854775807 := by
              rw [ByteArray.size_append]
              show u.size + 1 + x.size ≤ _
              omega
            have q1 : (u ++ ⟨#[47]⟩ ++ x).toList = s1.toList := by rw [hee]
            have q2 : ((u ++ ⟨#[47]⟩ ++ x).toList == s1.toList) = true := by rw [hee]; simp
            clear hs1 hu hla hpm hpa h51 hlu hbu hu2 hx
            cases hpo : partsOk ps with
            | false =>
              rw [joinR_no hpo] at J2
              clear C3 P3 hpo
              go_enter Tryd.func8, Tryd.ntmps8
              go_wp2_with fail
              refine (HL.out).mono ?_
              rintro r w1 ⟨rfl, hg⟩
              have HG := Lib.hid hg
              clear hg HL
              go_wp2_with fail
              refine (HL2.out _ HG.out).mono ?_
              rintro r w2 ⟨rfl, rfl⟩
              clear HL2
              go_wp2_with fail
              refine (C1.out _ (HM.out.gr HG.out)).mono ?_
              rintro r w3 ⟨rfl, hg⟩
              replace HG := Lib.hid (HG.out.tr hg)
              clear hg C1
              go_wp2_with fail
              refine (P1.out _ (HM.out.gr HG.out)).mono ?_
              rintro r w4 ⟨⟨g, rfl, hj⟩, hg⟩
              have HJ := Lib.hid hj
              replace HG := Lib.hid (HG.out.tr hg)
              clear hg P1 hj
              go_wp2_with fail
              refine (HJ.out).mono ?_
              rintro r w5 ⟨rfl, hg⟩
              replace HG := Lib.hid (HG.out.tr hg)
              clear hg HJ
              go_wp2_with fail
              refine (U1.out _ (HM.out.gr HG.out)).mono ?_
              rintro r w6 ⟨rfl, hg⟩
              replace HG := Lib.hid (HG.out.tr hg)
              clear hg U1
              go_wp2_with fail
              refine (L1.out _ (HM.out.gr HG.out)).mono ?_
              rintro r w7 ⟨rfl, hg⟩
              replace HG := Lib.hid (HG.out.tr hg)
              clear hg L1
              go_wp2_with fail
              refine (J2.out _ HG.out).mono ?_
              rintro r w8 ⟨rfl, hg⟩
              replace HG := Lib.hid (HG.out.tr hg)
              clear hg J2
              go_wp2_with fail
              refine (AW.out _ (HM.out.gr HG.out)).mono ?_
              rintro r wAW ⟨rfl, hg⟩
              replace HG := Lib.hid (HG.out.tr hg)
              clear hg
              go_wp2
              go_ret
              exact ⟨rfl, HG.out⟩
            | true =>
              replace C3 := C3 hpo
              replace P3 := P3 hpo
              rw [joinR_yes hpo] at J2
              obtain ⟨t, ht⟩ : ∃ t, bs (joinP ps) = t := ⟨_, rfl⟩
              rw [ht] at J2 C3 P3
              clear ht hpo
              go_enter Tryd.func8, Tryd.ntmps8
              go_wp2_with fail
              refine (HL.out).mono ?_
              rintro r w1 ⟨rfl, hg⟩
              have HG := Lib.hid hg
              clear hg HL
              go_wp2_with fail
              refine (HL2.out _ HG.out).mono ?_
              rintro r w2 ⟨rfl, rfl⟩
              clear HL2
              go_wp2_with fail
              refine (C1.out _ (HM.out.gr HG.out)).mono ?_
              rintro r w3 ⟨rfl, hg⟩
              replace HG := Lib.hid (HG.out.tr hg)
              clear hg C1
              go_wp2_with fail
              refine (P1.out _ (HM.out.gr HG.out)).mono ?_
              rintro r w4 ⟨⟨g, rfl, hj⟩, hg⟩
              have HJ := Lib.hid hj
              replace HG := Lib.hid (HG.out.tr hg)
              clear hg P1 hj
              go_wp2_with fail
              refine (HJ.out).mono ?_
              rintro r w5 ⟨rfl, hg⟩
              replace HG := Lib.hid (HG.out.tr hg)
              clear hg HJ
              go_wp2_with fail
              refine (U1.out _ (HM.out.gr HG.out)).mono ?_
              rintro r w6 ⟨rfl, hg⟩
              replace HG := Lib.hid (HG.out.tr hg)
              clear hg U1
              go_wp2_with fail
              refine (L1.out _ (HM.out.gr HG.out)).mono ?_
              rintro r w7 ⟨rfl, hg⟩
              replace HG := Lib.hid (HG.out.tr hg)
              clear hg L1
              go_wp2_with fail
              refine (J2.out _ HG.out).mono ?_
              rintro r w8 ⟨rfl, hg⟩
              replace HG := Lib.hid (HG.out.tr hg)
              clear hg J2
              go_wp2_with fail
              refine (C3.out _ (HM.out.gr HG.out)).mono ?_
              rintro r w9 ⟨rfl, hg⟩
              replace HG := Lib.hid (HG.out.tr hg)
              clear hg C3
              go_wp2_with fail
              refine (P3.out _ HG.out (HM.out.gr HG.out)).mono ?_
              rintro r w10 ⟨⟨g3, rfl, hs⟩, hg⟩
              have HS := Lib.hid hs
              replace HG := Lib.hid (HG.out.tr hg)
              clear hg P3 hs
              go_wp2_with fail
              refine (HS.out).mono ?_
              rintro r w11 ⟨rfl, hg⟩
              replace HG := Lib.hid (HG.out.tr hg)
              clear hg HS
              go_wp2_with fail
              refine (AW.out _ (HM.out.gr HG.out)).mono ?_
              rintro r wAW ⟨rfl, hg⟩
              replace HG := Lib.hid (HG.out.tr hg)
              clear hg
              go_wp2
              go_ret
              exact ⟨rfl, HG.out⟩
  · have hi : (20 : Int) < (ps.length : Int) := by omega
    have HG := Lib.hid (Gr.rfl' w)
    obtain ⟨s1, hs1⟩ : ∃ s1, bs a = s1 := ⟨_, rfl⟩
    rw [hs1]
    clear h hc HL HL2 hs1
    go_enter Tryd.func8, Tryd.ntmps8
    go_wp2_with fail
    refine (AW.out _ (HM.out.gr HG.out)).mono ?_
    rintro r wAW ⟨rfl, hg⟩
    replace HG := Lib.hid (HG.out.tr hg)
    clear hg
    go_wp2
    go_ret
    exact ⟨rfl, HG.out⟩
theorem pathsBack_walk (a : ByteArray) (A : Option Addr) (c : Nat) (l : List ByteArray) (w : World) (hm : Mx w) (hn : l.length ≤ 9223372036854775807 ∧ l.length ≤ c) (h : TxB w A l) :
    Calls Tryd.prog 8 #[.string a, .slice A l.length c] w fun r w' => r = .returned (.bool true) ∧ Gr w w' := by
  have := pathsBack_tx a.data.toList A c (l.map (fun s : ByteArray => s.data.toList)) w hm (by simpa using hn.1) h.tx (by simpa using hn.2)
  rwa [List.length_map] at this
end Go.Proofs.YtehephlblnacgaaDoor
