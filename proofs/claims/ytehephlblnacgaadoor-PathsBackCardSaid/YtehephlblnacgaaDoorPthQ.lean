/- hearsaylaw04: PathsCheck. -/
import Derived.Test.YtehephlblnacgaaDoorPthN
set_option linter.unusedVariables false
set_option linter.unusedSimpArgs false
set_option maxHeartbeats 4000000
namespace Go.Proofs.YtehephlblnacgaaDoor
open Go.RowKit

theorem add0 (g j : Nat) : (⟨g, 0, none⟩ : Addr).add j = ⟨g, j, none⟩ := by unfold Addr.add; split <;> simp_all
theorem Tb.tx {w : World} {g : Nat} {xs : List (List UInt8)} (h : Tb w g xs) : Tx w (some ⟨g, 0, none⟩) xs := fun j hj => ⟨_, rfl, by rw [add0]; exact h j hj⟩
theorem OwnT.tx {w : World} {B n c : Nat} {A : Option Addr} {xs : List (List UInt8)} (h : OwnT w B (.slice A n c) xs) : Tx w A xs := fun j hj => by
  obtain ⟨g, rfl, _, _, _, _, hc⟩ := h.cell
  exact ⟨_, rfl, by rw [add0]; exact hc j hj⟩
theorem Tx.nil (w : World) (A : Option Addr) : Tx w A [] := fun j h => absurd h (by simp)
theorem pieces_lt (a : List UInt8) (h : a.length ≤ 4096) : (pieces a).length ≤ 9223372036854775807 := by have := pieces_len_le a; omega
theorem pathsCheck_bs (a : List UInt8) (w : World) (hm : Mx w) : Calls Tryd.prog 3 #[.string (bs a)] w fun r w' => r = .returned (.bool true) ∧ Gr w w' := by
  have HM := Lib.hid hm
  have HL : Hid (Calls Tryd.prog 9 #[.slice (some ⟨w.heap.size, 0, none⟩) 1 1] (w.alloc (.cells #[.string (bs a)] 9)) fun r w' => r = .returned (.bool (longV [a])) ∧ Gr w w') := Lib.hid (long_new w [a] (by simp))
  have AW : Hid (∀ w, Mx w → Calls Tryd.prog 10 #[] w fun r w' => r = .returned (.bool true) ∧ Gr w w') := Lib.hid awake_any
  clear hm
  obtain ⟨s1, hs1⟩ : ∃ s1, bs a = s1 := ⟨_, rfl⟩
  rw [hs1] at HL ⊢
  cases hl : longV [a] with
  | true =>
    rw [hl] at HL
    clear hl hs1
    go_enter Tryd.func3, Tryd.ntmps3
    go_wp2_with fail
    refine (HL.out).mono ?_
    rintro r w1 ⟨rfl, hg⟩
    have HG := Lib.hid hg
    clear hg HL
    go_wp2_with fail
    refine (AW.out _ (HM.out.gr HG.out)).mono ?_
    rintro r wAW ⟨rfl, hg⟩
    replace HG := Lib.hid (HG.out.tr hg)
    clear hg
    go_wp2
    go_ret
    exact ⟨rfl, HG.out⟩
  | false =>
    rw [hl] at HL
    have hmem := longV_mem hl
    have ha : a.length ≤ 4096 := by have := hmem a (by simp); omega
    have ham : a.length ≤ maxLen := by unfold maxLen; omega
    have N1 := Lib.hid (fun w => Name_any a ham w)
    have N2 := Lib.hid (fun w => refName_any a ham w)
    have C1 := Lib.hid (fun w hm => Check_any a w (by omega) hm)
    have C2 := Lib.hid (fun w => refCheck_any a w ha)
    have P1 := Lib.hid (fun w hm => Parts_any a w (by omega) hm)
    have P2 := Lib.hid (fun w => refParts_any a w ha)
    have HPL := Lib.hid (pieces_lt a ha)
    obtain ⟨x, hx⟩ : ∃ x, chkV a = x := ⟨_, rfl⟩
    obtain ⟨y, hy⟩ : ∃ y, nameV a = y := ⟨_, rfl⟩
    rw [hs1, hx] at C1 C2
    rw [hs1, hy] at N1 N2
    rw [hs1] at P1 P2
    clear hl hs1 hmem ha hx hy ham
    go_enter Tryd.func3, Tryd.ntmps3
    go_wp2_with fail
    refine (HL.out).mono ?_
    rintro r w1 ⟨rfl, hg⟩
    have HG := Lib.hid hg
    clear hg HL
    go_wp2_with fail
    refine (N1.out _).mono ?_
    rintro r wN ⟨rfl, rfl⟩
    go_wp2_with fail
    refine (N2.out _).mono ?_
    rintro r wN ⟨rfl, rfl⟩
    clear N1 N2
    go_wp2_with fail
    refine (C1.out _ (HM.out.gr HG.out)).mono ?_
    rintro r wC1 ⟨rfl, hg⟩
    replace HG := Lib.hid (HG.out.tr hg)
    clear hg C1
    go_wp2_with fail
    refine (C2.out _).mono ?_
    rintro r wC2 ⟨rfl, hg⟩
    replace HG := Lib.hid (HG.out.tr hg)
    clear hg C2
    go_wp2_with fail
    refine (P1.out _ (HM.out.gr HG.out)).mono ?_
    rintro r wP1 ⟨⟨v1, rfl, hv1⟩, hg⟩
    have H1 := Lib.hid hv1
    replace HG := Lib.hid (HG.out.tr hg)
    clear hg P1 hv1
    go_wp2_with fail
    refine (P2.out _).mono ?_
    rintro r wP2 ⟨⟨v2, B2, rfl, hv2⟩, hg⟩
    have HS : Hid (∃ A m c B n d, v1 = .slice A m c ∧ v2 = .slice B n d ∧ (∀ wz, wz = wP2 → Calls Tryd.prog 15 #[.slice A m c, .slice B n d] wz fun r w' => r = .returned (.bool true) ∧ Gr wz w')) := Lib.hid (by
      rcases H1.out with ⟨e1, g, rfl, ht⟩ | ⟨e1, rfl⟩
      · rcases hv2 with ⟨e2, ho⟩ | ⟨e2, rfl⟩
        · obtain ⟨A, c, rfl⟩ := ho.shape
          exact ⟨_, _, _, _, _, _, rfl, rfl, fun wz e => by subst e; have h := SameTexts_any _ _ (pieces a).length c _ _ _ HPL.out (ht.tx.gr hg) ho.tx; rw [decide_eq_true (rfl : pieces a = pieces a)] at h; exact h⟩
        · rw [e1] at e2; cases e2
      · rcases hv2 with ⟨e2, ho⟩ | ⟨e2, rfl⟩
        · rw [e1] at e2; cases e2
        · exact ⟨none, 0, 0, none, 0, 0, rfl, rfl, fun wz e => SameTexts_any none none 0 0 [] [] wz (by simp) (Tx.nil _ _) (Tx.nil _ _)⟩)
    replace HG := Lib.hid (HG.out.tr hg)
    clear hg P2 hv2 H1
    obtain ⟨A, m, c, B, n, d, rfl, rfl, hs⟩ := HS.out
    have HS2 := Lib.hid hs
    clear HS hs
    go_wp2_with fail
    refine (HS2.out _ rfl).mono ?_
    rintro r wS ⟨rfl, hg⟩
    replace HG := Lib.hid (HG.out.tr hg)
    clear hg HS2
    go_wp2_with fail
    refine (AW.out _ (HM.out.gr HG.out)).mono ?_
    rintro r wAW ⟨rfl, hg⟩
    replace HG := Lib.hid (HG.out.tr hg)
    clear hg
    go_wp2
    go_ret
    exact ⟨rfl, HG.out⟩
theorem pathsCheck_walk (a : ByteArray) (w : World) (hm : Mx w) : Calls Tryd.prog 3 #[.string a] w fun r w' => r = .returned (.bool true) ∧ Gr w w' := pathsCheck_bs a.data.toList w hm
end Go.Proofs.YtehephlblnacgaaDoor
