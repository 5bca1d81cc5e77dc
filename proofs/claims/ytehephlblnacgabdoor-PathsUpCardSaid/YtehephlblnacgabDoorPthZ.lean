/- hearsaylaw04: PathsUp. -/
import Derived.Test.YtehephlblnacgabDoorPthY
import Derived.Test.YtehephlblnacgabDoorPthG
set_option linter.unusedVariables false
set_option linter.unusedSimpArgs false
set_option maxHeartbeats 4000000
namespace Go.Proofs.YtehephlblnacgabDoor
open Go.RowKit

theorem pathsUp_bs (a d : List UInt8) (w : World) (hm : Mx w) : Calls Tryd.prog 3 #[.string (bs a), .string (bs d)] w fun r w' => r = .returned (.bool true) ∧ Gr w w' := by
  have HM := Lib.hid hm
  have AW : Hid (∀ w, Mx w → Calls Tryd.prog 5 #[] w fun r w' => r = .returned (.bool true) ∧ Gr w w') := Lib.hid awake_any
  have HL : Hid (Calls Tryd.prog 4 #[.slice (some ⟨w.heap.size, 0, none⟩) 2 2] (w.alloc (.cells #[.string (bs a), .string (bs d)] 9)) fun r w' => r = .returned (.bool (longV [a, d])) ∧ Gr w w') := Lib.hid (long_new w [a, d] (by simp))
  clear hm
  obtain ⟨s1, hs1⟩ : ∃ s1, bs a = s1 := ⟨_, rfl⟩
  obtain ⟨s2, hs2⟩ : ∃ s2, bs d = s2 := ⟨_, rfl⟩
  rw [hs1, hs2] at HL ⊢
  cases hl : longV [a, d] with
  | true =>
    rw [hl] at HL
    clear hl hs1 hs2
    go_enter Tryd.func3, Tryd.ntmps3
    go_wp2_with fail
    refine (HL.out).mono ?_
    rintro r w1 ⟨rfl, hg⟩
    have HG := Lib.hid hg
    clear hg HL
    go_wp2_with fail
    refine (AW.out _ (HM.out.gr HG.out)).mono ?_
    rintro r wAW ⟨rfl, hg⟩
    replace HG := Lib.hid (HG.out.tr hg)
    clear hg
    go_wp2
    go_ret
    exact ⟨rfl, HG.out⟩
  | false =>
    rw [hl] at HL
    have hmem := longV_mem hl
    have ha : a.length ≤ 4096 := by have := hmem a (by simp); omega
    have hd : d.length ≤ 4096 := by have := hmem d (by simp); omega
    have U1 := Lib.hid (fun w hm => Up_any a w (by omega) hm)
    have U2 := Lib.hid (fun w (_ : Mx w) => refUp_any a w ha)
    have L1 := Lib.hid (fun w hm => Last_any a w (by omega) hm)
    have L2 := Lib.hid (fun w (_ : Mx w) => refLast_any a w ha)
    have N1 := Lib.hid (fun w hm => Under_any a d w (by omega) (by omega) hm)
    have N2 := Lib.hid (fun w (_ : Mx w) => refUnder_any a d w ha hd)
    obtain ⟨x, hx⟩ : ∃ x, bs (upV a) = x := ⟨_, rfl⟩
    obtain ⟨y, hy⟩ : ∃ y, bs (lastV a) = y := ⟨_, rfl⟩
    obtain ⟨z, hz⟩ : ∃ z, underV a d = z := ⟨_, rfl⟩
    rw [hs1, hx] at U1 U2
    rw [hs1, hy] at L1 L2
    rw [hs1, hs2, hz] at N1 N2
    clear hl hs1 hs2 hmem ha hd hx hy hz
    go_enter Tryd.func3, Tryd.ntmps3
    go_wp2_with fail
    refine (HL.out).mono ?_
    rintro r w1 ⟨rfl, hg⟩
    have HG := Lib.hid hg
    clear hg HL
    go_wp2_with fail
    refine (U1.out _ (HM.out.gr HG.out)).mono ?_
    rintro r wU ⟨rfl, hg⟩
    replace HG := Lib.hid (HG.out.tr hg)
    clear hg U1
    go_wp2_with fail
    refine (U2.out _ (HM.out.gr HG.out)).mono ?_
    rintro r wV ⟨rfl, hg⟩
    replace HG := Lib.hid (HG.out.tr hg)
    clear hg U2
    go_wp2_with fail
    refine (L1.out _ (HM.out.gr HG.out)).mono ?_
    rintro r wL ⟨rfl, hg⟩
    replace HG := Lib.hid (HG.out.tr hg)
    clear hg L1
    go_wp2_with fail
    refine (L2.out _ (HM.out.gr HG.out)).mono ?_
    rintro r wM ⟨rfl, hg⟩
    replace HG := Lib.hid (HG.out.tr hg)
    clear hg L2
    go_wp2_with fail
    refine (N1.out _ (HM.out.gr HG.out)).mono ?_
    rintro r wN ⟨rfl, hg⟩
    replace HG := Lib.hid (HG.out.tr hg)
    clear hg N1
    go_wp2_with fail
    refine (N2.out _ (HM.out.gr HG.out)).mono ?_
    rintro r wO ⟨rfl, hg⟩
    replace HG := Lib.hid (HG.out.tr hg)
    clear hg N2
    go_wp2_with fail
    refine (AW.out _ (HM.out.gr HG.out)).mono ?_
    rintro r wAW ⟨rfl, hg⟩
    replace HG := Lib.hid (HG.out.tr hg)
    clear hg
    go_wp2
    go_ret
    exact ⟨rfl, HG.out⟩
theorem pathsUp_walk (a b : ByteArray) (w : World) (hm : Mx w) : Calls Tryd.prog 3 #[.string a, .string b] w fun r w' => r = .returned (.bool true) ∧ Gr w w' := pathsUp_bs a.data.toList b.data.toList w hm
end Go.Proofs.YtehephlblnacgabDoor
