/- hearsaylaw04: PathsOrder. -/
import Derived.Test.YtehephlblnacgaaDoorPthK
set_option linter.unusedVariables false
set_option linter.unusedSimpArgs false
set_option maxHeartbeats 4000000
namespace Go.Proofs.YtehephlblnacgaaDoor
open Go.RowKit

theorem pathsOrder_bs (a b : List UInt8) (w : World) (hm : Mx w) : Calls Tryd.prog 4 #[.string (bs a), .string (bs b)] w fun r w' => r = .returned (.bool true) ∧ Gr w w' := by
  have HM := Lib.hid hm
  have HL : Hid (Calls Tryd.prog 9 #[.slice (some ⟨w.heap.size, 0, none⟩) 2 2] (w.alloc (.cells #[.string (bs a), .string (bs b)] 9)) fun r w' => r = .returned (.bool (longV [a, b])) ∧ Gr w w') := Lib.hid (long_new w [a, b] (by simp))
  have AW : Hid (∀ w, Mx w → Calls Tryd.prog 10 #[] w fun r w' => r = .returned (.bool true) ∧ Gr w w') := Lib.hid awake_any
  clear hm
  obtain ⟨s1, hs1⟩ : ∃ s1, bs a = s1 := ⟨_, rfl⟩
  obtain ⟨s2, hs2⟩ : ∃ s2, bs b = s2 := ⟨_, rfl⟩
  rw [hs1, hs2] at HL ⊢
  cases hl : longV [a, b] with
  | true =>
    rw [hl] at HL
    clear hl hs1 hs2
    go_enter Tryd.func4, Tryd.ntmps4
    go_wp2_with fail
    refine (HL.out).mono ?_
    rintro r w1 ⟨rfl, hg⟩
    have HG := Lib.hid hg
    clear hg HL
    go_wp2_with fail
    refine (AW.out _ (HM.out.gr HG.out)).mono ?_
    rintro r wAW ⟨rfl, hg⟩
    replace HG := Lib.hid (HG.out.tr hg)
    clear hg
    go_wp2
    go_ret
    exact ⟨rfl, HG.out⟩
  | false =>
    rw [hl] at HL
    have hmem := longV_mem hl
    have ha : a.length ≤ 4096 := by have := hmem a (by simp); omega
    have hb : b.length ≤ 4096 := by have := hmem b (by simp); omega
    have C1 := Lib.hid (fun w hm => Compare_any a b w (by omega) (by omega) hm)
    have C2 := Lib.hid (fun w (_ : Mx w) => refCompare_any a b w ha hb)
    obtain ⟨x, hx⟩ : ∃ x, cmpS a b = x := ⟨_, rfl⟩
    rw [hs1, hs2, hx] at C1 C2
    clear hl hs1 hs2 hmem ha hb hx
    go_enter Tryd.func4, Tryd.ntmps4
    go_wp2_with fail
    refine (HL.out).mono ?_
    rintro r w1 ⟨rfl, hg⟩
    have HG := Lib.hid hg
    clear hg HL
    go_wp2_with fail
    refine (C1.out _ (HM.out.gr HG.out)).mono ?_
    rintro r wC1 ⟨rfl, hg⟩
    replace HG := Lib.hid (HG.out.tr hg)
    clear hg
    go_wp2_with fail
    refine (C2.out _ (HM.out.gr HG.out)).mono ?_
    rintro r wC2 ⟨rfl, hg⟩
    replace HG := Lib.hid (HG.out.tr hg)
    clear hg
    go_wp2_with fail
    refine (AW.out _ (HM.out.gr HG.out)).mono ?_
    rintro r wAW ⟨rfl, hg⟩
    replace HG := Lib.hid (HG.out.tr hg)
    clear hg
    go_wp2
    go_ret
    exact ⟨rfl, HG.out⟩
theorem pathsOrder_walk (a b : ByteArray) (w : World) (hm : Mx w) : Calls Tryd.prog 4 #[.string a, .string b] w fun r w' => r = .returned (.bool true) ∧ Gr w w' := pathsOrder_bs a.data.toList b.data.toList w hm
end Go.Proofs.YtehephlblnacgaaDoor
