/- hearsaylaw04: PathsRow. -/
import Derived.Test.YtehephlblnacgaaDoorPthE
set_option linter.unusedVariables false
set_option linter.unusedSimpArgs false
set_option maxHeartbeats 4000000
namespace Go.Proofs.YtehephlblnacgaaDoor
open Go.RowKit

theorem Tx_new (w : World) (t : TypeId) (xs : List (List UInt8)) : Tx (w.alloc (.cells ((xs.map bs).map Value.string).toArray t)) (some ⟨w.heap.size, 0, none⟩) xs := by
  intro j hj
  refine ⟨_, rfl, ?_⟩
  have hn := World.alloc_heap_new w (.cells ((xs.map bs).map Value.string).toArray t)
  have e : (⟨w.heap.size, 0, none⟩ : Addr).add j = ⟨w.heap.size, j, none⟩ := by unfold Addr.add; split <;> simp_all
  rw [e]
  simp only [World.cell?, hn]
  simp [hj]
/-- long at texts in a new row -/
theorem long_new (w : World) (xs : List (List UInt8)) (hn : xs.length ≤ 9223372036854775807) :
    Calls Tryd.prog 9 #[.slice (some ⟨w.heap.size, 0, none⟩) xs.length xs.length] (w.alloc (.cells ((xs.map bs).map Value.string).toArray 9)) fun r w' => r = .returned (.bool (longV xs)) ∧ Gr w w' := by
  refine (long_any _ xs.length xs _ hn (Tx_new w 9 xs)).mono ?_
  rintro r w' ⟨h, rfl⟩
  exact ⟨h, (Gr.rfl' _).al _⟩
theorem pathsRow_bs (a b c : List UInt8) (w : World) (hm : Mx w) : Calls Tryd.prog 5 #[.string (bs a), .string (bs b), .string (bs c)] w fun r w' => r = .returned (.bool true) ∧ Gr w w' := by
  have HM := Lib.hid hm
  have HL := Lib.hid (long_new w [a, b, c] (by simp))
  cases hl : longV [a, b, c] with
  | true =>
    rw [hl] at HL
    obtain ⟨s1, hs1⟩ : ∃ s1, bs a = s1 := ⟨_, rfl⟩
    obtain ⟨s2, hs2⟩ : ∃ s2, bs b = s2 := ⟨_, rfl⟩
    obtain ⟨s3, hs3⟩ : ∃ s3, bs c = s3 := ⟨_, rfl⟩
    change Hid (Calls Tryd.prog 9 #[.slice (some ⟨w.heap.size, 0, none⟩) 3 3] (w.alloc (.cells #[.string (bs a), .string (bs b), .string (bs c)] 9)) _) at HL
    rw [hs1, hs2, hs3] at HL ⊢
    clear hl hs1 hs2 hs3 hm
    go_enter Tryd.func5, Tryd.ntmps5
    go_wp2_with fail
    refine (HL.out).mono ?_
    rintro r w1 ⟨rfl, hg⟩
    have HG := Lib.hid hg
    clear hg HL
    go_wp2_with fail
    refine (awake_any _ (HM.out.gr HG.out)).mono ?_
    rintro r w2 ⟨rfl, hg⟩
    replace HG := Lib.hid (HG.out.tr hg)
    clear hg
    go_wp2
    go_ret
    exact ⟨rfl, HG.out⟩
  | false =>
    rw [hl] at HL
    have hmem := longV_mem hl
    have ha : a.length < 4294967281 := by have := hmem a (by simp); omega
    have hb : b.length < 4294967281 := by have := hmem b (by simp); omega
    have hc : c.length < 4294967281 := by have := hmem c (by simp); omega
    have C1 := Lib.hid (fun w hm => Compare_any a b w ha hb hm)
    have C2 := Lib.hid (fun w hm => Compare_any b c w hb hc hm)
    have C3 := Lib.hid (fun w hm => Compare_any a c w ha hc hm)
    have C4 := Lib.hid (fun w hm => Compare_any b a w hb ha hm)
    have hneg := cmpS_ord.neg a b
    have hz := cmpS_ord.eq0 a b
    have ht := cmpS_ord.tr a b c
    have ht2 := cmpS_ord.tr' a b c
    have hx1 := cmpS_ord.lo a b
    have hx2 := cmpS_ord.hi a b
    rw [hneg] at C4
    obtain ⟨x, hx⟩ : ∃ x, cmpS a b = x := ⟨_, rfl⟩
    obtain ⟨y, hy⟩ : ∃ y, cmpS b c = y := ⟨_, rfl⟩
    obtain ⟨z, hz'⟩ : ∃ z, cmpS a c = z := ⟨_, rfl⟩
    rw [hx] at C1 C4 hz ht ht2 hx1 hx2
    rw [hy] at C2 ht ht2
    rw [hz'] at C3 ht ht2
    have hne : (bs a).toList = (bs b).toList ↔ x = 0 := by rw [Lib.toList_data, Lib.toList_data]; exact hz.symm
    have hy1 := cmpS_ord.lo b c
    have hy2 := cmpS_ord.hi b c
    rw [hy] at hy1 hy2
    clear hneg hz hx hy hz' hmem ha hb hc hl hm
    obtain ⟨s1, hs1⟩ : ∃ s1, bs a = s1 := ⟨_, rfl⟩
    obtain ⟨s2, hs2⟩ : ∃ s2, bs b = s2 := ⟨_, rfl⟩
    obtain ⟨s3, hs3⟩ : ∃ s3, bs c = s3 := ⟨_, rfl⟩
    change Hid (Calls Tryd.prog 9 #[.slice (some ⟨w.heap.size, 0, none⟩) 3 3] (w.alloc (.cells #[.string (bs a), .string (bs b), .string (bs c)] 9)) _) at HL
    rw [hs1] at HL C1 C3 C4 hne ⊢
    rw [hs2] at HL C1 C2 C4 hne ⊢
    rw [hs3] at HL C2 C3 ⊢
    clear hs1 hs2 hs3
    have HT := Lib.hid ht
    have HT2 := Lib.hid ht2
    have HE2 := Lib.hid hne
    clear ht ht2 hne
    go_enter Tryd.func5, Tryd.ntmps5
    go_wp2_with fail
    refine (HL.out).mono ?_
    rintro r w1 ⟨rfl, hg⟩
    have HG := Lib.hid hg
    clear hg HL
    go_wp2_with fail
    refine (C1.out _ (HM.out.gr HG.out)).mono ?_
    rintro r w2 ⟨rfl, hg⟩
    replace HG := Lib.hid (HG.out.tr hg)
    clear hg C1
    go_wp2_with fail
    refine (C2.out _ (HM.out.gr HG.out)).mono ?_
    rintro r w3 ⟨rfl, hg⟩
    replace HG := Lib.hid (HG.out.tr hg)
    clear hg C2
    go_wp2_with fail
    refine (C3.out _ (HM.out.gr HG.out)).mono ?_
    rintro r w4 ⟨rfl, hg⟩
    replace HG := Lib.hid (HG.out.tr hg)
    clear hg C3
    go_wp2_with fail
    refine (C4.out _ (HM.out.gr HG.out)).mono ?_
    rintro r w5 ⟨rfl, hg⟩
    replace HG := Lib.hid (HG.out.tr hg)
    clear hg C4
    rcases (by omega : x = 1 ∨ x = 0 ∨ x = -1) with rfl | rfl | rfl
    · have e1 : ¬ s1.toList = s2.toList := fun e => absurd (HE2.out.1 e) (by decide)
      have e2 : (s1.toList == s2.toList) = false := by simpa using e1
      clear hx1 hx2 hy1 hy2
      go_wp2_with fail
      refine (awake_any _ (HM.out.gr HG.out)).mono ?_
      rintro r w6 ⟨rfl, hg⟩
      replace HG := Lib.hid (HG.out.tr hg)
      clear hg
      go_wp2
      go_ret
      exact ⟨rfl, HG.out⟩
    · have e2 : s1.toList = s2.toList := HE2.out.2 rfl
      rcases (by omega : y = 1 ∨ y ≤ 0) with rfl | hyl
      · clear hx1 hx2 hy1 hy2
        go_wp2_with fail
        refine (awake_any _ (HM.out.gr HG.out)).mono ?_
        rintro r w6 ⟨rfl, hg⟩
        replace HG := Lib.hid (HG.out.tr hg)
        clear hg
        go_wp2
        go_ret
        exact ⟨rfl, HG.out⟩
      · have hzl := HT.out (by decide) hyl
        have hyn : ¬ 0 < y := by omega
        clear hx1 hx2 hy1 hy2
        go_wp2_with fail
        refine (awake_any _ (HM.out.gr HG.out)).mono ?_
        rintro r w6 ⟨rfl, hg⟩
        replace HG := Lib.hid (HG.out.tr hg)
        clear hg
        go_wp2
        go_ret
        exact ⟨rfl, HG.out⟩
    · have e1 : ¬ s1.toList = s2.toList := fun e => absurd (HE2.out.1 e) (by decide)
      have e2 : (s1.toList == s2.toList) = false := by simpa using e1
      rcases (by omega : y = 1 ∨ y = 0 ∨ y = -1) with rfl | rfl | rfl
      · clear hx1 hx2 hy1 hy2
        go_wp2_with fail
        refine (awake_any _ (HM.out.gr HG.out)).mono ?_
        rintro r w6 ⟨rfl, hg⟩
        replace HG := Lib.hid (HG.out.tr hg)
        clear hg
        go_wp2
        go_ret
        exact ⟨rfl, HG.out⟩
      · have hzl := HT.out (by decide) (by decide)
        clear hx1 hx2 hy1 hy2
        go_wp2_with fail
        refine (awake_any _ (HM.out.gr HG.out)).mono ?_
        rintro r w6 ⟨rfl, hg⟩
        replace HG := Lib.hid (HG.out.tr hg)
        clear hg
        go_wp2
        go_ret
        exact ⟨rfl, HG.out⟩
      · have hzl := HT2.out (by decide) (by decide)
        have hzl2 : z ≤ 0 := by omega
        clear hx1 hx2 hy1 hy2
        go_wp2_with fail
        refine (awake_any _ (HM.out.gr HG.out)).mono ?_
        rintro r w6 ⟨rfl, hg⟩
        replace HG := Lib.hid (HG.out.tr hg)
        clear hg
        go_wp2
        go_ret
        exact ⟨rfl, HG.out⟩
end Go.Proofs.YtehephlblnacgaaDoor
