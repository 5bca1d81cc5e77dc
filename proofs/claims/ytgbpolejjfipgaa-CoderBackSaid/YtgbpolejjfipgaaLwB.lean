/- hearsaylaw10: awake. -/
import Derived.Test.YtgbpolejjfipgaaLwA
set_option linter.unusedVariables false
set_option linter.unusedSimpArgs false
set_option maxHeartbeats 400000
namespace Go.Proofs.Ytgbpolejjfipgaa
open Go.RowKit Go.Shelf Go.Great

theorem Wr.new (w w1 : World) (g : Gr w w1) : Wr w1.heap.size w1.heap.size [] 0 (w1.alloc (.cells #[.pointer none, .slice none 0 0, .int .i64 0] 32)) :=
  ⟨.pointer none, .slice none 0 0, Nat.le_refl _, .inl rfl, World.alloc_heap_new _ _, World.ownsRow_nil _ _ _ _, fun _ => rfl⟩
theorem put300 : (putS 300).data.toList = [172, 2] := by
  unfold putS
  rw [if_pos (by decide)]
  have : grpN (Int.toNat 300) = [172, 2] := by rw [grpN_big (by decide), grpN_small (by decide)]; rfl
  rw [this]; rfl
theorem put2 : (putS 2).data.toList = [2] := by
  unfold putS
  rw [if_pos (by decide)]
  have : grpN (Int.toNat 2) = [2] := by rw [grpN_small (by decide)]; rfl
  rw [this]; rfl
theorem awk1 : wput (numOk 300) (putS 300).data.toList ([], 0) = ([172, 2], 0) := by rw [put300]; rfl
theorem awk2 : wput (decide ((⟨#[97, 98]⟩ : ByteArray).size ≤ 65536)) ((putS (⟨#[97, 98]⟩ : ByteArray).size).data.toList ++ (⟨#[97, 98]⟩ : ByteArray).data.toList) ([172, 2], 0) = ([172, 2, 2, 97, 98], 0) := by
  have e : ((⟨#[97, 98]⟩ : ByteArray).size : Int) = 2 := rfl
  rw [e, put2]; rfl
theorem awk3 : wput true [if true = true then 1 else 0] ([172, 2, 2, 97, 98], 0) = ([172, 2, 2, 97, 98, 1], 0) := rfl

set_option maxRecDepth 100000 in
theorem awake_any (w : World) : Calls Try.prog 8 #[] w fun r w' => r = .returned (.bool true) ∧ Gr w w' := by
  have HW := Lib.hid (Wr.new w w (Gr.rfl' w))
  have hg0 := Lib.hid ((Gr.rfl' w).al (.cells #[.pointer none, .slice none 0 0, .int .i64 0] 32))
  go_enter Try.func8, Try.ntmps8
  go_wp2_with fail
  refine (wNumber_any _ _ [] 0 300 _ HW.out (by decide)).mono ?_
  rintro r w1 ⟨rfl, h1, m1⟩
  rw [awk1] at h1
  have HW1 := Lib.hid h1; clear h1
  go_wp2_with fail
  refine (wText_any _ _ [172, 2] 0 ⟨#[97, 98]⟩ _ HW1.out (by decide)).mono ?_
  rintro r w2 ⟨rfl, h2, m2⟩
  rw [awk2] at h2
  have HW2 := Lib.hid h2; clear h2
  go_wp2_with fail
  refine (wFlag_any _ _ [172, 2, 2, 97, 98] 0 true _ HW2.out (by decide)).mono ?_
  rintro r w3 ⟨rfl, h3, m3⟩
  rw [awk3] at h3
  have HW3 := Lib.hid h3; clear h3
  go_wp2_with fail
  refine (wDone_any _ _ [172, 2, 2, 97, 98, 1] 0 _ HW3.out).mono ?_
  rintro r w4 ⟨rfl, m4⟩
  have ed : doneV ([172, 2, 2, 97, 98, 1], 0) = ([172, 2, 2, 97, 98, 1], 0) := rfl
  rw [ed]
  go_wp2
  go_ret
  exact ⟨rfl, ((m1.trans m2).trans (m3.trans m4)).below hg0.out (Nat.le_refl _)⟩
end Go.Proofs.Ytgbpolejjfipgaa
