/- hearsaylaw10: awake. -/
import Derived.Test.YtjjdgmabgiembaaDoorLwA
set_option linter.unusedVariables false
set_option linter.unusedSimpArgs false
set_option maxHeartbeats 400000
namespace Go.Proofs.YtjjdgmabgiembaaDoor
open Go.RowKit Go.Shelf Go.Great

theorem Wr.new (w w1 : World) (g : Gr w w1) : Wr w1.heap.size w1.heap.size [] 0 (w1.alloc (.cells #[.pointer none, .slice none 0 0, .int .i64 0] 47)) :=
  ⟨.pointer none, .slice none 0 0, Nat.le_refl _, .inl rfl, World.alloc_heap_new _ _, World.ownsRow_nil _ _ _ _, fun _ => rfl⟩
theorem put300 : (putS 300).data.toList = [172, 2] := by
  unfold putS
  rw [if_pos (by decide)]
  have : grpN (Int.toNat 300) = [172, 2] := by rw [grpN_big (by decide), grpN_small (by decide)]; rfl
  rw [this]; rfl
theorem put2 : (putS 2).data.toList = [2] := by
  unfold putS
  rw [if_pos (by decide)]
  have : grpN (Int.toNat 2) = [2] := by rw [grpN_small (by decide)]; rfl
  rw [this]; rfl
theorem awk1 : wput (numOk 300) (putS 300).data.toList ([], 0) = ([172, 2], 0) := by rw [put300]; rfl
theorem awk2 : wput (decide ((⟨#[97, 98]⟩ : ByteArray).size ≤ 65536)) ((putS (⟨#[97, 98]⟩ : ByteArray).size).data.toList ++ (⟨#[97, 98]⟩ : ByteArray).data.toList) ([172, 2], 0) = ([172, 2, 2, 97, 98], 0) := by
  have e : ((⟨#[97, 98]⟩ : ByteArray).size : Int) = 2 := rfl
  rw [e, put2]; rfl
theorem awk3 : wput true [if true = true then 1 else 0] ([172, 2, 2, 97, 98], 0) = ([172, 2, 2, 97, 98, 1], 0) := rfl

end Go.Proofs.YtjjdgmabgiembaaDoor
