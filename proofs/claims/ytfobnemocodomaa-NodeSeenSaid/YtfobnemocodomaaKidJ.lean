/- The empty node's bytes; the node's example. -/
import Derived.Test.YtfobnemocodomaaKidI
set_option linter.unusedVariables false
set_option linter.unusedSimpArgs false
set_option maxHeartbeats 2000000
namespace Go.Proofs.Ytfobnemocodomaa
open Go.RowKit Go.Great

theorem Wr.newK (w1 : World) : Wr w1.heap.size w1.heap.size [] 0 (w1.alloc (.cells #[.pointer none, .slice none 0 0, .int .i64 0] 133)) :=
  ⟨.pointer none, .slice none 0 0, Nat.le_refl _, .inl rfl, World.alloc_heap_new _ _, World.ownsRow_nil _ _ _ _, fun _ => rfl⟩
set_option maxRecDepth 100000 in
theorem nBytesNil_any (w : World) :
    Calls Try.prog 59 #[.agg #[.slice none 0 0, .slice none 0 0]] w fun e w' => e = .returned (.tuple #[.string ⟨#[0, 0]⟩, .int .i64 0]) ∧ Gr w w' := by
  have hg1 : Gr w (w.alloc (.cells #[.slice none 0 0, .slice none 0 0] 31)) := (Gr.rfl' w).al _
  have hnb : NBox w.heap.size (w.alloc (.cells #[.slice none 0 0, .slice none 0 0] 31)) := World.alloc_heap_new w _
  have HG := Lib.hid hg1
  have HN := Lib.hid hnb
  have HC := Lib.hid (nChkNil_any (w.alloc (.cells #[.slice none 0 0, .slice none 0 0] 31)))
  clear hg1 hnb
  go_enter Try.func59, Try.ntmps59
  go_wp2_with (first | refine wpList_load_row rfl 31 (.tmp 1) rfl w.heap.size rfl 31 #[.slice none 0 0, .slice none 0 0] (0, 0) _ HN.out Try.underlying31 rfl (by kernel_rfl) ?_)
  refine (HC.out).mono ?_
  rintro r w1 ⟨rfl, g1⟩
  have N1 := Lib.hid (HN.out.gr g1)
  have G1 := Lib.hid (HG.out.tr g1)
  have ga := Lib.hid ((Gr.rfl' w1).al (.cells #[.pointer none, .slice none 0 0, .int .i64 0] 133))
  have c0 := (N1.out.gr ga.out).c0
  have HW := Lib.hid (putLeafNil_any w1.heap.size w1.heap.size [] _ (Wr.newK w1) (by decide))
  clear g1 HC
  go_wp2_with fail
  refine (HW.out).mono ?_
  rintro r w2 ⟨rfl, h2, m2⟩
  have G2 := Lib.hid (m2.below ga.out (Nat.le_refl _))
  have c1 := (N1.out.gr G2.out).c1
  have hk := wNumber_any w1.heap.size w1.heap.size [0] 0 0 _ h2 (by decide)
  rw [put0] at hk
  have HK := Lib.hid hk
  clear hk h2 m2 HW c0
  go_wp2_with fail
  refine (HK.out).mono ?_
  rintro r w3 ⟨rfl, h3, m3⟩
  have G3 := Lib.hid (m3.below G2.out (Nat.le_refl _))
  have c1 := (N1.out.gr G3.out).c1
  have HD := Lib.hid (wDone_any w1.heap.size w1.heap.size ([0] ++ [0]) 0 _ h3)
  clear h3 m3 HK
  go_wp2
  go_loopw [27] (fun i wr => i = .int .i64 0 ∧ wr = w3) (fun _ _ => 0)
  case atStart => exact ⟨rfl, rfl⟩
  case round =>
    obtain ⟨rfl, rfl⟩ := hrel
    go_wp2_with fail
    refine (HD.out).mono ?_
    rintro r w4 ⟨rfl, m4⟩
    go_wp2
    go_ret2
    exact ⟨rfl, G1.out.tr (m4.below G3.out (Nat.le_refl _))⟩
set_option maxRecDepth 100000 in
theorem nAwake_any (w : World) :
    Calls Try.prog 23 #[] w fun e w' => e = .returned (.bool true) ∧ Gr w w' := by
  have HB := Lib.hid (nBytesNil_any w)
  go_enter Try.func23, Try.ntmps23
  go_wp2_with fail
  refine (HB.out).mono ?_
  rintro r w1 ⟨rfl, g1⟩
  go_wp2_with fail
  refine (nEmpty_any none none 0 0 [] [] w1).mono ?_
  rintro r w2 ⟨rfl, g2⟩
  go_wp2
  go_ret
  exact ⟨rfl, g1.tr g2⟩
end Go.Proofs.Ytfobnemocodomaa
