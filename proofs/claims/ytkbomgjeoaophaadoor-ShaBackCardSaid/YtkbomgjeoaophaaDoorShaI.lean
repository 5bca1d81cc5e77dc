/- sha: Of. -/
import Derived.Test.YtkbomgjeoaophaaDoorShaH
set_option linter.unusedVariables false
set_option linter.unusedSimpArgs false
set_option maxHeartbeats 4000000
namespace Go.Proofs.YtkbomgjeoaophaaDoor
open Go.RowKit Go.Great

theorem sum0_info : (Tryd.prog.info? 34).map (fun i => (i.zero.map Value.cells, i.size)) = some (some (sumC false (Zw 8) (.slice none 0 0) 0), 11) := by kernel_rfl
theorem allocS {ops : Array Oper} {rest : List Oper} {o : Oper} {a : Act} {w : World} {Q : Exit → Act → World → Prop} (hg : o.guard = none) (ho : o.op = .alloc 34)
    (h : wpList Tryd.prog ops Q rest (a.put o.dst (.pointer (some ⟨w.heap.size, 0, none⟩))) (w.alloc (.cells (sumC false (Zw 8) (.slice none 0 0) 0) 34))) : wpList Tryd.prog ops Q (o :: rest) a w := by
  refine wpList_allocTo hg o.dst rfl _ (.cells (sumC false (Zw 8) (.slice none 0 0) 0) 34) ?_ h
  have hz := sum0_info
  cases hq : Tryd.prog.info? 34 with
  | none => rw [hq] at hz; cases hz
  | some i =>
    rw [hq] at hz
    simp only [Option.map_some, Option.some.injEq, Prod.mk.injEq] at hz
    obtain ⟨h1, _⟩ := hz
    cases hq2 : i.zero with
    | none => rw [hq2] at h1; cases h1
    | some z =>
      rw [hq2] at h1
      simp only [Option.map_some, Option.some.injEq] at h1
      have hzv : (zeroValue 34).run Tryd.prog w = .ok z w := by simp [zeroValue, typeInfo, hq, hq2]
      unfold execOp
      simp [ho, Instr.alloc, hzv, go_sem]
      exact congrArg (fun c => w.alloc (.cells c 34)) h1
theorem Of_any (t : ByteArray) (w : World) (hK : Keys w 1) (hw : 1 < w.heap.size) (ht : t.size + 200 ≤ 140737488355328) :
    Calls Tryd.prog 9 #[.string t] w fun r w' => r = .returned (.agg (bC (shaV t.data.toList))) ∧ Gr w w' := by
  have HK := Lib.hid hK; clear hK
  obtain ⟨w1, e1⟩ : ∃ w1, w.alloc (.cells (bC Zb) 24) = w1 := ⟨_, rfl⟩
  obtain ⟨w2, e2⟩ : ∃ w2, w1.alloc (.cells (sumC false (Zw 8) (.slice none 0 0) 0) 34) = w2 := ⟨_, rfl⟩
  have z1 : w1.heap.size = w.heap.size + 1 := by rw [← e1, World.size_alloc]
  have g1 : Gr w w1 := by rw [← e1]; exact (Gr.rfl' _).al _
  have g2 : Gr w1 w2 := by rw [← e2]; exact (Gr.rfl' _).al _
  have HR : Hid (Bs w2 w.heap.size 24 Zb) := by
    have : Bs w1 w.heap.size 24 Zb := by rw [← e1]; exact Bs.new _ _ _
    exact Lib.hid (this.gr g2)
  have HS : Hid (SumAt w2 w1.heap.size false (Zw 8) (.slice none 0 0) 0) := by rw [← e2]; exact Lib.hid (World.alloc_heap_new _ _)
  have HG2 := Lib.hid (g1.tr g2)
  have HK2 := Lib.hid (HK.out.gr HG2.out)
  have Z1 := Lib.hid z1
  have hb1 : 1 < w1.heap.size := by omega
  have hlen : ([] : List UInt8).length + t.size ≤ 140737488355328 := by simp; omega
  have HLn := Lib.hid hlen
  clear z1 g1 g2 hlen
  go_enter Tryd.func9, Tryd.ntmps9
  go_wp2_with (first | rw [e1] | rw [e2] | refine allocD rfl rfl ?_ | refine allocS rfl rfl ?_)
  refine (Write_any w1.heap.size w1.heap.size false (Zw 8) [] (.slice none 0 0) 0 t _ (by simp [Zw]) HK2.out HS.out (OwnB.nil _ _) (Nat.le_refl _) hb1 HLn.out (by omega) (by omega)).mono ?_
  rintro r w3 ⟨rfl, ⟨v3, hS3, hO3⟩, hB3⟩
  simp only [List.nil_append] at hS3 hO3
  have HS3 : Hid (SumAt w3 w1.heap.size true (blks startL t.data.toList (t.data.toList.length / 64)) v3 ((t.size : Nat) : Int)) := by
    have e : (0 : Int) + (t.size : Int) = ((t.size : Nat) : Int) := by omega
    rw [e] at hS3
    exact Lib.hid hS3
  have HO3 := Lib.hid hO3
  have hle : w.heap.size ≤ w1.heap.size := by have := Z1.out; omega
  have HR3 : Hid (Bs w3 w.heap.size 24 Zb) := Lib.hid ((hB3.block _ (by have := Z1.out; omega)).trans HR.out)
  have HG3 : Hid (Gr w w3) := Lib.hid (HG2.out.trans (hB3.mono hle))
  have HK3 := Lib.hid (HK.out.gr HG3.out)
  have hr3 : (t.data.toList.drop (64 * (t.data.toList.length / 64))).length + 200 ≤ 140737488355328 := by rw [List.length_drop, ← Lib.size_eq]; omega
  have HR3' := Lib.hid hr3
  have hbl : (blks startL t.data.toList (t.data.toList.length / 64)).length = 8 := blks_len rfl _ _
  have HBL := Lib.hid hbl
  clear hS3 hO3 hB3 hr3 hbl
  go_wp2_with fail
  refine (Value_any w1.heap.size true _ _ _ t.size w1.heap.size _ HBL.out HK3.out HS3.out HO3.out (by omega) HR3'.out).mono ?_
  rintro r w4 ⟨rfl, g4⟩
  have hv : valV (effH true (blks startL t.data.toList (t.data.toList.length / 64))) (t.data.toList.drop (64 * (t.data.toList.length / 64))) t.size = shaV t.data.toList := by
    unfold shaV
    rw [show effH true (blks startL t.data.toList (t.data.toList.length / 64)) = blks startL t.data.toList (t.data.toList.length / 64) from rfl, valV_rest, Lib.size_eq]
  rw [hv]
  have HR4 := Lib.hid (HR3.out.gr g4)
  have hl : (shaV t.data.toList).length = 32 := valV_len _ _ _
  have HG4 := Lib.hid ((HG3.out.tr g4).row (Nat.le_refl _) (bC (shaV t.data.toList)))
  clear hv g4
  go_wp2_with (with_reducible refine at_st 24 (.tmp 2) (.tmp 6) ?_; refine storeD w.heap.size Zb (shaV t.data.toList) rfl _ _ rfl rfl rfl rfl HR4.out rfl hl ?_)
  refine bodyPost_ret (v := .agg (bC (shaV t.data.toList))) ?_ rfl ⟨rfl, HG4.out⟩
  simp [results, Tryd.results9, Act.put]
  exact run_loadVar_row _ _ 24 24 _ (0, 0) _ (HR4.out.row _) Tryd.underlying24 rfl (by rw [bC_size, hl, sz32])
end Go.Proofs.YtkbomgjeoaophaaDoor
