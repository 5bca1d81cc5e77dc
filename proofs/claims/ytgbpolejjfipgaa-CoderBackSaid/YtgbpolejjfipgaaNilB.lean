/- A digest out of none; hearsaylaw10.CoderNil. -/
import Derived.Test.YtgbpolejjfipgaaNilA
import Derived.Laws.CopyOwn
set_option linter.unusedVariables false
set_option linter.unusedSimpArgs false
set_option maxHeartbeats 400000
namespace Go.Proofs.Ytgbpolejjfipgaa
open Go.RowKit Go.Shelf Go.Great

theorem Gr.setRow {a b : World} (h : Gr a b) {g : Nat} (hg : a.heap.size ≤ g) (cs : Array Value) : Gr a (b.setRow g cs) := below_setRow h hg cs

set_option maxRecDepth 100000 in
theorem takeD_nil (v : Value) (w : World) : Calls Try.prog 47 #[.pointer none, v] w fun r w' => r = .returned (.agg Z32) ∧ Gr w w' := by
  go_enter Try.func47, Try.ntmps47
  go_wp2_with (first | refine alloc32 rfl rfl ?_)
  refine (Err_nil _).mono ?_
  rintro r w1 ⟨rfl, rfl⟩
  obtain ⟨W, hW⟩ : ∃ W, (w.alloc (.cells Z32 37)).alloc (.cells Z32 37) = W := ⟨_, rfl⟩
  have hg : Gr w W := by rw [← hW]; exact ((Gr.rfl' _).al _).al _
  have h0 : W.heap[w.heap.size]? = some (.cells Z32 37 (0, 0)) := by
    rw [← hW]; exact (Below.heap_alloc _ _ _ (by simp)).trans (World.alloc_heap_new _ _)
  have h1 : W.heap[w.heap.size + 1]? = some (.cells Z32 37 (0, 0)) := by
    have := World.alloc_heap_new (w.alloc (.cells Z32 37)) (.cells Z32 37)
    rw [World.size_alloc] at this
    rw [← hW]; exact this
  rw [hW]
  clear hW
  go_wp2_with (first
    | refine wpList_load_row rfl 37 _ rfl (w.heap.size + 1) rfl 37 Z32 (0, 0) _ h1 Try.underlying37 rfl (by rw [Z32_size]; exact sizeDig) ?_
    | refine wpList_store_row rfl 37 _ _ rfl w.heap.size Z32 rfl rfl 37 Z32 h0 (by rw [Z32_size]; exact sizeDig) rfl (digC_one _) ?_)
  rw [setRow_self W _ Z32 _ _ h0]
  have hL : (loadVar 37 ⟨w.heap.size, 0, none⟩).run Try.prog W = .ok (.agg Z32) W := run_loadVar_at W ⟨w.heap.size, 0, none⟩ 37 Z32.toList _ (fun j v hj => by
    rw [Addr.add_mid]
    simp only [World.cell?, h0]
    simpa using hj) Try.underlying37 rfl (by rw [Array.length_toList, Z32_size]; exact sizeDig)
  refine bodyPost_ret (v := .agg Z32) ?_ rfl ⟨rfl, hg⟩
  have hA : (asAddr (.pointer (some ⟨w.heap.size, 0, none⟩))).run Try.prog W = .ok ⟨w.heap.size, 0, none⟩ W := rfl
  simp [results, Try.results47, Act.put, hA, hL]

theorem load32 (W : World) (g : Nat) (D : List UInt8) (hD : D.length = 32) (h : W.heap[g]? = some (.cells (digC D) 37 (0, 0))) : (loadVar 37 ⟨g, 0, none⟩).run Try.prog W = .ok (.agg (digC D)) W :=
  run_loadVar_at W ⟨g, 0, none⟩ 37 (digC D).toList _ (fun j v hj => by
    rw [Addr.add_mid]
    simp only [World.cell?, h]
    simpa using hj) Try.underlying37 rfl (by rw [Array.length_toList, digC_size, hD]; exact sizeDig)

set_option maxRecDepth 100000 in
theorem dDigest_nil (w : World) : Calls Try.prog 24 #[.pointer none] w fun r w' => r = .returned (.agg Z32) ∧ Gr w w' := by
  go_enter Try.func24, Try.ntmps24
  go_wp2_with (first | refine alloc32 rfl rfl ?_)
  refine (takeD_nil _ _).mono ?_
  rintro r w1 ⟨rfl, hg1⟩
  have h0 : w1.heap[w.heap.size]? = some (.cells Z32 37 (0, 0)) := (hg1.block _ (by simp)).trans (World.alloc_heap_new _ _)
  have hg : Gr w w1 := ((Gr.rfl' w).al _).tr hg1
  clear hg1
  go_wp2_with (first
    | refine wpList_store_row rfl 37 _ _ rfl w.heap.size Z32 rfl rfl 37 Z32 h0 (by rw [Z32_size]; exact sizeDig) rfl (digC_one _) ?_)
  rw [setRow_self w1 _ Z32 _ _ h0]
  have hL := load32 w1 w.heap.size Z32L Z32L_len h0
  have hA : (asAddr (.pointer (some ⟨w.heap.size, 0, none⟩))).run Try.prog w1 = .ok ⟨w.heap.size, 0, none⟩ w1 := rfl
  refine bodyPost_ret (v := .agg Z32) ?_ rfl ⟨rfl, hg⟩
  simp [results, Try.results24, Act.put, hA, hL]
  rfl

theorem eqZ (w : World) : (Op.equalIn 10000 37 (.agg Z32) (.agg #[.int .u8 0, .int .u8 0, .int .u8 0, .int .u8 0, .int .u8 0, .int .u8 0, .int .u8 0, .int .u8 0, .int .u8 0, .int .u8 0, .int .u8 0, .int .u8 0, .int .u8 0, .int .u8 0, .int .u8 0, .int .u8 0, .int .u8 0, .int .u8 0, .int .u8 0, .int .u8 0, .int .u8 0, .int .u8 0, .int .u8 0, .int .u8 0, .int .u8 0, .int .u8 0, .int .u8 0, .int .u8 0, .int .u8 0, .int .u8 0, .int .u8 0, .int .u8 0])).run Try.prog w = .ok true w := by
  have h := eqDig 9998 Z32L Z32L Z32L_len Z32L_len w
  rw [decide_eq_true rfl] at h
  exact h
attribute [local go_sem high] eqZ

set_option maxRecDepth 100000 in
set_option maxHeartbeats 2000000 in
theorem CoderNil_any (x : Pc) (hx : x.ok) (w : World) :
    Calls Try.prog 6 #[.agg x.cells.toArray] w fun r w' => r = .returned (.bool true) ∧ Gr w w' := by
  have HP := Lib.hid (arr35 x hx w)
  have HB := Lib.hid (World.alloc_heap_new w (.cells x.cells.toArray 39))
  have hg := (Gr.rfl' w).al (.cells x.cells.toArray 39)
  go_enter Try.func6, Try.ntmps6
  go_wp2_with (first | refine wpList_load_row rfl 39 _ rfl w.heap.size rfl 39 x.cells.toArray (0, 0) _ HB.out Try.underlying39 rfl (by rw [List.size_toArray, Pc.len hx]; exact sizePc) ?_)
  refine (put_nil x hx _).mono ?_
  rintro r w1 ⟨rfl, hg1⟩
  have k1 := hg1.cell HP.out.c1
  replace hg := hg.tr hg1
  clear hg1
  go_wp2_with fail
  refine (dFail_nil 9 _).mono ?_
  rintro r w2 ⟨rfl, rfl⟩
  go_wp2_with fail
  refine (wDone_nil _).mono ?_
  rintro r w2 ⟨rfl, rfl⟩
  go_wp2_with fail
  refine (dNumber_nil x.N _).mono ?_
  rintro r w3 ⟨rfl, hg3⟩
  replace k1 := hg3.cell k1
  replace hg := hg.tr hg3
  clear hg3
  go_wp2_with fail
  refine (dText_nil x.N _).mono ?_
  rintro r w4 ⟨rfl, hg4⟩
  replace hg := hg.tr hg4
  clear hg4 k1
  go_wp2_with fail
  refine (dFlag_nil _).mono ?_
  rintro r w5 ⟨rfl, hg5⟩
  replace hg := hg.tr hg5
  clear hg5
  go_wp2_with fail
  refine (dDigest_nil _).mono ?_
  rintro r w6 ⟨rfl, hg6⟩
  replace hg := hg.tr hg6
  clear hg6
  go_wp2_with (first | refine build32 rfl rfl ?_)
  refine (Err_nil _).mono ?_
  rintro r w7 ⟨rfl, rfl⟩
  go_wp2_with fail
  refine (Left_nil _).mono ?_
  rintro r w7 ⟨rfl, rfl⟩
  go_wp2_with fail
  refine (dDone_nil _).mono ?_
  rintro r w7 ⟨rfl, rfl⟩
  go_wp2_with fail
  refine (awake_any _).mono ?_
  rintro r w8 ⟨rfl, hg8⟩
  go_wp2
  go_ret
  exact ⟨rfl, hg.tr hg8⟩
end Go.Proofs.Ytgbpolejjfipgaa
