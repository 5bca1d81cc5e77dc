/- What none answers: the writer's methods and the reader's at nil. -/
import Derived.Test.YtgbpolejjfipgaaLwB
import Derived.Test.YtgbpolejjfipgaaDigEq
set_option linter.unusedVariables false
set_option linter.unusedSimpArgs false
set_option maxHeartbeats 400000
namespace Go.Proofs.Ytgbpolejjfipgaa
open Go.RowKit Go.Shelf Go.Great

set_option maxRecDepth 100000 in
theorem wNumber_nil (n : Int) (w : World) : Calls Try.prog 32 #[.pointer none, .int .i64 n] w fun r w' => r = .returned (.tuple #[]) ∧ Gr w w' := by
  have hne := putS_ne n
  go_enter Try.func32, Try.ntmps32
  go_wp2_with fail
  refine (cPut_any n _).mono ?_
  rintro r w1 ⟨rfl, hg1⟩
  go_wp2_with fail
  refine (wPut_nil (numOk n) _ _).mono ?_
  rintro r w2 ⟨rfl, rfl⟩
  go_wp2
  go_end0
  exact ⟨rfl, hg1.al _⟩
set_option maxRecDepth 100000 in
theorem wText_nil (s : ByteArray) (w : World) : Calls Try.prog 33 #[.pointer none, .string s] w fun r w' => r = .returned (.tuple #[]) ∧ Gr w w' := by
  go_enter Try.func33, Try.ntmps33
  go_wp2_with fail
  refine (cPut_any s.size _).mono ?_
  rintro r w1 ⟨rfl, hg1⟩
  go_wp2_with fail
  refine (wPut_nil _ _ _).mono ?_
  rintro r w2 ⟨rfl, rfl⟩
  go_wp2
  go_end0
  exact ⟨rfl, hg1.al _⟩
set_option maxRecDepth 100000 in
theorem wFlag_nil (f : Bool) (w : World) : Calls Try.prog 34 #[.pointer none, .bool f] w fun r w' => r = .returned (.tuple #[]) ∧ Gr w w' := by
  cases f
  all_goals
    go_enter Try.func34, Try.ntmps34
    go_wp2_with fail
    refine (wPut_nil _ _ _).mono ?_
    rintro r w2 ⟨rfl, rfl⟩
    go_wp2
    go_end0
    exact ⟨rfl, (Gr.rfl' _).al _⟩
set_option maxRecDepth 100000 in
theorem wDigest_nil (D : List UInt8) (hD : D.length = 32) (w : World) : Calls Try.prog 35 #[.pointer none, .agg (digC D)] w fun r w' => r = .returned (.tuple #[]) ∧ Gr w w' := by
  have hcv := conv_dig D hD w
  have hg2 := Lib.hid (((Gr.rfl' w).al (.cells (digC D) 37)).al (.cells ([(⟨D.toArray⟩ : ByteArray)].map Value.string).toArray 9))
  go_enter Try.func35, Try.ntmps35
  go_wp2_with fail
  refine (wPut_nil _ _ _).mono ?_
  rintro r w2 ⟨rfl, rfl⟩
  go_wp2
  go_end0
  exact ⟨rfl, hg2.out⟩
set_option maxRecDepth 100000 in
theorem wFail_nil (f : Int) (w : World) : Calls Try.prog 36 #[.pointer none, .int .i64 f] w fun r w' => r = .returned (.tuple #[]) ∧ w' = w := by
  go_enter Try.func36, Try.ntmps36
  go_wp2
  go_end0
  exact ⟨rfl, rfl⟩
set_option maxRecDepth 100000 in
theorem wDone_nil (w : World) : Calls Try.prog 15 #[.pointer none] w fun r w' => r = .returned (.tuple #[.string ⟨#[]⟩, .int .i64 13]) ∧ w' = w := by
  go_enter Try.func15, Try.ntmps15
  go_wp2
  go_ret2
  exact ⟨rfl, rfl⟩

set_option maxRecDepth 100000 in
theorem put_nil (x : Pc) (hx : x.ok) (w : World) :
    Calls Try.prog 9 #[.pointer none, .agg x.cells.toArray] w fun r w' => r = .returned (.tuple #[]) ∧ Gr w w' := by
  have HP := Lib.hid (arr35 x hx w)
  have hg0 := Lib.hid ((Gr.rfl' w).al (.cells x.cells.toArray 39))
  have k0 := HP.out.c0
  have k1 := HP.out.c1
  have k2 := HP.out.c2
  by_cases e0 : x.K = 0
  · have hk : (x.K == 0) = true := by simp [e0]
    go_enter Try.func9, Try.ntmps9
    go_wp2_with fail
    refine (wNumber_nil x.N _).mono ?_
    rintro r w1 ⟨rfl, h1⟩
    go_wp2
    go_end0
    exact ⟨rfl, hg0.out.tr h1⟩
  have b0 : (x.K == 0) = false := by simpa using e0
  by_cases e1 : x.K = 1
  · have hk : (x.K == 1) = true := by simp [e1]
    clear e0 e1
    go_enter Try.func9, Try.ntmps9
    go_wp2_with fail
    refine (wText_nil x.S _).mono ?_
    rintro r w1 ⟨rfl, h1⟩
    go_wp2
    go_end0
    exact ⟨rfl, hg0.out.tr h1⟩
  have b1 : (x.K == 1) = false := by simpa using e1
  by_cases e2 : x.K = 2
  · have hk : (x.K == 2) = true := by simp [e2]
    clear e0 e1 e2
    go_enter Try.func9, Try.ntmps9
    go_wp2_with fail
    refine (wFlag_nil (x.N == 1) _).mono ?_
    rintro r w1 ⟨rfl, h1⟩
    go_wp2
    go_end0
    exact ⟨rfl, hg0.out.tr h1⟩
  have b2 : (x.K == 2) = false := by simpa using e2
  by_cases e3 : x.K = 3
  · have hk : (x.K == 3) = true := by simp [e3]
    clear e0 e1 e2 e3
    go_enter Try.func9, Try.ntmps9
    go_wp2_with (refine wpList_load_mid rfl 37 _ rfl w.heap.size 3 rfl (x.D.map fun c => Value.int .u8 c.toNat) _ (by simpa using HP.out.dig) Try.underlying37 rfl (by rw [List.length_map, hx.d]; exact sizeDig) ?_)
    go_wp2_with fail
    refine (wDigest_nil x.D hx.d _).mono ?_
    rintro r w1 ⟨rfl, h1⟩
    go_wp2
    go_end0
    exact ⟨rfl, hg0.out.tr h1⟩
  have b3 : (x.K == 3) = false := by simpa using e3
  by_cases e4 : x.K = 4
  · have hk : (x.K == 4) = true := by simp [e4]
    clear e0 e1 e2 e3 e4
    go_enter Try.func9, Try.ntmps9
    go_wp2_with fail
    refine (wFail_nil (bits .and .i64 x.N 15) _).mono ?_
    rintro r w1 ⟨rfl, rfl⟩
    go_wp2
    go_end0
    exact ⟨rfl, hg0.out⟩
  · have b4 : (x.K == 4) = false := by simpa using e4
    clear e0 e1 e2 e3 e4
    go_enter Try.func9, Try.ntmps9
    go_wp2
    go_end0
    exact ⟨rfl, hg0.out⟩

/-! the reader -/
set_option maxRecDepth 100000 in
theorem Err_nil (w : World) : Calls Try.prog 28 #[.pointer none] w fun r w' => r = .returned (.int .i64 13) ∧ w' = w := by
  go_enter Try.func28, Try.ntmps28
  go_wp2
  go_ret
  exact ⟨rfl, rfl⟩
set_option maxRecDepth 100000 in
theorem Left_nil (w : World) : Calls Try.prog 29 #[.pointer none] w fun r w' => r = .returned (.int .i64 0) ∧ w' = w := by
  go_enter Try.func29, Try.ntmps29
  go_wp2
  go_ret
  exact ⟨rfl, rfl⟩
set_option maxRecDepth 100000 in
theorem dDone_nil (w : World) : Calls Try.prog 30 #[.pointer none] w fun r w' => r = .returned (.int .i64 13) ∧ w' = w := by
  go_enter Try.func30, Try.ntmps30
  go_wp2_with fail
  refine (Err_nil _).mono ?_
  rintro r w1 ⟨rfl, rfl⟩
  go_wp2
  go_ret
  exact ⟨rfl, rfl⟩
set_option maxRecDepth 100000 in
theorem dFail_nil (f : Int) (w : World) : Calls Try.prog 26 #[.pointer none, .int .i64 f] w fun r w' => r = .returned (.tuple #[]) ∧ w' = w := by
  go_enter Try.func26, Try.ntmps26
  go_wp2
  go_end0
  exact ⟨rfl, rfl⟩
set_option maxRecDepth 100000 in
theorem takeI_nil (v : Value) (w : World) : Calls Try.prog 40 #[.pointer none, v] w fun r w' => r = .returned (.int .i64 0) ∧ w' = w := by
  go_enter Try.func40, Try.ntmps40
  go_wp2_with fail
  refine (Err_nil _).mono ?_
  rintro r w1 ⟨rfl, rfl⟩
  go_wp2
  go_ret
  exact ⟨rfl, rfl⟩
set_option maxRecDepth 100000 in
theorem takeS_nil (v : Value) (w : World) : Calls Try.prog 43 #[.pointer none, v] w fun r w' => r = .returned (.string ⟨#[]⟩) ∧ w' = w := by
  go_enter Try.func43, Try.ntmps43
  go_wp2_with fail
  refine (Err_nil _).mono ?_
  rintro r w1 ⟨rfl, rfl⟩
  go_wp2
  go_ret
  exact ⟨rfl, rfl⟩
set_option maxRecDepth 100000 in
theorem takeB_nil (v : Value) (w : World) : Calls Try.prog 45 #[.pointer none, v] w fun r w' => r = .returned (.bool false) ∧ w' = w := by
  go_enter Try.func45, Try.ntmps45
  go_wp2_with fail
  refine (Err_nil _).mono ?_
  rintro r w1 ⟨rfl, rfl⟩
  go_wp2
  go_ret
  exact ⟨rfl, rfl⟩
theorem number_any (m : Int) (w : World) :
    Calls Try.prog 41 #[.int .i64 m] w fun e w' => e = .returned (.func (.func 51) #[] #[.pointer (some ⟨w.heap.size, 0, none⟩)]) ∧
      w' = w.alloc (.cells #[.int .i64 m] 3) := by
  go_enter Try.func41, Try.ntmps41
  go_wp2
  go_ret
  exact ⟨rfl, rfl⟩
set_option maxRecDepth 100000 in
theorem dNumber_nil (m : Int) (w : World) : Calls Try.prog 18 #[.pointer none, .int .i64 m] w fun r w' => r = .returned (.int .i64 0) ∧ Gr w w' := by
  go_enter Try.func18, Try.ntmps18
  go_wp2_with fail
  refine (number_any m _).mono ?_
  rintro r w1 ⟨rfl, rfl⟩
  go_wp2_with fail
  refine (takeI_nil _ _).mono ?_
  rintro r w2 ⟨rfl, rfl⟩
  go_wp2
  go_ret
  exact ⟨rfl, (Gr.rfl' _).al _⟩
set_option maxRecDepth 100000 in
theorem dText_nil (m : Int) (w : World) : Calls Try.prog 20 #[.pointer none, .int .i64 m] w fun r w' => r = .returned (.string ⟨#[]⟩) ∧ Gr w w' := by
  go_enter Try.func20, Try.ntmps20
  go_wp2_with fail
  refine (takeS_nil _ _).mono ?_
  rintro r w2 ⟨rfl, rfl⟩
  go_wp2
  go_ret
  exact ⟨rfl, (Gr.rfl' _).al _⟩
set_option maxRecDepth 100000 in
theorem dFlag_nil (w : World) : Calls Try.prog 22 #[.pointer none] w fun r w' => r = .returned (.bool false) ∧ Gr w w' := by
  go_enter Try.func22, Try.ntmps22
  go_wp2_with fail
  refine (takeB_nil _ _).mono ?_
  rintro r w2 ⟨rfl, rfl⟩
  go_wp2
  go_ret
  exact ⟨rfl, Gr.rfl' _⟩
end Go.Proofs.Ytgbpolejjfipgaa
