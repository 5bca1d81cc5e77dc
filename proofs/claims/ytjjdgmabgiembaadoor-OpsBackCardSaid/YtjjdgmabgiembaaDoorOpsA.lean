/- ops: kind, peer, number, text, spare, Check. -/
import Derived.Test.YtjjdgmabgiembaaDoorRwA
set_option linter.unusedVariables false
set_option linter.unusedSimpArgs false
set_option maxHeartbeats 400000
namespace Go.Proofs.YtjjdgmabgiembaaDoor
open Go.RowKit Go.Shelf

structure Opx where
  K : Int
  P : Int
  T : Int
  N : Int
  A : Int
  M : Int
  Pa : ByteArray
  Da : ByteArray
def Opx.cells (x : Opx) : Array Value := #[.int .i64 x.K, .int .i64 x.P, .int .i64 x.T, .int .i64 x.N, .int .i64 x.A, .int .i64 x.M, .string x.Pa, .string x.Da]
def flds : List Int := [48, 16, 2, 2, 3, 3, 3, 15, 2, 6, 0, 0, 0]
/-- the fields' table, as the program lays it -/
def Fl (W : World) : Prop := ∀ j (h : j < 13), W.cell? ⟨0, j, none⟩ = some (.int .i64 (flds[j]'h))
theorem Fl.gr {w w' : World} (h : Fl w) (g : Gr w w') : Fl w' := fun j hj => g.cell (h j hj)

theorem kind_any (k : Int) (w : World) : Calls Tryd.prog 18 #[.int .i64 k] w fun r w' => r = .returned (.bool (decide (0 ≤ k ∧ k < 13))) ∧ w' = w := by
  by_cases h : 0 ≤ k
  · have hb : decide (0 ≤ k) = true := decide_eq_true h
    go_enter Tryd.func18, Tryd.ntmps18
    go_wp2
    go_ret
    exact ⟨ret_bool (by simp [h]), rfl⟩
  · have hb : decide (0 ≤ k) = false := decide_eq_false h
    go_enter Tryd.func18, Tryd.ntmps18
    go_wp2
    go_ret
    exact ⟨ret_bool (by simp [h]), rfl⟩
theorem peer_any (k : Int) (w : World) : Calls Tryd.prog 19 #[.int .i64 k] w fun r w' => r = .returned (.bool (decide (0 ≤ k ∧ k < 64))) ∧ w' = w := by
  by_cases h : 0 ≤ k
  · have hb : decide (0 ≤ k) = true := decide_eq_true h
    go_enter Tryd.func19, Tryd.ntmps19
    go_wp2
    go_ret
    exact ⟨ret_bool (by simp [h]), rfl⟩
  · have hb : decide (0 ≤ k) = false := decide_eq_false h
    go_enter Tryd.func19, Tryd.ntmps19
    go_wp2
    go_ret
    exact ⟨ret_bool (by simp [h]), rfl⟩
theorem onum_any (k : Int) (w : World) : Calls Tryd.prog 20 #[.int .i64 k] w fun r w' => r = .returned (.bool (numOk k)) ∧ w' = w := by
  by_cases h : 0 ≤ k
  · have hb : decide (0 ≤ k) = true := decide_eq_true h
    go_enter Tryd.func20, Tryd.ntmps20
    go_wp2
    go_ret
    exact ⟨ret_bool (by simp [numOk, h]), rfl⟩
  · have hb : decide (0 ≤ k) = false := decide_eq_false h
    go_enter Tryd.func20, Tryd.ntmps20
    go_wp2
    go_ret
    exact ⟨ret_bool (by simp [numOk]; omega), rfl⟩
theorem otext_any (s : ByteArray) (w : World) : Calls Tryd.prog 21 #[.string s] w fun r w' => r = .returned (.bool (decide (s.size ≤ 255))) ∧ w' = w := by
  go_enter Tryd.func21, Tryd.ntmps21
  go_wp2
  go_ret
  exact ⟨ret_bool (by simp only [decide_eq_decide]; omega), rfl⟩

def bsOf (x : Opx) : List Bool := [x.T != 0, x.N != 0, x.A != 0, x.M != 0, !x.Pa.toList.isEmpty, !x.Da.toList.isEmpty]
def hasV (bs : List Bool) : Nat → Int
  | 0 => 0
  | i + 1 => if bs.getD i false = true then bits .or .i64 (hasV bs i) (2 ^ i) else hasV bs i
/-- whether an operation has a field that is not its own, as the program reckons it -/
def spareB (x : Opx) : Bool := bits .andNot .i64 (hasV (bsOf x) 6) (flds.getD x.K.toNat 0) != 0

set_option maxRecDepth 100000 in
set_option maxHeartbeats 2000000 in
theorem spare_any (x : Opx) (k : Nat) (hk : x.K = k) (hk13 : k < 13) (w : World) (hF : Fl w) : Calls Tryd.prog 22 #[.agg x.cells] w fun r w' => r = .returned (.bool (spareB x)) ∧ Gr w w' := by
  have hS : Hid (spareB x = (bits .andNot .i64 (hasV (bsOf x) 6) (flds[k]'hk13) != 0)) := by
    show _ = _
    unfold spareB
    rw [hk, Int.toNat_natCast, List.getD_eq_getElem?_getD, List.getElem?_eq_getElem (show k < flds.length from hk13)]
    rfl
  have hgl := Lib.hid ((Gr.rfl' w).al (.cells x.cells 23))
  have hfk := (hF.gr hgl.out) k hk13
  have hki : (k : Int) < 13 := by omega
  obtain ⟨fl, hfl⟩ : ∃ fl, fl = flds[k]'hk13 := ⟨_, rfl⟩
  rw [← hfl] at hS hfk
  clear hfl
  obtain ⟨b0, hb0⟩ : ∃ b, (x.T != 0) = b := ⟨_, rfl⟩
  obtain ⟨b1, hb1⟩ : ∃ b, (x.N != 0) = b := ⟨_, rfl⟩
  obtain ⟨b2, hb2⟩ : ∃ b, (x.A != 0) = b := ⟨_, rfl⟩
  obtain ⟨b3, hb3⟩ : ∃ b, (x.M != 0) = b := ⟨_, rfl⟩
  obtain ⟨b4, hb4⟩ : ∃ b, (!x.Pa.toList.isEmpty) = b := ⟨_, rfl⟩
  obtain ⟨b5, hb5⟩ : ∃ b, (!x.Da.toList.isEmpty) = b := ⟨_, rfl⟩
  have hB : Hid (bsOf x = [b0, b1, b2, b3, b4, b5]) := by show _ = _; unfold bsOf; rw [hb0, hb1, hb2, hb3, hb4, hb5]
  unfold Opx.cells at *
  rw [hk] at hgl hfk ⊢
  have i0 : ∀ w, (Instr.index 64 (.agg #[.bool b0, .bool b1, .bool b2, .bool b3, .bool b4, .bool b5]) (.int .i64 0)).run Tryd.prog w = .ok (.bool b0) w := fun _ => by kernel_rfl
  have i1 : ∀ w, (Instr.index 64 (.agg #[.bool b0, .bool b1, .bool b2, .bool b3, .bool b4, .bool b5]) (.int .i64 1)).run Tryd.prog w = .ok (.bool b1) w := fun _ => by kernel_rfl
  have i2 : ∀ w, (Instr.index 64 (.agg #[.bool b0, .bool b1, .bool b2, .bool b3, .bool b4, .bool b5]) (.int .i64 2)).run Tryd.prog w = .ok (.bool b2) w := fun _ => by kernel_rfl
  have i3 : ∀ w, (Instr.index 64 (.agg #[.bool b0, .bool b1, .bool b2, .bool b3, .bool b4, .bool b5]) (.int .i64 3)).run Tryd.prog w = .ok (.bool b3) w := fun _ => by kernel_rfl
  have i4 : ∀ w, (Instr.index 64 (.agg #[.bool b0, .bool b1, .bool b2, .bool b3, .bool b4, .bool b5]) (.int .i64 4)).run Tryd.prog w = .ok (.bool b4) w := fun _ => by kernel_rfl
  have i5 : ∀ w, (Instr.index 64 (.agg #[.bool b0, .bool b1, .bool b2, .bool b3, .bool b4, .bool b5]) (.int .i64 5)).run Tryd.prog w = .ok (.bool b5) w := fun _ => by kernel_rfl
  go_enter Tryd.func22, Tryd.ntmps22
  go_wp2
  go_loopw [3, 25] (fun h i wr => ∃ j : Nat, ∃ m q : Int, j ≤ 6 ∧ i = .int .i64 q ∧ q = j ∧ h = .int .i64 m ∧ Hid (m = hasV [b0, b1, b2, b3, b4, b5] j) ∧ wr = w.alloc (.cells #[.int .i64 k, .int .i64 x.P, .int .i64 x.T, .int .i64 x.N, .int .i64 x.A, .int .i64 x.M, .string x.Pa, .string x.Da] 23)) (fun _ i _ => 6 - (intOf i).toNat)
  case atStart => exact ⟨0, 0, 0, by omega, rfl, rfl, rfl, rfl, rfl⟩
  case round =>
    obtain ⟨j, m, q, hj, rfl, hq, rfl, hm, rfl⟩ := hrel
    have h7 : j = 0 ∨ j = 1 ∨ j = 2 ∨ j = 3 ∨ j = 4 ∨ j = 5 ∨ j = 6 := by omega
    rcases h7 with rfl | rfl | rfl | rfl | rfl | rfl | rfl
    · obtain rfl : q = 0 := by omega
      clear hq
      cases b0
      all_goals
        go_wp2
        go_roundw
        case rel => exact ⟨1, _, 1, by omega, rfl, rfl, rfl, Lib.hid (by show _ = _; rw [hm.out]; rfl), trivial⟩
        case measure => simp [intOf]
    · obtain rfl : q = 1 := by omega
      clear hq
      cases b1
      all_goals
        go_wp2
        go_roundw
        case rel => exact ⟨2, _, 2, by omega, rfl, rfl, rfl, Lib.hid (by show _ = _; rw [hm.out]; rfl), trivial⟩
        case measure => simp [intOf]
    · obtain rfl : q = 2 := by omega
      clear hq
      cases b2
      all_goals
        go_wp2
        go_roundw
        case rel => exact ⟨3, _, 3, by omega, rfl, rfl, rfl, Lib.hid (by show _ = _; rw [hm.out]; rfl), trivial⟩
        case measure => simp [intOf]
    · obtain rfl : q = 3 := by omega
      clear hq
      cases b3
      all_goals
        go_wp2
        go_roundw
        case rel => exact ⟨4, _, 4, by omega, rfl, rfl, rfl, Lib.hid (by show _ = _; rw [hm.out]; rfl), trivial⟩
        case measure => simp [intOf]
    · obtain rfl : q = 4 := by omega
      clear hq
      cases b4
      all_goals
        go_wp2
        go_roundw
        case rel => exact ⟨5, _, 5, by omega, rfl, rfl, rfl, Lib.hid (by show _ = _; rw [hm.out]; rfl), trivial⟩
        case measure => simp [intOf]
    · obtain rfl : q = 5 := by omega
      clear hq
      cases b5
      all_goals
        go_wp2
        go_roundw
        case rel => exact ⟨6, _, 6, by omega, rfl, rfl, rfl, Lib.hid (by show _ = _; rw [hm.out]; rfl), trivial⟩
        case measure => simp [intOf]
    · obtain rfl : q = 6 := by omega
      clear hq hb0 hb1 hb2 hb3 hb4 hb5 i0 i1 i2 i3 i4 i5
      go_wp2
      go_ret
      exact ⟨ret_bool (by rw [hS.out, hB.out, hm.out]), hgl.out⟩
end Go.Proofs.YtjjdgmabgiembaaDoor
