/- Versions: how they lie; whether two are the same. -/
import Derived.Test.YtfobnemocodomaaVecC
import Derived.Test.YtfobnemocodomaaRowG
import Derived.Lib.Strings
set_option linter.unusedVariables false
set_option linter.unusedSimpArgs false
set_option maxHeartbeats 1000000
namespace Go.Proofs.Ytfobnemocodomaa
open Go.RowKit

structure Vx where
  P : Int
  C : Int
  A : Option Addr
  pl : List Dot
  pc : Nat
  D : Bool
  T : ByteArray
def Vx.cells (x : Vx) : Array Value := #[.int .i64 x.P, .int .i64 x.C, .slice x.A x.pl.length x.pc, .bool x.D, .string x.T]
/-- what a version points to -/
def VxOk (w : World) (x : Vx) : Prop := Dots w x.A x.pl ∧ x.T.size ≤ 9223372036854775807
theorem VxOk.gr {w w' : World} {x : Vx} (h : VxOk w x) (g : Gr w w') : VxOk w' x := ⟨h.1.gr g, h.2⟩
/-- versions in a row -/
def Vers (w : World) (A : Option Addr) (l : List Vx) : Prop :=
  l.length ≤ 9223372036854775807 ∧ ∀ i (h : i < l.length), ∃ ad, A = some ad ∧ VxOk w l[i] ∧ ∀ j v, l[i].cells[j]? = some v → w.cell? ((ad.add (i * 5)).add j) = some v
theorem Vers.gr {w w' : World} {A : Option Addr} {l : List Vx} (h : Vers w A l) (g : Gr w w') : Vers w' A l :=
  ⟨h.1, fun i hi => let ⟨ad, e, a, b⟩ := h.2 i hi; ⟨ad, e, a.gr g, fun j v hj => g.cell (b j v hj)⟩⟩
theorem Vers.nil (w : World) (A : Option Addr) : Vers w A [] := ⟨by simp, fun i h => by simp at h⟩
theorem vOne (x : Vx) : x.cells.all Value.oneCell' = true := by simp [Vx.cells, Value.oneCell']
/-- are two versions the same -/
def vsame (x y : Vx) : Bool := (x.P == y.P && x.C == y.C) && (x.D == y.D && (decide (x.T = y.T) && decide (x.pl = y.pl)))
/-- are two lists of versions the same -/
def vsames : List Vx → List Vx → Bool
  | [], [] => true
  | x :: a, y :: b => vsame x y && vsames a b
  | _, _ => false

set_option maxRecDepth 100000 in
theorem vSame1_any (x y : Vx) (w : World) (hx : VxOk w x) (hy : VxOk w y) :
    Calls Try.prog 111 #[.agg x.cells, .agg y.cells] w fun r w' => r = .returned (.bool (vsame x y)) ∧ Gr w w' := by
  have HX := Lib.hid hx
  have HY := Lib.hid hy
  obtain ⟨P, C, A, pl, pc, D, T⟩ := x
  obtain ⟨Q, E, B, ql, qc, F, U⟩ := y
  clear hx hy
  unfold Vx.cells
  dsimp only
  have hg0 : Gr w (w.alloc (.cells #[.int .i64 P, .int .i64 C, .slice A pl.length pc, .bool D, .string T] 49)) := (Gr.rfl' w).al _
  have hg1 := hg0.al (.cells #[.int .i64 Q, .int .i64 E, .slice B ql.length qc, .bool F, .string U] 49)
  have HG := Lib.hid hg1
  clear hg0 hg1
  by_cases h1 : (P == Q && C == E) = true
  · have hEq : ∀ w, (Op.equalIn 10000 47 (.agg #[.int .i64 P, .int .i64 C]) (.agg #[.int .i64 Q, .int .i64 E])).run Try.prog w = .ok true w := fun w => by rw [eqDot 9998, h1]
    by_cases h2 : D = F
    · subst h2
      by_cases h3 : T = U
      · subst h3
        have HS := Lib.hid (Same_any A B pc qc pl ql _ (HX.out.1.gr HG.out) (HY.out.1.gr HG.out))
        have hv : Hid (vsame ⟨P, C, A, pl, pc, D, T⟩ ⟨Q, E, B, ql, qc, D, T⟩ = decide (pl = ql)) := Lib.hid (by unfold vsame; rw [h1]; simp)
        clear h1
        go_enter Try.func111, Try.ntmps111
        go_wp2_with fail
        refine (HS.out).mono ?_
        rintro r w1 ⟨rfl, g1⟩
        go_wp2
        go_ret
        rw [hv.out]
        exact ⟨rfl, HG.out.tr g1⟩
      · have hTU : (T.toList == U.toList) = false := by simp; intro h; exact h3 (by apply ByteArray.ext; rw [Lib.toList_data, Lib.toList_data] at h; exact Array.ext' h)
        have hv : Hid (vsame ⟨P, C, A, pl, pc, D, T⟩ ⟨Q, E, B, ql, qc, D, U⟩ = false) := Lib.hid (by unfold vsame; rw [h1]; simp [h3])
        clear h1
        go_enter Try.func111, Try.ntmps111
        go_wp2
        go_ret
        rw [hv.out]
        exact ⟨rfl, HG.out⟩
    · have hDF : (D == F) = false := by simpa using h2
      have hv : Hid (vsame ⟨P, C, A, pl, pc, D, T⟩ ⟨Q, E, B, ql, qc, F, U⟩ = false) := Lib.hid (by unfold vsame; rw [h1]; simp [h2])
      clear h1
      go_enter Try.func111, Try.ntmps111
      go_wp2
      go_ret
      rw [hv.out]
      exact ⟨rfl, HG.out⟩
  · have hEq : ∀ w, (Op.equalIn 10000 47 (.agg #[.int .i64 P, .int .i64 C]) (.agg #[.int .i64 Q, .int .i64 E])).run Try.prog w = .ok false w := fun w => by rw [eqDot 9998]; simp at h1; simp; exact h1
    have hv : Hid (vsame ⟨P, C, A, pl, pc, D, T⟩ ⟨Q, E, B, ql, qc, F, U⟩ = false) := Lib.hid (by unfold vsame; simp at h1; simp; intro a b; exact absurd b (h1 a))
    clear h1
    go_enter Try.func111, Try.ntmps111
    go_wp2
    go_ret
    rw [hv.out]
    exact ⟨rfl, HG.out⟩

set_option maxRecDepth 100000 in
theorem vSame2_any (x y : Vx) (w : World) (hx : VxOk w x) (hy : VxOk w y) :
    Calls Try.prog 47 #[.agg x.cells, .agg y.cells] w fun r w' => r = .returned (.bool (vsame x y)) ∧ Gr w w' := by
  have HX := Lib.hid hx
  have HY := Lib.hid hy
  obtain ⟨P, C, A, pl, pc, D, T⟩ := x
  obtain ⟨Q, E, B, ql, qc, F, U⟩ := y
  clear hx hy
  unfold Vx.cells
  dsimp only
  have hg0 : Gr w (w.alloc (.cells #[.int .i64 P, .int .i64 C, .slice A pl.length pc, .bool D, .string T] 49)) := (Gr.rfl' w).al _
  have hg1 := hg0.al (.cells #[.int .i64 Q, .int .i64 E, .slice B ql.length qc, .bool F, .string U] 49)
  have HG := Lib.hid hg1
  clear hg0 hg1
  by_cases h1 : (P == Q && C == E) = true
  · have hEq : ∀ w, (Op.equalIn 10000 47 (.agg #[.int .i64 P, .int .i64 C]) (.agg #[.int .i64 Q, .int .i64 E])).run Try.prog w = .ok true w := fun w => by rw [eqDot 9998, h1]
    by_cases h2 : D = F
    · subst h2
      by_cases h3 : T = U
      · subst h3
        have HS := Lib.hid (refSame_any A B pc qc pl ql _ (HX.out.1.gr HG.out) (HY.out.1.gr HG.out))
        have hv : Hid (vsame ⟨P, C, A, pl, pc, D, T⟩ ⟨Q, E, B, ql, qc, D, T⟩ = decide (pl = ql)) := Lib.hid (by unfold vsame; rw [h1]; simp)
        clear h1
        go_enter Try.func47, Try.ntmps47
        go_wp2_with fail
        refine (HS.out).mono ?_
        rintro r w1 ⟨rfl, g1⟩
        go_wp2
        go_ret
        rw [hv.out]
        exact ⟨rfl, HG.out.tr g1⟩
      · have hTU : (T.toList == U.toList) = false := by simp; intro h; exact h3 (by apply ByteArray.ext; rw [Lib.toList_data, Lib.toList_data] at h; exact Array.ext' h)
        have hv : Hid (vsame ⟨P, C, A, pl, pc, D, T⟩ ⟨Q, E, B, ql, qc, D, U⟩ = false) := Lib.hid (by unfold vsame; rw [h1]; simp [h3])
        clear h1
        go_enter Try.func47, Try.ntmps47
        go_wp2
        go_ret
        rw [hv.out]
        exact ⟨rfl, HG.out⟩
    · have hDF : (D == F) = false := by simpa using h2
      have hv : Hid (vsame ⟨P, C, A, pl, pc, D, T⟩ ⟨Q, E, B, ql, qc, F, U⟩ = false) := Lib.hid (by unfold vsame; rw [h1]; simp [h2])
      clear h1
      go_enter Try.func47, Try.ntmps47
      go_wp2
      go_ret
      rw [hv.out]
      exact ⟨rfl, HG.out⟩
  · have hEq : ∀ w, (Op.equalIn 10000 47 (.agg #[.int .i64 P, .int .i64 C]) (.agg #[.int .i64 Q, .int .i64 E])).run Try.prog w = .ok false w := fun w => by rw [eqDot 9998]; simp at h1; simp; exact h1
    have hv : Hid (vsame ⟨P, C, A, pl, pc, D, T⟩ ⟨Q, E, B, ql, qc, F, U⟩ = false) := Lib.hid (by unfold vsame; simp at h1; simp; intro a b; exact absurd b (h1 a))
    clear h1
    go_enter Try.func47, Try.ntmps47
    go_wp2
    go_ret
    rw [hv.out]
    exact ⟨rfl, HG.out⟩
end Go.Proofs.Ytfobnemocodomaa
