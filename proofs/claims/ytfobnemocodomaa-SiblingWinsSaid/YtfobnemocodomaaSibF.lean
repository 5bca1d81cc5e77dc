/- Versions: whether one covers another; whether one may be. -/
import Derived.Test.YtfobnemocodomaaSibB
import Derived.Test.YtfobnemocodomaaVecD
set_option linter.unusedVariables false
set_option linter.unusedSimpArgs false
set_option maxHeartbeats 2000000
namespace Go.Proofs.Ytfobnemocodomaa
open Go.RowKit Go.Great

set_option maxRecDepth 100000 in
theorem vCovers1_any (x y : Vx) (w : World) (hx : VxOk w x) :
    Calls Try.prog 41 #[.agg x.cells, .agg y.cells] w fun r w' => r = .returned (.bool (hasV x.pl y.P y.C)) ∧ Gr w w' := by
  have HX := Lib.hid hx
  obtain ⟨P, C, A, pl, pc, D, T⟩ := x
  obtain ⟨Q, E, B, ql, qc, F, U⟩ := y
  clear hx
  unfold Vx.cells
  dsimp only
  have hg1 : Gr w ((w.alloc (.cells #[.int .i64 P, .int .i64 C, .slice A pl.length pc, .bool D, .string T] 49)).alloc (.cells #[.int .i64 Q, .int .i64 E, .slice B ql.length qc, .bool F, .string U] 49)) := ((Gr.rfl' w).al _).al _
  have HG := Lib.hid hg1
  clear hg1
  have HS := Lib.hid (Has_any A pc pl Q E _ (HX.out.1.gr HG.out))
  go_enter Try.func41, Try.ntmps41
  go_wp2_with fail
  refine (HS.out).mono ?_
  rintro r w1 ⟨rfl, g1⟩
  go_wp2
  go_ret
  exact ⟨rfl, HG.out.tr g1⟩
set_option maxRecDepth 100000 in
theorem vCovers2_any (x y : Vx) (w : World) (hx : VxOk w x) :
    Calls Try.prog 42 #[.agg x.cells, .agg y.cells] w fun r w' => r = .returned (.bool (hasV x.pl y.P y.C)) ∧ Gr w w' := by
  have HX := Lib.hid hx
  obtain ⟨P, C, A, pl, pc, D, T⟩ := x
  obtain ⟨Q, E, B, ql, qc, F, U⟩ := y
  clear hx
  unfold Vx.cells
  dsimp only
  have hg1 : Gr w ((w.alloc (.cells #[.int .i64 P, .int .i64 C, .slice A pl.length pc, .bool D, .string T] 49)).alloc (.cells #[.int .i64 Q, .int .i64 E, .slice B ql.length qc, .bool F, .string U] 49)) := ((Gr.rfl' w).al _).al _
  have HG := Lib.hid hg1
  clear hg1
  have HS := Lib.hid (refHas_any A pc pl Q E _ (HX.out.1.gr HG.out))
  go_enter Try.func42, Try.ntmps42
  go_wp2_with fail
  refine (HS.out).mono ?_
  rintro r w1 ⟨rfl, g1⟩
  go_wp2
  go_ret
  exact ⟨rfl, HG.out.tr g1⟩
end Go.Proofs.Ytfobnemocodomaa
