/- VecCheck: the law's walk. -/
import Derived.Test.YtfhanmopoafdeaaVecAw
import Derived.Test.YtfhanmopoafdeaaVecH
set_option linter.unusedVariables false
set_option linter.unusedSimpArgs false
set_option maxHeartbeats 4000000
namespace Go.Proofs.Ytfhanmopoafdeaa
open Go.RowKit

theorem box_cells (w : World) (x y : Value) (t : TypeId) {w' : World} (g : Gr (w.alloc (.cells #[x, y] t)) w') : w'.cell? ⟨w.heap.size, 0, none⟩ = some x ∧ w'.cell? ⟨w.heap.size, 1, none⟩ = some y :=
  ⟨(box2 (box2_gr g (World.alloc_heap_new w _))).1, (box2 (box2_gr g (World.alloc_heap_new w _))).2.1⟩


set_option maxRecDepth 100000 in
theorem VecCheck_any (A1 : Option Addr) (c1 : Nat) (a : List Dot) (x y : Int) (w : World) (h1 : Dots w A1 a) :
    Calls Try.prog 7 #[.slice A1 a.length c1, .agg #[.int .i64 x, .int .i64 y]] w fun e w' => e = .returned (.bool true) ∧ Gr w w' := by
  have hgb : Gr w (w.alloc (.cells #[.int .i64 x, .int .i64 y] 31)) := (Gr.rfl' w).al _
  have H1 := Lib.hid (h1.gr hgb); clear h1
  have H3 := DRows.one (cap := c1) H1.out 22
  rw [World.size_alloc] at H3
  replace H3 := Lib.hid H3
  have hg := (Gr.rfl' (w.alloc (.cells #[.int .i64 x, .int .i64 y] 31))).al (.cells #[.slice A1 a.length c1] 22)
  have HBX : Hid (∀ w', Gr (w.alloc (.cells #[.int .i64 x, .int .i64 y] 31)) w' → w'.cell? ⟨w.heap.size, 0, none⟩ = some (.int .i64 x) ∧ w'.cell? ⟨w.heap.size, 1, none⟩ = some (.int .i64 y)) := fun w' g => box_cells w _ _ _ g
  replace H1 := Lib.hid (H1.out.gr hg)
  rcases hm : manyB [⟨A1, c1, a⟩] with _ | _
  · go_enter Try.func7, Try.ntmps7
    go_wp2_with fail
    refine (many_any _ _ [⟨A1, c1, a⟩] _ H3.out).mono ?_
    rintro e wc ⟨rfl, hgc⟩
    replace H1 := Lib.hid (H1.out.gr hgc)
    replace hg := hg.tr hgc
    clear hgc
    rw [hm]
    obtain ⟨hk0, hk1⟩ := HBX.out _ hg
    go_wp2
    go_region_held3 (fun w' => w'.cell? ⟨w.heap.size, 0, none⟩ = some (.int .i64 x) ∧ w'.cell? ⟨w.heap.size, 1, none⟩ = some (.int .i64 y)) (first | exact HBX.out _ hg | exact HBX.out _ hg.dr) (first
      | (go_at_call 10; refine (Check_any A1 c1 a _ (H1.out.gr ((Gr.rfl' _).dr))).mono ?_; rintro e wc ⟨rfl, hgc⟩; replace hgc := (Gr.rfl' _).dr.tr hgc; replace H1 := Lib.hid (H1.out.gr hgc); replace hg := hg.tr hgc)
      | (go_at_call 25; refine (refCheck_any A1 c1 a _ H1.out).mono ?_; rintro e wc ⟨rfl, hgc⟩; replace H1 := Lib.hid (H1.out.gr hgc); replace hg := hg.tr hgc)
      | (go_at_call 26; refine (Get_any A1 c1 a x _ H1.out).mono ?_; rintro e wc ⟨rfl, hgc⟩; replace H1 := Lib.hid (H1.out.gr hgc); replace hg := hg.tr hgc)
      | (go_at_call 27; refine (refGet_any A1 c1 a x _ H1.out).mono ?_; rintro e wc ⟨rfl, hgc⟩; replace H1 := Lib.hid (H1.out.gr hgc); replace hg := hg.tr hgc)
      | (go_at_call 28; refine (Has_any A1 c1 a x y _ H1.out).mono ?_; rintro e wc ⟨rfl, hgc⟩; replace H1 := Lib.hid (H1.out.gr hgc); replace hg := hg.tr hgc)
      | (go_at_call 29; refine (refHas_any A1 c1 a x y _ H1.out).mono ?_; rintro e wc ⟨rfl, hgc⟩; replace H1 := Lib.hid (H1.out.gr hgc); replace hg := hg.tr hgc)
      | (go_at_call 20; refine (Size_any A1 c1 a _ H1.out).mono ?_; rintro e wc ⟨rfl, hgc⟩; replace H1 := Lib.hid (H1.out.gr hgc); replace hg := hg.tr hgc)
      | (go_at_call 30; refine (refSize_any A1 c1 a _ H1.out).mono ?_; rintro e wc ⟨rfl, hgc⟩; replace H1 := Lib.hid (H1.out.gr hgc); replace hg := hg.tr hgc)
      | (go_at_call 11; refine (awake_any _).mono ?_; rintro e wc ⟨rfl, hgc⟩; replace H1 := Lib.hid (H1.out.gr hgc); replace hg := hg.tr hgc))
    all_goals (go_wp2; go_ret; exact ⟨rfl, hgb.tr hg⟩)
  · go_enter Try.func7, Try.ntmps7
    go_wp2_with fail
    refine (many_any _ _ [⟨A1, c1, a⟩] _ H3.out).mono ?_
    rintro e wc ⟨rfl, hgc⟩
    replace hg := hg.tr hgc
    clear hgc
    rw [hm]
    go_wp2_with fail
    refine (awake_any _).mono ?_
    rintro e wc ⟨rfl, hgc⟩
    replace hg := hg.tr hgc
    clear hgc
    go_wp2
    go_ret
    exact ⟨rfl, hgb.tr hg⟩
end Go.Proofs.Ytfhanmopoafdeaa
