/- The empty leaf, put. -/
import Derived.Test.YtfobnemocodomaaKidH
set_option linter.unusedVariables false
set_option linter.unusedSimpArgs false
set_option maxHeartbeats 2000000
namespace Go.Proofs.Ytfobnemocodomaa
open Go.RowKit Go.Great

theorem put0 (L : List UInt8) : wput (numOk 0) (putS 0).data.toList (L, 0) = (L ++ [0], 0) := by
  have h1 : numOk 0 = true := by decide
  have h2 : (putS 0).data.toList = [0] := by decide +kernel
  rw [h1, h2]; rfl
set_option maxRecDepth 100000 in
theorem listNil_any (B b : Nat) (L : List UInt8) (f : Value) (w : World) (h : Wr B b L 0 w) (hlen : L.length + 5 ≤ 140737488355328) :
    Calls Try.prog 143 #[.pointer (some ⟨b, 0, none⟩), .slice none 0 0, f] w fun r w' => r = .returned (.tuple #[]) ∧ Wr B b (L ++ [0]) 0 w' ∧ Wm B b w w' := by
  have hc := wNumber_any B b L 0 0 w h hlen
  rw [put0] at hc
  have HC := Lib.hid hc
  clear hc h
  go_enter Try.func143, Try.ntmps143
  go_wp2_with fail
  refine (HC.out).mono ?_
  rintro r w1 ⟨rfl, h1, m1⟩
  have H1 := Lib.hid h1
  have M1 := Lib.hid m1
  clear h1 m1
  go_wp2
  go_loopw [14] (fun i wr => i = .int .i64 0 ∧ wr = w1) (fun _ _ => 0)
  case atStart => exact ⟨rfl, rfl⟩
  case round =>
    obtain ⟨rfl, rfl⟩ := hrel
    go_wp2
    go_end0
    exact ⟨rfl, H1.out, M1.out⟩
set_option maxRecDepth 100000 in
theorem putLeafNil_any (B b : Nat) (L : List UInt8) (w : World) (h : Wr B b L 0 w) (hlen : L.length + 5 ≤ 140737488355328) :
    Calls Try.prog 73 #[.pointer (some ⟨b, 0, none⟩), .slice none 0 0] w fun r w' => r = .returned (.tuple #[]) ∧ Wr B b (L ++ [0]) 0 w' ∧ Wm B b w w' := by
  have hga := Lib.hid ((Gr.rfl' w).al (.cells #[.pointer (some ⟨b, 0, none⟩)] 127))
  have HH := Lib.hid (h.gr hga.out); clear h
  have HC := Lib.hid (World.alloc_heap_new w (.cells #[.pointer (some ⟨b, 0, none⟩)] 127))
  go_enter Try.func73, Try.ntmps73
  go_wp2_with fail
  refine (leafNil_any _).mono ?_
  rintro r w1 ⟨rfl, hg1⟩
  have HC1 := Lib.hid ((hg1.block _ (Array.getElem?_eq_some_iff.1 HC.out).1).trans HC.out)
  have c1 : w1.cell? ⟨w.heap.size, 0, none⟩ = some (.pointer (some ⟨b, 0, none⟩)) := by simp [World.cell?, HC1.out]
  go_wp2_with fail
  refine (listNil_any B b L _ _ (HH.out.gr hg1) hlen).mono ?_
  rintro r w2 ⟨rfl, h2, m2⟩
  go_wp2
  go_end0
  exact ⟨rfl, h2, ((Wm.refl _ _ _).gr (hga.out.tr hg1)).trans m2⟩
end Go.Proofs.Ytfobnemocodomaa
