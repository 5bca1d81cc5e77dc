/- Flags put: a coder.Writer's, and the document's. -/
import Derived.Test.YtfobnemocodomaaRwA
set_option linter.unusedVariables false
set_option linter.unusedSimpArgs false
set_option maxHeartbeats 400000
namespace Go.Proofs.Ytfobnemocodomaa
open Go.RowKit Go.Shelf

set_option maxRecDepth 100000 in
theorem wFlag_any (B b : Nat) (l : List UInt8) (e : Int) (f : Bool) (w : World) (h : Wr B b l e w) (hlen : l.length + 5 ≤ 140737488355328) :
    Calls Try.prog 191 #[.pointer (some ⟨b, 0, none⟩), .bool f] w fun r w' => r = .returned (.tuple #[]) ∧ Wr B b (wput true [if f then 1 else 0] (l, e)).1 (wput true [if f then 1 else 0] (l, e)).2 w' ∧ Wm B b w w' := by
  have HH := Lib.hid h; clear h
  cases f with
  | false =>
    go_enter Try.func191, Try.ntmps191
    go_wp2_with fail
    refine (wPut_any B b l e true _ 1 [⟨#[0]⟩] _ (HH.out.gr ((Gr.rfl' _).al _)) (strs_new _ _) (by have := HH.out.lt; omega) (by decide) (fun _ => by show l.length + 1 ≤ _; omega)).mono ?_
    rintro r w2 ⟨rfl, h2, m2⟩
    go_wp2
    go_end0
    exact ⟨rfl, h2, ((Wm.refl _ _ _).gr ((Gr.rfl' _).al _)).trans m2⟩
  | true =>
    go_enter Try.func191, Try.ntmps191
    go_wp2_with fail
    refine (wPut_any B b l e true _ 1 [⟨#[1]⟩] _ (HH.out.gr ((Gr.rfl' _).al _)) (strs_new _ _) (by have := HH.out.lt; omega) (by decide) (fun _ => by show l.length + 1 ≤ _; omega)).mono ?_
    rintro r w2 ⟨rfl, h2, m2⟩
    go_wp2
    go_end0
    exact ⟨rfl, h2, ((Wm.refl _ _ _).gr ((Gr.rfl' _).al _)).trans m2⟩

set_option maxRecDepth 100000 in
theorem rFlag_any (c : Nat) (S : ByteArray) (e : Int) (f : Bool) (w : World) (h : Rw c S e w) (hlen : S.size + 5 ≤ 9223372036854775807) :
    Calls Try.prog 135 #[.pointer (some ⟨c, 0, none⟩), .bool f] w fun r w' => r = .returned (.tuple #[]) ∧ Rw c (rput true ⟨#[if f then 1 else 0]⟩ (S, e)).1 (rput true ⟨#[if f then 1 else 0]⟩ (S, e)).2 w' ∧ Rm c w w' := by
  have HH := Lib.hid h; clear h
  cases f with
  | false =>
    go_enter Try.func135, Try.ntmps135
    go_wp2_with fail
    refine (rP_any c S e true ⟨#[0]⟩ _ HH.out (fun _ => by show S.size + 1 ≤ _; omega)).mono ?_
    rintro r w2 ⟨rfl, h2, m2⟩
    go_wp2
    go_end0
    exact ⟨rfl, h2, m2⟩
  | true =>
    go_enter Try.func135, Try.ntmps135
    go_wp2_with fail
    refine (rP_any c S e true ⟨#[1]⟩ _ HH.out (fun _ => by show S.size + 1 ≤ _; omega)).mono ?_
    rintro r w2 ⟨rfl, h2, m2⟩
    go_wp2
    go_end0
    exact ⟨rfl, h2, m2⟩

end Go.Proofs.Ytfobnemocodomaa
