/- slices.SortStableFunc of a row of at most 19 versions, and of none. -/
import Derived.Test.YtfobnemocodomaaSrtC
set_option linter.unusedVariables false
set_option linter.unusedSimpArgs false
set_option maxHeartbeats 2000000
namespace Go.Proofs.Ytfobnemocodomaa
open Go.RowKit Go.Great

set_option maxRecDepth 100000 in
theorem insNil_any (w : World) :
    Calls Try.prog 198 #[.slice none 0 0, .int .i64 0, .int .i64 0, synF] w fun r w' => r = .returned (.tuple #[]) ∧ w' = w := by
  go_enter Try.func198, Try.ntmps198
  go_wp2
  go_loopw [8] (fun s wr => s = .int .i64 1 ∧ w = wr) (fun _ _ => 0)
  case atStart => exact ⟨rfl, rfl⟩
  case round =>
    obtain ⟨rfl, rfl⟩ := hrel
    go_wp2
    go_end0
    exact ⟨rfl, rfl⟩
set_option maxRecDepth 100000 in
theorem stableNil_any (w : World) :
    Calls Try.prog 171 #[.slice none 0 0, .int .i64 0, synF] w fun r w' => r = .returned (.tuple #[]) ∧ w' = w := by
  have HI := Lib.hid (insNil_any w)
  go_enter Try.func171, Try.ntmps171
  go_wp2
  go_loopw [7, 8] (fun s t wr => s = .int .i64 0 ∧ t = .int .i64 20 ∧ w = wr) (fun _ _ _ => 0)
  case atStart => exact ⟨rfl, rfl, rfl⟩
  case round =>
    obtain ⟨rfl, rfl, rfl⟩ := hrel
    go_wp2_with fail
    refine (HI.out).mono ?_
    rintro r w1 ⟨rfl, h1⟩
    have H1 := Lib.hid h1
    clear h1
    go_wp2
    go_loopw [6] (fun s wr => s = .int .i64 20 ∧ w1 = wr) (fun _ _ => 0)
    case atStart => exact ⟨rfl, rfl⟩
    case round =>
      obtain ⟨rfl, rfl⟩ := hrel
      go_wp2
      go_end0
      exact ⟨rfl, H1.out⟩
set_option maxRecDepth 100000 in
theorem stable19_any (gl n cap : Nat) (l : List Vx) (w0 w : World) (hR : RS w0 gl l w) (hn : l.length = n) (h19 : n ≤ 19) :
    Calls Try.prog 171 #[.slice (some ⟨gl, 0, none⟩) n cap, .int .i64 n, synF] w fun r w' => r = .returned (.tuple #[]) ∧ ∃ R, MrgV R l ∧ RS w0 gl R w' := by
  have hi := insert_any gl n cap 0 n [] l [] w0 w (by simpa using hR) rfl (by omega) (by simpa using hn) (by omega)
  simp only [List.nil_append, List.append_nil] at hi
  have HI := Lib.hid hi
  have h20 : ¬ (20 : Int) ≤ n := by omega
  have h21 : ¬ (20 : Int) < n := by omega
  clear hi hR hn
  go_enter Try.func171, Try.ntmps171
  go_wp2
  go_loopw [7, 8] (fun s t wr => s = .int .i64 0 ∧ t = .int .i64 20 ∧ w = wr) (fun _ _ _ => 0)
  case atStart => exact ⟨rfl, rfl, rfl⟩
  case round =>
    obtain ⟨rfl, rfl, rfl⟩ := hrel
    go_wp2_with fail
    refine (HI.out).mono ?_
    rintro r w1 ⟨rfl, h1⟩
    have H1 := Lib.hid h1
    clear h1
    go_wp2
    go_loopw [6] (fun s wr => s = .int .i64 20 ∧ w1 = wr) (fun _ _ => 0)
    case atStart => exact ⟨rfl, rfl⟩
    case round =>
      obtain ⟨rfl, rfl⟩ := hrel
      go_wp2
      go_end0
      exact ⟨rfl, H1.out⟩
/-- what is asked of sorting, up to N versions -/
def StableC (N : Nat) : Prop := ∀ (gl n cap : Nat) (l : List Vx) (w0 w : World), RS w0 gl l w → l.length = n → n ≤ N →
    Calls Try.prog 171 #[.slice (some ⟨gl, 0, none⟩) n cap, .int .i64 n, synF] w fun r w' => r = .returned (.tuple #[]) ∧ ∃ R, MrgV R l ∧ RS w0 gl R w'
theorem stableC19 : StableC 19 := fun gl n cap l w0 w h1 h2 h3 => stable19_any gl n cap l w0 w h1 h2 h3
set_option maxRecDepth 100000 in
theorem sortNil_any (w : World) :
    Calls Try.prog 106 #[.slice none 0 0, synF] w fun r w' => r = .returned (.tuple #[]) ∧ w' = w := by
  go_enter Try.func106, Try.ntmps106
  go_wp2_with fail
  refine (stableNil_any w).mono ?_
  rintro r w1 ⟨rfl, h1⟩
  go_wp2
  go_end0
  exact ⟨rfl, by first | exact h1 | rfl⟩
set_option maxRecDepth 100000 in
theorem sortRow_any {N : Nat} (hst : StableC N) (gl n cap : Nat) (l : List Vx) (w0 w : World) (hR : RS w0 gl l w) (hn : l.length = n) (hN : n ≤ N) :
    Calls Try.prog 106 #[.slice (some ⟨gl, 0, none⟩) n cap, synF] w fun r w' => r = .returned (.tuple #[]) ∧ ∃ R, MrgV R l ∧ RS w0 gl R w' := by
  have HI := Lib.hid (hst gl n cap l w0 w hR hn hN)
  clear hR hn
  go_enter Try.func106, Try.ntmps106
  go_wp2_with fail
  refine (HI.out).mono ?_
  rintro r w1 ⟨rfl, h1⟩
  have H1 := Lib.hid h1
  clear h1
  go_wp2
  go_end0
  exact ⟨rfl, H1.out⟩
end Go.Proofs.Ytfobnemocodomaa
