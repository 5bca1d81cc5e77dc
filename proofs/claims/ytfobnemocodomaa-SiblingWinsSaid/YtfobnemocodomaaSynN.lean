/- What a writer of one leaf sees: in plain words. -/
import Derived.Test.YtfobnemocodomaaSynI
set_option linter.unusedVariables false
set_option linter.unusedSimpArgs false
set_option maxHeartbeats 2000000
namespace Go.Proofs.Ytfobnemocodomaa
open Go.RowKit Go.Great

abbrev tX : ByteArray := ⟨#[120]⟩
abbrev tW : ByteArray := ⟨#[119]⟩
abbrev tY : ByteArray := ⟨#[121]⟩
theorem awk_may0 : mayE [] 0 1 = 0 := by rfl
theorem awk_cov0 : covL [] = [] := by rfl
theorem awk_cov1 (A : Option Addr) (c : Nat) : covL [⟨0, 1, A, [], c, false, tX⟩] = [(0, 1)] := by
  have h0 : joinL [] [] = [] := by simp [joinL, mrg, madeL, chk]
  have h1 : joinL [] [(0, 1)] = [(0, 1)] := by simp [joinL, mrg, madeL, chk]; rfl
  show joinL (joinL [] []) [(0, 1)] = _
  rw [h0, h1]
theorem awk_may1 (A : Option Addr) (c : Nat) : mayE [⟨0, 1, A, [], c, false, tX⟩] 1 1 = 0 := by rfl
theorem awk_may2 (A : Option Addr) (c : Nat) : mayE [⟨0, 1, A, [], c, false, tX⟩] 0 2 = 0 := by rfl
theorem awk_has1 : hasV [(0, 1)] 1 1 = false := by rfl
theorem awk_has2 : hasV [(0, 1)] 0 2 = false := by rfl
theorem awk_syn1 (A B : Option Addr) (c d : Nat) : synL [⟨0, 1, A, [], c, false, tX⟩] [⟨1, 1, B, [(0, 1)], d, false, tW⟩] = [⟨1, 1, B, [(0, 1)], d, false, tW⟩] := by rfl
theorem awk_syn2 (A B : Option Addr) (c d : Nat) : synL [⟨1, 1, B, [(0, 1)], d, false, tW⟩] [⟨0, 2, A, [(0, 1)], c, false, tY⟩] = [⟨0, 2, A, [(0, 1)], c, false, tY⟩, ⟨1, 1, B, [(0, 1)], d, false, tW⟩] := by rfl
theorem awk_win (A B : Option Addr) (c d : Nat) : winL [⟨0, 2, A, [(0, 1)], c, false, tY⟩, ⟨1, 1, B, [(0, 1)], d, false, tW⟩] = some ⟨0, 2, A, [(0, 1)], c, false, tY⟩ := by rfl
end Go.Proofs.Ytfobnemocodomaa
