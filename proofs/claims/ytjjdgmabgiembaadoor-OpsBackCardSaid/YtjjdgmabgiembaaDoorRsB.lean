/- The document's reader R: Flag, Fail, Done, Digest. -/
import Derived.Test.YtjjdgmabgiembaaDoorRsA
set_option linter.unusedVariables false
set_option linter.unusedSimpArgs false
set_option maxHeartbeats 400000
namespace Go.Proofs.YtjjdgmabgiembaaDoor
open Go.RowKit Go.Shelf Go.Great

set_option maxRecDepth 100000 in
theorem sFail_any (b : Nat) (S : ByteArray) (e : Int) (f : Int) (w : World) (h : Sr 61 b S e w) :
    Calls Tryd.prog 54 #[.pointer (some ⟨b, 0, none⟩), .int .i64 f] w fun r w' => r = .returned (.tuple #[]) ∧ Sr 61 b S (sfail f e) w' ∧ Rm b w w' := by
  have c1 := h.cell1
  have f1 := h.frz 1
  have HH := Lib.hid h; clear h
  by_cases he : e = 0
  · subst he
    go_enter Tryd.func54, Tryd.ntmps54
    go_wp2
    go_end0
    exact ⟨rfl, HH.out.set1, (Rm.refl _ _).setCell _ _⟩
  · have heb : (e == 0) = false := by simpa using he
    have hX : Hid (sfail f e = e) := by show _ = _; simp [sfail, he]
    go_enter Tryd.func54, Tryd.ntmps54
    go_wp2
    go_end0
    rw [hX.out]
    exact ⟨rfl, HH.out, Rm.refl _ _⟩
set_option maxRecDepth 100000 in
theorem sDone_any (b : Nat) (S : ByteArray) (e : Int) (w : World) (h : Sr 61 b S e w) : Calls Tryd.prog 38 #[.pointer (some ⟨b, 0, none⟩)] w fun r w' => r = .returned (.int .i64 (rdDone S e)) ∧ w' = w := by
  have c0 := h.cell0
  have c1 := h.cell1
  clear h
  by_cases he : e = 0
  · subst he
    by_cases hs : S.size = 0
    · have hX : Hid (rdDone S 0 = 0) := by show _ = _; simp [rdDone, hs]
      have hb : S.toList.isEmpty = true := by rw [isE_size]; exact decide_eq_true hs
      clear hs
      go_enter Tryd.func38, Tryd.ntmps38
      go_wp2
      go_ret
      exact ⟨ret_int hX.out.symm, rfl⟩
    · have hX : Hid (rdDone S 0 = 6) := by show _ = _; unfold rdDone; rw [if_neg (by simp), if_neg hs]
      have hb : S.toList.isEmpty = false := by rw [isE_size]; exact decide_eq_false hs
      clear hs
      go_enter Tryd.func38, Tryd.ntmps38
      go_wp2
      go_ret
      exact ⟨ret_int hX.out.symm, rfl⟩
  · have hX : Hid (rdDone S e = e) := by show _ = _; simp [rdDone, he]
    have heb : (e == 0) = false := by simpa using he
    go_enter Tryd.func38, Tryd.ntmps38
    go_wp2
    go_ret
    exact ⟨ret_int hX.out.symm, rfl⟩

theorem flgM_of (S : ByteArray) : flgM S 0 = if S.size = 0 then (false, S, 5) else if 1 < byt S 0 then (false, S, 7) else (decide (byt S 0 = 1), cutB S 1, 0) := by
  unfold flgM flgP
  rw [if_neg (by simp)]
  by_cases h0 : S.size = 0
  · rw [if_pos h0, if_pos h0, if_pos (by simp)]
  · rw [if_neg h0, if_neg h0]
    by_cases h1 : 1 < byt S 0
    · rw [if_pos h1, if_pos h1, if_pos (by simp)]
    · rw [if_neg h1, if_neg h1, if_neg (by simp)]

end Go.Proofs.YtjjdgmabgiembaaDoor
