/- A coder.Reader: Text, Flag. -/
import Derived.Test.YtjjdgmabgiembaaDoorRdA
set_option linter.unusedVariables false
set_option linter.unusedSimpArgs false
set_option maxHeartbeats 400000
namespace Go.Proofs.YtjjdgmabgiembaaDoor
open Go.RowKit Go.Shelf Go.Great

/-- what a text's piece is: its bytes, how many in all, what is wrong -/
def txtP (m : Int) (S : ByteArray) : ByteArray × Nat × Int :=
  if numE m (takeV S).1 (takeV S).2.2 ≠ 0 then (⟨#[]⟩, 0, numE m (takeV S).1 (takeV S).2.2)
  else if (S.size : Int) - (takeV S).2.1 < (takeV S).1 then (⟨#[]⟩, 0, 5)
  else (S.extract (takeV S).2.1.toNat ((takeV S).2.1 + (takeV S).1).toNat, ((takeV S).2.1 + (takeV S).1).toNat, 0)
theorem txtP_le (m : Int) (S : ByteArray) : (txtP m S).2.1 ≤ S.size := by
  unfold txtP
  obtain ⟨a, k, c, hv⟩ : ∃ a k c, takeV S = (a, k, c) := ⟨_, _, _, rfl⟩
  rw [hv]
  split
  · exact Nat.zero_le _
  split
  · exact Nat.zero_le _
  · rename_i h1 h2
    have hc0 : c = 0 := by
      simp only [ne_eq, Decidable.not_not] at h1
      unfold numE at h1
      split at h1 <;> omega
    subst hc0
    obtain ⟨ha0, ha1, hk0, hk5, hks⟩ := takeV_ok hv
    simp only at h2 ⊢
    omega

set_option maxRecDepth 100000 in
theorem Text1_any (S : ByteArray) (hS : S.size ≤ 9223372036854775807) (m : Int) (g : Nat) (w : World) (hc : w.cell? ⟨g, 0, none⟩ = some (.int .i64 m)) :
    Calls Tryd.prog 62 #[.string S, .pointer (some ⟨g, 0, none⟩)] w fun r w' => r = .returned (.tuple #[.string (txtP m S).1, .int .i64 (txtP m S).2.1, .int .i64 (txtP m S).2.2]) ∧ Gr w w' := by
  obtain ⟨a, k, c, hv⟩ : ∃ a k c, takeV S = (a, k, c) := ⟨_, _, _, rfl⟩
  have hg := Lib.hid ((Gr.rfl' w).al (.cells #[.int .i64 m] 3))
  have hcc := one_of_alloc w (.int .i64 m) 3
  by_cases hn : numE m a c = 0
  · have hc0 : c = 0 := by
      unfold numE at hn
      split at hn <;> omega
    subst hc0
    obtain ⟨ha0, ha1, hk0, hk5, hks⟩ := takeV_ok hv
    obtain ⟨j, rfl⟩ : ∃ j : Nat, k = j := ⟨k.toNat, by omega⟩
    obtain ⟨n, rfl⟩ : ∃ n : Nat, a = n := ⟨a.toNat, by omega⟩
    by_cases hl : (S.size : Int) - j < n
    · have hX : Hid (txtP m S = (⟨#[]⟩, 0, 5)) := by show _ = _; unfold txtP; rw [hv, if_neg (by simp [hn]), if_pos hl]
      have HV := Lib.hid hv; clear hv
      go_enter Tryd.func62, Tryd.ntmps62
      go_wp2_with fail
      refine (number_any m _).mono ?_
      rintro r w1 ⟨rfl, rfl⟩
      go_wp2_with fail
      refine (number1_any S hS HV.out m _ _ hcc).mono ?_
      rintro r w1 ⟨rfl, rfl⟩
      rw [hn]
      go_wp2
      refine bodyPost_ret (v := .tuple #[.string ⟨#[]⟩, .int .i64 0, .int .i64 5]) (by simp [results, Tryd.results62, go_sem]) rfl ?_
      exact ⟨by rw [hX.out]; rfl, hg.out⟩
    · have hX : Hid (txtP m S = (S.extract j (j + n), j + n, 0)) := by
        show _ = _
        unfold txtP
        rw [hv, if_neg (by simp [hn]), if_neg hl]
        simp only [Int.toNat_natCast]
        rw [show ((j : Int) + n).toNat = j + n by omega]
      have HV := Lib.hid hv; clear hv
      have hlb : decide ((S.size : Int) - j < n) = false := decide_eq_false hl
      have hjn : (j : Int) + n ≤ S.size := by omega
      go_enter Tryd.func62, Tryd.ntmps62
      go_wp2_with fail
      refine (number_any m _).mono ?_
      rintro r w1 ⟨rfl, rfl⟩
      go_wp2_with fail
      refine (number1_any S hS HV.out m _ _ hcc).mono ?_
      rintro r w1 ⟨rfl, rfl⟩
      rw [hn]
      go_wp2
      refine bodyPost_ret (v := .tuple #[.string (S.extract j (j + n)), .int .i64 ((j : Int) + n), .int .i64 0]) (by simp [results, Tryd.results62, go_sem]) rfl ?_
      exact ⟨by rw [hX.out]; rfl, hg.out⟩
  · have hX : Hid (txtP m S = (⟨#[]⟩, 0, numE m a c)) := by show _ = _; unfold txtP; rw [hv, if_pos hn]
    have hnb : (numE m a c == 0) = false := by simpa using hn
    have hnb2 : (numE m a c != 0) = true := by simpa using hn
    have HV := Lib.hid hv; clear hv
    go_enter Tryd.func62, Tryd.ntmps62
    go_wp2_with fail
    refine (number_any m _).mono ?_
    rintro r w1 ⟨rfl, rfl⟩
    go_wp2_with fail
    refine (number1_any S hS HV.out m _ _ hcc).mono ?_
    rintro r w1 ⟨rfl, rfl⟩
    go_wp2
    refine bodyPost_ret (v := .tuple #[.string ⟨#[]⟩, .int .i64 0, .int .i64 (numE m a c)]) (by simp [results, Tryd.results62, go_sem]) rfl ?_
    exact ⟨by rw [hX.out]; rfl, hg.out⟩

/-- what the piece of a flag is -/
def flgP (S : ByteArray) : Bool × Nat × Int := if S.size = 0 then (false, 0, 5) else if 1 < byt S 0 then (false, 0, 7) else (decide (byt S 0 = 1), 1, 0)
theorem flgP_le (S : ByteArray) : (flgP S).2.1 ≤ S.size := by
  unfold flgP
  split
  · exact Nat.zero_le _
  split
  · exact Nat.zero_le _
  · show 1 ≤ _; omega
/-- what taking it comes to -/
def txtM (m : Int) (S : ByteArray) (e : Int) : ByteArray × ByteArray × Int := if e ≠ 0 then (⟨#[]⟩, S, e) else if (txtP m S).2.2 ≠ 0 then (⟨#[]⟩, S, (txtP m S).2.2) else ((txtP m S).1, cutB S (txtP m S).2.1, 0)
set_option maxRecDepth 100000 in
theorem txt_any (b : Nat) (m : Int) (S : ByteArray) (e : Int) (g : Nat) (w : World) (h : Sr 75 b S e w) (hS : S.size ≤ 9223372036854775807) (hc : w.cell? ⟨g, 0, none⟩ = some (.int .i64 m)) :
    Calls Tryd.prog 61 #[.pointer (some ⟨b, 0, none⟩), .func (.func 62) #[] #[.pointer (some ⟨g, 0, none⟩)]] w fun r w' =>
      r = .returned (.string (txtM m S e).1) ∧ Sr 75 b (txtM m S e).2.1 (txtM m S e).2.2 w' ∧ Rm b w w' := by
  have c0 := h.cell0
  have c1 := h.cell1
  have f0 := h.frz 0
  have f1 := h.frz 1
  have HH := Lib.hid h; clear h
  by_cases he : e = 0
  · subst he
    obtain ⟨x, k, c, hv⟩ : ∃ x k c, txtP m S = (x, k, c) := ⟨_, _, _, rfl⟩
    have hk : k ≤ S.size := by have := txtP_le m S; rw [hv] at this; exact this
    have hki : (k : Int) ≤ S.size := by omega
    by_cases hn : c = 0
    · subst hn
      have hX : Hid (txtM m S 0 = (x, cutB S k, 0)) := by show _ = _; unfold txtM; rw [hv, if_neg (by simp), if_neg (by simp)]
      have HV := Lib.hid hv; clear hv
      go_enter Tryd.func61, Tryd.ntmps61
      go_wp2_with fail
      refine (Err_any b S 0 _ HH.out).mono ?_
      rintro r w1 ⟨rfl, rfl⟩
      go_wp2_with fail
      refine (Text1_any S hS m g _ hc).mono ?_
      rintro r w2 ⟨rfl, hg2⟩
      skip
      rw [HV.out]
      replace c0 := hg2.cell c0
      replace c1 := hg2.cell c1
      replace HH := Lib.hid (HH.out.gr hg2)
      have f0 := HH.out.frz 0
      have f1 := HH.out.frz 1
      go_wp2
      go_ret
      rw [hX.out]
      exact ⟨rfl, HH.out.set0, (Rm.of hg2).setCell _ _⟩
    · have hX : Hid (txtM m S 0 = (⟨#[]⟩, S, c)) := by show _ = _; unfold txtM; rw [hv, if_neg (by simp), if_pos hn]
      have hnb : (c != 0) = true := by simpa using hn
      have HV := Lib.hid hv; clear hv
      go_enter Tryd.func61, Tryd.ntmps61
      go_wp2_with fail
      refine (Err_any b S 0 _ HH.out).mono ?_
      rintro r w1 ⟨rfl, rfl⟩
      go_wp2_with fail
      refine (Text1_any S hS m g _ hc).mono ?_
      rintro r w2 ⟨rfl, hg2⟩
      skip
      rw [HV.out]
      replace c0 := hg2.cell c0
      replace c1 := hg2.cell c1
      replace HH := Lib.hid (HH.out.gr hg2)
      have f0 := HH.out.frz 0
      have f1 := HH.out.frz 1
      go_wp2
      go_ret
      rw [hX.out]
      exact ⟨rfl, HH.out.set1, (Rm.of hg2).setCell _ _⟩
  · have hX : Hid (txtM m S e = (⟨#[]⟩, S, e)) := by show _ = _; unfold txtM; rw [if_pos he]
    have heb : (e != 0) = true := by simpa using he
    go_enter Tryd.func61, Tryd.ntmps61
    go_wp2_with fail
    refine (Err_any b S e _ HH.out).mono ?_
    rintro r w1 ⟨rfl, rfl⟩
    go_wp2
    go_ret
    rw [hX.out]
    exact ⟨rfl, HH.out, Rm.refl _ _⟩

/-- what taking it comes to -/
def flgM (S : ByteArray) (e : Int) : Bool × ByteArray × Int := if e ≠ 0 then (false, S, e) else if (flgP S).2.2 ≠ 0 then (false, S, (flgP S).2.2) else ((flgP S).1, cutB S (flgP S).2.1, 0)
set_option maxRecDepth 100000 in
theorem dText_any (b : Nat) (m : Int) (S : ByteArray) (e : Int) (w : World) (h : Sr 75 b S e w) (hS : S.size ≤ 9223372036854775807) :
    Calls Tryd.prog 52 #[.pointer (some ⟨b, 0, none⟩), .int .i64 m] w fun r w' =>
      r = .returned (.string (txtM m S e).1) ∧ Sr 75 b (txtM m S e).2.1 (txtM m S e).2.2 w' ∧ Rm b w w' := by
  have HH := Lib.hid h; clear h
  have hg := Lib.hid ((Gr.rfl' w).al (.cells #[.int .i64 m] 3))
  have hc := one_of_alloc w (.int .i64 m) 3
  go_enter Tryd.func52, Tryd.ntmps52
  go_wp2_with fail
  refine (txt_any b m S e _ _ (HH.out.gr hg.out) hS hc).mono ?_
  rintro r w2 ⟨rfl, h2, m2⟩
  go_wp2
  go_ret
  exact ⟨rfl, h2, (Rm.of hg.out).trans m2⟩
end Go.Proofs.YtjjdgmabgiembaaDoor
