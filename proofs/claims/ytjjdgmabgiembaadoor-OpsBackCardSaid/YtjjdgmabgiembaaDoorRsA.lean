/- The document's reader R: Number, Text, Flag, Fail, Done. -/
import Derived.Test.YtjjdgmabgiembaaDoorRdC
set_option linter.unusedVariables false
set_option linter.unusedSimpArgs false
set_option maxHeartbeats 400000
namespace Go.Proofs.YtjjdgmabgiembaaDoor
open Go.RowKit Go.Shelf Go.Great

theorem rTake_abc (S : ByteArray) (hS : S.size ≤ 9223372036854775807) {a b c : Int} (hv : takeV S = (a, b, c)) (w : World) : Calls Tryd.prog 53 #[.string S] w fun r w' => r = .returned (.tuple #[.int .i64 a, .int .i64 b, .int .i64 c]) ∧ w' = w := by
  refine (refTake_any S hS w).mono ?_
  rintro r w' ⟨rfl, rfl⟩
  exact ⟨takeE_of hv, rfl⟩

set_option maxRecDepth 100000 in
theorem sNumber_any (b : Nat) (S : ByteArray) (e m : Int) (w : World) (h : Sr 61 b S e w) (hS : S.size ≤ 9223372036854775807) :
    Calls Tryd.prog 36 #[.pointer (some ⟨b, 0, none⟩), .int .i64 m] w fun r w' =>
      r = .returned (.int .i64 (numM m S e).1) ∧ Sr 61 b (numM m S e).2.1 (numM m S e).2.2 w' ∧ Rm b w w' := by
  have c0 := h.cell0
  have c1 := h.cell1
  have f0 := h.frz 0
  have f1 := h.frz 1
  have HH := Lib.hid h; clear h
  by_cases he : e = 0
  · subst he
    obtain ⟨a, k, c, hv⟩ : ∃ a k c, takeV S = (a, k, c) := ⟨_, _, _, rfl⟩
    by_cases hc : c = 0
    · subst hc
      obtain ⟨ha0, ha1, hk0, hk5, hks⟩ := takeV_ok hv
      obtain ⟨j, rfl⟩ : ∃ j : Nat, k = j := ⟨k.toNat, by omega⟩
      by_cases hm : m < a
      · have hX : Hid (numM m S 0 = (0, S, 2)) := by show _ = _; unfold numM; rw [hv, if_neg (by simp), if_pos (by simp [numE, hm])]; simp [numE, hm]
        have HV := Lib.hid hv; clear hv
        go_enter Tryd.func36, Tryd.ntmps36
        go_wp2_with fail
        refine (rTake_abc S hS HV.out _).mono ?_
        rintro r w1 ⟨rfl, rfl⟩
        go_wp2
        go_ret
        rw [hX.out]
        exact ⟨rfl, HH.out.set1, (Rm.refl _ _).setCell _ _⟩
      · have hX : Hid (numM m S 0 = (a, cutB S j, 0)) := by show _ = _; unfold numM; rw [hv, if_neg (by simp), if_neg (by simp [numE, hm])]; simp
        have hmb : decide (m < a) = false := decide_eq_false hm
        have HV := Lib.hid hv; clear hv hm
        go_enter Tryd.func36, Tryd.ntmps36
        go_wp2_with fail
        refine (rTake_abc S hS HV.out _).mono ?_
        rintro r w1 ⟨rfl, rfl⟩
        go_wp2
        go_ret
        rw [hX.out]
        exact ⟨rfl, HH.out.set0, (Rm.refl _ _).setCell _ _⟩
    · have hX : Hid (numM m S 0 = (0, S, c)) := by show _ = _; unfold numM; rw [hv, if_neg (by simp), if_pos (by simp [numE, hc])]; simp [numE, hc]
      have hcb : (c == 0) = false := by simpa using hc
      have hcb2 : (c != 0) = true := by simpa using hc
      have HV := Lib.hid hv; clear hv
      go_enter Tryd.func36, Tryd.ntmps36
      go_wp2_with fail
      refine (rTake_abc S hS HV.out _).mono ?_
      rintro r w1 ⟨rfl, rfl⟩
      go_wp2
      go_ret
      rw [hX.out]
      exact ⟨rfl, HH.out.set1, (Rm.refl _ _).setCell _ _⟩
  · have hX : Hid (numM m S e = (0, S, e)) := by show _ = _; unfold numM; rw [if_pos he]
    have heb : (e != 0) = true := by simpa using he
    go_enter Tryd.func36, Tryd.ntmps36
    go_wp2
    go_ret
    rw [hX.out]
    exact ⟨rfl, HH.out, Rm.refl _ _⟩

theorem numM_bd (m : Int) (S : ByteArray) : 0 ≤ (numM m S 0).1 ∧ (numM m S 0).1 ≤ 1073741824 ∧ (numM m S 0).2.1.size ≤ S.size := by
  unfold numM
  rw [if_neg (by simp)]
  split
  · simp
  · rename_i h1
    obtain ⟨a, k, c, hv⟩ : ∃ a k c, takeV S = (a, k, c) := ⟨_, _, _, rfl⟩
    rw [hv] at h1 ⊢
    simp only [ne_eq, Decidable.not_not] at h1
    have hc0 : c = 0 := by
      unfold numE at h1
      split at h1 <;> omega
    subst hc0
    obtain ⟨ha0, ha1, hk0, hk5, hks⟩ := takeV_ok hv
    refine ⟨ha0, ha1, ?_⟩
    simp only [cutB, ByteArray.size_extract]
    omega
/-- how the text's piece hangs on the number's -/
theorem txtM_of (m : Int) (S : ByteArray) : txtM m S 0 =
    if (numM m S 0).2.2 ≠ 0 then (⟨#[]⟩, S, (numM m S 0).2.2)
    else if ((numM m S 0).2.1.size : Int) < (numM m S 0).1 then (⟨#[]⟩, S, 5)
    else ((numM m S 0).2.1.extract 0 (numM m S 0).1.toNat, (numM m S 0).2.1.extract (numM m S 0).1.toNat (numM m S 0).2.1.size, 0) := by
  obtain ⟨a, k, c, hv⟩ : ∃ a k c, takeV S = (a, k, c) := ⟨_, _, _, rfl⟩
  by_cases hn : numE m a c = 0
  · have hc0 : c = 0 := by
      unfold numE at hn
      split at hn <;> omega
    subst hc0
    obtain ⟨ha0, ha1, hk0, hk5, hks⟩ := takeV_ok hv
    obtain ⟨j, rfl⟩ : ∃ j : Nat, k = j := ⟨k.toNat, by omega⟩
    obtain ⟨n, rfl⟩ : ∃ n : Nat, a = n := ⟨a.toNat, by omega⟩
    have h1 : numM m S 0 = ((n : Int), cutB S j, 0) := by unfold numM; rw [hv, if_neg (by simp), if_neg (by simp [hn])]; simp
    rw [h1]
    have hsz : (cutB S j).size = S.size - j := by simp [cutB, ByteArray.size_extract]
    simp only [hsz, ne_eq, not_true_eq_false, if_false]
    by_cases hl : (S.size : Int) - j < n
    · have hP : txtP m S = (⟨#[]⟩, 0, 5) := by unfold txtP; rw [hv, if_neg (by simp [hn]), if_pos hl]
      unfold txtM
      rw [hP, if_neg (by simp), if_pos (by simp), if_pos (by omega)]
    · have hP : txtP m S = (S.extract j (j + n), j + n, 0) := by
        unfold txtP
        rw [hv, if_neg (by simp [hn]), if_neg hl]
        simp only [Int.toNat_natCast]
        rw [show ((j : Int) + n).toNat = j + n by omega]
      unfold txtM
      rw [hP, if_neg (by simp), if_neg (by simp), if_neg (by omega)]
      simp only [Int.toNat_natCast, cutB, ByteArray.extract_extract]
      have e1 : min (j + n) S.size = j + n := by omega
      have e2 : min (j + (S.size - j)) S.size = S.size := by omega
      simp [e1, e2]
  · have h1 : numM m S 0 = (0, S, numE m a c) := by unfold numM; rw [hv, if_neg (by simp), if_pos hn]
    have hP : txtP m S = (⟨#[]⟩, 0, numE m a c) := by unfold txtP; rw [hv, if_pos hn]
    rw [h1]
    unfold txtM
    rw [hP, if_neg (by simp), if_pos hn, if_pos hn]

set_option maxRecDepth 100000 in
theorem sText_any (b : Nat) (m : Int) (S : ByteArray) (e : Int) (w : World) (h : Sr 61 b S e w) (hS : S.size ≤ 9223372036854775807) :
    Calls Tryd.prog 55 #[.pointer (some ⟨b, 0, none⟩), .int .i64 m] w fun r w' =>
      r = .returned (.string (txtM m S e).1) ∧ Sr 61 b (txtM m S e).2.1 (txtM m S e).2.2 w' ∧ Rm b w w' := by
  have c0 := h.cell0
  have HH := Lib.hid h; clear h
  by_cases he : e = 0
  · subst he
    have hT := txtM_of m S
    obtain ⟨hb0, hb1, hb2⟩ := numM_bd m S
    obtain ⟨n, T, c, hv⟩ : ∃ n T c, numM m S 0 = (n, T, c) := ⟨_, _, _, rfl⟩
    rw [hv] at hT hb0 hb1 hb2
    simp only at hT hb0 hb1 hb2
    obtain ⟨n, rfl⟩ : ∃ j : Nat, n = j := ⟨n.toNat, by omega⟩
    by_cases hc : c = 0
    · subst hc
      by_cases hl : (T.size : Int) < n
      · have hX : Hid (txtM m S 0 = (⟨#[]⟩, S, 5)) := by show _ = _; rw [hT, if_neg (by simp), if_pos hl]
        have HV := Lib.hid hv; clear hv hT
        go_enter Tryd.func55, Tryd.ntmps55
        go_wp2_with fail
        refine (sNumber_any b S 0 m _ HH.out hS).mono ?_
        rintro r w1 ⟨rfl, h1, m1⟩
        rw [HV.out] at h1 ⊢
        have c0 := h1.cell0
        have c1 := h1.cell1
        have f0 := h1.frz 0
        have f1 := h1.frz 1
        have H1 := Lib.hid h1; clear h1
        go_wp2
        go_ret
        rw [hX.out]
        exact ⟨rfl, H1.out.set0.set1, (m1.setCell _ _).setCell _ _⟩
      · have hX : Hid (txtM m S 0 = (T.extract 0 n, T.extract n T.size, 0)) := by show _ = _; rw [hT, if_neg (by simp), if_neg hl]; simp
        have hlb : decide ((T.size : Int) < n) = false := decide_eq_false hl
        have hli : (n : Int) ≤ T.size := by omega
        have HV := Lib.hid hv; clear hv hT hl
        go_enter Tryd.func55, Tryd.ntmps55
        go_wp2_with fail
        refine (sNumber_any b S 0 m _ HH.out hS).mono ?_
        rintro r w1 ⟨rfl, h1, m1⟩
        rw [HV.out] at h1 ⊢
        have c0 := h1.cell0
        have c1 := h1.cell1
        have f0 := h1.frz 0
        have f1 := h1.frz 1
        have H1 := Lib.hid h1; clear h1
        go_wp2
        go_ret
        rw [hX.out]
        exact ⟨rfl, H1.out.set0, m1.setCell _ _⟩
    · have hX : Hid (txtM m S 0 = (⟨#[]⟩, S, c)) := by show _ = _; rw [hT, if_pos hc]
      have hTS : T = S := by
        have h := hv
        unfold numM at h
        rw [if_neg (by simp)] at h
        split at h
        · simp only [Prod.mk.injEq] at h; exact h.2.1.symm
        · simp only [Prod.mk.injEq] at h; exact absurd h.2.2.symm hc
      subst hTS
      have hcb2 : (c != 0) = true := by simpa using hc
      have HV := Lib.hid hv; clear hv hT
      go_enter Tryd.func55, Tryd.ntmps55
      go_wp2_with fail
      refine (sNumber_any b T 0 m _ HH.out hS).mono ?_
      rintro r w1 ⟨rfl, h1, m1⟩
      rw [HV.out] at h1 ⊢
      have c1 := h1.cell1
      have H1 := Lib.hid h1; clear h1
      go_wp2
      go_ret
      rw [hX.out]
      exact ⟨rfl, H1.out, m1⟩
  · have hX : Hid (txtM m S e = (⟨#[]⟩, S, e)) := by show _ = _; unfold txtM; rw [if_pos he]
    have hN : Hid (numM m S e = (0, S, e)) := by show _ = _; unfold numM; rw [if_pos he]
    have heb : (e != 0) = true := by simpa using he
    go_enter Tryd.func55, Tryd.ntmps55
    go_wp2_with fail
    refine (sNumber_any b S e m _ HH.out hS).mono ?_
    rintro r w1 ⟨rfl, h1, m1⟩
    rw [hN.out] at h1 ⊢
    have c1 := h1.cell1
    have H1 := Lib.hid h1; clear h1
    go_wp2
    go_ret
    rw [hX.out]
    exact ⟨rfl, H1.out, m1⟩
end Go.Proofs.YtjjdgmabgiembaaDoor
