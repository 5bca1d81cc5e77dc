/- When versions are a leaf: in plain words. -/
import Derived.Test.YtfobnemocodomaaSynP
set_option linter.unusedVariables false
set_option linter.unusedSimpArgs false
namespace Go.Proofs.Ytfobnemocodomaa

theorem ver_parts {x : Vx} (h : verChk x = 0) : (0 ≤ x.P ∧ x.P < 64 ∧ 1 ≤ x.C ∧ x.C ≤ 1048576) ∧ chk x.pl = 0 ∧ hasV x.pl x.P x.C = false ∧ x.T.size ≤ 48 ∧ ¬ (x.D = true ∧ x.T ≠ ⟨#[]⟩) := by
  unfold verChk at h
  by_cases h0 : dotChk x.P x.C = 0
  · rw [if_neg (by simpa using h0)] at h
    by_cases h1 : chk x.pl = 0
    · rw [if_neg (by simpa using h1)] at h
      by_cases h2 : hasV x.pl x.P x.C = true
      · rw [if_pos h2] at h; omega
      · rw [if_neg h2] at h
        by_cases h3 : 48 < x.T.size
        · rw [if_pos h3] at h; omega
        · rw [if_neg h3] at h
          by_cases h4 : x.D = true ∧ x.T ≠ ⟨#[]⟩
          · rw [if_pos h4] at h; omega
          · refine ⟨?_, h1, by simpa using h2, by omega, h4⟩
            unfold dotChk at h0
            split at h0
            · omega
            · split at h0 <;> omega
    · rw [if_pos h1] at h; exact absurd h h1
  · rw [if_pos h0] at h; exact absurd h h0
theorem ver_of {x : Vx} (h0 : 0 ≤ x.P ∧ x.P < 64 ∧ 1 ≤ x.C ∧ x.C ≤ 1048576) (h1 : chk x.pl = 0) (h2 : hasV x.pl x.P x.C = false) (h3 : x.T.size ≤ 48) (h4 : ¬ (x.D = true ∧ x.T ≠ ⟨#[]⟩)) : verChk x = 0 := by
  have hd : dotChk x.P x.C = 0 := by unfold dotChk; rw [if_neg (by omega), if_neg (by omega)]
  unfold verChk
  rw [if_neg (by simpa using hd), if_neg (by simpa using h1), if_neg (by simp [h2]), if_neg (by omega), if_neg h4]
theorem verGo_zero : ∀ (l : List Vx) (la : Int), verGo la l = 0 ↔ (∀ x ∈ l, verChk x = 0 ∧ la < x.P) ∧ Ups l
  | [], la => by simp [verGo, Ups]
  | x :: r, la => by
    have ih := verGo_zero r x.P
    unfold verGo
    by_cases h : verChk x = 0
    · rw [if_neg (by simpa using h)]
      by_cases h2 : x.P ≤ la
      · rw [if_pos h2]
        constructor
        · intro e; omega
        · rintro ⟨k, _⟩; have := (k x (by simp)).2; omega
      · rw [if_neg h2, ih]
        constructor
        · rintro ⟨a, b⟩
          refine ⟨fun y hy => ?_, List.pairwise_cons.2 ⟨fun y hy => (a y hy).2, b⟩⟩
          rcases List.mem_cons.1 hy with rfl | hy
          · exact ⟨h, by omega⟩
          · have := a y hy; exact ⟨this.1, by omega⟩
        · rintro ⟨a, b⟩
          have b' := List.pairwise_cons.1 b
          exact ⟨fun y hy => ⟨(a y (List.mem_cons_of_mem _ hy)).1, b'.1 y hy⟩, b'.2⟩
    · rw [if_pos h]
      constructor
      · intro e; exact absurd e h
      · rintro ⟨k, _⟩; exact absurd (k x (by simp)).1 h
theorem ups_len : ∀ (l : List Vx) (lo : Int), Ups l → (∀ x ∈ l, lo ≤ x.P ∧ x.P < 64) → lo ≤ 64 → (l.length : Int) ≤ 64 - lo
  | [], lo, _, _, h => by simp; omega
  | x :: r, lo, h, k, hl => by
    have hx := k x (by simp)
    have h' := List.pairwise_cons.1 h
    have := ups_len r (x.P + 1) h'.2 (fun y hy => ⟨by have := h'.1 y hy; omega, (k y (List.mem_cons_of_mem _ hy)).2⟩) (by omega)
    simp only [List.length_cons]; omega
theorem covB_iff (l : List Vx) (p c : Int) : covB l p c = true ↔ ∃ y ∈ l, hasV y.pl p c = true := by unfold covB; rw [List.any_eq_true]
theorem covAny_iff (l m : List Vx) : covAny l m = true ↔ ∃ x ∈ m, covB l x.P x.C = true := by unfold covAny; rw [List.any_eq_true]
theorem leaf_zero (l : List Vx) : leafChk l = 0 ↔ (∀ x ∈ l, verChk x = 0) ∧ Ups l ∧ ∀ x ∈ l, covB l x.P x.C = false := by
  unfold leafChk
  by_cases h64 : 64 < l.length
  · rw [if_pos h64]
    constructor
    · intro e; omega
    · rintro ⟨a, b, _⟩
      have := ups_len l 0 b (fun x hx => by have := (ver_parts (a x hx)).1; omega) (by omega)
      omega
  · rw [if_neg h64]
    by_cases hg : verGo (-1) l = 0
    · rw [if_neg (by simpa using hg)]
      obtain ⟨a, b⟩ := (verGo_zero l (-1)).1 hg
      by_cases hc : covAny l l = true
      · rw [if_pos hc]
        constructor
        · intro e; omega
        · rintro ⟨_, _, c⟩
          obtain ⟨x, hx, k⟩ := (covAny_iff l l).1 hc
          rw [c x hx] at k; cases k
      · rw [if_neg hc]
        refine ⟨fun _ => ⟨fun x hx => (a x hx).1, b, fun x hx => ?_⟩, fun _ => rfl⟩
        cases e : covB l x.P x.C with
        | false => rfl
        | true => exact absurd ((covAny_iff l l).2 ⟨x, hx, e⟩) hc
    · rw [if_pos hg]
      constructor
      · intro e; exact absurd e hg
      · rintro ⟨a, b, _⟩
        refine absurd ((verGo_zero l (-1)).2 ⟨fun x hx => ⟨a x hx, ?_⟩, b⟩) hg
        have := (ver_parts (a x hx)).1; omega
end Go.Proofs.Ytfobnemocodomaa
