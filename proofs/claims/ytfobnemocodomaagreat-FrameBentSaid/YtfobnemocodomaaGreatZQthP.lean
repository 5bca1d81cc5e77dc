/- paths: pieces, names; plain. -/
import Derived.Lib.SplitLaws
import Derived.Lib.Replace
set_option linter.unusedVariables false
set_option linter.unusedSimpArgs false
namespace Go.Proofs.YtfobnemocodomaaGreat.Pt

/-- what stands between slashes -/
def pieces : List UInt8 → List (List UInt8)
  | [] => [[]]
  | c :: r => if c = 47 then [] :: pieces r else match pieces r with
    | [] => [[c]]
    | p :: ps => (c :: p) :: ps
theorem pieces_ne (l : List UInt8) : pieces l ≠ [] := by
  cases l with
  | nil => simp [pieces]
  | cons c r =>
    unfold pieces
    split
    · simp
    · split <;> simp
theorem pieces_slash (r : List UInt8) : pieces (47 :: r) = [] :: pieces r := by simp [pieces]
theorem pieces_cons {c : UInt8} {r p : List UInt8} {ps : List (List UInt8)} (hc : c ≠ 47) (h : pieces r = p :: ps) : pieces (c :: r) = (c :: p) :: ps := by
  rw [pieces, if_neg hc, h]
theorem split_pieces : ∀ l : List UInt8, Lib.splitK [47] 0 (Lib.count l [47]) l = pieces l
  | [] => by rw [Lib.count_one]; rfl
  | c :: r => by
    have ih := split_pieces r
    by_cases hc : c = 47
    · subst hc
      have hix : Lib.index (47 :: r) [47] = 0 := by rw [Lib.index]; simp [List.isPrefixOf]
      rw [Lib.count_cons_eq, Nat.add_comm, Lib.splitK, hix, pieces_slash, ← ih]
      simp
    · have hp : ([47] : List UInt8).isPrefixOf (c :: r) = false := by simp [List.isPrefixOf, Ne.symm hc]
      have hix : Lib.index (c :: r) [47] = if Lib.index r [47] == -1 then -1 else Lib.index r [47] + 1 := by rw [Lib.index, hp]; simp
      rw [Lib.count_cons_ne c 47 r hc]
      cases hk : Lib.count r [47] with
      | zero =>
        rw [hk] at ih
        have : pieces r = [r] := ih.symm
        rw [pieces_cons hc this]; rfl
      | succ k =>
        rw [hk] at ih
        obtain ⟨i, hi⟩ := Lib.index_of_count (s := r) (old := [47]) (by omega)
        have hm : ¬ (Lib.index r [47] == -1) = true := fun e => by have := beq_iff_eq.1 e; omega
        rw [Lib.splitK, if_neg hm] at ih
        have hix' : Lib.index (c :: r) [47] = ((i + 1 : Nat) : Int) := by rw [hix, if_neg hm, hi]; omega
        have hm' : ¬ (Lib.index (c :: r) [47] == -1) = true := fun e => by have := beq_iff_eq.1 e; omega
        have e1 : (Lib.index r [47]).toNat = i := by omega
        have e2 : (Lib.index (c :: r) [47]).toNat = i + 1 := by omega
        rw [e1] at ih
        rw [Lib.splitK, if_neg hm', e2, pieces_cons hc ih.symm]
        simp
theorem count_pieces (l : List UInt8) : (pieces l).length = Lib.count l [47] + 1 := by
  induction l with
  | nil => rw [Lib.count_one]; rfl
  | cons c r ih =>
    by_cases hc : c = 47
    · subst hc; rw [pieces_slash, Lib.count_cons_eq, List.length_cons, ih]; omega
    · obtain ⟨p, ps, h⟩ := List.exists_cons_of_ne_nil (pieces_ne r)
      rw [pieces_cons hc h, Lib.count_cons_ne c 47 r hc, ← ih, h]; rfl
/-- one more sign behind -/
def pushL (l : List (List UInt8)) (c : UInt8) : List (List UInt8) := if c = 47 then l ++ [[]] else l.dropLast ++ [(l.getLastD []) ++ [c]]
theorem pieces_snoc : ∀ (l : List UInt8) (c : UInt8), pieces (l ++ [c]) = pushL (pieces l) c
  | [], c => by
    unfold pushL
    by_cases hc : c = 47
    · subst hc; rfl
    · rw [if_neg hc]; simp [pieces, hc]
  | a :: r, c => by
    have ih := pieces_snoc r c
    rw [List.cons_append]
    by_cases ha : a = 47
    · subst ha
      rw [pieces_slash, pieces_slash, ih]
      unfold pushL
      split
      · rfl
      · obtain ⟨p, ps, h⟩ := List.exists_cons_of_ne_nil (pieces_ne r)
        rw [h]; simp [List.getLastD]
    · obtain ⟨p, ps, h⟩ := List.exists_cons_of_ne_nil (pieces_ne r)
      rw [pieces_cons ha h]
      rw [h] at ih
      unfold pushL at ih ⊢
      split
      · rename_i hc
        rw [if_pos hc] at ih
        rw [pieces_cons ha ih]; rfl
      · rename_i hc
        rw [if_neg hc] at ih
        cases ps with
        | nil =>
          simp [List.getLastD] at ih
          rw [pieces_cons ha ih]; simp [List.getLastD]
        | cons q qs =>
          simp only [List.dropLast_cons_cons, List.cons_append] at ih
          rw [pieces_cons ha ih]
          simp [List.getLastD]
/-- names joined -/
def joinP : List (List UInt8) → List UInt8
  | [] => []
  | [p] => p
  | p :: q :: r => p ++ 47 :: joinP (q :: r)
theorem join_pieces : ∀ l, joinP (pieces l) = l
  | [] => rfl
  | c :: r => by
    have ih := join_pieces r
    obtain ⟨p, ps, h⟩ := List.exists_cons_of_ne_nil (pieces_ne r)
    by_cases hc : c = 47
    · subst hc
      rw [pieces_slash, h]
      show [] ++ 47 :: joinP (p :: ps) = _
      rw [← h, ih]; rfl
    · rw [pieces_cons hc h]
      rw [h] at ih
      cases ps with
      | nil => show c :: p = _; rw [show p = r from ih]
      | cons q qs => show (c :: p) ++ 47 :: joinP (q :: qs) = _; rw [← ih]; rfl
theorem pieces_noslash : ∀ (p : List UInt8), 47 ∉ p → pieces p = [p]
  | [], _ => rfl
  | c :: r, h => by
    simp only [List.mem_cons, not_or] at h
    exact pieces_cons (Ne.symm h.1) (pieces_noslash r h.2)
theorem pieces_app : ∀ (p r : List UInt8), 47 ∉ p → pieces (p ++ 47 :: r) = p :: pieces r
  | [], r, _ => pieces_slash r
  | c :: p, r, h => by
    simp only [List.mem_cons, not_or] at h
    exact pieces_cons (Ne.symm h.1) (pieces_app p r h.2)
theorem pieces_join : ∀ (l : List (List UInt8)), l ≠ [] → (∀ p ∈ l, 47 ∉ p) → pieces (joinP l) = l
  | [], h, _ => absurd rfl h
  | [p], _, h => pieces_noslash p (h p (by simp))
  | p :: q :: r, _, h => by
    show pieces (p ++ 47 :: joinP (q :: r)) = _
    rw [pieces_app p _ (h p (by simp)), pieces_join (q :: r) (by simp) (fun x hx => h x (by simp [hx]))]
theorem pieces_mem (l : List UInt8) : ∀ p ∈ pieces l, 47 ∉ p := by
  induction l with
  | nil => intro p hp; simp [pieces] at hp; subst hp; simp
  | cons c r ih =>
    by_cases hc : c = 47
    · subst hc
      rw [pieces_slash]
      intro p hp
      rcases List.mem_cons.1 hp with rfl | hp
      · simp
      · exact ih p hp
    · obtain ⟨q, qs, h⟩ := List.exists_cons_of_ne_nil (pieces_ne r)
      rw [pieces_cons hc h]
      rw [h] at ih
      intro p hp
      rcases List.mem_cons.1 hp with rfl | hp
      · have := ih q (by simp)
        simp only [List.mem_cons, not_or]
        exact ⟨Ne.symm hc, this⟩
      · exact ih p (by simp [hp])
/-- a sign of a name -/
def signP (c : UInt8) : Bool := (decide (97 ≤ c.toNat ∧ c.toNat ≤ 122)) || (decide (48 ≤ c.toNat ∧ c.toNat ≤ 57)) || c == 46 || c == 95 || c == 45
def nameV (p : List UInt8) : Bool := decide (1 ≤ p.length ∧ p.length ≤ 12) && !(p == [46]) && !(p == [46, 46]) && p.all signP
theorem name_noslash {p : List UInt8} (h : nameV p = true) : 47 ∉ p := by
  unfold nameV at h
  simp only [Bool.and_eq_true] at h
  intro hm
  have := List.all_eq_true.1 h.2 47 hm
  revert this; decide
def partsOk (ps : List (List UInt8)) : Bool := decide (1 ≤ ps.length ∧ ps.length ≤ 4) && ps.all nameV
def pathV (l : List UInt8) : Bool := decide (l.length ≤ 51) && partsOk (pieces l)
end Go.Proofs.YtfobnemocodomaaGreat.Pt
