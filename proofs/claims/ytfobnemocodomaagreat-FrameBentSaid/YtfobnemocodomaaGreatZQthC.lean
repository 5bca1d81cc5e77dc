/- paths: the order of pieces; below a directory; plain. -/
import Derived.Test.YtfobnemocodomaaGreatZQthP
import Derived.Lib.Bytealg
import Derived.Lib.Strings
import Derived.Lib.Join
set_option linter.unusedVariables false
set_option linter.unusedSimpArgs false
namespace Go.Proofs.YtfobnemocodomaaGreat.Pt
open Lib (compareBytes)

/-- an order that answers by -1, 0, 1 -/
structure Ord3 {α : Type} (c : α → α → Int) : Prop where
  neg : ∀ a b, c b a = -c a b
  eq0 : ∀ a b, c a b = 0 ↔ a = b
  tr : ∀ a b d, c a b ≤ 0 → c b d ≤ 0 → c a d ≤ 0
  lo : ∀ a b, -1 ≤ c a b
theorem Ord3.hi {α : Type} {c : α → α → Int} (h : Ord3 c) (a b : α) : c a b ≤ 1 := by
  have := h.lo b a; rw [h.neg a b] at this; omega
theorem Ord3.tr' {α : Type} {c : α → α → Int} (h : Ord3 c) (a b d : α) (h1 : c a b < 0) (h2 : c b d < 0) : c a d < 0 := by
  have h3 := h.tr a b d (by omega) (by omega)
  rcases Int.lt_or_eq_of_le h3 with h4 | h4
  · exact h4
  · have := (h.eq0 a d).1 h4; subst this
    have := h.neg a b; omega
def lexC {α : Type} (c : α → α → Int) : List α → List α → Int
  | [], [] => 0
  | [], _ :: _ => -1
  | _ :: _, [] => 1
  | a :: as, b :: bs => if c a b = 0 then lexC c as bs else c a b
theorem lexC_ord {α : Type} {c : α → α → Int} (h : Ord3 c) : Ord3 (lexC c) where
  neg := by
    intro a
    induction a with
    | nil => intro b; cases b <;> simp [lexC]
    | cons x xs ih =>
      intro b
      cases b with
      | nil => simp [lexC]
      | cons y ys =>
        have := h.neg x y
        unfold lexC
        by_cases e : c x y = 0
        · rw [if_pos e, if_pos (by omega)]; exact ih ys
        · rw [if_neg e, if_neg (by omega)]; exact this
  eq0 := by
    intro a
    induction a with
    | nil => intro b; cases b <;> simp [lexC]
    | cons x xs ih =>
      intro b
      cases b with
      | nil => simp [lexC]
      | cons y ys =>
        unfold lexC
        by_cases e : c x y = 0
        · rw [if_pos e, ih, (h.eq0 x y).1 e]; simp
        · rw [if_neg e]
          have : x ≠ y := fun q => e ((h.eq0 x y).2 q)
          simp [e, this]
  tr := by
    intro a
    induction a with
    | nil => intro b d; cases b <;> cases d <;> simp [lexC]
    | cons x xs ih =>
      intro b d h1 h2
      cases b with
      | nil => simp [lexC] at h1
      | cons y ys =>
        cases d with
        | nil => simp [lexC] at h2
        | cons z zs =>
          unfold lexC at h1 h2 ⊢
          by_cases e1 : c x y = 0
          · have e1' := (h.eq0 x y).1 e1; subst e1'
            rw [if_pos e1] at h1
            by_cases e2 : c x z = 0
            · rw [if_pos e2] at h2 ⊢; exact ih ys zs h1 h2
            · rw [if_neg e2] at h2 ⊢; exact h2
          · rw [if_neg e1] at h1
            by_cases e2 : c y z = 0
            · have e2' := (h.eq0 y z).1 e2; subst e2'
              rw [if_neg e1]; exact h1
            · rw [if_neg e2] at h2
              have := h.tr' x y z (by omega) (by omega)
              rw [if_neg (by omega)]; omega
  lo := by
    intro a
    induction a with
    | nil => intro b; cases b <;> simp [lexC]
    | cons x xs ih =>
      intro b
      cases b with
      | nil => simp [lexC]
      | cons y ys =>
        unfold lexC
        split
        · exact ih ys
        · exact h.lo x y
def cmp8 (a b : UInt8) : Int := if a < b then -1 else if b < a then 1 else 0
theorem cmp8_ord : Ord3 cmp8 where
  neg := by intro a b; unfold cmp8; split <;> split <;> simp_all [UInt8.lt_iff_toNat_lt] <;> omega
  eq0 := by
    intro a b; unfold cmp8
    constructor
    · intro h
      apply UInt8.toNat_inj.1
      revert h; split <;> (try split) <;> simp_all [UInt8.lt_iff_toNat_lt]; omega
    · rintro rfl; simp [UInt8.lt_iff_toNat_lt]
  tr := by intro a b d; unfold cmp8; repeat' split
           all_goals simp_all [UInt8.lt_iff_toNat_lt]
           all_goals omega
  lo := by intro a b; unfold cmp8; repeat' split
           all_goals decide
theorem cmpB_lex : ∀ a b, compareBytes a b = lexC cmp8 a b
  | [], [] => rfl
  | [], _ :: _ => rfl
  | _ :: _, [] => rfl
  | x :: xs, y :: ys => by
    unfold compareBytes lexC
    rw [cmpB_lex xs ys]
    unfold cmp8
    by_cases h1 : x < y
    · simp [h1]
    · by_cases h2 : y < x
      · simp [h1, h2]
      · simp [h1, h2]
theorem cmpB_ord : Ord3 compareBytes := by
  have : compareBytes = lexC cmp8 := by funext a b; exact cmpB_lex a b
  rw [this]; exact lexC_ord cmp8_ord
/-- pieces by pieces -/
def cmpV (a b : List (List UInt8)) : Int := lexC compareBytes a b
theorem cmpV_ord : Ord3 cmpV := lexC_ord cmpB_ord
def cmpS (a b : List UInt8) : Int := cmpV (pieces a) (pieces b)
theorem pieces_inj {a b : List UInt8} (h : pieces a = pieces b) : a = b := by rw [← join_pieces a, ← join_pieces b, h]
theorem cmpS_ord : Ord3 cmpS where
  neg a b := cmpV_ord.neg _ _
  eq0 a b := ⟨fun h => pieces_inj ((cmpV_ord.eq0 _ _).1 h), fun h => by subst h; exact (cmpV_ord.eq0 _ _).2 rfl⟩
  tr a b d := cmpV_ord.tr _ _ _
  lo a b := cmpV_ord.lo _ _
/-- behind i equal pieces -/
theorem cmpV_drop : ∀ (i : Nat) (a b : List (List UInt8)), i ≤ a.length → i ≤ b.length → a.take i = b.take i → cmpV a b = cmpV (a.drop i) (b.drop i)
  | 0, _, _, _, _, _ => rfl
  | i + 1, [], _, h, _, _ => by simp at h
  | i + 1, _ :: _, [], _, h, _ => by simp at h
  | i + 1, x :: xs, y :: ys, h1, h2, h3 => by
    simp only [List.take_succ_cons, List.cons.injEq] at h3
    obtain ⟨rfl, h3⟩ := h3
    show lexC _ _ _ = _
    unfold lexC
    rw [if_pos ((cmpB_ord.eq0 x x).2 rfl)]
    exact cmpV_drop i xs ys (by simpa using h1) (by simpa using h2) h3
theorem cmpV_nil (a : List (List UInt8)) (b : List (List UInt8)) (h : a = [] ∨ b = []) : cmpV a b = max (-1) (min 1 ((a.length : Int) - b.length)) := by
  cases a with
  | nil =>
    cases b with
    | nil => rfl
    | cons y ys => show (-1 : Int) = _; simp only [List.length_nil, List.length_cons]; omega
  | cons x xs =>
    cases b with
    | nil => show (1 : Int) = _; simp only [List.length_nil, List.length_cons]; omega
    | cons y ys => simp at h
theorem cmpV_head (x y : List UInt8) (xs ys : List (List UInt8)) (h : x ≠ y) : cmpV (x :: xs) (y :: ys) = compareBytes x y := by
  show lexC _ _ _ = _
  unfold lexC
  rw [if_neg (fun e => h ((cmpB_ord.eq0 x y).1 e))]
theorem pieces_split (d t : List UInt8) : pieces (d ++ 47 :: t) = pieces d ++ pieces t := by
  induction d with
  | nil => rw [List.nil_append, pieces_slash]; rfl
  | cons c r ih =>
    rw [List.cons_append]
    by_cases hc : c = 47
    · subst hc; rw [pieces_slash, pieces_slash, ih]; rfl
    · obtain ⟨p, ps, h⟩ := List.exists_cons_of_ne_nil (pieces_ne r)
      rw [pieces_cons hc h, pieces_cons hc (p := p) (ps := ps ++ pieces t) (by rw [ih, h]; rfl)]; rfl
theorem joinP_app : ∀ (a b : List (List UInt8)), a ≠ [] → b ≠ [] → joinP (a ++ b) = joinP a ++ 47 :: joinP b
  | [], _, h, _ => absurd rfl h
  | [p], [], _, h => absurd rfl h
  | [p], q :: r, _, _ => rfl
  | p :: q :: r, b, _, h => by
    show p ++ 47 :: joinP (q :: r ++ b) = (p ++ 47 :: joinP (q :: r)) ++ _
    rw [joinP_app (q :: r) b (by simp) h, List.append_assoc]; rfl
/-- below: by the first signs, by the first names -/
theorem under_iff (s d : List UInt8) : (d ++ [47]).isPrefixOf s = true ↔ ∃ A, A ≠ [] ∧ pieces s = pieces d ++ A := by
  rw [List.isPrefixOf_iff_prefix]
  constructor
  · rintro ⟨t, rfl⟩
    refine ⟨pieces t, pieces_ne t, ?_⟩
    rw [List.append_assoc]; exact pieces_split d t
  · rintro ⟨A, hA, h⟩
    refine ⟨joinP A, ?_⟩
    rw [← join_pieces s, h, joinP_app _ _ (pieces_ne d) hA, join_pieces, List.append_assoc]; rfl
theorem between : ∀ (D A B C : List (List UInt8)), A ≠ [] → cmpV (D ++ A) C ≤ 0 → cmpV C (D ++ B) ≤ 0 → ∃ C', C' ≠ [] ∧ C = D ++ C'
  | [], A, B, C, hA, h1, _ => by
    refine ⟨C, ?_, rfl⟩
    rintro rfl
    obtain ⟨x, xs, rfl⟩ := List.exists_cons_of_ne_nil hA
    exact absurd h1 (by show ¬ (1 : Int) ≤ 0; decide)
  | d :: D, A, B, [], hA, h1, _ => absurd h1 (by show ¬ (1 : Int) ≤ 0; decide)
  | d :: D, A, B, e :: C, hA, h1, h2 => by
    by_cases hde : d = e
    · subst hde
      have q1 := cmpV_drop 1 (d :: D ++ A) (d :: C) (by simp) (by simp) (by simp)
      have q2 := cmpV_drop 1 (d :: C) (d :: D ++ B) (by simp) (by simp) (by simp)
      rw [q1] at h1; rw [q2] at h2
      obtain ⟨C', h3, h4⟩ := between D A B C hA h1 h2
      exact ⟨C', h3, by rw [h4]; rfl⟩
    · rw [List.cons_append, cmpV_head _ _ _ _ hde] at h1
      rw [List.cons_append, cmpV_head _ _ _ _ (Ne.symm hde)] at h2
      have n1 := cmpB_ord.neg d e
      have : compareBytes d e ≠ 0 := fun q => hde ((cmpB_ord.eq0 _ _).1 q)
      omega
def underV (s d : List UInt8) : Bool := pathV s && (d == [] || (pathV d && (d ++ [47]).isPrefixOf s))
theorem together {a b c d : List UInt8} (ha : underV a d = true) (hb : underV b d = true) (hc : pathV c = true) (h1 : cmpS a c ≤ 0) (h2 : cmpS c b ≤ 0) : underV c d = true := by
  unfold underV at ha hb ⊢
  simp only [Bool.and_eq_true, Bool.or_eq_true, beq_iff_eq] at ha hb ⊢
  refine ⟨hc, ?_⟩
  by_cases hd : d = []
  · exact Or.inl hd
  · have ha := ha.2.resolve_left hd
    have hb := hb.2.resolve_left hd
    refine Or.inr ⟨ha.1, ?_⟩
    obtain ⟨A, hA, ea⟩ := (under_iff _ _).1 ha.2
    obtain ⟨B, hB, eb⟩ := (under_iff _ _).1 hb.2
    refine (under_iff _ _).2 ?_
    have h1 : cmpV (pieces a) (pieces c) ≤ 0 := h1
    have h2 : cmpV (pieces c) (pieces b) ≤ 0 := h2
    rw [ea] at h1; rw [eb] at h2
    exact between _ _ _ _ hA h1 h2
theorem lib_join : ∀ l : List (List UInt8), Lib.join l [47] = joinP l
  | [] => by simp [Lib.join, joinP]
  | [p] => by simp [Lib.join, joinP]
  | p :: q :: r => by
    have := lib_join (q :: r)
    show _ = p ++ 47 :: joinP (q :: r)
    rw [← this]
    simp [Lib.join, List.intercalate]
end Go.Proofs.YtfobnemocodomaaGreat.Pt
