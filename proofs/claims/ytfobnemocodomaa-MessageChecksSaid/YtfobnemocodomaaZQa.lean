/- Joined texts: QthP QthC QthA QthB QthD QthE QthF QthI. -/
import Derived.Lib.SplitLaws
import Derived.Lib.Replace
import Derived.Lib.Bytealg
import Derived.Lib.Strings
import Derived.Lib.Join
import Derived.Test.YtfobnemocodomaaZBa
import Derived.Test.YtfobnemocodomaaShelf
import Derived.RangeFuncRecord
import Derived.WalkMore
import Derived.ArgAppend
import Derived.OwnWalk
import Derived.Lib.AppendStr
import Derived.Laws.IdiomStrings
set_option maxHeartbeats 200000
set_option linter.unusedVariables false
set_option linter.unusedSimpArgs false
namespace Go.Proofs.Ytfobnemocodomaa.Pt

/-- what stands between slashes -/
def pieces : List UInt8 → List (List UInt8)
  | [] => [[]]
  | c :: r => if c = 47 then [] :: pieces r else match pieces r with
    | [] => [[c]]
    | p :: ps => (c :: p) :: ps
theorem pieces_ne (l : List UInt8) : pieces l ≠ [] := by
  cases l with
  | nil => simp [pieces]
  | cons c r =>
    unfold pieces
    split
    · simp
    · split <;> simp
theorem pieces_slash (r : List UInt8) : pieces (47 :: r) = [] :: pieces r := by simp [pieces]
theorem pieces_cons {c : UInt8} {r p : List UInt8} {ps : List (List UInt8)} (hc : c ≠ 47) (h : pieces r = p :: ps) : pieces (c :: r) = (c :: p) :: ps := by
  rw [pieces, if_neg hc, h]
theorem split_pieces : ∀ l : List UInt8, Lib.splitK [47] 0 (Lib.count l [47]) l = pieces l
  | [] => by rw [Lib.count_one]; rfl
  | c :: r => by
    have ih := split_pieces r
    by_cases hc : c = 47
    · subst hc
      have hix : Lib.index (47 :: r) [47] = 0 := by rw [Lib.index]; simp [List.isPrefixOf]
      rw [Lib.count_cons_eq, Nat.add_comm, Lib.splitK, hix, pieces_slash, ← ih]
      simp
    · have hp : ([47] : List UInt8).isPrefixOf (c :: r) = false := by simp [List.isPrefixOf, Ne.symm hc]
      have hix : Lib.index (c :: r) [47] = if Lib.index r [47] == -1 then -1 else Lib.index r [47] + 1 := by rw [Lib.index, hp]; simp
      rw [Lib.count_cons_ne c 47 r hc]
      cases hk : Lib.count r [47] with
      | zero =>
        rw [hk] at ih
        have : pieces r = [r] := ih.symm
        rw [pieces_cons hc this]; rfl
      | succ k =>
        rw [hk] at ih
        obtain ⟨i, hi⟩ := Lib.index_of_count (s := r) (old := [47]) (by omega)
        have hm : ¬ (Lib.index r [47] == -1) = true := fun e => by have := beq_iff_eq.1 e; omega
        rw [Lib.splitK, if_neg hm] at ih
        have hix' : Lib.index (c :: r) [47] = ((i + 1 : Nat) : Int) := by rw [hix, if_neg hm, hi]; omega
        have hm' : ¬ (Lib.index (c :: r) [47] == -1) = true := fun e => by have := beq_iff_eq.1 e; omega
        have e1 : (Lib.index r [47]).toNat = i := by omega
        have e2 : (Lib.index (c :: r) [47]).toNat = i + 1 := by omega
        rw [e1] at ih
        rw [Lib.splitK, if_neg hm', e2, pieces_cons hc ih.symm]
        simp
theorem count_pieces (l : List UInt8) : (pieces l).length = Lib.count l [47] + 1 := by
  induction l with
  | nil => rw [Lib.count_one]; rfl
  | cons c r ih =>
    by_cases hc : c = 47
    · subst hc; rw [pieces_slash, Lib.count_cons_eq, List.length_cons, ih]; omega
    · obtain ⟨p, ps, h⟩ := List.exists_cons_of_ne_nil (pieces_ne r)
      rw [pieces_cons hc h, Lib.count_cons_ne c 47 r hc, ← ih, h]; rfl
/-- one more sign behind -/
def pushL (l : List (List UInt8)) (c : UInt8) : List (List UInt8) := if c = 47 then l ++ [[]] else l.dropLast ++ [(l.getLastD []) ++ [c]]
theorem pieces_snoc : ∀ (l : List UInt8) (c : UInt8), pieces (l ++ [c]) = pushL (pieces l) c
  | [], c => by
    unfold pushL
    by_cases hc : c = 47
    · subst hc; rfl
    · rw [if_neg hc]; simp [pieces, hc]
  | a :: r, c => by
    have ih := pieces_snoc r c
    rw [List.cons_append]
    by_cases ha : a = 47
    · subst ha
      rw [pieces_slash, pieces_slash, ih]
      unfold pushL
      split
      · rfl
      · obtain ⟨p, ps, h⟩ := List.exists_cons_of_ne_nil (pieces_ne r)
        rw [h]; simp [List.getLastD]
    · obtain ⟨p, ps, h⟩ := List.exists_cons_of_ne_nil (pieces_ne r)
      rw [pieces_cons ha h]
      rw [h] at ih
      unfold pushL at ih ⊢
      split
      · rename_i hc
        rw [if_pos hc] at ih
        rw [pieces_cons ha ih]; rfl
      · rename_i hc
        rw [if_neg hc] at ih
        cases ps with
        | nil =>
          simp [List.getLastD] at ih
          rw [pieces_cons ha ih]; simp [List.getLastD]
        | cons q qs =>
          simp only [List.dropLast_cons_cons, List.cons_append] at ih
          rw [pieces_cons ha ih]
          simp [List.getLastD]
/-- names joined -/
def joinP : List (List UInt8) → List UInt8
  | [] => []
  | [p] => p
  | p :: q :: r => p ++ 47 :: joinP (q :: r)
theorem join_pieces : ∀ l, joinP (pieces l) = l
  | [] => rfl
  | c :: r => by
    have ih := join_pieces r
    obtain ⟨p, ps, h⟩ := List.exists_cons_of_ne_nil (pieces_ne r)
    by_cases hc : c = 47
    · subst hc
      rw [pieces_slash, h]
      show [] ++ 47 :: joinP (p :: ps) = _
      rw [← h, ih]; rfl
    · rw [pieces_cons hc h]
      rw [h] at ih
      cases ps with
      | nil => show c :: p = _; rw [show p = r from ih]
      | cons q qs => show (c :: p) ++ 47 :: joinP (q :: qs) = _; rw [← ih]; rfl
theorem pieces_noslash : ∀ (p : List UInt8), 47 ∉ p → pieces p = [p]
  | [], _ => rfl
  | c :: r, h => by
    simp only [List.mem_cons, not_or] at h
    exact pieces_cons (Ne.symm h.1) (pieces_noslash r h.2)
theorem pieces_app : ∀ (p r : List UInt8), 47 ∉ p → pieces (p ++ 47 :: r) = p :: pieces r
  | [], r, _ => pieces_slash r
  | c :: p, r, h => by
    simp only [List.mem_cons, not_or] at h
    exact pieces_cons (Ne.symm h.1) (pieces_app p r h.2)
theorem pieces_join : ∀ (l : List (List UInt8)), l ≠ [] → (∀ p ∈ l, 47 ∉ p) → pieces (joinP l) = l
  | [], h, _ => absurd rfl h
  | [p], _, h => pieces_noslash p (h p (by simp))
  | p :: q :: r, _, h => by
    show pieces (p ++ 47 :: joinP (q :: r)) = _
    rw [pieces_app p _ (h p (by simp)), pieces_join (q :: r) (by simp) (fun x hx => h x (by simp [hx]))]
theorem pieces_mem (l : List UInt8) : ∀ p ∈ pieces l, 47 ∉ p := by
  induction l with
  | nil => intro p hp; simp [pieces] at hp; subst hp; simp
  | cons c r ih =>
    by_cases hc : c = 47
    · subst hc
      rw [pieces_slash]
      intro p hp
      rcases List.mem_cons.1 hp with rfl | hp
      · simp
      · exact ih p hp
    · obtain ⟨q, qs, h⟩ := List.exists_cons_of_ne_nil (pieces_ne r)
      rw [pieces_cons hc h]
      rw [h] at ih
      intro p hp
      rcases List.mem_cons.1 hp with rfl | hp
      · have := ih q (by simp)
        simp only [List.mem_cons, not_or]
        exact ⟨Ne.symm hc, this⟩
      · exact ih p (by simp [hp])
/-- a sign of a name -/
def signP (c : UInt8) : Bool := (decide (97 ≤ c.toNat ∧ c.toNat ≤ 122)) || (decide (48 ≤ c.toNat ∧ c.toNat ≤ 57)) || c == 46 || c == 95 || c == 45
def nameV (p : List UInt8) : Bool := decide (1 ≤ p.length ∧ p.length ≤ 12) && !(p == [46]) && !(p == [46, 46]) && p.all signP
theorem name_noslash {p : List UInt8} (h : nameV p = true) : 47 ∉ p := by
  unfold nameV at h
  simp only [Bool.and_eq_true] at h
  intro hm
  have := List.all_eq_true.1 h.2 47 hm
  revert this; decide
def partsOk (ps : List (List UInt8)) : Bool := decide (1 ≤ ps.length ∧ ps.length ≤ 4) && ps.all nameV
def pathV (l : List UInt8) : Bool := decide (l.length ≤ 51) && partsOk (pieces l)
end Go.Proofs.Ytfobnemocodomaa.Pt
set_option maxHeartbeats 200000
set_option linter.unusedVariables false
set_option linter.unusedSimpArgs false
namespace Go.Proofs.Ytfobnemocodomaa.Pt
open Lib (compareBytes)

/-- an order that answers by -1, 0, 1 -/
structure Ord3 {α : Type} (c : α → α → Int) : Prop where
  neg : ∀ a b, c b a = -c a b
  eq0 : ∀ a b, c a b = 0 ↔ a = b
  tr : ∀ a b d, c a b ≤ 0 → c b d ≤ 0 → c a d ≤ 0
  lo : ∀ a b, -1 ≤ c a b
theorem Ord3.hi {α : Type} {c : α → α → Int} (h : Ord3 c) (a b : α) : c a b ≤ 1 := by
  have := h.lo b a; rw [h.neg a b] at this; omega
theorem Ord3.tr' {α : Type} {c : α → α → Int} (h : Ord3 c) (a b d : α) (h1 : c a b < 0) (h2 : c b d < 0) : c a d < 0 := by
  have h3 := h.tr a b d (by omega) (by omega)
  rcases Int.lt_or_eq_of_le h3 with h4 | h4
  · exact h4
  · have := (h.eq0 a d).1 h4; subst this
    have := h.neg a b; omega
def lexC {α : Type} (c : α → α → Int) : List α → List α → Int
  | [], [] => 0
  | [], _ :: _ => -1
  | _ :: _, [] => 1
  | a :: as, b :: bs => if c a b = 0 then lexC c as bs else c a b
theorem lexC_ord {α : Type} {c : α → α → Int} (h : Ord3 c) : Ord3 (lexC c) where
  neg := by
    intro a
    induction a with
    | nil => intro b; cases b <;> simp [lexC]
    | cons x xs ih =>
      intro b
      cases b with
      | nil => simp [lexC]
      | cons y ys =>
        have := h.neg x y
        unfold lexC
        by_cases e : c x y = 0
        · rw [if_pos e, if_pos (by omega)]; exact ih ys
        · rw [if_neg e, if_neg (by omega)]; exact this
  eq0 := by
    intro a
    induction a with
    | nil => intro b; cases b <;> simp [lexC]
    | cons x xs ih =>
      intro b
      cases b with
      | nil => simp [lexC]
      | cons y ys =>
        unfold lexC
        by_cases e : c x y = 0
        · rw [if_pos e, ih, (h.eq0 x y).1 e]; simp
        · rw [if_neg e]
          have : x ≠ y := fun q => e ((h.eq0 x y).2 q)
          simp [e, this]
  tr := by
    intro a
    induction a with
    | nil => intro b d; cases b <;> cases d <;> simp [lexC]
    | cons x xs ih =>
      intro b d h1 h2
      cases b with
      | nil => simp [lexC] at h1
      | cons y ys =>
        cases d with
        | nil => simp [lexC] at h2
        | cons z zs =>
          unfold lexC at h1 h2 ⊢
          by_cases e1 : c x y = 0
          · have e1' := (h.eq0 x y).1 e1; subst e1'
            rw [if_pos e1] at h1
            by_cases e2 : c x z = 0
            · rw [if_pos e2] at h2 ⊢; exact ih ys zs h1 h2
            · rw [if_neg e2] at h2 ⊢; exact h2
          · rw [if_neg e1] at h1
            by_cases e2 : c y z = 0
            · have e2' := (h.eq0 y z).1 e2; subst e2'
              rw [if_neg e1]; exact h1
            · rw [if_neg e2] at h2
              have := h.tr' x y z (by omega) (by omega)
              rw [if_neg (by omega)]; omega
  lo := by
    intro a
    induction a with
    | nil => intro b; cases b <;> simp [lexC]
    | cons x xs ih =>
      intro b
      cases b with
      | nil => simp [lexC]
      | cons y ys =>
        unfold lexC
        split
        · exact ih ys
        · exact h.lo x y
def cmp8 (a b : UInt8) : Int := if a < b then -1 else if b < a then 1 else 0
theorem cmp8_ord : Ord3 cmp8 where
  neg := by intro a b; unfold cmp8; split <;> split <;> simp_all [UInt8.lt_iff_toNat_lt] <;> omega
  eq0 := by
    intro a b; unfold cmp8
    constructor
    · intro h
      apply UInt8.toNat_inj.1
      revert h; split <;> (try split) <;> simp_all [UInt8.lt_iff_toNat_lt]; omega
    · rintro rfl; simp [UInt8.lt_iff_toNat_lt]
  tr := by intro a b d; unfold cmp8; repeat' split
           all_goals simp_all [UInt8.lt_iff_toNat_lt]
           all_goals omega
  lo := by intro a b; unfold cmp8; repeat' split
           all_goals decide
theorem cmpB_lex : ∀ a b, compareBytes a b = lexC cmp8 a b
  | [], [] => rfl
  | [], _ :: _ => rfl
  | _ :: _, [] => rfl
  | x :: xs, y :: ys => by
    unfold compareBytes lexC
    rw [cmpB_lex xs ys]
    unfold cmp8
    by_cases h1 : x < y
    · simp [h1]
    · by_cases h2 : y < x
      · simp [h1, h2]
      · simp [h1, h2]
theorem cmpB_ord : Ord3 compareBytes := by
  have : compareBytes = lexC cmp8 := by funext a b; exact cmpB_lex a b
  rw [this]; exact lexC_ord cmp8_ord
/-- pieces by pieces -/
def cmpV (a b : List (List UInt8)) : Int := lexC compareBytes a b
theorem cmpV_ord : Ord3 cmpV := lexC_ord cmpB_ord
def cmpS (a b : List UInt8) : Int := cmpV (pieces a) (pieces b)
theorem pieces_inj {a b : List UInt8} (h : pieces a = pieces b) : a = b := by rw [← join_pieces a, ← join_pieces b, h]
theorem cmpS_ord : Ord3 cmpS where
  neg a b := cmpV_ord.neg _ _
  eq0 a b := ⟨fun h => pieces_inj ((cmpV_ord.eq0 _ _).1 h), fun h => by subst h; exact (cmpV_ord.eq0 _ _).2 rfl⟩
  tr a b d := cmpV_ord.tr _ _ _
  lo a b := cmpV_ord.lo _ _
/-- behind i equal pieces -/
theorem cmpV_drop : ∀ (i : Nat) (a b : List (List UInt8)), i ≤ a.length → i ≤ b.length → a.take i = b.take i → cmpV a b = cmpV (a.drop i) (b.drop i)
  | 0, _, _, _, _, _ => rfl
  | i + 1, [], _, h, _, _ => by simp at h
  | i + 1, _ :: _, [], _, h, _ => by simp at h
  | i + 1, x :: xs, y :: ys, h1, h2, h3 => by
    simp only [List.take_succ_cons, List.cons.injEq] at h3
    obtain ⟨rfl, h3⟩ := h3
    show lexC _ _ _ = _
    unfold lexC
    rw [if_pos ((cmpB_ord.eq0 x x).2 rfl)]
    exact cmpV_drop i xs ys (by simpa using h1) (by simpa using h2) h3
theorem cmpV_nil (a : List (List UInt8)) (b : List (List UInt8)) (h : a = [] ∨ b = []) : cmpV a b = max (-1) (min 1 ((a.length : Int) - b.length)) := by
  cases a with
  | nil =>
    cases b with
    | nil => rfl
    | cons y ys => show (-1 : Int) = _; simp only [List.length_nil, List.length_cons]; omega
  | cons x xs =>
    cases b with
    | nil => show (1 : Int) = _; simp only [List.length_nil, List.length_cons]; omega
    | cons y ys => simp at h
theorem cmpV_head (x y : List UInt8) (xs ys : List (List UInt8)) (h : x ≠ y) : cmpV (x :: xs) (y :: ys) = compareBytes x y := by
  show lexC _ _ _ = _
  unfold lexC
  rw [if_neg (fun e => h ((cmpB_ord.eq0 x y).1 e))]
theorem pieces_split (d t : List UInt8) : pieces (d ++ 47 :: t) = pieces d ++ pieces t := by
  induction d with
  | nil => rw [List.nil_append, pieces_slash]; rfl
  | cons c r ih =>
    rw [List.cons_append]
    by_cases hc : c = 47
    · subst hc; rw [pieces_slash, pieces_slash, ih]; rfl
    · obtain ⟨p, ps, h⟩ := List.exists_cons_of_ne_nil (pieces_ne r)
      rw [pieces_cons hc h, pieces_cons hc (p := p) (ps := ps ++ pieces t) (by rw [ih, h]; rfl)]; rfl
theorem joinP_app : ∀ (a b : List (List UInt8)), a ≠ [] → b ≠ [] → joinP (a ++ b) = joinP a ++ 47 :: joinP b
  | [], _, h, _ => absurd rfl h
  | [p], [], _, h => absurd rfl h
  | [p], q :: r, _, _ => rfl
  | p :: q :: r, b, _, h => by
    show p ++ 47 :: joinP (q :: r ++ b) = (p ++ 47 :: joinP (q :: r)) ++ _
    rw [joinP_app (q :: r) b (by simp) h, List.append_assoc]; rfl
/-- below: by the first signs, by the first names -/
theorem under_iff (s d : List UInt8) : (d ++ [47]).isPrefixOf s = true ↔ ∃ A, A ≠ [] ∧ pieces s = pieces d ++ A := by
  rw [List.isPrefixOf_iff_prefix]
  constructor
  · rintro ⟨t, rfl⟩
    refine ⟨pieces t, pieces_ne t, ?_⟩
    rw [List.append_assoc]; exact pieces_split d t
  · rintro ⟨A, hA, h⟩
    refine ⟨joinP A, ?_⟩
    rw [← join_pieces s, h, joinP_app _ _ (pieces_ne d) hA, join_pieces, List.append_assoc]; rfl
theorem between : ∀ (D A B C : List (List UInt8)), A ≠ [] → cmpV (D ++ A) C ≤ 0 → cmpV C (D ++ B) ≤ 0 → ∃ C', C' ≠ [] ∧ C = D ++ C'
  | [], A, B, C, hA, h1, _ => by
    refine ⟨C, ?_, rfl⟩
    rintro rfl
    obtain ⟨x, xs, rfl⟩ := List.exists_cons_of_ne_nil hA
    exact absurd h1 (by show ¬ (1 : Int) ≤ 0; decide)
  | d :: D, A, B, [], hA, h1, _ => absurd h1 (by show ¬ (1 : Int) ≤ 0; decide)
  | d :: D, A, B, e :: C, hA, h1, h2 => by
    by_cases hde : d = e
    · subst hde
      have q1 := cmpV_drop 1 (d :: D ++ A) (d :: C) (by simp) (by simp) (by simp)
      have q2 := cmpV_drop 1 (d :: C) (d :: D ++ B) (by simp) (by simp) (by simp)
      rw [q1] at h1; rw [q2] at h2
      obtain ⟨C', h3, h4⟩ := between D A B C hA h1 h2
      exact ⟨C', h3, by rw [h4]; rfl⟩
    · rw [List.cons_append, cmpV_head _ _ _ _ hde] at h1
      rw [List.cons_append, cmpV_head _ _ _ _ (Ne.symm hde)] at h2
      have n1 := cmpB_ord.neg d e
      have : compareBytes d e ≠ 0 := fun q => hde ((cmpB_ord.eq0 _ _).1 q)
      omega
def underV (s d : List UInt8) : Bool := pathV s && (d == [] || (pathV d && (d ++ [47]).isPrefixOf s))
theorem together {a b c d : List UInt8} (ha : underV a d = true) (hb : underV b d = true) (hc : pathV c = true) (h1 : cmpS a c ≤ 0) (h2 : cmpS c b ≤ 0) : underV c d = true := by
  unfold underV at ha hb ⊢
  simp only [Bool.and_eq_true, Bool.or_eq_true, beq_iff_eq] at ha hb ⊢
  refine ⟨hc, ?_⟩
  by_cases hd : d = []
  · exact Or.inl hd
  · have ha := ha.2.resolve_left hd
    have hb := hb.2.resolve_left hd
    refine Or.inr ⟨ha.1, ?_⟩
    obtain ⟨A, hA, ea⟩ := (under_iff _ _).1 ha.2
    obtain ⟨B, hB, eb⟩ := (under_iff _ _).1 hb.2
    refine (under_iff _ _).2 ?_
    have h1 : cmpV (pieces a) (pieces c) ≤ 0 := h1
    have h2 : cmpV (pieces c) (pieces b) ≤ 0 := h2
    rw [ea] at h1; rw [eb] at h2
    exact between _ _ _ _ hA h1 h2
theorem lib_join : ∀ l : List (List UInt8), Lib.join l [47] = joinP l
  | [] => by simp [Lib.join, joinP]
  | [p] => by simp [Lib.join, joinP]
  | p :: q :: r => by
    have := lib_join (q :: r)
    show _ = p ++ 47 :: joinP (q :: r)
    rw [← this]
    simp [Lib.join, List.intercalate]
end Go.Proofs.Ytfobnemocodomaa.Pt
set_option linter.unusedVariables false
set_option linter.unusedSimpArgs false
set_option maxHeartbeats 4000000
namespace Go.Proofs.Ytfobnemocodomaa.Pt
open Go.RowKit

def signI (n : Int) : Bool := decide (97 ≤ n ∧ n ≤ 122) || decide (48 ≤ n ∧ n ≤ 57) || decide (n = 46) || decide (n = 95) || decide (n = 45)
theorem signI_eq (c : UInt8) : signI (c.toNat : Int) = signP c := by
  have h : ∀ x : Fin 256, signI ((UInt8.ofNat x.val).toNat : Int) = signP (UInt8.ofNat x.val) := by decide +kernel
  have := h ⟨c.toNat, c.toNat_lt⟩
  simpa using this
theorem sign_any (n : Int) (w : World) : Calls Try.prog 215 #[.int .u8 n] w fun r w' => r = .returned (.bool (signI n)) ∧ w' = w := by
  by_cases e1 : n = 46
  · subst e1
    go_enter Try.func215, Try.ntmps215
    go_wp2
    go_ret
    exact ⟨rfl, rfl⟩
  by_cases e2 : n = 95
  · subst e2
    go_enter Try.func215, Try.ntmps215
    go_wp2
    go_ret
    exact ⟨rfl, rfl⟩
  by_cases e3 : n = 45
  · subst e3
    go_enter Try.func215, Try.ntmps215
    go_wp2
    go_ret
    exact ⟨rfl, rfl⟩
  have f1 : (n == 46) = false := by simp [e1]
  have f2 : (n == 95) = false := by simp [e2]
  have f3 : (n == 45) = false := by simp [e3]
  by_cases a1 : (97 : Int) ≤ n
  · by_cases a2 : n ≤ 122
    · have hv : signI n = true := by simp [signI, a1, a2]
      have HV := Lib.hid hv
      clear hv e1 e2 e3
      go_enter Try.func215, Try.ntmps215
      go_wp2
      go_ret
      rw [HV.out]
      exact ⟨rfl, rfl⟩
    · have b1 : (48 : Int) ≤ n := by omega
      have b2 : ¬ n ≤ 57 := by omega
      have hv : signI n = false := by simp [signI, a1, a2, b1, b2, e1, e2, e3]
      have HV := Lib.hid hv
      clear hv
      go_enter Try.func215, Try.ntmps215
      go_wp2
      go_ret
      rw [HV.out]
      exact ⟨rfl, rfl⟩
  · by_cases b1 : (48 : Int) ≤ n
    · by_cases b2 : n ≤ 57
      · have hv : signI n = true := by simp [signI, a1, b1, b2]
        have HV := Lib.hid hv
        clear hv e1 e2 e3
        go_enter Try.func215, Try.ntmps215
        go_wp2
        go_ret
        rw [HV.out]
        exact ⟨rfl, rfl⟩
      · have hv : signI n = false := by simp [signI, a1, b1, b2, e1, e2, e3]
        have HV := Lib.hid hv
        clear hv
        go_enter Try.func215, Try.ntmps215
        go_wp2
        go_ret
        rw [HV.out]
        exact ⟨rfl, rfl⟩
    · have hv : signI n = false := by simp [signI, a1, b1, e1, e2, e3]
      have HV := Lib.hid hv
      clear hv
      go_enter Try.func215, Try.ntmps215
      go_wp2
      go_ret
      rw [HV.out]
      exact ⟨rfl, rfl⟩
theorem sign_at (c : UInt8) (b : Bool) (h : signP c = b) (w : World) : Calls Try.prog 215 #[.int .u8 (c.toNat : Int)] w fun r w' => r = .returned (.bool b) ∧ w' = w := by
  have := sign_any (c.toNat : Int) w
  rwa [signI_eq, h] at this
def gbt (l : List UInt8) (j : Nat) : UInt8 := l[j]?.getD 0
theorem gbt_at {l : List UInt8} {j : Nat} (h : j < l.length) : gbt l j = l[j] := by simp [gbt, h]
theorem all_upto (l : List UInt8) (h : ∀ j, j < l.length → signP (gbt l j) = true) : l.all signP = true := by
  rw [List.all_eq_true]
  intro c hc
  obtain ⟨j, hj, rfl⟩ := List.mem_iff_getElem.1 hc
  have := h j hj
  rwa [gbt_at hj] at this
theorem all_not (l : List UInt8) (j : Nat) (hj : j < l.length) (h : signP (gbt l j) = false) : l.all signP = false := by
  cases hs : l.all signP with
  | false => rfl
  | true =>
    have := List.all_eq_true.1 hs _ (List.getElem_mem hj)
    rw [gbt_at hj] at h; rw [this] at h; cases h
/-- a text of these bytes -/
def bs (l : List UInt8) : ByteArray := ⟨l.toArray⟩
theorem bs_list (l : List UInt8) : (bs l).data.toList = l := rfl
theorem bs_of (s : ByteArray) : bs s.data.toList = s := rfl
theorem bs_size (l : List UInt8) : (bs l).size = l.length := rfl
theorem bs_inj {a b : List UInt8} (h : bs a = bs b) : a = b := by
  have := congrArg (fun s : ByteArray => s.data.toList) h
  simpa [bs] using this
theorem Name_any (l : List UInt8) (hl : l.length ≤ maxLen) (w : World) : Calls Try.prog 200 #[.string (bs l)] w fun r w' => r = .returned (.bool (nameV l)) ∧ w' = w := by
  unfold maxLen at hl
  by_cases h1 : l = []
  · subst h1
    change Calls Try.prog 200 #[.string ⟨#[]⟩] w _
    go_enter Try.func200, Try.ntmps200
    go_wp2
    go_ret
    exact ⟨rfl, rfl⟩
  by_cases h2 : l = [46]
  · subst h2
    change Calls Try.prog 200 #[.string ⟨#[46]⟩] w _
    go_enter Try.func200, Try.ntmps200
    go_wp2
    go_ret
    exact ⟨rfl, rfl⟩
  by_cases h3 : l = [46, 46]
  · subst h3
    change Calls Try.prog 200 #[.string ⟨#[46, 46]⟩] w _
    go_enter Try.func200, Try.ntmps200
    go_wp2
    go_ret
    exact ⟨rfl, rfl⟩
  have hp : 1 ≤ l.length := by
    cases l with
    | nil => exact absurd rfl h1
    | cons _ _ => simp
  obtain ⟨s, hs⟩ : ∃ s, bs l = s := ⟨_, rfl⟩
  have hsz : s.size = l.length := by rw [← hs]; rfl
  have hat : ∀ k (h : k < s.size), s[k] = gbt l k := fun k h => by
    have h2 : k < l.length := by omega
    rw [gbt_at h2]
    subst hs
    rfl
  have hsl : s.toList = l := by rw [Lib.toList_data, ← hs]; rfl
  have n1 : ¬ s.toList = [] := by rw [hsl]; exact h1
  have n2 : ¬ s.toList = [46] := by rw [hsl]; exact h2
  have n3 : ¬ s.toList = [46, 46] := by rw [hsl]; exact h3
  have m1 : s.toList.isEmpty = false := by rw [hsl]; simp [h1]
  have m2 : (s.toList == [46]) = false := by rw [hsl]; simp [h2]
  have m3 : (s.toList == [46, 46]) = false := by rw [hsl]; simp [h3]
  rw [hs]
  by_cases h4 : l.length ≤ 12
  · have hv : nameV l = l.all signP := by
      unfold nameV
      simp [h2, h3, hp, h4]
    have HV := Lib.hid hv
    have hs12 : ¬ (12 : Int) < (s.size : Int) := by omega
    have HAT := Lib.hid hat
    have HSZ := Lib.hid hsz
    clear hv hat hsz h1 h2 h3 hs h4 hp hl hsl
    go_enter Try.func200, Try.ntmps200
    go_wp2
    go_loopw [21] (fun i wr => ∃ k : Nat, k ≤ s.size ∧ i = .int .i64 k ∧ Hid (∀ j, j < k → signP (gbt l j) = true) ∧ wr = w) (fun i _ => s.size - (intOf i).toNat)
    case atStart => exact ⟨0, Nat.zero_le _, rfl, Lib.hid (fun j hj => absurd hj (by omega)), rfl⟩
    case round =>
      obtain ⟨k, hk, rfl, HA, rfl⟩ := hrel
      by_cases hlt : k < s.size
      · have hki : (k : Int) < (s.size : Int) := by omega
        have hgk : s[k] = gbt l k := HAT.out k hlt
        cases hv : signP (gbt l k) with
        | false =>
          have hno := all_not l k (by have := HSZ.out; omega) hv
          have HSG := Lib.hid hv
          have HNO := Lib.hid hno
          clear hno hv
          go_wp2_with fail
          refine (sign_at _ false HSG.out _).mono ?_
          rintro r w3 ⟨rfl, rfl⟩
          go_wp2
          go_ret
          rw [HV.out, HNO.out]
          exact ⟨rfl, rfl⟩
        | true =>
          have HSG := Lib.hid hv
          have HA2 : Hid (∀ j, j < k + 1 → signP (gbt l j) = true) := Lib.hid (fun j hj => by
            by_cases hjk : j = k
            · subst hjk; exact hv
            · exact HA.out j (by omega))
          clear hv HA
          go_wp2_with fail
          refine (sign_at _ true HSG.out _).mono ?_
          rintro r w3 ⟨rfl, rfl⟩
          go_wp2
          go_roundw
          case rel => exact ⟨k + 1, by omega, by go_num, HA2, trivial⟩
          case measure => simp [intOf]; omega
      · have hkn : k = s.size := by omega
        subst hkn
        have hki : ¬ (s.size : Int) < (s.size : Int) := by omega
        have hall : l.all signP = true := all_upto l (fun j hj => HA.out j (by have := HSZ.out; omega))
        have HL := Lib.hid hall
        clear hall
        go_wp2
        go_ret
        rw [HV.out, HL.out]
        exact ⟨rfl, rfl⟩
  · have hv : nameV l = false := by
      unfold nameV
      simp [h4]
    have HV := Lib.hid hv
    have hs12 : (12 : Int) < (s.size : Int) := by omega
    clear hv hat hsz h1 h2 h3 hs h4 hp hl hsl
    go_enter Try.func200, Try.ntmps200
    go_wp2
    go_ret
    rw [HV.out]
    exact ⟨rfl, rfl⟩
end Go.Proofs.Ytfobnemocodomaa.Pt
set_option linter.unusedVariables false
set_option linter.unusedSimpArgs false
set_option maxHeartbeats 4000000
namespace Go.Proofs.Ytfobnemocodomaa.Pt
open Go.RowKit

/-- internal/bytealg.MaxLen holds some int -/
def Mx (w : World) : Prop := ∃ m, w.cell? ⟨0, 0, none⟩ = some (.int .i64 m)
theorem Mx.gr {w w' : World} (h : Mx w) (g : Gr w w') : Mx w' := let ⟨m, hm⟩ := h; ⟨m, g.cell hm⟩
/-- texts in a row of their own -/
def Tb (w : World) (g : Nat) (xs : List (List UInt8)) : Prop := ∀ j (h : j < xs.length), w.cell? ⟨g, j, none⟩ = some (.string (bs xs[j]))
theorem Tb.gr {w w' : World} {g : Nat} {xs : List (List UInt8)} (h : Tb w g xs) (k : Gr w w') : Tb w' g xs := fun j hj => k.cell (h j hj)
theorem splitB_pieces (l : List UInt8) : Lib.splitB ⟨#[47]⟩ 0 (Lib.countB (bs l) ⟨#[47]⟩) (bs l) = (pieces l).map bs := by
  have h := Lib.splitB_data ⟨#[47]⟩ 0 (Lib.countB (bs l) ⟨#[47]⟩) (bs l)
  have h2 : Lib.splitK [47] 0 (Lib.count l [47]) l = pieces l := split_pieces l
  have h3 := congrArg (List.map bs) (h.trans h2)
  rw [List.map_map] at h3
  have : (bs ∘ fun s : ByteArray => s.data.toList) = id := by funext s; rfl
  rw [this, List.map_id] at h3
  exact h3
theorem Split_any (l : List UInt8) (w : World) (hl : l.length < 4294967281) (hm : Mx w) :
    Calls Try.prog 254 #[.string (bs l), .string ⟨#[47]⟩] w fun r w' =>
      (∃ g, r = .returned (.slice (some ⟨g, 0, none⟩) (pieces l).length (pieces l).length) ∧ Tb w' g (pieces l) ∧ w.heap.size ≤ g ∧ g < w'.heap.size) ∧ Gr w w' := by
  obtain ⟨m, hm⟩ := hm
  have hc : Lib.countB (bs l) ⟨#[47]⟩ + 1 = (pieces l).length := by rw [count_pieces]; rfl
  refine (Try.strings_Split (bs l) ⟨#[47]⟩ m w hl hm (by decide)).mono ?_
  rintro r w' ⟨rfl, rfl⟩
  rw [hc, splitB_pieces]
  refine ⟨⟨w.heap.size, rfl, ?_, Nat.le_refl _, by rw [World.size_alloc]; omega⟩, (Gr.rfl' _).al _⟩
  intro j hj
  have hn := World.alloc_heap_new w (.cells (((pieces l).map bs).map Value.string).toArray 9)
  simp only [World.cell?, hn]
  simp [hj]
/-- what Parts hands back -/
def PartsR (w : World) (v : Value) (l : List UInt8) : Prop :=
  (pathV l = true ∧ ∃ g, v = .slice (some ⟨g, 0, none⟩) (pieces l).length (pieces l).length ∧ Tb w g (pieces l)) ∨ (pathV l = false ∧ v = .slice none 0 0)
theorem names_not (ps : List (List UInt8)) (j : Nat) (hj : j < ps.length) (h : nameV ps[j] = false) : ps.all nameV = false := by
  cases hs : ps.all nameV with
  | false => rfl
  | true =>
    have := List.all_eq_true.1 hs _ (List.getElem_mem hj)
    rw [this] at h; cases h
theorem names_all (ps : List (List UInt8)) (h : ∀ j (hj : j < ps.length), nameV ps[j] = true) : ps.all nameV = true := by
  rw [List.all_eq_true]
  intro c hc
  obtain ⟨j, hj, rfl⟩ := List.mem_iff_getElem.1 hc
  exact h j hj
theorem pieces_len_le (l : List UInt8) : (pieces l).length ≤ l.length + 1 := by
  rw [count_pieces]
  have h := Lib.countB_le (⟨#[47]⟩ : ByteArray) (by decide) l.length (bs l) (by rw [bs_size]; exact Nat.le_refl _)
  have h2 : Lib.countB (bs l) ⟨#[47]⟩ = Lib.count l [47] := rfl
  rw [h2, bs_size] at h
  omega
theorem pieces_mem_len (l : List UInt8) : ∀ p ∈ pieces l, p.length ≤ l.length := by
  induction l with
  | nil => intro p hp; simp [pieces] at hp; subst hp; simp
  | cons c r ih =>
    by_cases hc : c = 47
    · subst hc
      rw [pieces_slash]
      intro p hp
      rcases List.mem_cons.1 hp with rfl | hp
      · simp
      · have := ih p hp; simp; omega
    · obtain ⟨q, qs, h⟩ := List.exists_cons_of_ne_nil (pieces_ne r)
      rw [pieces_cons hc h]
      rw [h] at ih
      intro p hp
      rcases List.mem_cons.1 hp with rfl | hp
      · have := ih q (by simp); simp; omega
      · have := ih p (by simp [hp]); simp; omega
theorem Parts_any (l : List UInt8) (w : World) (hl : l.length < 4294967281) (hm : Mx w) :
    Calls Try.prog 253 #[.string (bs l)] w fun r w' => (∃ v, r = .returned v ∧ PartsR w' v l) ∧ Gr w w' := by
  have HM := Lib.hid hm
  clear hm
  by_cases h1 : l.length ≤ 51
  · have hi : ¬ (51 : Int) < ((bs l).size : Int) := by rw [bs_size]; omega
    obtain ⟨s, hs⟩ : ∃ s, bs l = s := ⟨_, rfl⟩
    have HSP : Hid (∀ w, Mx w → Calls Try.prog 254 #[.string s, .string ⟨#[47]⟩] w fun r w' =>
      (∃ g, r = .returned (.slice (some ⟨g, 0, none⟩) (pieces l).length (pieces l).length) ∧ Tb w' g (pieces l) ∧ w.heap.size ≤ g ∧ g < w'.heap.size) ∧ Gr w w') := Lib.hid (fun w hm => by rw [← hs]; exact Split_any l w hl hm)
    rw [hs] at hi ⊢
    obtain ⟨ps, hps⟩ : ∃ ps, pieces l = ps := ⟨_, rfl⟩
    have hml : ∀ p ∈ ps, p.length ≤ l.length := by rw [← hps]; exact pieces_mem_len l
    have hpl : ps.length ≤ l.length + 1 := by rw [← hps]; exact pieces_len_le l
    have hp0 : 1 ≤ ps.length := by
      rw [← hps]
      have := pieces_ne l
      cases h : pieces l with
      | nil => exact absurd h this
      | cons _ _ => simp
    have hpv : pathV l = partsOk ps := by unfold pathV; rw [hps]; simp [h1]
    have HPV := Lib.hid hpv
    have HPS := Lib.hid hps
    rw [hps] at HSP
    have HML := Lib.hid hml
    have hps52 : ps.length ≤ 52 := by omega
    clear hpv hps hml hl hpl hs
    go_enter Try.func253, Try.ntmps253
    go_wp2_with fail
    refine (HSP.out _ HM.out).mono ?_
    rintro r w1 ⟨⟨g, rfl, ht, hg1, hg2⟩, hg⟩
    have HT := Lib.hid ht
    have HG := Lib.hid hg
    clear ht hg hg1 hg2
    by_cases h4 : ps.length ≤ 4
    · have h4i : ¬ (4 : Int) < (ps.length : Int) := by omega
      go_wp2
      go_loopw [16] (fun i wr => ∃ k : Nat, k ≤ ps.length ∧ i = .int .i64 k ∧ Hid (∀ j (h : j < ps.length), j < k → nameV ps[j] = true) ∧ wr = w1) (fun i _ => ps.length - (intOf i).toNat)
      case atStart => exact ⟨0, Nat.zero_le _, rfl, Lib.hid (fun j _ hj => absurd hj (by omega)), rfl⟩
      case round =>
        obtain ⟨k, hk, rfl, HA, rfl⟩ := hrel
        by_cases hlt : k < ps.length
        · have hki : (k : Int) < (ps.length : Int) := by omega
          have hc := HT.out k hlt
          obtain ⟨p, hp⟩ : ∃ p, ps[k] = p := ⟨_, rfl⟩
          rw [hp] at hc
          have hpm : p.length ≤ l.length := HML.out p (by rw [← hp]; exact List.getElem_mem hlt)
          have hpx : p.length ≤ maxLen := by unfold maxLen; omega
          cases hv : nameV p with
          | false =>
            have hno := names_not ps k hlt (by rw [hp]; exact hv)
            have hpv2 : pathV l = false := by rw [HPV.out]; unfold partsOk; rw [hno]; simp
            have HN := Lib.hid (Name_any p hpx)
            have HV := Lib.hid hv
            have HR := Lib.hid hpv2
            clear hno hv hpv2 hp hpx hpm
            go_wp2_with fail
            refine (HN.out _).mono ?_
            rintro r w3 ⟨rfl, rfl⟩
            rw [HV.out]
            go_wp2
            go_ret
            exact ⟨⟨_, rfl, Or.inr ⟨HR.out, rfl⟩⟩, HG.out⟩
          | true =>
            have HA2 : Hid (∀ j (h : j < ps.length), j < k + 1 → nameV ps[j] = true) := Lib.hid (fun j h hj => by
              by_cases hjk : j = k
              · subst hjk; rw [hp]; exact hv
              · exact HA.out j h (by omega))
            have HN := Lib.hid (Name_any p hpx)
            have HV := Lib.hid hv
            clear hv hp hpx hpm HA
            go_wp2_with fail
            refine (HN.out _).mono ?_
            rintro r w3 ⟨rfl, rfl⟩
            rw [HV.out]
            go_wp2
            go_roundw
            case rel => exact ⟨k + 1, by omega, by go_num, HA2, trivial⟩
            case measure => simp [intOf]; omega
        · have hkn : k = ps.length := by omega
          subst hkn
          have hki : ¬ (ps.length : Int) < (ps.length : Int) := by omega
          have hall : ps.all nameV = true := names_all ps (fun j hj => HA.out j hj hj)
          have hpv2 : pathV l = true := by rw [HPV.out]; unfold partsOk; rw [hall]; simp [hp0, h4]
          have HL := Lib.hid hpv2
          clear hall hpv2
          go_wp2
          go_ret
          refine ⟨⟨_, rfl, Or.inl ⟨HL.out, g, ?_, ?_⟩⟩, HG.out⟩
          · rw [HPS.out]; rfl
          · rw [HPS.out]; exact HT.out
    · have h4i : (4 : Int) < (ps.length : Int) := by omega
      have hpv2 : pathV l = false := by rw [HPV.out]; unfold partsOk; simp [h4]
      have HL := Lib.hid hpv2
      clear hpv2
      go_wp2
      go_ret
      exact ⟨⟨_, rfl, Or.inr ⟨HL.out, rfl⟩⟩, HG.out⟩
  · have hi : (51 : Int) < ((bs l).size : Int) := by rw [bs_size]; omega
    have hpv : pathV l = false := by unfold pathV; simp [h1]
    have HPV := Lib.hid hpv
    obtain ⟨s, hs⟩ : ∃ s, bs l = s := ⟨_, rfl⟩
    rw [hs] at hi ⊢
    clear hpv hs
    go_enter Try.func253, Try.ntmps253
    go_wp2
    go_ret
    exact ⟨⟨_, rfl, Or.inr ⟨HPV.out, rfl⟩⟩, Gr.rfl' _⟩
def chkV (l : List UInt8) : Int := if 51 < l.length then 2 else if pathV l then 0 else 1
theorem chkV_ok (l : List UInt8) : chkV l = 0 ↔ pathV l = true := by
  unfold chkV
  split
  · rename_i h
    have : pathV l = false := by unfold pathV; simp; omega
    simp [this]
  · cases pathV l <;> simp
theorem Check_any (l : List UInt8) (w : World) (hl : l.length < 4294967281) (hm : Mx w) :
    Calls Try.prog 252 #[.string (bs l)] w fun r w' => r = .returned (.int .i64 (chkV l)) ∧ Gr w w' := by
  have HP := Lib.hid (fun w hm => Parts_any l w hl hm)
  have HM := Lib.hid hm
  clear hm
  obtain ⟨s, hs⟩ : ∃ s, bs l = s := ⟨_, rfl⟩
  have hsz : s.size = l.length := by rw [← hs]; rfl
  rw [hs] at HP ⊢
  by_cases h1 : 51 < l.length
  · have hi : (51 : Int) < (s.size : Int) := by omega
    have HV : Hid (chkV l = 2) := Lib.hid (by unfold chkV; rw [if_pos h1])
    clear hs hsz hl h1
    go_enter Try.func252, Try.ntmps252
    go_wp2
    go_ret
    rw [HV.out]
    exact ⟨rfl, Gr.rfl' _⟩
  · have hi : ¬ (51 : Int) < (s.size : Int) := by omega
    have HE : Hid (chkV l = if pathV l then 0 else 1) := Lib.hid (by unfold chkV; rw [if_neg h1])
    clear hs hsz hl h1
    go_enter Try.func252, Try.ntmps252
    go_wp2_with fail
    refine (HP.out _ HM.out).mono ?_
    rintro r w1 ⟨⟨v, rfl, hr⟩, hg⟩
    have HG := Lib.hid hg
    clear hg
    rcases hr with ⟨hv, g, rfl, _⟩ | ⟨hv, rfl⟩
    · have hne : ¬ ((pieces l).length : Int) = 0 := by
        have := pieces_ne l
        cases h : pieces l with
        | nil => exact absurd h this
        | cons _ _ => simp only [List.length_cons]; omega
      obtain ⟨n, hn⟩ : ∃ n, (pieces l).length = n := ⟨_, rfl⟩
      rw [hn] at hne ⊢
      have hne2 : ¬ n = 0 := by omega
      have HV : Hid (chkV l = 0) := Lib.hid (by rw [HE.out, hv]; rfl)
      clear hv hn
      go_wp2
      go_ret
      rw [HV.out]
      exact ⟨rfl, HG.out⟩
    · have HV : Hid (chkV l = 1) := Lib.hid (by rw [HE.out, hv]; rfl)
      clear hv
      go_wp2
      go_ret
      rw [HV.out]
      exact ⟨rfl, HG.out⟩
end Go.Proofs.Ytfobnemocodomaa.Pt
set_option linter.unusedVariables false
set_option linter.unusedSimpArgs false
set_option maxHeartbeats 4000000
namespace Go.Proofs.Ytfobnemocodomaa.Pt
open Go.RowKit
open Lib (compareBytes)

theorem cmp_end {ps qs : List (List UInt8)} (k : Nat) (h1 : k ≤ ps.length) (h2 : k ≤ qs.length) (h3 : ps.take k = qs.take k) (h : k = ps.length ∨ k = qs.length) :
    cmpV ps qs = max (-1) (min 1 ((ps.length : Int) - qs.length)) := by
  rw [cmpV_drop k ps qs h1 h2 h3, cmpV_nil]
  · simp only [List.length_drop]; omega
  · rcases h with h | h
    · left; rw [h]; simp
    · right; rw [h]; simp
theorem cmp_ne {ps qs : List (List UInt8)} (k : Nat) (h1 : k < ps.length) (h2 : k < qs.length) (h3 : ps.take k = qs.take k) (h : ps[k] ≠ qs[k]) :
    cmpV ps qs = compareBytes ps[k] qs[k] := by
  rw [cmpV_drop k ps qs (by omega) (by omega) h3, List.drop_eq_getElem_cons h1, List.drop_eq_getElem_cons h2, cmpV_head _ _ _ _ h]
theorem take_more {ps qs : List (List UInt8)} (k : Nat) (h1 : k < ps.length) (h2 : k < qs.length) (h3 : ps.take k = qs.take k) (h : ps[k] = qs[k]) : ps.take (k + 1) = qs.take (k + 1) := by
  rw [List.take_succ_eq_append_getElem h1, List.take_succ_eq_append_getElem h2, h3, h]
theorem pieces_pos (l : List UInt8) : 1 ≤ (pieces l).length := by
  have := pieces_ne l
  cases h : pieces l with
  | nil => exact absurd h this
  | cons _ _ => simp
end Go.Proofs.Ytfobnemocodomaa.Pt
set_option linter.unusedVariables false
set_option linter.unusedSimpArgs false
set_option maxHeartbeats 4000000
namespace Go.Proofs.Ytfobnemocodomaa.Pt
open Go.RowKit

def longV (xs : List (List UInt8)) : Bool := xs.any fun p => decide (400 < p.length)
theorem longV_yes (xs : List (List UInt8)) (k : Nat) (h : k < xs.length) (hk : 400 < xs[k].length) : longV xs = true := by
  unfold longV
  rw [List.any_eq_true]
  exact ⟨xs[k], List.getElem_mem h, by simpa using hk⟩
theorem longV_no (xs : List (List UInt8)) (h : ∀ j (hj : j < xs.length), ¬ 400 < xs[j].length) : longV xs = false := by
  unfold longV
  rw [List.any_eq_false]
  intro p hp
  obtain ⟨j, hj, rfl⟩ := List.mem_iff_getElem.1 hp
  simpa using h j hj
theorem longV_mem {xs : List (List UInt8)} (h : longV xs = false) : ∀ p ∈ xs, p.length ≤ 400 := by
  intro p hp
  unfold longV at h
  rw [List.any_eq_false] at h
  have := h p hp
  simp at this; omega
/-- texts in a row, wherever it lies -/
def Tx (w : World) (A : Option Addr) (xs : List (List UInt8)) : Prop := ∀ j (h : j < xs.length), ∃ ad, A = some ad ∧ w.cell? (ad.add j) = some (.string (bs xs[j]))
theorem Tx.gr {w w' : World} {A : Option Addr} {xs : List (List UInt8)} (h : Tx w A xs) (k : Gr w w') : Tx w' A xs := fun j hj => let ⟨ad, e, c⟩ := h j hj; ⟨ad, e, k.cell c⟩
end Go.Proofs.Ytfobnemocodomaa.Pt
set_option linter.unusedVariables false
set_option linter.unusedSimpArgs false
set_option maxHeartbeats 4000000
namespace Go.Proofs.Ytfobnemocodomaa.Pt
open Go.RowKit

theorem Tx_new (w : World) (t : TypeId) (xs : List (List UInt8)) : Tx (w.alloc (.cells ((xs.map bs).map Value.string).toArray t)) (some ⟨w.heap.size, 0, none⟩) xs := by
  intro j hj
  refine ⟨_, rfl, ?_⟩
  have hn := World.alloc_heap_new w (.cells ((xs.map bs).map Value.string).toArray t)
  have e : (⟨w.heap.size, 0, none⟩ : Addr).add j = ⟨w.heap.size, j, none⟩ := by unfold Addr.add; split <;> simp_all
  rw [e]
  simp only [World.cell?, hn]
  simp [hj]
end Go.Proofs.Ytfobnemocodomaa.Pt
set_option linter.unusedVariables false
set_option linter.unusedSimpArgs false
set_option maxHeartbeats 4000000
namespace Go.Proofs.Ytfobnemocodomaa.Pt
open Go.RowKit

theorem heap_set_same {W : World} {b o : Nat} {cs : Array Value} {t : TypeId} {fr : Nat × Nat} (h : W.heap[b]? = some (.cells cs t fr)) (u : Value) : (W.setCell ⟨b, o, none⟩ u).heap[b]? = some (.cells (cs.setIfInBounds o u) t fr) := by
  simp [World.setCell, Array.getElem?_modify, h]
theorem heap_set_other {W : World} {b k o : Nat} (h : k ≠ b) (u : Value) : (W.setCell ⟨b, o, none⟩ u).heap[k]? = W.heap[k]? := Below.heap_setCell _ _ _ _ h
theorem heap_setCells_other {b k : Nat} (h : k ≠ b) : ∀ (vs : List Value) (o : Nat) (W : World), (W.setCells b o vs).heap[k]? = W.heap[k]?
  | [], _, _ => rfl
  | v :: r, o, W => by rw [World.setCells, heap_setCells_other h r (o + 1), heap_set_other h]
theorem size_setCells {b : Nat} : ∀ (vs : List Value) (o : Nat) (W : World), (W.setCells b o vs).heap.size = W.heap.size
  | [], _, _ => rfl
  | v :: r, o, W => by rw [World.setCells, size_setCells r (o + 1)]; simp [World.setCell]
theorem os_setCells {b : Nat} : ∀ (vs : List Value) (o : Nat) (W : World), (W.setCells b o vs).os = W.os ∧ (W.setCells b o vs).tape = W.tape ∧ (W.setCells b o vs).output = W.output
  | [], _, _ => ⟨rfl, rfl, rfl⟩
  | v :: r, o, W => by rw [World.setCells]; exact os_setCells r (o + 1) _
theorem heap_setCells_same {b : Nat} {t : TypeId} {fr : Nat × Nat} : ∀ (vs : List Value) (o : Nat) (W : World) (cs : Array Value), W.heap[b]? = some (.cells cs t fr) → o + vs.length ≤ cs.size →
    ∃ cs', (W.setCells b o vs).heap[b]? = some (.cells cs' t fr) ∧ cs'.size = cs.size ∧ (∀ j, j < o → cs'[j]? = cs[j]?) ∧ (∀ j, j < vs.length → cs'[o + j]? = vs[j]?) ∧ (∀ j, o + vs.length ≤ j → cs'[j]? = cs[j]?)
  | [], o, W, cs, h, _ => ⟨cs, h, rfl, fun _ _ => rfl, fun _ h => by simp at h, fun _ _ => rfl⟩
  | v :: r, o, W, cs, h, hl => by
    simp only [List.length_cons] at hl
    obtain ⟨cs', h1, h2, h3, h4, h5⟩ := heap_setCells_same r (o + 1) (W.setCell ⟨b, o, none⟩ v) _ (heap_set_same h v) (by simp only [Array.size_setIfInBounds]; omega)
    refine ⟨cs', h1, by rw [h2, Array.size_setIfInBounds], fun j hj => ?_, fun j hj => ?_, fun j hj => ?_⟩
    · rw [h3 j (by omega), Array.getElem?_setIfInBounds, if_neg (by omega)]
    · cases j with
      | zero =>
        rw [Nat.add_zero, h3 o (by omega), Array.getElem?_setIfInBounds, if_pos rfl, if_pos (by omega)]
        rfl
      | succ j =>
        have := h4 j (by simp only [List.length_cons] at hj; omega)
        rw [show o + (j + 1) = o + 1 + j by omega, this]
        rfl
    · simp only [List.length_cons] at hj
      rw [h5 j (by omega), Array.getElem?_setIfInBounds, if_neg (by omega)]
theorem _root_.Go.Proofs.Ytfobnemocodomaa.Gr.grown {a w w' : World} (h : Gr a w) {row : Option Nat} (g : w.grownBy w' row) (hr : ∀ k, row = some k → a.heap.size ≤ k) : Gr a w' :=
  ⟨g.os.trans h.os, g.tape.trans h.tape, g.output.trans h.output, Nat.le_trans h.size g.size, fun k hk => (g.block k (Nat.lt_of_lt_of_le hk h.size) (fun e => by have := hr k e.symm; omega)).trans (h.block k hk)⟩
theorem infoStr : (Try.prog.info? 9).map (fun i => (i.zero, i.size, i.bytes)) = some (some (.string ByteArray.empty), 1, 16) := by kernel_rfl
def txC (l : List (List UInt8)) : List Value := l.map fun p => Value.string (bs p)
/-- texts in a row that may bear a string's mark behind its end -/
def OwnT (w : World) (B : Nat) (v : Value) (l : List (List UInt8)) : Prop :=
  ∃ g cap cur fr, v = .slice (some ⟨g, 0, none⟩) l.length cap ∧ B ≤ g ∧ w.heap[g]? = some (.cells cur 9 fr) ∧ l.length ≤ cap ∧ cap ≤ maxLen ∧ cap ≤ cur.size ∧ (∀ j, j < cap → ¬ (fr.1 ≤ j ∧ j < fr.2)) ∧
    ∀ j (h : j < l.length), cur[j]? = some (.string (bs l[j]))
section
variable {w w' : World} {B : Nat} {v : Value} {l : List (List UInt8)}
theorem OwnT.shape (h : OwnT w B v l) : ∃ A cap, v = .slice A l.length cap := by
  obtain ⟨g, cap, cur, fr, rfl, _⟩ := h; exact ⟨_, _, rfl⟩
theorem OwnT.blk (h : OwnT w B v l) {k : Nat} (hk : v.ownBlock = some k) : B ≤ k := by
  obtain ⟨g, cap, cur, fr, rfl, hb, _⟩ := h
  have : g = k := by simpa [Value.ownBlock] using hk
  omega
theorem OwnT.gr (h : OwnT w B v l) (g : Gr w w') : OwnT w' B v l := by
  obtain ⟨b, cap, cur, fr, rfl, hb, hg, r⟩ := h
  exact ⟨b, cap, cur, fr, rfl, hb, (g.block b (Array.getElem?_eq_some_iff.1 hg).1).trans hg, r⟩
theorem OwnT.alloc (h : OwnT w B v l) (o : Obj) : OwnT (w.alloc o) B v l := h.gr ((Gr.rfl' _).al _)
theorem OwnT.cell {A : Option Addr} {n cap : Nat} (h : OwnT w B (.slice A n cap) l) : ∃ g, A = some ⟨g, 0, none⟩ ∧ B ≤ g ∧ n = l.length ∧ n ≤ cap ∧ cap ≤ maxLen ∧ ∀ j (hj : j < l.length), w.cell? ⟨g, j, none⟩ = some (.string (bs l[j])) := by
  obtain ⟨b, c, cur, fr, hv, hb, hg, h1, h2, _, _, r⟩ := h
  simp only [Value.slice.injEq] at hv
  obtain ⟨rfl, rfl, rfl⟩ := hv
  exact ⟨b, rfl, hb, rfl, h1, h2, fun j hj => by simp only [World.cell?, hg]; exact r j hj⟩
end
theorem appendT {w : World} {ops : Array Oper} {rest : List Oper} {o : Oper} {a : Act} {Q : Exit → Act → World → Prop} (hgd : o.guard = none) (s x : Operand)
    (ho : o.op = .call { callee := .builtin .append, args := #[s, x], argTypes := #[206, 206] }) (B : Nat) (v : Value) (l : List (List UInt8)) (c : List UInt8) (hs : a.eval s = v) (hown : OwnT w B v l)
    (ad : Addr) (hx : a.eval x = .slice (some ad) 1 1) (hc : w.cell? ad = some (.string (bs c))) (hbytes : (l.length + 1) * 16 ≤ 140737488355328) (hbase : B ≤ w.heap.size)
    (h : ∀ v' w', OwnT w' B v' (l ++ [c]) → w.grownBy w' v.ownBlock → wpList Try.prog ops Q rest (a.put o.dst v') w') : wpList Try.prog ops Q (o :: rest) a w := by
  obtain ⟨i0, hi, hz0, hz1, hz2⟩ := info_parts infoStr
  have e0 : ad.add 0 = ad := by unfold Addr.add; simp
  have hnews : ∀ j u, ([.string (bs c)] : List Value)[j]? = some u → w.cell? (ad.add j) = some u := by
    intro j u hj
    have : j = 0 := by
      have := (List.getElem?_eq_some_iff.1 hj).1
      simp at this; omega
    subst this
    cases hj
    rw [e0]; exact hc
  have h1c : ∀ u ∈ ([.string (bs c)] : List Value), u.oneCell' = true := by
    intro u hu; simp at hu; subst hu; rfl
  have key : ∃ v' w', (Builtin.append_ #[206, 206] o.type #[v, .slice (some ad) 1 1]).run Try.prog w = .ok v' w' ∧ OwnT w' B v' (l ++ [c]) ∧ w.grownBy w' v.ownBlock := by
    obtain ⟨g, cap, cur, fr, rfl, hb, hg, h1, h2, h3, h4, h5⟩ := hown
    by_cases hroom : l.length + 1 ≤ cap
    · have hlt : l.length < cur.size := by omega
      have hnf : ¬ (fr.1 ≤ l.length ∧ l.length < fr.2) := h4 _ (by omega)
      have hr := run_append_room_cells (P := Try.prog) w 206 o.type 9 i0 Try.underlying206 hi g 0 l.length cap ad 1 1 [.string (bs c)] (by rw [hz1]; rfl) hnews h1c hroom
        (by intro j hj; rw [hz1]; have : j = 0 := by simp at hj; exact hj
            subst this; simp [World.cell?, hg, hlt])
        (by intro j hj; rw [hz1]; have : j = 0 := by simp at hj; exact hj
            subst this
            simp only [World.frozen?, hg]
            simp only [Nat.zero_add, Nat.mul_one, Nat.add_zero, Bool.and_eq_false_iff, decide_eq_false_iff_not]
            omega)
      rw [hz1] at hr
      simp only [Nat.zero_add, Nat.mul_one] at hr
      obtain ⟨cs', k1, k2, k3, k4, _⟩ := heap_setCells_same [.string (bs c)] l.length w cur hg (by simp; omega)
      refine ⟨_, _, hr, ⟨g, cap, cs', fr, by simp, hb, k1, by simp; omega, h2, by omega, h4, fun j hj => ?_⟩, ⟨(os_setCells _ _ _).1, (os_setCells _ _ _).2.1, (os_setCells _ _ _).2.2, by rw [size_setCells]; exact Nat.le_refl _, fun k _ hk => heap_setCells_other (fun e => hk (by simp [Value.ownBlock, e])) _ _ _⟩⟩
      by_cases hjl : j < l.length
      · rw [k3 _ hjl, h5 j hjl, List.getElem_append_left hjl]
      · have hje : j = l.length := by simp at hj; omega
        subst hje
        have := k4 0 (by simp)
        rw [Nat.add_zero] at this
        rw [this]
        simp
    · obtain ⟨v', w', hr, ho', hgr⟩ := run_append_arg_grows (P := Try.prog) w 206 o.type 9 i0 (.string ByteArray.empty) 1 16 Try.underlying206 hi hz0 hz1 hz2 rfl (by decide) ⟨g, 0, none⟩ l.length cap (txC l) (by simp [txC])
        (fun j u hj => by
          have hl : j < l.length := by
            have := (List.getElem?_eq_some_iff.1 hj).1
            simpa [txC] using this
          rw [Addr.add_mid, Nat.zero_add]
          simp only [World.cell?, hg]
          rw [h5 j hl, ← hj]
          simp [txC, hl]) ad 1 1 [.string (bs c)] rfl hnews (by omega) (by unfold maxLen; omega) (by omega)
      refine ⟨v', w', hr, ?_, ⟨hgr.os, hgr.tape, hgr.output, hgr.size, fun k hk _ => hgr.block k hk (by simp)⟩⟩
      have e1 : (l ++ [c]).length = l.length + 1 := by simp
      have e2 : txC (l ++ [c]) = txC l ++ [.string (bs c)] := by simp [txC]
      rw [← e1, ← e2] at ho'
      rcases ho'.2 with ⟨k1, k2⟩ | ⟨g', cap', cur', hv, hb', hg', hn', hm', hs', ht'⟩
      · simp at k2
      · refine ⟨g', cap', cur', (0, 0), hv, by omega, hg', hn', hm', by omega, fun j _ => by omega, fun j hj => ?_⟩
        have h1 : (cur'.toList.take ((l ++ [c]).length * 1))[j]? = some (.string (bs (l ++ [c])[j])) := by rw [ht']; simp only [txC, List.getElem?_map, List.getElem?_eq_getElem hj, Option.map_some]
        rw [List.getElem?_take_of_lt (by omega)] at h1
        simpa using h1
  refine wpList_plain hgd fun K hK => ?_
  obtain ⟨v', w', hr, h2, h3⟩ := key
  unfold Oper.wp execOp
  simp only [ho, resolve, invoke, builtin, Sem.run_bind, Sem.run_pure, Result.andThen_ok, List.map_toArray, List.map_cons, List.map_nil, hs, hx, hr]
  exact hK _ _ (h v' w' h2 h3)
end Go.Proofs.Ytfobnemocodomaa.Pt
