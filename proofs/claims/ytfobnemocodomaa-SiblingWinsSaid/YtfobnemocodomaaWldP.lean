/- Leaves that grow by writes, deletions and syncing: in plain words. -/
import Derived.Test.YtfobnemocodomaaLeafP
import Derived.Test.YtfobnemocodomaaVecH
set_option linter.unusedVariables false
set_option linter.unusedSimpArgs false
namespace Go.Proofs.Ytfobnemocodomaa

def covs (y x : Vx) : Bool := hasV y.pl x.P x.C
def filS (X : List Vx) : List Vx := X.filter fun x => !covB X x.P x.C
/-- what two leaves come to -/
def synL (a b : List Vx) : List Vx := if leafChk a = 0 ∧ leafChk b = 0 then syncOf (filS (a ++ b)) else []
/-- all that a leaf stands for -/
def covGo (o : List Dot) (l : List Vx) : List Dot := l.foldl (fun o v => joinL (joinL o v.pl) [(v.P, v.C)]) o
def covL (l : List Vx) : List Dot := if leafChk l = 0 then covGo [] l else []

theorem hasV_iff {l : List Dot} (h : chk l = 0) (p c : Int) : hasV l p c = true ↔ 1 ≤ c ∧ c ≤ cnt l p := by
  unfold hasV; rw [getV_eq, if_pos h]; simp
theorem filS_mem (X : List Vx) (x : Vx) : x ∈ filS X ↔ x ∈ X ∧ ∀ y ∈ X, covs y x = false := by
  unfold filS
  rw [List.mem_filter]
  constructor
  · rintro ⟨h, k⟩
    refine ⟨h, fun y hy => ?_⟩
    cases e : covs y x with
    | false => rfl
    | true =>
      have := (covB_iff X x.P x.C).2 ⟨y, hy, e⟩
      rw [this] at k; cases k
  · rintro ⟨h, k⟩
    refine ⟨h, ?_⟩
    cases e : covB X x.P x.C with
    | false => rfl
    | true =>
      obtain ⟨y, hy, e'⟩ := (covB_iff X x.P x.C).1 e
      have := k y hy
      unfold covs at this; rw [this] at e'; cases e'
/-- what comes of two leaves is a leaf -/
theorem synL_leaf (a b : List Vx) : leafChk (synL a b) = 0 := by
  unfold synL
  by_cases h : leafChk a = 0 ∧ leafChk b = 0
  · rw [if_pos h, leaf_zero]
    have ha := (leaf_zero a).1 h.1
    have hb := (leaf_zero b).1 h.2
    have hin : ∀ x ∈ syncOf (filS (a ++ b)), x ∈ filS (a ++ b) := fun x hx => ((syncOf_mem _ x).1 hx).2.2.mem
    refine ⟨fun x hx => ?_, syncOf_ups _, fun x hx => ?_⟩
    · rcases List.mem_append.1 ((filS_mem _ _).1 (hin x hx)).1 with k | k
      · exact ha.1 x k
      · exact hb.1 x k
    · cases e : covB (syncOf (filS (a ++ b))) x.P x.C with
      | false => rfl
      | true =>
        obtain ⟨y, hy, k⟩ := (covB_iff _ _ _).1 e
        have := ((filS_mem _ _).1 (hin x hx)).2 y ((filS_mem _ _).1 (hin y hy)).1
        unfold covs at this; rw [this] at k; cases k
  · rw [if_neg h]; decide

/-! ### versions that grew so -/
/-- of all versions that were ever written -/
structure Uni (all : List Vx) : Prop where
  chk : ∀ v ∈ all, verChk v = 0
  uniq : ∀ v ∈ all, ∀ u ∈ all, v.P = u.P → v.C = u.C → v = u
  clos : ∀ v ∈ all, ∀ u ∈ all, covs v u = true → ∀ p, cnt u.pl p ≤ cnt v.pl p
  ownp : ∀ v ∈ all, cnt v.pl v.P = v.C - 1
theorem Uni.cov_iff {all : List Vx} (U : Uni all) {v u : Vx} (hv : v ∈ all) (hu : u ∈ all) : covs v u = true ↔ u.C ≤ cnt v.pl u.P := by
  unfold covs
  rw [hasV_iff (ver_parts (U.chk v hv)).2.1]
  have := (ver_parts (U.chk u hu)).1
  omega
theorem Uni.cov_trans {all : List Vx} (U : Uni all) {v u t : Vx} (hv : v ∈ all) (hu : u ∈ all) (ht : t ∈ all) (h1 : covs v u = true) (h2 : covs u t = true) : covs v t = true := by
  have a := (U.cov_iff hu ht).1 h2
  have b := U.clos v hv u hu h1 t.P
  exact (U.cov_iff hv ht).2 (by omega)
/-- a measure: a version that covers another has more -/
def sumP (l : List Dot) : Nat → Int
  | 0 => 0
  | k + 1 => sumP l k + cnt l k
theorem sumP_le {a b : List Dot} (h : ∀ p, cnt a p ≤ cnt b p) : ∀ k, sumP a k ≤ sumP b k
  | 0 => Int.le_refl _
  | k + 1 => by have := sumP_le h k; have := h k; unfold sumP; omega
theorem sumP_lt {a b : List Dot} (h : ∀ p, cnt a p ≤ cnt b p) {q : Nat} (hq : cnt a q < cnt b q) : ∀ k, q < k → sumP a k < sumP b k
  | 0, h0 => by omega
  | k + 1, h0 => by
    unfold sumP
    by_cases e : q = k
    · subst e; have := sumP_le h q; omega
    · have := sumP_lt h hq k (by omega); have := h k; omega
theorem Uni.more {all : List Vx} (U : Uni all) {v u : Vx} (hv : v ∈ all) (hu : u ∈ all) (h : covs v u = true) : sumP u.pl 64 < sumP v.pl 64 := by
  have a := U.clos v hv u hu h
  have b := (U.cov_iff hv hu).1 h
  have c := U.ownp u hu
  have d := (ver_parts (U.chk u hu)).1
  refine sumP_lt a (q := u.P.toNat) ?_ 64 (by omega)
  rw [show ((u.P.toNat : Nat) : Int) = u.P by omega]
  omega
theorem exMax (f : Vx → Int) (q : Vx → Prop) : ∀ (X : List Vx), (∃ y ∈ X, q y) → ∃ y ∈ X, q y ∧ ∀ z ∈ X, q z → f z ≤ f y
  | [], ⟨y, hy, _⟩ => by simp at hy
  | x :: r, ⟨y, hy, hq⟩ => by
    by_cases hr : ∃ y ∈ r, q y
    · obtain ⟨m, hm, hqm, hmax⟩ := exMax f q r hr
      by_cases hx : q x ∧ f m < f x
      · refine ⟨x, by simp, hx.1, fun z hz hqz => ?_⟩
        rcases List.mem_cons.1 hz with rfl | hz
        · exact Int.le_refl _
        · have := hmax z hz hqz; omega
      · refine ⟨m, List.mem_cons_of_mem _ hm, hqm, fun z hz hqz => ?_⟩
        rcases List.mem_cons.1 hz with rfl | hz
        · have : ¬ f m < f z := fun k => hx ⟨hqz, k⟩
          omega
        · exact hmax z hz hqz
    · rcases List.mem_cons.1 hy with rfl | hy
      · refine ⟨y, by simp, hq, fun z hz hqz => ?_⟩
        rcases List.mem_cons.1 hz with rfl | hz
        · exact Int.le_refl _
        · exact absurd ⟨z, hz, hqz⟩ hr
      · exact absurd ⟨y, hy, hq⟩ hr
/-- whatever is covered is covered by one that is not covered -/
theorem Uni.top {all X : List Vx} (U : Uni all) (hX : ∀ x ∈ X, x ∈ all) {x : Vx} (hx : x ∈ all) (h : ∃ y ∈ X, covs y x = true) : ∃ y ∈ filS X, covs y x = true := by
  obtain ⟨y, hy, hc, hm⟩ := exMax (fun v => sumP v.pl 64) (fun y => covs y x = true) X h
  refine ⟨y, (filS_mem _ _).2 ⟨hy, fun z hz => ?_⟩, hc⟩
  cases e : covs z y with
  | false => rfl
  | true =>
    have a := hm z hz (U.cov_trans (hX z hz) (hX y hy) hx e hc)
    have b := U.more (hX z hz) (hX y hy) e
    omega
/-- a leaf of these -/
structure Lfl (all l : List Vx) : Prop where
  sub : ∀ x ∈ l, x ∈ all
  ups : Ups l
  unc : ∀ x ∈ l, ∀ y ∈ l, covs y x = false
theorem Lfl.chk {all l : List Vx} (U : Uni all) (h : Lfl all l) : leafChk l = 0 := by
  rw [leaf_zero]
  refine ⟨fun x hx => U.chk x (h.sub x hx), h.ups, fun x hx => ?_⟩
  cases e : covB l x.P x.C with
  | false => rfl
  | true =>
    obtain ⟨y, hy, k⟩ := (covB_iff _ _ _).1 e
    have := h.unc x hx y hy
    unfold covs at this; rw [this] at k; cases k
theorem Lfl.nil (all : List Vx) : Lfl all [] := ⟨by simp, List.Pairwise.nil, by simp⟩
theorem head_same {x : Vx} : ∀ {l : List Vx}, x ∈ l → (∀ y ∈ l, y = x) → l.head? = some x
  | [], h, _ => by simp at h
  | y :: r, _, k => by rw [k y (by simp)]; rfl
theorem synL_mem {all a b : List Vx} (U : Uni all) (ha : Lfl all a) (hb : Lfl all b) (x : Vx) : x ∈ synL a b ↔ x ∈ filS (a ++ b) := by
  unfold synL
  rw [if_pos ⟨ha.chk U, hb.chk U⟩, syncOf_mem]
  have hall : ∀ y ∈ filS (a ++ b), y ∈ all := fun y hy => by
    rcases List.mem_append.1 ((filS_mem _ _).1 hy).1 with k | k
    · exact ha.sub y k
    · exact hb.sub y k
  constructor
  · rintro ⟨_, _, h⟩; exact h.mem
  · intro h
    have hx := ver_parts (U.chk x (hall x h))
    have key : ∀ y ∈ filS (a ++ b), y.P = x.P → y.C = x.C := fun y hy e => by
      have hyp := ver_parts (U.chk y (hall y hy))
      have o1 := U.ownp x (hall x h)
      have o2 := U.ownp y (hall y hy)
      have c1 := ((filS_mem _ _).1 h).2 y ((filS_mem _ _).1 hy).1
      have c2 := ((filS_mem _ _).1 hy).2 x ((filS_mem _ _).1 h).1
      have d1 : ¬ x.C ≤ cnt y.pl x.P := fun k => by rw [(U.cov_iff (hall y hy) (hall x h)).2 k] at c1; cases c1
      have d2 : ¬ y.C ≤ cnt x.pl y.P := fun k => by rw [(U.cov_iff (hall x h) (hall y hy)).2 k] at c2; cases c2
      rw [e] at o2 d2
      omega
    refine ⟨hx.1.1, hx.1.2.1, rfl, head_same (List.mem_filter.2 ⟨h, by simp [inK]⟩) (fun y hy => ?_), fun y hy e => by rw [key y hy e]; exact Int.le_refl _⟩
    obtain ⟨h1, h2⟩ := List.mem_filter.1 hy
    simp only [inK, decide_eq_true_eq] at h2
    exact U.uniq y (hall y h1) x (hall x h) h2.1 h2.2
theorem synL_ups (a b : List Vx) : Ups (synL a b) := by
  unfold synL
  split
  · exact syncOf_ups _
  · exact List.Pairwise.nil
theorem synL_lf {all a b : List Vx} (U : Uni all) (ha : Lfl all a) (hb : Lfl all b) : Lfl all (synL a b) := by
  have hin := synL_mem U ha hb
  refine ⟨fun x hx => ?_, synL_ups a b, fun x hx y hy => ?_⟩
  · rcases List.mem_append.1 ((filS_mem _ _).1 ((hin x).1 hx)).1 with k | k
    · exact ha.sub x k
    · exact hb.sub x k
  · exact ((filS_mem _ _).1 ((hin x).1 hx)).2 y ((filS_mem _ _).1 ((hin y).1 hy)).1
/-- what is uncovered does not hang on whether one asks half of it first -/
theorem fil_half {all X Y Z : List Vx} (U : Uni all) (hX : ∀ x ∈ X, x ∈ all) (hY : ∀ x ∈ Y, x ∈ all) (hZ : ∀ x, x ∈ Z ↔ x ∈ filS X) (x : Vx) : x ∈ filS (Z ++ Y) ↔ x ∈ filS (X ++ Y) := by
  rw [filS_mem, filS_mem]
  constructor
  · rintro ⟨h, k⟩
    have hx : x ∈ X ++ Y := by
      rcases List.mem_append.1 h with h | h
      · exact List.mem_append.2 (Or.inl ((filS_mem _ _).1 ((hZ x).1 h)).1)
      · exact List.mem_append.2 (Or.inr h)
    have hxa : x ∈ all := by
      rcases List.mem_append.1 hx with h | h
      · exact hX x h
      · exact hY x h
    refine ⟨hx, fun y hy => ?_⟩
    rcases List.mem_append.1 hy with hy | hy
    · cases e : covs y x with
      | false => rfl
      | true =>
        obtain ⟨z, hz, e'⟩ := U.top hX hxa ⟨y, hy, e⟩
        have := k z (List.mem_append.2 (Or.inl ((hZ z).2 hz)))
        rw [this] at e'; cases e'
    · exact k y (List.mem_append.2 (Or.inr hy))
  · rintro ⟨h, k⟩
    refine ⟨?_, fun y hy => ?_⟩
    · rcases List.mem_append.1 h with h | h
      · exact List.mem_append.2 (Or.inl ((hZ x).2 ((filS_mem _ _).2 ⟨h, fun y hy => k y (List.mem_append.2 (Or.inl hy))⟩)))
      · exact List.mem_append.2 (Or.inr h)
    · rcases List.mem_append.1 hy with hy | hy
      · exact k y (List.mem_append.2 (Or.inl ((filS_mem _ _).1 ((hZ y).1 hy)).1))
      · exact k y (List.mem_append.2 (Or.inr hy))
theorem fil_comm (X Y : List Vx) (x : Vx) : x ∈ filS (X ++ Y) ↔ x ∈ filS (Y ++ X) := by
  rw [filS_mem, filS_mem]
  simp only [List.mem_append]
  constructor
  · rintro ⟨h, k⟩; exact ⟨h.symm, fun y hy => k y hy.symm⟩
  · rintro ⟨h, k⟩; exact ⟨h.symm, fun y hy => k y hy.symm⟩
theorem fil_same {X Y : List Vx} (h : ∀ x, x ∈ X ↔ x ∈ Y) (x : Vx) : x ∈ filS X ↔ x ∈ filS Y := by
  rw [filS_mem, filS_mem, h x]
  constructor
  · rintro ⟨a, k⟩; exact ⟨a, fun y hy => k y ((h y).2 hy)⟩
  · rintro ⟨a, k⟩; exact ⟨a, fun y hy => k y ((h y).1 hy)⟩
theorem Lfl.app {all a b : List Vx} (ha : Lfl all a) (hb : Lfl all b) : ∀ x ∈ a ++ b, x ∈ all := fun x hx => by
  rcases List.mem_append.1 hx with h | h
  · exact ha.sub x h
  · exact hb.sub x h
section
variable {all a b c : List Vx} (U : Uni all) (ha : Lfl all a) (hb : Lfl all b) (hc : Lfl all c)
include U ha hb hc
theorem syn3 (x : Vx) : x ∈ synL (synL a b) c ↔ x ∈ filS ((a ++ b) ++ c) := by
  rw [synL_mem U (synL_lf U ha hb) hc]
  exact fil_half U (ha.app hb) hc.sub (synL_mem U ha hb) x
theorem syn_assoc : synL (synL a b) c = synL a (synL b c) := by
  refine ups_eq _ _ (synL_ups _ _) (synL_ups _ _) fun x => ?_
  rw [syn3 U ha hb hc, synL_mem U ha (synL_lf U hb hc), fil_comm a (synL b c), fil_half U (hb.app hc) ha.sub (synL_mem U hb hc)]
  refine fil_same (fun y => ?_) x
  simp only [List.mem_append]
  constructor
  · rintro ((h | h) | h)
    · exact Or.inr h
    · exact Or.inl (Or.inl h)
    · exact Or.inl (Or.inr h)
  · rintro ((h | h) | h)
    · exact Or.inl (Or.inr h)
    · exact Or.inr h
    · exact Or.inl (Or.inl h)
theorem syn_turn : synL (synL a b) c = synL (synL c b) a := by
  refine ups_eq _ _ (synL_ups _ _) (synL_ups _ _) fun x => ?_
  rw [syn3 U ha hb hc, syn3 U hc hb ha]
  refine fil_same (fun y => ?_) x
  simp only [List.mem_append]
  constructor
  · rintro ((h | h) | h)
    · exact Or.inr h
    · exact Or.inl (Or.inr h)
    · exact Or.inl (Or.inl h)
  · rintro ((h | h) | h)
    · exact Or.inr h
    · exact Or.inl (Or.inr h)
    · exact Or.inl (Or.inl h)
theorem syn_again : synL (synL (synL a b) c) a = synL (synL a b) c := by
  have hab := synL_lf U ha hb
  refine ups_eq _ _ (synL_ups _ _) (synL_ups _ _) fun x => ?_
  rw [synL_mem U (synL_lf U hab hc) ha, fil_half U (X := (a ++ b) ++ c) (fun y hy => (List.mem_append.1 hy).elim (ha.app hb y) (hc.sub y)) ha.sub (syn3 U ha hb hc), syn3 U ha hb hc]
  refine fil_same (fun y => ?_) x
  simp only [List.mem_append]
  constructor
  · rintro (((h | h) | h) | h)
    · exact Or.inl (Or.inl h)
    · exact Or.inl (Or.inr h)
    · exact Or.inr h
    · exact Or.inl (Or.inl h)
  · intro h; exact Or.inl h
omit ha hc in
theorem syn_self : synL b b = b := by
  refine ups_eq _ _ (synL_ups _ _) hb.ups fun x => ?_
  rw [synL_mem U hb hb, filS_mem]
  simp only [List.mem_append, or_self]
  exact ⟨fun h => h.1, fun h => ⟨h, fun y hy => hb.unc x h y hy⟩⟩
end
end Go.Proofs.Ytfobnemocodomaa
