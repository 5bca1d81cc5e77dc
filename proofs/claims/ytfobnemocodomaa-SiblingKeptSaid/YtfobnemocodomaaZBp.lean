/- Joined texts: WldP GrwP. -/
import Derived.Test.YtfobnemocodomaaZBf
import Derived.Test.YtfobnemocodomaaZBq
set_option maxHeartbeats 200000
set_option linter.unusedVariables false
set_option linter.unusedSimpArgs false
namespace Go.Proofs.Ytfobnemocodomaa

def covs (y x : Vx) : Bool := hasV y.pl x.P x.C
def filS (X : List Vx) : List Vx := X.filter fun x => !covB X x.P x.C
/-- what two leaves come to -/
def synL (a b : List Vx) : List Vx := if leafChk a = 0 ∧ leafChk b = 0 then syncOf (filS (a ++ b)) else []
/-- all that a leaf stands for -/
def covGo (o : List Dot) (l : List Vx) : List Dot := l.foldl (fun o v => joinL (joinL o v.pl) [(v.P, v.C)]) o
def covL (l : List Vx) : List Dot := if leafChk l = 0 then covGo [] l else []

theorem hasV_iff {l : List Dot} (h : chk l = 0) (p c : Int) : hasV l p c = true ↔ 1 ≤ c ∧ c ≤ cnt l p := by
  unfold hasV; rw [getV_eq, if_pos h]; simp
theorem filS_mem (X : List Vx) (x : Vx) : x ∈ filS X ↔ x ∈ X ∧ ∀ y ∈ X, covs y x = false := by
  unfold filS
  rw [List.mem_filter]
  constructor
  · rintro ⟨h, k⟩
    refine ⟨h, fun y hy => ?_⟩
    cases e : covs y x with
    | false => rfl
    | true =>
      have := (covB_iff X x.P x.C).2 ⟨y, hy, e⟩
      rw [this] at k; cases k
  · rintro ⟨h, k⟩
    refine ⟨h, ?_⟩
    cases e : covB X x.P x.C with
    | false => rfl
    | true =>
      obtain ⟨y, hy, e'⟩ := (covB_iff X x.P x.C).1 e
      have := k y hy
      unfold covs at this; rw [this] at e'; cases e'
/-- what comes of two leaves is a leaf -/
theorem synL_leaf (a b : List Vx) : leafChk (synL a b) = 0 := by
  unfold synL
  by_cases h : leafChk a = 0 ∧ leafChk b = 0
  · rw [if_pos h, leaf_zero]
    have ha := (leaf_zero a).1 h.1
    have hb := (leaf_zero b).1 h.2
    have hin : ∀ x ∈ syncOf (filS (a ++ b)), x ∈ filS (a ++ b) := fun x hx => ((syncOf_mem _ x).1 hx).2.2.mem
    refine ⟨fun x hx => ?_, syncOf_ups _, fun x hx => ?_⟩
    · rcases List.mem_append.1 ((filS_mem _ _).1 (hin x hx)).1 with k | k
      · exact ha.1 x k
      · exact hb.1 x k
    · cases e : covB (syncOf (filS (a ++ b))) x.P x.C with
      | false => rfl
      | true =>
        obtain ⟨y, hy, k⟩ := (covB_iff _ _ _).1 e
        have := ((filS_mem _ _).1 (hin x hx)).2 y ((filS_mem _ _).1 (hin y hy)).1
        unfold covs at this; rw [this] at k; cases k
  · rw [if_neg h]; decide

/-! ### versions that grew so -/
/-- of all versions that were ever written -/
structure Uni (all : List Vx) : Prop where
  chk : ∀ v ∈ all, verChk v = 0
  uniq : ∀ v ∈ all, ∀ u ∈ all, v.P = u.P → v.C = u.C → v = u
  clos : ∀ v ∈ all, ∀ u ∈ all, covs v u = true → ∀ p, cnt u.pl p ≤ cnt v.pl p
  ownp : ∀ v ∈ all, cnt v.pl v.P = v.C - 1
theorem Uni.cov_iff {all : List Vx} (U : Uni all) {v u : Vx} (hv : v ∈ all) (hu : u ∈ all) : covs v u = true ↔ u.C ≤ cnt v.pl u.P := by
  unfold covs
  rw [hasV_iff (ver_parts (U.chk v hv)).2.1]
  have := (ver_parts (U.chk u hu)).1
  omega
theorem Uni.cov_trans {all : List Vx} (U : Uni all) {v u t : Vx} (hv : v ∈ all) (hu : u ∈ all) (ht : t ∈ all) (h1 : covs v u = true) (h2 : covs u t = true) : covs v t = true := by
  have a := (U.cov_iff hu ht).1 h2
  have b := U.clos v hv u hu h1 t.P
  exact (U.cov_iff hv ht).2 (by omega)
/-- a measure: a version that covers another has more -/
def sumP (l : List Dot) : Nat → Int
  | 0 => 0
  | k + 1 => sumP l k + cnt l k
theorem sumP_le {a b : List Dot} (h : ∀ p, cnt a p ≤ cnt b p) : ∀ k, sumP a k ≤ sumP b k
  | 0 => Int.le_refl _
  | k + 1 => by have := sumP_le h k; have := h k; unfold sumP; omega
theorem sumP_lt {a b : List Dot} (h : ∀ p, cnt a p ≤ cnt b p) {q : Nat} (hq : cnt a q < cnt b q) : ∀ k, q < k → sumP a k < sumP b k
  | 0, h0 => by omega
  | k + 1, h0 => by
    unfold sumP
    by_cases e : q = k
    · subst e; have := sumP_le h q; omega
    · have := sumP_lt h hq k (by omega); have := h k; omega
theorem Uni.more {all : List Vx} (U : Uni all) {v u : Vx} (hv : v ∈ all) (hu : u ∈ all) (h : covs v u = true) : sumP u.pl 64 < sumP v.pl 64 := by
  have a := U.clos v hv u hu h
  have b := (U.cov_iff hv hu).1 h
  have c := U.ownp u hu
  have d := (ver_parts (U.chk u hu)).1
  refine sumP_lt a (q := u.P.toNat) ?_ 64 (by omega)
  rw [show ((u.P.toNat : Nat) : Int) = u.P by omega]
  omega
theorem exMax (f : Vx → Int) (q : Vx → Prop) : ∀ (X : List Vx), (∃ y ∈ X, q y) → ∃ y ∈ X, q y ∧ ∀ z ∈ X, q z → f z ≤ f y
  | [], ⟨y, hy, _⟩ => by simp at hy
  | x :: r, ⟨y, hy, hq⟩ => by
    by_cases hr : ∃ y ∈ r, q y
    · obtain ⟨m, hm, hqm, hmax⟩ := exMax f q r hr
      by_cases hx : q x ∧ f m < f x
      · refine ⟨x, by simp, hx.1, fun z hz hqz => ?_⟩
        rcases List.mem_cons.1 hz with rfl | hz
        · exact Int.le_refl _
        · have := hmax z hz hqz; omega
      · refine ⟨m, List.mem_cons_of_mem _ hm, hqm, fun z hz hqz => ?_⟩
        rcases List.mem_cons.1 hz with rfl | hz
        · have : ¬ f m < f z := fun k => hx ⟨hqz, k⟩
          omega
        · exact hmax z hz hqz
    · rcases List.mem_cons.1 hy with rfl | hy
      · refine ⟨y, by simp, hq, fun z hz hqz => ?_⟩
        rcases List.mem_cons.1 hz with rfl | hz
        · exact Int.le_refl _
        · exact absurd ⟨z, hz, hqz⟩ hr
      · exact absurd ⟨y, hy, hq⟩ hr
/-- whatever is covered is covered by one that is not covered -/
theorem Uni.top {all X : List Vx} (U : Uni all) (hX : ∀ x ∈ X, x ∈ all) {x : Vx} (hx : x ∈ all) (h : ∃ y ∈ X, covs y x = true) : ∃ y ∈ filS X, covs y x = true := by
  obtain ⟨y, hy, hc, hm⟩ := exMax (fun v => sumP v.pl 64) (fun y => covs y x = true) X h
  refine ⟨y, (filS_mem _ _).2 ⟨hy, fun z hz => ?_⟩, hc⟩
  cases e : covs z y with
  | false => rfl
  | true =>
    have a := hm z hz (U.cov_trans (hX z hz) (hX y hy) hx e hc)
    have b := U.more (hX z hz) (hX y hy) e
    omega
/-- a leaf of these -/
structure Lfl (all l : List Vx) : Prop where
  sub : ∀ x ∈ l, x ∈ all
  ups : Ups l
  unc : ∀ x ∈ l, ∀ y ∈ l, covs y x = false
theorem Lfl.chk {all l : List Vx} (U : Uni all) (h : Lfl all l) : leafChk l = 0 := by
  rw [leaf_zero]
  refine ⟨fun x hx => U.chk x (h.sub x hx), h.ups, fun x hx => ?_⟩
  cases e : covB l x.P x.C with
  | false => rfl
  | true =>
    obtain ⟨y, hy, k⟩ := (covB_iff _ _ _).1 e
    have := h.unc x hx y hy
    unfold covs at this; rw [this] at k; cases k
theorem Lfl.nil (all : List Vx) : Lfl all [] := ⟨by simp, List.Pairwise.nil, by simp⟩
theorem head_same {x : Vx} : ∀ {l : List Vx}, x ∈ l → (∀ y ∈ l, y = x) → l.head? = some x
  | [], h, _ => by simp at h
  | y :: r, _, k => by rw [k y (by simp)]; rfl
theorem synL_mem {all a b : List Vx} (U : Uni all) (ha : Lfl all a) (hb : Lfl all b) (x : Vx) : x ∈ synL a b ↔ x ∈ filS (a ++ b) := by
  unfold synL
  rw [if_pos ⟨ha.chk U, hb.chk U⟩, syncOf_mem]
  have hall : ∀ y ∈ filS (a ++ b), y ∈ all := fun y hy => by
    rcases List.mem_append.1 ((filS_mem _ _).1 hy).1 with k | k
    · exact ha.sub y k
    · exact hb.sub y k
  constructor
  · rintro ⟨_, _, h⟩; exact h.mem
  · intro h
    have hx := ver_parts (U.chk x (hall x h))
    have key : ∀ y ∈ filS (a ++ b), y.P = x.P → y.C = x.C := fun y hy e => by
      have hyp := ver_parts (U.chk y (hall y hy))
      have o1 := U.ownp x (hall x h)
      have o2 := U.ownp y (hall y hy)
      have c1 := ((filS_mem _ _).1 h).2 y ((filS_mem _ _).1 hy).1
      have c2 := ((filS_mem _ _).1 hy).2 x ((filS_mem _ _).1 h).1
      have d1 : ¬ x.C ≤ cnt y.pl x.P := fun k => by rw [(U.cov_iff (hall y hy) (hall x h)).2 k] at c1; cases c1
      have d2 : ¬ y.C ≤ cnt x.pl y.P := fun k => by rw [(U.cov_iff (hall x h) (hall y hy)).2 k] at c2; cases c2
      rw [e] at o2 d2
      omega
    refine ⟨hx.1.1, hx.1.2.1, rfl, head_same (List.mem_filter.2 ⟨h, by simp [inK]⟩) (fun y hy => ?_), fun y hy e => by rw [key y hy e]; exact Int.le_refl _⟩
    obtain ⟨h1, h2⟩ := List.mem_filter.1 hy
    simp only [inK, decide_eq_true_eq] at h2
    exact U.uniq y (hall y h1) x (hall x h) h2.1 h2.2
theorem synL_ups (a b : List Vx) : Ups (synL a b) := by
  unfold synL
  split
  · exact syncOf_ups _
  · exact List.Pairwise.nil
theorem synL_lf {all a b : List Vx} (U : Uni all) (ha : Lfl all a) (hb : Lfl all b) : Lfl all (synL a b) := by
  have hin := synL_mem U ha hb
  refine ⟨fun x hx => ?_, synL_ups a b, fun x hx y hy => ?_⟩
  · rcases List.mem_append.1 ((filS_mem _ _).1 ((hin x).1 hx)).1 with k | k
    · exact ha.sub x k
    · exact hb.sub x k
  · exact ((filS_mem _ _).1 ((hin x).1 hx)).2 y ((filS_mem _ _).1 ((hin y).1 hy)).1
/-- what is uncovered does not hang on whether one asks half of it first -/
theorem fil_half {all X Y Z : List Vx} (U : Uni all) (hX : ∀ x ∈ X, x ∈ all) (hY : ∀ x ∈ Y, x ∈ all) (hZ : ∀ x, x ∈ Z ↔ x ∈ filS X) (x : Vx) : x ∈ filS (Z ++ Y) ↔ x ∈ filS (X ++ Y) := by
  rw [filS_mem, filS_mem]
  constructor
  · rintro ⟨h, k⟩
    have hx : x ∈ X ++ Y := by
      rcases List.mem_append.1 h with h | h
      · exact List.mem_append.2 (Or.inl ((filS_mem _ _).1 ((hZ x).1 h)).1)
      · exact List.mem_append.2 (Or.inr h)
    have hxa : x ∈ all := by
      rcases List.mem_append.1 hx with h | h
      · exact hX x h
      · exact hY x h
    refine ⟨hx, fun y hy => ?_⟩
    rcases List.mem_append.1 hy with hy | hy
    · cases e : covs y x with
      | false => rfl
      | true =>
        obtain ⟨z, hz, e'⟩ := U.top hX hxa ⟨y, hy, e⟩
        have := k z (List.mem_append.2 (Or.inl ((hZ z).2 hz)))
        rw [this] at e'; cases e'
    · exact k y (List.mem_append.2 (Or.inr hy))
  · rintro ⟨h, k⟩
    refine ⟨?_, fun y hy => ?_⟩
    · rcases List.mem_append.1 h with h | h
      · exact List.mem_append.2 (Or.inl ((hZ x).2 ((filS_mem _ _).2 ⟨h, fun y hy => k y (List.mem_append.2 (Or.inl hy))⟩)))
      · exact List.mem_append.2 (Or.inr h)
    · rcases List.mem_append.1 hy with hy | hy
      · exact k y (List.mem_append.2 (Or.inl ((filS_mem _ _).1 ((hZ y).1 hy)).1))
      · exact k y (List.mem_append.2 (Or.inr hy))
theorem fil_comm (X Y : List Vx) (x : Vx) : x ∈ filS (X ++ Y) ↔ x ∈ filS (Y ++ X) := by
  rw [filS_mem, filS_mem]
  simp only [List.mem_append]
  constructor
  · rintro ⟨h, k⟩; exact ⟨h.symm, fun y hy => k y hy.symm⟩
  · rintro ⟨h, k⟩; exact ⟨h.symm, fun y hy => k y hy.symm⟩
theorem fil_same {X Y : List Vx} (h : ∀ x, x ∈ X ↔ x ∈ Y) (x : Vx) : x ∈ filS X ↔ x ∈ filS Y := by
  rw [filS_mem, filS_mem, h x]
  constructor
  · rintro ⟨a, k⟩; exact ⟨a, fun y hy => k y ((h y).2 hy)⟩
  · rintro ⟨a, k⟩; exact ⟨a, fun y hy => k y ((h y).1 hy)⟩
theorem Lfl.app {all a b : List Vx} (ha : Lfl all a) (hb : Lfl all b) : ∀ x ∈ a ++ b, x ∈ all := fun x hx => by
  rcases List.mem_append.1 hx with h | h
  · exact ha.sub x h
  · exact hb.sub x h
section
variable {all a b c : List Vx} (U : Uni all) (ha : Lfl all a) (hb : Lfl all b) (hc : Lfl all c)
include U ha hb hc
theorem syn3 (x : Vx) : x ∈ synL (synL a b) c ↔ x ∈ filS ((a ++ b) ++ c) := by
  rw [synL_mem U (synL_lf U ha hb) hc]
  exact fil_half U (ha.app hb) hc.sub (synL_mem U ha hb) x
theorem syn_assoc : synL (synL a b) c = synL a (synL b c) := by
  refine ups_eq _ _ (synL_ups _ _) (synL_ups _ _) fun x => ?_
  rw [syn3 U ha hb hc, synL_mem U ha (synL_lf U hb hc), fil_comm a (synL b c), fil_half U (hb.app hc) ha.sub (synL_mem U hb hc)]
  refine fil_same (fun y => ?_) x
  simp only [List.mem_append]
  constructor
  · rintro ((h | h) | h)
    · exact Or.inr h
    · exact Or.inl (Or.inl h)
    · exact Or.inl (Or.inr h)
  · rintro ((h | h) | h)
    · exact Or.inl (Or.inr h)
    · exact Or.inr h
    · exact Or.inl (Or.inl h)
theorem syn_turn : synL (synL a b) c = synL (synL c b) a := by
  refine ups_eq _ _ (synL_ups _ _) (synL_ups _ _) fun x => ?_
  rw [syn3 U ha hb hc, syn3 U hc hb ha]
  refine fil_same (fun y => ?_) x
  simp only [List.mem_append]
  constructor
  · rintro ((h | h) | h)
    · exact Or.inr h
    · exact Or.inl (Or.inr h)
    · exact Or.inl (Or.inl h)
  · rintro ((h | h) | h)
    · exact Or.inr h
    · exact Or.inl (Or.inr h)
    · exact Or.inl (Or.inl h)
theorem syn_again : synL (synL (synL a b) c) a = synL (synL a b) c := by
  have hab := synL_lf U ha hb
  refine ups_eq _ _ (synL_ups _ _) (synL_ups _ _) fun x => ?_
  rw [synL_mem U (synL_lf U hab hc) ha, fil_half U (X := (a ++ b) ++ c) (fun y hy => (List.mem_append.1 hy).elim (ha.app hb y) (hc.sub y)) ha.sub (syn3 U ha hb hc), syn3 U ha hb hc]
  refine fil_same (fun y => ?_) x
  simp only [List.mem_append]
  constructor
  · rintro (((h | h) | h) | h)
    · exact Or.inl (Or.inl h)
    · exact Or.inl (Or.inr h)
    · exact Or.inr h
    · exact Or.inl (Or.inl h)
  · intro h; exact Or.inl h
omit ha hc in
theorem syn_self : synL b b = b := by
  refine ups_eq _ _ (synL_ups _ _) hb.ups fun x => ?_
  rw [synL_mem U hb hb, filS_mem]
  simp only [List.mem_append, or_self]
  exact ⟨fun h => h.1, fun h => ⟨h, fun y hy => hb.unc x h y hy⟩⟩
end
end Go.Proofs.Ytfobnemocodomaa
set_option maxHeartbeats 200000
set_option linter.unusedVariables false
set_option linter.unusedSimpArgs false
namespace Go.Proofs.Ytfobnemocodomaa

theorem okv_one {p c : Int} (h : 0 ≤ p ∧ p < 64 ∧ 1 ≤ c ∧ c ≤ 1048576) : Okv [(p, c)] := Okv.cons_iff.2 ⟨h, by simp, Okv.nil⟩
theorem maxI_le (x y : Int) : x ≤ maxI x y ∧ y ≤ maxI x y ∧ (maxI x y = x ∨ maxI x y = y) := by unfold maxI; split <;> omega
theorem covGo_spec : ∀ (l : List Vx) (o : List Dot), Okv o → (∀ v ∈ l, verChk v = 0) →
    Okv (covGo o l) ∧ (∀ q, cnt o q ≤ cnt (covGo o l) q) ∧ (∀ v ∈ l, ∀ q, cnt v.pl q ≤ cnt (covGo o l) q ∧ (v.P = q → v.C ≤ cnt (covGo o l) q)) ∧
      ∀ q, cnt (covGo o l) q = cnt o q ∨ ∃ v ∈ l, cnt (covGo o l) q = cnt v.pl q ∨ (v.P = q ∧ cnt (covGo o l) q = v.C)
  | [], o, ho, _ => ⟨ho, fun _ => Int.le_refl _, fun v hv => by simp at hv, fun _ => Or.inl rfl⟩
  | x :: r, o, ho, h => by
    have hx := ver_parts (h x (by simp))
    have hpl := (chk_ok _).1 hx.2.1
    have h1 := okv_one hx.1
    obtain ⟨j1, c1⟩ := join_spec ho hpl
    obtain ⟨j2, c2⟩ := join_spec j1 h1
    obtain ⟨k1, k2, k3, k4⟩ := covGo_spec r _ j2 (fun v hv => h v (List.mem_cons_of_mem _ hv))
    have e : covGo o (x :: r) = covGo (joinL (joinL o x.pl) [(x.P, x.C)]) r := rfl
    have one : ∀ q, cnt [(x.P, x.C)] q = if x.P = q then x.C else 0 := fun q => rfl
    have step : ∀ q, cnt (joinL (joinL o x.pl) [(x.P, x.C)]) q = maxI (maxI (cnt o q) (cnt x.pl q)) (if x.P = q then x.C else 0) := fun q => by rw [c2, c1, one]
    rw [e]
    refine ⟨k1, fun q => ?_, fun v hv q => ?_, fun q => ?_⟩
    · have := k2 q; rw [step] at this
      have a := maxI_le (maxI (cnt o q) (cnt x.pl q)) (if x.P = q then x.C else 0)
      have b := maxI_le (cnt o q) (cnt x.pl q)
      omega
    · rcases List.mem_cons.1 hv with rfl | hv
      · have := k2 q; rw [step] at this
        have a := maxI_le (maxI (cnt o q) (cnt v.pl q)) (if v.P = q then v.C else 0)
        have b := maxI_le (cnt o q) (cnt v.pl q)
        refine ⟨by omega, fun e => ?_⟩
        rw [if_pos e] at a this; omega
      · exact k3 v hv q
    · rcases k4 q with k | ⟨v, hv, k⟩
      · rw [step] at k
        have a := maxI_le (maxI (cnt o q) (cnt x.pl q)) (if x.P = q then x.C else 0)
        have b := maxI_le (cnt o q) (cnt x.pl q)
        have n0 := (cnt_nonneg ho q).1
        by_cases e : x.P = q
        · rw [if_pos e] at a k
          rcases a.2.2 with a' | a'
          · rcases b.2.2 with b' | b'
            · left; omega
            · right; exact ⟨x, by simp, Or.inl (by omega)⟩
          · right; exact ⟨x, by simp, Or.inr ⟨e, by omega⟩⟩
        · rw [if_neg e] at a k
          rcases a.2.2 with a' | a'
          · rcases b.2.2 with b' | b'
            · left; omega
            · right; exact ⟨x, by simp, Or.inl (by omega)⟩
          · left; omega
      · right; exact ⟨v, List.mem_cons_of_mem _ hv, k⟩
theorem cnt_nil (q : Int) : cnt [] q = 0 := rfl
theorem covL_spec {all l : List Vx} (U : Uni all) (h : Lfl all l) : Okv (covL l) ∧ (∀ v ∈ l, ∀ q, cnt v.pl q ≤ cnt (covL l) q ∧ (v.P = q → v.C ≤ cnt (covL l) q)) ∧
      ∀ q, cnt (covL l) q = 0 ∨ ∃ v ∈ l, cnt (covL l) q = cnt v.pl q ∨ (v.P = q ∧ cnt (covL l) q = v.C) := by
  have e : covL l = covGo [] l := by unfold covL; rw [if_pos (h.chk U)]
  obtain ⟨a, _, b, c⟩ := covGo_spec l [] Okv.nil (fun v hv => U.chk v (h.sub v hv))
  rw [e]
  exact ⟨a, b, c⟩

def upd {α : Type} (f : Nat → α) (p : Nat) (x : α) : Nat → α := fun q => if q = p then x else f q
theorem upd_same {α : Type} (f : Nat → α) (p : Nat) (x : α) : upd f p x p = x := by simp [upd]
theorem upd_ne {α : Type} (f : Nat → α) {p q : Nat} (x : α) (h : q ≠ p) : upd f p x q = f q := by simp [upd, h]
structure Wld (lf : Nat → List Vx) (n : Nat → Int) (all : List Vx) : Prop where
  uni : Uni all
  lfs : ∀ p, p < 3 → Lfl all (lf p)
  nn : ∀ p, 0 ≤ n p
  dot : ∀ v ∈ all, 0 ≤ v.P ∧ v.P < 3 ∧ v.C ≤ n v.P.toNat
  past : ∀ v ∈ all, ∀ q : Nat, cnt v.pl q ≤ n q
  own : ∀ p : Nat, p < 3 → n p = 0 ∨ ∃ u ∈ lf p, n p ≤ cnt u.pl p ∨ (u.P = p ∧ n p ≤ u.C)
  kept : ∀ v ∈ all, ∃ p, p < 3 ∧ ∃ u ∈ lf p, u = v ∨ covs u v = true
theorem Wld.start : Wld (fun _ => []) (fun _ => 0) [] :=
  ⟨⟨by simp, by simp, by simp, by simp⟩, fun _ _ => Lfl.nil _, fun _ => Int.le_refl _, by simp, by simp, fun _ _ => Or.inl rfl, by simp⟩
section
variable {lf : Nat → List Vx} {n : Nat → Int} {all : List Vx}
theorem Wld.covN (h : Wld lf n all) {p : Nat} (hp : p < 3) : cnt (covL (lf p)) p = n p ∧ ∀ q : Nat, cnt (covL (lf p)) q ≤ n q := by
  obtain ⟨a, b, c⟩ := covL_spec h.uni (h.lfs p hp)
  have ub : ∀ q : Nat, cnt (covL (lf p)) q ≤ n q := fun q => by
    rcases c q with k | ⟨v, hv, k | ⟨k1, k⟩⟩
    · rw [k]; exact h.nn q
    · rw [k]; exact h.past v ((h.lfs p hp).sub v hv) q
    · rw [k]
      have := (h.dot v ((h.lfs p hp).sub v hv)).2.2
      rw [k1, Int.toNat_natCast] at this
      exact this
  refine ⟨?_, ub⟩
  have u := ub p
  rcases h.own p hp with k | ⟨v, hv, k⟩
  · have := (cnt_nonneg a p).1; omega
  · have := b v hv p
    rcases k with k | ⟨k1, k⟩
    · omega
    · have := this.2 k1; omega
theorem Wld.fresh (h : Wld lf n all) {p : Nat} (hp : p < 3) : hasV (covL (lf p)) p (n p + 1) = false := by
  have a := (covL_spec h.uni (h.lfs p hp)).1
  cases e : hasV (covL (lf p)) p (n p + 1) with
  | false => rfl
  | true =>
    have := (hasV_iff ((chk_ok _).2 a) _ _).1 e
    have := (h.covN hp).1
    omega
theorem Wld.write (h : Wld lf n all) {p : Nat} (hp : p < 3) {v : Vx} (h1 : v.P = p) (h2 : v.C = n p + 1) (h3 : v.pl = covL (lf p)) (h4 : v.T.size ≤ 48) (h5 : ¬ (v.D = true ∧ v.T ≠ ⟨#[]⟩)) (h6 : n p + 1 ≤ 1048576) :
    Wld (upd lf p [v]) (upd n p (n p + 1)) (all ++ [v]) := by
  obtain ⟨a, b, c⟩ := covL_spec h.uni (h.lfs p hp)
  have U := h.uni
  have hn := h.nn p
  obtain ⟨cn1, cn2⟩ := h.covN hp
  have hV : verChk v = 0 := ver_of (by omega) (by rw [h3]; exact (chk_ok _).2 a) (by rw [h1, h2, h3]; exact h.fresh hp) h4 h5
  have cov1 : ∀ u : Vx, 1 ≤ u.C → (covs v u = true ↔ u.C ≤ cnt (covL (lf p)) u.P) := fun u hu => by
    unfold covs; rw [hasV_iff (ver_parts hV).2.1, h3]; omega
  have vv : covs v v = false := (ver_parts hV).2.2.1
  have old : ∀ u ∈ all, covs u v = false := fun u hu => by
    cases e : covs u v with
    | false => rfl
    | true =>
      unfold covs at e
      have := ((hasV_iff (ver_parts (U.chk u hu)).2.1 _ _).1 e).2
      rw [h1, h2] at this
      have := h.past u hu p
      omega
  -- whoever the new one covers, it has all that that one has
  have clo : ∀ u ∈ all, covs v u = true → ∀ q, cnt u.pl q ≤ cnt v.pl q := fun u hu e q => by
    have hu1 := ver_parts (U.chk u hu)
    have e1 := (cov1 u (by omega)).1 e
    rw [h3]
    rcases c u.P with k | ⟨t, ht, k | ⟨k1, k⟩⟩
    · omega
    · have hta := (h.lfs p hp).sub t ht
      have e2 : covs t u = true := (U.cov_iff hta hu).2 (by omega)
      have := U.clos t hta u hu e2 q
      have := (b t ht q).1
      omega
    · have hta := (h.lfs p hp).sub t ht
      by_cases ec : t.C = u.C
      · have := U.uniq t hta u hu k1 ec
        subst this
        exact (b t ht q).1
      · have o := U.ownp t hta
        have e2 : covs t u = true := (U.cov_iff hta hu).2 (by rw [← k1]; omega)
        have := U.clos t hta u hu e2 q
        have := (b t ht q).1
        omega
  have U' : Uni (all ++ [v]) := by
    refine ⟨fun u hu => ?_, fun u hu t ht e1 e2 => ?_, fun u hu t ht e q => ?_, fun u hu => ?_⟩
    · rcases List.mem_append.1 hu with hu | hu
      · exact U.chk u hu
      · simp at hu; subst hu; exact hV
    · rcases List.mem_append.1 hu with hu2 | hu2 <;> rcases List.mem_append.1 ht with ht2 | ht2 <;> clear hu ht
      · exact U.uniq u hu2 t ht2 e1 e2
      · simp at ht2; subst ht2
        have := h.dot u hu2
        rw [e1, h1, Int.toNat_natCast] at this
        omega
      · simp at hu2; subst hu2
        have := h.dot t ht2
        rw [← e1, h1, Int.toNat_natCast] at this
        omega
      · simp at hu2 ht2; rw [hu2, ht2]
    · rcases List.mem_append.1 hu with hu2 | hu2 <;> rcases List.mem_append.1 ht with ht2 | ht2 <;> clear hu ht
      · exact U.clos u hu2 t ht2 e q
      · simp at ht2; subst ht2; rw [old u hu2] at e; cases e
      · simp at hu2; subst hu2; exact clo t ht2 e q
      · simp at hu2 ht2; subst hu2; subst ht2; exact Int.le_refl _
    · rcases List.mem_append.1 hu with hu | hu
      · exact U.ownp u hu
      · simp at hu; subst hu; rw [h1, h2, h3]; omega
  have nle : ∀ q, n q ≤ upd n p (n p + 1) q := fun q => by
    unfold upd; split
    · rename_i e; subst e; omega
    · exact Int.le_refl _
  refine ⟨U', fun q hq => ?_, fun q => ?_, fun u hu => ?_, fun u hu q => ?_, fun q hq => ?_, fun u hu => ?_⟩
  · by_cases e : q = p
    · subst e; rw [upd_same]
      exact ⟨fun x hx => by simp at hx; subst hx; simp, by simp [Ups], fun x hx y hy => by simp at hx hy; subst hx; subst hy; exact vv⟩
    · rw [upd_ne _ _ e]
      have l := h.lfs q hq
      exact ⟨fun x hx => List.mem_append.2 (Or.inl (l.sub x hx)), l.ups, l.unc⟩
  · have := nle q; have := h.nn q; omega
  · rcases List.mem_append.1 hu with hu | hu
    · have := h.dot u hu; have := nle u.P.toNat; omega
    · simp at hu; subst hu
      refine ⟨by omega, by omega, ?_⟩
      rw [h1, Int.toNat_natCast, upd_same]; omega
  · rcases List.mem_append.1 hu with hu | hu
    · have := h.past u hu q; have := nle q; omega
    · simp at hu; subst hu; rw [h3]; have := cn2 q; have := nle q; omega
  · by_cases e : q = p
    · subst e; rw [upd_same, upd_same]
      exact Or.inr ⟨v, by simp, Or.inr ⟨h1, by omega⟩⟩
    · rw [upd_ne _ _ e, upd_ne _ _ e]; exact h.own q hq
  · rcases List.mem_append.1 hu with hu | hu
    · obtain ⟨q, hq, t, ht, k⟩ := h.kept u hu
      by_cases e : q = p
      · subst e
        refine ⟨q, hq, v, by rw [upd_same]; simp, Or.inr ?_⟩
        have hu1 := ver_parts (U.chk u hu)
        rw [cov1 u (by omega)]
        rcases k with k | k
        · subst k; exact (b t ht t.P).2 rfl
        · have := (U.cov_iff ((h.lfs q hq).sub t ht) hu).1 k
          have := (b t ht u.P).1
          omega
      · exact ⟨q, hq, t, by rw [upd_ne _ _ e]; exact ht, k⟩
    · simp at hu; subst hu
      exact ⟨p, hp, u, by rw [upd_same]; simp, Or.inl rfl⟩
/-- whoever stood, or covered one that stood, is there or covered when two are synced -/
theorem syn_keeps {a b : List Vx} (U : Uni all) (ha : Lfl all a) (hb : Lfl all b) {u : Vx} (hu : u ∈ a ++ b) : ∃ t ∈ synL a b, t = u ∨ covs t u = true := by
  by_cases h : ∃ y ∈ a ++ b, covs y u = true
  · obtain ⟨t, ht, k⟩ := U.top (ha.app hb) (ha.app hb u hu) h
    exact ⟨t, (synL_mem U ha hb t).2 ht, Or.inr k⟩
  · refine ⟨u, (synL_mem U ha hb u).2 ((filS_mem _ _).2 ⟨hu, fun y hy => ?_⟩), Or.inl rfl⟩
    cases e : covs y u with
    | false => rfl
    | true => exact absurd ⟨y, hy, e⟩ h
theorem syn_keeps2 {a b : List Vx} (U : Uni all) (ha : Lfl all a) (hb : Lfl all b) {u v : Vx} (hv : v ∈ all) (hu : u ∈ a ++ b) (k : u = v ∨ covs u v = true) : ∃ t ∈ synL a b, t = v ∨ covs t v = true := by
  obtain ⟨t, ht, e⟩ := syn_keeps U ha hb hu
  have hta := (synL_lf U ha hb).sub t ht
  have hua := ha.app hb u hu
  refine ⟨t, ht, ?_⟩
  rcases k with k | k
  · subst k; exact e
  · rcases e with e | e
    · subst e; exact Or.inr k
    · exact Or.inr (U.cov_trans hta hua hv e k)
theorem Wld.sync (h : Wld lf n all) {p q : Nat} (hp : p < 3) (hq : q < 3) : Wld (upd lf p (synL (lf p) (lf q))) n all := by
  have U := h.uni
  have ha := h.lfs p hp
  have hb := h.lfs q hq
  refine ⟨U, fun r hr => ?_, h.nn, h.dot, h.past, fun r hr => ?_, fun v hv => ?_⟩
  · by_cases e : r = p
    · subst e; rw [upd_same]; exact synL_lf U ha hb
    · rw [upd_ne _ _ e]; exact h.lfs r hr
  · by_cases e : r = p
    · subst e
      rw [upd_same]
      rcases h.own r hr with k | ⟨u, hu, k⟩
      · exact Or.inl k
      · have hua := ha.sub u hu
        obtain ⟨t, ht, e⟩ := syn_keeps U ha hb (List.mem_append.2 (Or.inl hu))
        have hta := (synL_lf U ha hb).sub t ht
        refine Or.inr ⟨t, ht, ?_⟩
        rcases e with e | e
        · subst e; exact k
        · left
          rcases k with k | ⟨k1, k⟩
          · have := U.clos t hta u hua e r; omega
          · have := (U.cov_iff hta hua).1 e
            rw [k1] at this; omega
    · rw [upd_ne _ _ e]; exact h.own r hr
  · obtain ⟨r, hr, u, hu, k⟩ := h.kept v hv
    by_cases e : r = p
    · subst e
      obtain ⟨t, ht, e⟩ := syn_keeps2 U ha hb hv (List.mem_append.2 (Or.inl hu)) k
      exact ⟨r, hr, t, by rw [upd_same]; exact ht, e⟩
    · exact ⟨r, hr, u, by rw [upd_ne _ _ e]; exact hu, k⟩
theorem Wld.all3 (h : Wld lf n all) {v : Vx} (hv : v ∈ all) : ∃ t ∈ synL (synL (lf 0) (lf 1)) (lf 2), t = v ∨ covs t v = true := by
  have U := h.uni
  have h0 := h.lfs 0 (by omega)
  have h1 := h.lfs 1 (by omega)
  have h2 := h.lfs 2 (by omega)
  obtain ⟨p, hp, u, hu, k⟩ := h.kept v hv
  rcases (by omega : p = 0 ∨ p = 1 ∨ p = 2) with rfl | rfl | rfl
  · obtain ⟨t, ht, e⟩ := syn_keeps2 U h0 h1 hv (List.mem_append.2 (Or.inl hu)) k
    exact syn_keeps2 U (synL_lf U h0 h1) h2 hv (List.mem_append.2 (Or.inl ht)) e
  · obtain ⟨t, ht, e⟩ := syn_keeps2 U h0 h1 hv (List.mem_append.2 (Or.inr hu)) k
    exact syn_keeps2 U (synL_lf U h0 h1) h2 hv (List.mem_append.2 (Or.inl ht)) e
  · exact syn_keeps2 U (synL_lf U h0 h1) h2 hv (List.mem_append.2 (Or.inr hu)) k
end
end Go.Proofs.Ytfobnemocodomaa
