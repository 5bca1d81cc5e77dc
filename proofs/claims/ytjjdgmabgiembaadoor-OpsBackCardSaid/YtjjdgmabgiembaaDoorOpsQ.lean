/- Scripts: read as written, written as read, and the first of them: the plain law. -/
import Derived.Test.YtjjdgmabgiembaaDoorOpsP
set_option linter.unusedVariables false
set_option linter.unusedSimpArgs false
set_option maxHeartbeats 1000000
namespace Go.Proofs.YtjjdgmabgiembaaDoor
open Go.RowKit Go.Shelf

theorem bsq_list (S : ByteArray) : bsq S.data.toList = S := rfl
theorem bsq_size (l : List UInt8) : (bsq l).size = l.length := by unfold bsq; exact sizeL l
theorem readGo_back : ∀ (l2 l1 : List Opx) (t : List UInt8), (∀ x ∈ l2, GoodO x) → readGo l2.length (l1, bsq (encs l2 ++ t), 0) = (l1 ++ l2, bsq t, 0)
  | [], l1, t, _ => by simp [readGo, encs]
  | x :: r, l1, t, h => by
    have e : encs (x :: r) ++ t = encO x ++ (encs r ++ t) := by simp [encs]
    rw [e, List.length_cons, readGo_step _ _ rfl]
    unfold adv
    simp only [otake_back x (h x (by simp))]
    rw [readGo_back r (l1 ++ [x]) t (fun y hy => h y (by simp [hy]))]
    simp
theorem bytesV_ok {l : List Opx} {t : List UInt8} (h : bytesV l = (t, 0)) : l.length ≤ 400 ∧ (∀ x ∈ l, GoodO x) ∧ t = putL l.length ++ encs l := by
  unfold bytesV at h
  split at h
  · simp at h
  · rename_i h4
    rw [wnum_ok [] l.length (by omega), List.nil_append] at h
    have hd : (oputs l (putL l.length, 0)).2 = 0 := Classical.byContradiction fun he => by
      unfold doneV at h
      rw [if_pos he] at h
      simp only [Prod.mk.injEq] at h
      exact he h.2
    obtain ⟨_, hg⟩ := oputs_good l _ hd
    rw [oputs_ok l hg] at h
    unfold doneV at h
    rw [if_neg (by simp)] at h
    simp only [Prod.mk.injEq, and_true] at h
    exact ⟨by omega, hg, h.symm⟩
theorem bytesV_good {l : List Opx} (h4 : l.length ≤ 400) (hg : ∀ x ∈ l, GoodO x) : bytesV l = (putL l.length ++ encs l, 0) := by
  unfold bytesV
  rw [if_neg (by omega), wnum_ok [] l.length (by omega), List.nil_append, oputs_ok l hg]
  unfold doneV
  rw [if_neg (by simp)]
/-- what is written is read -/
theorem ops_back {l : List Opx} {t : List UInt8} (h : bytesV l = (t, 0)) : readV (bsq t) = (l, 0) := by
  obtain ⟨h4, hg, rfl⟩ := bytesV_ok h
  have hn := num_backM 400 l.length (by omega) (by omega) (encs l)
  have hs : readS (bsq (putL l.length ++ encs l)) = (l, bsq [], 0) := by
    unfold readS
    rw [show numM 400 (bsq (putL l.length ++ encs l)) 0 = _ from hn]
    simp only [Int.toNat_natCast]
    have := readGo_back l [] [] hg
    rw [List.append_nil, List.nil_append] at this
    exact this
  unfold readV
  rw [hs]
  have : rdDone (bsq []) 0 = 0 := by decide
  simp only [this, ne_eq, not_true_eq_false, if_false]
theorem readGo_can : ∀ (n : Nat) (l1 l2 : List Opx) (S1 S2 : ByteArray) (e1 : Int), readGo n (l1, S1, e1) = (l2, S2, 0) → e1 = 0 ∧ ∃ l', l2 = l1 ++ l' ∧ l'.length = n ∧ (∀ x ∈ l', GoodO x) ∧ S1.data.toList = encs l' ++ S2.data.toList
  | 0, l1, l2, S1, S2, e1, h => by
    simp only [readGo, Prod.mk.injEq] at h
    obtain ⟨rfl, rfl, rfl⟩ := h
    exact ⟨rfl, [], by simp, rfl, fun x hx => absurd hx (by simp), by simp [encs]⟩
  | n + 1, l1, l2, S1, S2, e1, h => by
    by_cases he : e1 = 0
    · subst he
      rw [readGo_step _ _ rfl] at h
      unfold adv at h
      simp only at h
      obtain ⟨x, S3, e3, ht⟩ : ∃ x S3 e3, otake S1 0 = (x, S3, e3) := ⟨_, _, _, rfl⟩
      rw [ht] at h
      obtain ⟨rfl, l', rfl, hl, hg, hS⟩ := readGo_can n (l1 ++ [x]) l2 S3 S2 e3 h
      have hc := otake_can (S := S1) (by rw [ht])
      rw [ht] at hc
      refine ⟨rfl, x :: l', by simp, by simp [hl], fun y hy => ?_, ?_⟩
      · rcases List.mem_cons.1 hy with rfl | hy
        · exact hc.1
        · exact hg y hy
      · rw [hc.2, hS]; simp [encs]
    · rw [readGo_err _ _ he] at h
      simp only [Prod.mk.injEq] at h
      exact absurd h.2.2 he
/-- what is read is written -/
theorem ops_can {S : ByteArray} {x : List Opx} (h : readV S = (x, 0)) : bytesV x = (S.data.toList, 0) := by
  unfold readV at h
  by_cases hd : rdDone (readS S).2.1 (readS S).2.2 = 0
  · rw [if_neg (by simpa using hd)] at h
    simp only [Prod.mk.injEq, and_true] at h
    obtain ⟨l, S2, e2, hr⟩ : ∃ l S2 e2, readS S = (l, S2, e2) := ⟨_, _, _, rfl⟩
    rw [hr] at h hd
    simp only at h hd
    subst h
    unfold rdDone at hd
    have he2 : e2 = 0 := Classical.byContradiction fun he => by rw [if_pos he] at hd; exact he hd
    subst he2
    rw [if_neg (by simp)] at hd
    have hz : S2.size = 0 := Classical.byContradiction fun he => by rw [if_neg he] at hd; exact absurd hd (by decide)
    unfold readS at hr
    obtain ⟨n, S1, e1, hn⟩ : ∃ n S1 e1, numM 400 S 0 = (n, S1, e1) := ⟨_, _, _, rfl⟩
    rw [hn] at hr
    obtain ⟨rfl, l', rfl, hl, hg, hS⟩ := readGo_can _ _ _ _ _ _ hr
    have hc := can_num (m := 400) (S := S) (by rw [hn])
    rw [hn] at hc
    simp only at hc hl
    have hnl : S2.data.toList = [] := by
      apply List.eq_nil_of_length_eq_zero
      rw [← Lib.size_eq]; exact hz
    have hc1 := hc.1
    simp only at hS
    rw [hS, hnl, List.append_nil] at hc1
    have hln : ((l.length : Nat) : Int) = n := by omega
    first
    | rw [List.nil_append, bytesV_good (by omega) hg, hc1, hln]
    | rw [bytesV_good (by omega) hg, hc1, hln]
  · rw [if_pos hd] at h
    simp only [Prod.mk.injEq] at h
    exact absurd h.2 hd
/-- the first operations -/
def firstGo : Nat → List Opx × ByteArray → List Opx × ByteArray
  | 0, s => s
  | k + 1, s => if (otake s.2 0).2.2 ≠ 0 then s else firstGo k (s.1 ++ [(otake s.2 0).1], (otake s.2 0).2.1)
def firstS (S : ByteArray) : List Opx × ByteArray := firstGo 400 ([], S)
theorem firstGo_can : ∀ (n : Nat) (l1 : List Opx) (S1 : ByteArray), ∃ l', (firstGo n (l1, S1)).1 = l1 ++ l' ∧ l'.length ≤ n ∧ (∀ x ∈ l', GoodO x) ∧ S1.data.toList = encs l' ++ (firstGo n (l1, S1)).2.data.toList
  | 0, l1, S1 => ⟨[], by simp [firstGo], by simp, fun x hx => absurd hx (by simp), by simp [firstGo, encs]⟩
  | n + 1, l1, S1 => by
    by_cases he : (otake S1 0).2.2 = 0
    · have hc := otake_can he
      have e : firstGo (n + 1) (l1, S1) = firstGo n (l1 ++ [(otake S1 0).1], (otake S1 0).2.1) := by rw [firstGo, if_neg (by simpa using he)]
      rw [e]
      obtain ⟨l', h1, h2, h3, h4⟩ := firstGo_can n (l1 ++ [(otake S1 0).1]) (otake S1 0).2.1
      refine ⟨(otake S1 0).1 :: l', by rw [h1]; simp, by simp; omega, fun y hy => ?_, ?_⟩
      · rcases List.mem_cons.1 hy with rfl | hy
        · exact hc.1
        · exact h3 y hy
      · rw [hc.2, h4]; simp [encs]
    · have e : firstGo (n + 1) (l1, S1) = (l1, S1) := by rw [firstGo, if_pos he]
      rw [e]
      exact ⟨[], by simp, by simp, fun x hx => absurd hx (by simp), by simp [encs]⟩
/-- the first operations' bytes end as the text begins -/
theorem first_bytes (S : ByteArray) : bytesV (firstS S).1 = (putL (firstS S).1.length ++ encs (firstS S).1, 0) ∧ S.data.toList = encs (firstS S).1 ++ (firstS S).2.data.toList ∧ (firstS S).1.length ≤ 400 := by
  obtain ⟨l', h1, h2, h3, h4⟩ := firstGo_can 400 [] S
  rw [List.nil_append] at h1
  have e : (firstS S).1 = l' := h1
  rw [e]
  exact ⟨bytesV_good h2 h3, h4, h2⟩
end Go.Proofs.YtjjdgmabgiembaaDoor
