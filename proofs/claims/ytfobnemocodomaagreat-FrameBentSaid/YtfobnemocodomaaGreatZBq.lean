/- Joined texts: VecG VecH. -/
import Derived.Test.YtfobnemocodomaaGreatZBh
import Derived.Deep.WholeRow
import Derived.Great.Walk
set_option linter.unusedVariables false
set_option linter.unusedSimpArgs false
set_option maxHeartbeats 4000000
namespace Go.Proofs.YtfobnemocodomaaGreat
open Go.RowKit Go.Great

def Z64 : Array Value := Array.replicate 64 (.int .i64 0)
theorem Z64_at (j : Nat) (h : j < 64) : Z64[j]? = some (.int .i64 0) := by simp [Z64, h]
theorem Z64_size : Z64.size = 64 := by simp [Z64]
theorem Z64_one : Z64.all (·.oneCell') = true := by kernel_rfl
def refJoinL (a b : List Dot) : List Dot := if chk a = 0 ∧ chk b = 0 then ofL (fun p => maxI (getV a p) (getV b p)) 64 else []
def refMeetL (a b : List Dot) : List Dot := ofL (fun p => minI (getV a p) (getV b p)) 64
end Go.Proofs.YtfobnemocodomaaGreat
set_option maxHeartbeats 200000
set_option linter.unusedVariables false
set_option linter.unusedSimpArgs false
namespace Go.Proofs.YtfobnemocodomaaGreat
open Go.RowKit

theorem mem_madeL {f : Int → Int → Int} {M : List (Int × Int × Int)} {d : Dot} : d ∈ madeL f M ↔ ∃ x ∈ M, 0 < f x.2.1 x.2.2 ∧ d = (x.1, f x.2.1 x.2.2) := by
  unfold madeL
  rw [List.mem_filterMap]
  constructor
  · rintro ⟨x, hx, h⟩
    by_cases c : 0 < f x.2.1 x.2.2
    · rw [if_pos c] at h; exact ⟨x, hx, c, (Option.some.inj h).symm⟩
    · rw [if_neg c] at h; cases h
  · rintro ⟨x, hx, c, rfl⟩; exact ⟨x, hx, if_pos c⟩

theorem madeL_spec {a b : List Dot} {f : Int → Int → Int} (ha : Okv a) (hb : Okv b) (hf0 : f 0 0 = 0) (hf : ∀ x y, 0 ≤ x → x ≤ 1048576 → 0 ≤ y → y ≤ 1048576 → 0 ≤ f x y ∧ f x y ≤ 1048576) :
    Okv (madeL f (mrg a b)) ∧ ∀ p, cnt (madeL f (mrg a b)) p = f (cnt a p) (cnt b p) := by
  have hM := mrg_spec a b ha hb
  have hok : Okv (madeL f (mrg a b)) := by
    constructor
    · intro d hd
      obtain ⟨x, hx, h1, rfl⟩ := mem_madeL.1 hd
      obtain ⟨e1, e2, h3⟩ := hM.ofm x hx
      have hp : 0 ≤ x.1 ∧ x.1 < 64 := by
        rcases h3 with ⟨d, hd, e⟩ | ⟨d, hd, e⟩
        · have := ha.1 d hd; omega
        · have := hb.1 d hd; omega
      have n1 := cnt_nonneg ha x.1
      have n2 := cnt_nonneg hb x.1
      have := hf x.2.1 x.2.2 (by omega) (by omega) (by omega) (by omega)
      exact ⟨hp.1, hp.2, by show 1 ≤ f _ _; omega, this.2⟩
    · unfold madeL
      rw [List.pairwise_filterMap]
      refine hM.sorted.imp ?_
      intro x y hxy d hd e he
      by_cases c : 0 < f x.2.1 x.2.2
      · rw [if_pos c] at hd
        by_cases c' : 0 < f y.2.1 y.2.2
        · rw [if_pos c'] at he
          obtain rfl := Option.some.inj hd
          obtain rfl := Option.some.inj he
          exact hxy
        · rw [if_neg c'] at he; cases he
      · rw [if_neg c] at hd; cases hd
  refine ⟨hok, fun p => ?_⟩
  have n1 := cnt_nonneg ha p
  have n2 := cnt_nonneg hb p
  have nf := hf _ _ n1.1 n1.2 n2.1 n2.2
  by_cases c : 0 < f (cnt a p) (cnt b p)
  · have hin : (p, cnt a p, cnt b p) ∈ mrg a b := by
      by_cases ca : 0 < cnt a p
      · obtain ⟨d, hd, rfl, _⟩ := cnt_pos ha ca; exact hM.ina d hd
      · by_cases cb : 0 < cnt b p
        · obtain ⟨d, hd, rfl, _⟩ := cnt_pos hb cb; exact hM.inb d hd
        · rw [show cnt a p = 0 by omega, show cnt b p = 0 by omega, hf0] at c; omega
    have := cnt_mem hok (mem_madeL.2 ⟨_, hin, c, rfl⟩)
    exact this
  · rw [cnt_none _ p fun d hd e => ?_]
    · omega
    · obtain ⟨x, hx, h1, rfl⟩ := mem_madeL.1 hd
      obtain ⟨e1, e2, _⟩ := hM.ofm x hx
      dsimp only at e
      rw [e1, e2, e] at h1
      omega

theorem ofL_mem {f : Nat → Int} {d : Dot} : ∀ {k : Nat}, d ∈ ofL f k ↔ ∃ j < k, 0 < f j ∧ d = ((j : Int), f j)
  | 0 => by simp [ofL]
  | k + 1 => by
    rw [ofL, List.mem_append, ofL_mem (k := k)]
    constructor
    · rintro (⟨j, h1, h2, h3⟩ | h)
      · exact ⟨j, by omega, h2, h3⟩
      · by_cases c : 0 < f k
        · rw [if_pos c] at h; exact ⟨k, by omega, c, by simpa using h⟩
        · rw [if_neg c] at h; cases h
    · rintro ⟨j, h1, h2, h3⟩
      by_cases c : j < k
      · exact .inl ⟨j, c, h2, h3⟩
      · obtain rfl : j = k := by omega
        right; rw [if_pos h2]; simp [h3]
theorem ofL_spec {f : Nat → Int} (hf : ∀ j, 0 ≤ f j ∧ f j ≤ 1048576) : Okv (ofL f 64) ∧ ∀ p : Int, cnt (ofL f 64) p = if 0 ≤ p ∧ p < 64 then f p.toNat else 0 := by
  have hok : Okv (ofL f 64) := by
    constructor
    · intro d hd
      obtain ⟨j, h1, h2, rfl⟩ := ofL_mem.1 hd
      have := hf j
      exact ⟨by show (0 : Int) ≤ j; omega, by show (j : Int) < 64; omega, by show 1 ≤ f j; omega, this.2⟩
    · have : ∀ k, (ofL f k).Pairwise (fun a b => a.1 < b.1) := by
        intro k
        induction k with
        | zero => exact List.Pairwise.nil
        | succ k ih =>
          rw [ofL, List.pairwise_append]
          refine ⟨ih, ?_, ?_⟩
          · by_cases c : 0 < f k <;> simp [c]
          · intro x hx y hy
            obtain ⟨j, h1, h2, rfl⟩ := ofL_mem.1 hx
            by_cases c : 0 < f k
            · rw [if_pos c] at hy
              obtain rfl : y = ((k : Int), f k) := by simpa using hy
              show (j : Int) < k; omega
            · rw [if_neg c] at hy; cases hy
      exact this 64
  refine ⟨hok, fun p => ?_⟩
  by_cases c : 0 ≤ p ∧ p < 64
  · rw [if_pos c]
    have hf' := hf p.toNat
    by_cases c2 : 0 < f p.toNat
    · have hm : ((p.toNat : Int), f p.toNat) ∈ ofL f 64 := ofL_mem.2 ⟨p.toNat, by omega, c2, rfl⟩
      have := cnt_mem hok hm
      dsimp only at this
      rwa [show ((p.toNat : Nat) : Int) = p by omega] at this
    · rw [cnt_none _ p fun d hd e => ?_]
      · omega
      · obtain ⟨j, h1, h2, rfl⟩ := ofL_mem.1 hd
        dsimp only at e
        rw [← e] at c2
        simp at c2; omega
  · rw [if_neg c, cnt_none _ p fun d hd e => ?_]
    obtain ⟨j, h1, h2, rfl⟩ := ofL_mem.1 hd
    dsimp only at e
    omega

theorem maxI_bd (x y : Int) (h1 : 0 ≤ x) (h2 : x ≤ 1048576) (h3 : 0 ≤ y) (h4 : y ≤ 1048576) : 0 ≤ maxI x y ∧ maxI x y ≤ 1048576 := by unfold maxI; split <;> omega
theorem minI_bd (x y : Int) (h1 : 0 ≤ x) (h2 : x ≤ 1048576) (h3 : 0 ≤ y) (h4 : y ≤ 1048576) : 0 ≤ minI x y ∧ minI x y ≤ 1048576 := by unfold minI; split <;> omega
theorem join_spec {a b : List Dot} (ha : Okv a) (hb : Okv b) : Okv (joinL a b) ∧ ∀ p, cnt (joinL a b) p = maxI (cnt a p) (cnt b p) := by
  unfold joinL; rw [if_pos ⟨(chk_ok a).2 ha, (chk_ok b).2 hb⟩]
  exact madeL_spec ha hb (by decide) maxI_bd
theorem meet_spec {a b : List Dot} (ha : Okv a) (hb : Okv b) : Okv (meetL a b) ∧ ∀ p, cnt (meetL a b) p = minI (cnt a p) (cnt b p) := by
  unfold meetL; rw [if_pos ⟨(chk_ok a).2 ha, (chk_ok b).2 hb⟩]
  exact madeL_spec ha hb (by decide) minI_bd

theorem join_eq (a b : List Dot) : joinL a b = refJoinL a b := by
  by_cases h : chk a = 0 ∧ chk b = 0
  · have ha := (chk_ok a).1 h.1
    have hb := (chk_ok b).1 h.2
    obtain ⟨h1, h2⟩ := join_spec ha hb
    unfold refJoinL
    rw [if_pos h]
    obtain ⟨h3, h4⟩ := ofL_spec (f := fun p => maxI (getV a p) (getV b p)) fun j => maxI_bd _ _ (getV_nonneg a j).1 (getV_nonneg a j).2 (getV_nonneg b j).1 (getV_nonneg b j).2
    refine Okv.ext h1 h3 fun p => ?_
    rw [h2, h4]
    by_cases c : 0 ≤ p ∧ p < 64
    · rw [if_pos c, getV_eq, getV_eq, if_pos h.1, if_pos h.2, show ((p.toNat : Nat) : Int) = p by omega]
    · rw [if_neg c, cnt_out ha p c, cnt_out hb p c]; decide
  · unfold joinL refJoinL; rw [if_neg h, if_neg h]
theorem meet_eq (a b : List Dot) : meetL a b = refMeetL a b := by
  unfold refMeetL
  obtain ⟨h3, h4⟩ := ofL_spec (f := fun p => minI (getV a p) (getV b p)) fun j => minI_bd _ _ (getV_nonneg a j).1 (getV_nonneg a j).2 (getV_nonneg b j).1 (getV_nonneg b j).2
  by_cases h : chk a = 0 ∧ chk b = 0
  · have ha := (chk_ok a).1 h.1
    have hb := (chk_ok b).1 h.2
    obtain ⟨h1, h2⟩ := meet_spec ha hb
    refine Okv.ext h1 h3 fun p => ?_
    rw [h2, h4]
    by_cases c : 0 ≤ p ∧ p < 64
    · rw [if_pos c, getV_eq, getV_eq, if_pos h.1, if_pos h.2, show ((p.toNat : Nat) : Int) = p by omega]
    · rw [if_neg c, cnt_out ha p c, cnt_out hb p c]; decide
  · unfold meetL; rw [if_neg h]
    refine Okv.ext Okv.nil h3 fun p => ?_
    rw [h4]
    by_cases c : 0 ≤ p ∧ p < 64
    · rw [if_pos c]
      show 0 = minI _ _
      have n1 := getV_nonneg a p.toNat
      have n2 := getV_nonneg b p.toNat
      have : getV a p.toNat = 0 ∨ getV b p.toNat = 0 := by
        rcases Classical.not_and_iff_not_or_not.1 h with c | c
        · left; rw [getV_eq, if_neg c]
        · right; rw [getV_eq, if_neg c]
      unfold minI; split <;> omega
    · rw [if_neg c]; rfl

theorem within_join {a b : List Dot} (ha : Okv a) (hb : Okv b) : withinB a (joinL a b) = true ∧ withinB b (joinL a b) = true := by
  obtain ⟨h1, h2⟩ := join_spec ha hb
  constructor
  · rw [withinB_iff]; refine ⟨ha, h1, fun p => ?_⟩; rw [h2]; unfold maxI; split <;> omega
  · rw [withinB_iff]; refine ⟨hb, h1, fun p => ?_⟩; rw [h2]; unfold maxI; split <;> omega
theorem meet_within {a b : List Dot} (ha : Okv a) (hb : Okv b) : withinB (meetL a b) a = true ∧ withinB (meetL a b) b = true := by
  obtain ⟨h1, h2⟩ := meet_spec ha hb
  constructor
  · rw [withinB_iff]; refine ⟨h1, ha, fun p => ?_⟩; rw [h2]; unfold minI; split <;> omega
  · rw [withinB_iff]; refine ⟨h1, hb, fun p => ?_⟩; rw [h2]; unfold minI; split <;> omega
theorem join_least {a b c : List Dot} (ha : Okv a) (hb : Okv b) (hc : Okv c) : withinB (joinL a b) c = (withinB a c && withinB b c) := by
  obtain ⟨h1, h2⟩ := join_spec ha hb
  rw [Bool.eq_iff_iff, Bool.and_eq_true, withinB_iff, withinB_iff, withinB_iff]
  constructor
  · rintro ⟨_, _, h⟩
    refine ⟨⟨ha, hc, fun p => ?_⟩, hb, hc, fun p => ?_⟩ <;> (have := h p; rw [h2] at this; unfold maxI at this; split at this <;> omega)
  · rintro ⟨⟨_, _, h3⟩, _, _, h4⟩
    refine ⟨h1, hc, fun p => ?_⟩
    have := h3 p; have := h4 p
    rw [h2]; unfold maxI; split <;> omega
theorem meet_greatest {a b c : List Dot} (ha : Okv a) (hb : Okv b) (hc : Okv c) : withinB c (meetL a b) = (withinB c a && withinB c b) := by
  obtain ⟨h1, h2⟩ := meet_spec ha hb
  rw [Bool.eq_iff_iff, Bool.and_eq_true, withinB_iff, withinB_iff, withinB_iff]
  constructor
  · rintro ⟨_, _, h⟩
    refine ⟨⟨hc, ha, fun p => ?_⟩, hc, hb, fun p => ?_⟩ <;> (have := h p; rw [h2] at this; unfold minI at this; split at this <;> omega)
  · rintro ⟨⟨_, _, h3⟩, _, _, h4⟩
    refine ⟨hc, h1, fun p => ?_⟩
    have := h3 p; have := h4 p
    rw [h2]; unfold minI; split <;> omega

theorem join_self {a : List Dot} (ha : Okv a) : joinL a a = a := by
  obtain ⟨h1, h2⟩ := join_spec ha ha
  exact Okv.ext h1 ha fun p => by rw [h2]; unfold maxI; split <;> omega
theorem join_comm {a b : List Dot} (ha : Okv a) (hb : Okv b) : joinL a b = joinL b a := by
  obtain ⟨h1, h2⟩ := join_spec ha hb
  obtain ⟨h3, h4⟩ := join_spec hb ha
  exact Okv.ext h1 h3 fun p => by rw [h2, h4]; unfold maxI; split <;> split <;> omega
theorem join_assoc {a b c : List Dot} (ha : Okv a) (hb : Okv b) (hc : Okv c) : joinL (joinL a b) c = joinL a (joinL b c) := by
  obtain ⟨h1, h2⟩ := join_spec ha hb
  obtain ⟨h3, h4⟩ := join_spec hb hc
  obtain ⟨h5, h6⟩ := join_spec h1 hc
  obtain ⟨h7, h8⟩ := join_spec ha h3
  exact Okv.ext h5 h7 fun p => by rw [h6, h8, h2, h4]; unfold maxI; repeat' split <;> omega
theorem absorb {a b : List Dot} (ha : Okv a) (hb : Okv b) : meetL (joinL a b) a = a := by
  obtain ⟨h1, h2⟩ := join_spec ha hb
  obtain ⟨h3, h4⟩ := meet_spec h1 ha
  exact Okv.ext h3 ha fun p => by rw [h4, h2]; unfold maxI minI; repeat' split <;> omega
theorem sizes {a b : List Dot} (ha : Okv a) (hb : Okv b) : sizeV (joinL a b) + sizeV (meetL a b) = sizeV a + sizeV b := by
  obtain ⟨h1, h2⟩ := join_spec ha hb
  obtain ⟨h3, h4⟩ := meet_spec ha hb
  have h : ∀ k, sumC (joinL a b) k + sumC (meetL a b) k = sumC a k + sumC b k := by
    intro k
    induction k with
    | zero => rfl
    | succ k ih =>
      simp only [sumC, h2, h4]
      have : maxI (cnt a k) (cnt b k) + minI (cnt a k) (cnt b k) = cnt a k + cnt b k := by unfold maxI minI; split <;> split <;> omega
      omega
  have := h 64
  rw [sumC_eq h1, sumC_eq h3, sumC_eq ha, sumC_eq hb] at this
  unfold sizeV
  rwa [if_pos ((chk_ok _).2 h1), if_pos ((chk_ok _).2 h3), if_pos ((chk_ok _).2 ha), if_pos ((chk_ok _).2 hb)]
theorem sizeV_bd (l : List Dot) : 0 ≤ sizeV l ∧ sizeV l ≤ 67108864 := by rw [size_eq]; have := sumG_le l 64; omega

/-- the next dot is not there, and is there behind With -/
theorem next_with {l : List Dot} {q : Int} (h : (nextV l q).2.2 = 0) : hasV l (nextV l q).1 (nextV l q).2.1 = false ∧ hasV (joinL l [((nextV l q).1, (nextV l q).2.1)]) (nextV l q).1 (nextV l q).2.1 = true := by
  unfold nextV at h ⊢
  by_cases hv : chk l = 0
  · rw [if_neg (by simpa using hv)] at h ⊢
    by_cases h1 : q < 0 ∨ 64 ≤ q
    · rw [if_pos h1] at h; simp at h
    · rw [if_neg h1] at h ⊢
      by_cases h2 : cnt l q = 1048576
      · rw [if_pos h2] at h; simp at h
      · rw [if_neg h2]
        have hl := (chk_ok l).1 hv
        have hc := cnt_nonneg hl q
        have ho : Okv [(q, cnt l q + 1)] := Okv.cons_iff.2 ⟨⟨by show 0 ≤ q; omega, by show q < 64; omega, by show 1 ≤ cnt l q + 1; omega, by show cnt l q + 1 ≤ 1048576; omega⟩, by simp, Okv.nil⟩
        obtain ⟨h3, h4⟩ := join_spec hl ho
        constructor
        · show (decide (1 ≤ cnt l q + 1) && decide (cnt l q + 1 ≤ getV l q)) = false
          rw [getV_eq, if_pos hv]; simp; omega
        · show (decide (1 ≤ cnt l q + 1) && decide (cnt l q + 1 ≤ getV (joinL l [(q, cnt l q + 1)]) q)) = true
          rw [getV_eq, if_pos ((chk_ok _).2 h3), h4, cnt_cons, if_pos rfl]
          simp only [Bool.and_eq_true, decide_eq_true_eq]
          unfold maxI; constructor
          · omega
          · split <;> omega
  · rw [if_pos (by simpa using hv)] at h
    exact absurd h hv
end Go.Proofs.YtfobnemocodomaaGreat
