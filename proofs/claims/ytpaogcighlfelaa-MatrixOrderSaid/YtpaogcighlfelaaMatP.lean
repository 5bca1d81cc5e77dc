/- The plain laws of the matrix: what may be learnt, rows behind facts, what is stable. -/
import Derived.Test.YtpaogcighlfelaaVecH
set_option linter.unusedVariables false
set_option linter.unusedSimpArgs false
namespace Go.Proofs.Ytpaogcighlfelaa
open Go.RowKit

abbrev Rws := List (List Dot)
def thereB (n : Nat) (p : Int) : Bool := decide (0 ≤ p ∧ p < (n : Int))
def farB (n : Nat) (v : List Dot) : Bool := v.any fun d => decide ((n : Int) ≤ d.1)
/-- may something be learnt of a peer -/
def mayV (n : Nat) (p : Int) (v : List Dot) : Int := if thereB n p then (if chk v = 0 then (if farB n v then 11 else 0) else chk v) else 11
theorem thereB_iff {n : Nat} {p : Int} : thereB n p = true ↔ 0 ≤ p ∧ p < (n : Int) := by unfold thereB; simp
theorem farB_last {n m : Nat} {v : List Dot} (h : Okv v) (hm : v.length = m + 1) : farB n v = !(thereB n (v[m]'(by omega)).1) := by
  have hlast := h.at m (by omega)
  unfold farB
  rw [Bool.eq_iff_iff, List.any_eq_true]
  simp only [decide_eq_true_eq, Bool.not_eq_true', ← Bool.not_eq_true, thereB_iff]
  constructor
  · rintro ⟨d, hd, hn⟩
    obtain ⟨j, hj, rfl⟩ := List.mem_iff_getElem.1 hd
    by_cases e : j = m
    · subst e; omega
    · have := h.sorted j m (by omega) (by omega); omega
  · intro hn
    exact ⟨v[m], List.getElem_mem _, by omega⟩
theorem farB_upto (n : Nat) (v : List Dot) (h : ∀ j (hj : j < v.length), ¬ (n : Int) ≤ v[j].1) : farB n v = false := by
  unfold farB
  rw [List.any_eq_false]
  intro d hd
  obtain ⟨j, hj, rfl⟩ := List.mem_iff_getElem.1 hd
  simpa using h j hj
theorem farB_at (n : Nat) (v : List Dot) (j : Nat) (hj : j < v.length) (h : (n : Int) ≤ v[j].1) : farB n v = true := by
  unfold farB
  rw [List.any_eq_true]
  exact ⟨v[j], List.getElem_mem hj, by simpa using h⟩
theorem mayV_zero {n : Nat} {p : Int} {v : List Dot} (h : mayV n p v = 0) : (0 ≤ p ∧ p < (n : Int)) ∧ Okv v := by
  unfold mayV at h
  split at h
  · rename_i ht
    split at h
    · rename_i hc
      exact ⟨thereB_iff.1 ht, (chk_ok v).1 hc⟩
    · rename_i hc; exact absurd h hc
  · simp at h
/-- a fact learnt -/
def learnR (rs : Rws) (p : Int) (v : List Dot) : Rws := if mayV rs.length p v = 0 then rs.set p.toNat (joinL (rs.getD p.toNat []) v) else rs
theorem learnR_length (rs : Rws) (p : Int) (v : List Dot) : (learnR rs p v).length = rs.length := by unfold learnR; split <;> simp
def AllOk (rs : Rws) : Prop := ∀ r ∈ rs, Okv r
theorem AllOk.at {rs : Rws} (h : AllOk rs) (i : Nat) : Okv (rs.getD i []) := by
  rw [List.getD_eq_getElem?_getD]
  cases e : rs[i]? with
  | none => exact Okv.nil
  | some r => exact h r (List.mem_of_getElem? e)
theorem AllOk.learn {rs : Rws} (h : AllOk rs) (p : Int) (v : List Dot) : AllOk (learnR rs p v) := by
  unfold learnR
  split
  · rename_i hm
    intro r hr
    rcases List.mem_or_eq_of_mem_set hr with hr | rfl
    · exact h r hr
    · exact (join_spec (h.at _) (mayV_zero hm).2).1
  · exact h
theorem AllOk.rep (n : Nat) : AllOk (List.replicate n []) := by
  intro r hr
  rw [List.eq_of_mem_replicate hr]; exact Okv.nil
/-- the first of some rows that may not be -/
def mayAll (n : Nat) : Nat → Rws → Int
  | _, [] => 0
  | i, v :: r => if mayV n (i : Int) v = 0 then mayAll n (i + 1) r else mayV n (i : Int) v
theorem mayAll_at (n : Nat) : ∀ (r : Rws) (i k : Nat) (hk : k < r.length), (∀ j (hj : j < r.length), j < k → mayV n ((i + j : Nat) : Int) r[j] = 0) → mayV n ((i + k : Nat) : Int) r[k] ≠ 0 → mayAll n i r = mayV n ((i + k : Nat) : Int) r[k]
  | [], _, _, hk, _, _ => by simp at hk
  | v :: r, i, 0, _, _, h => by
    simp only [Nat.add_zero, List.getElem_cons_zero] at h ⊢
    unfold mayAll; rw [if_neg h]
  | v :: r, i, k + 1, hk, h1, h => by
    have h0 := h1 0 (by simp) (by omega)
    simp only [Nat.add_zero, List.getElem_cons_zero] at h0
    unfold mayAll; rw [if_pos h0]
    simp only [List.getElem_cons_succ] at h ⊢
    have e : i + (k + 1) = i + 1 + k := by omega
    rw [e] at h ⊢
    exact mayAll_at n r (i + 1) k (by simpa using hk) (fun j hj hjk => by
      have := h1 (j + 1) (by simpa using hj) (by omega)
      simp only [List.getElem_cons_succ] at this
      rwa [show i + (j + 1) = i + 1 + j by omega] at this) h
theorem mayAll_zero (n : Nat) : ∀ (r : Rws) (i : Nat), (∀ j (hj : j < r.length), mayV n ((i + j : Nat) : Int) r[j] = 0) → mayAll n i r = 0
  | [], _, _ => rfl
  | v :: r, i, h => by
    have h0 := h 0 (by simp)
    simp only [Nat.add_zero, List.getElem_cons_zero] at h0
    unfold mayAll; rw [if_pos h0]
    exact mayAll_zero n r (i + 1) fun j hj => by
      have := h (j + 1) (by simpa using hj)
      simp only [List.getElem_cons_succ] at this
      rwa [show i + (j + 1) = i + 1 + j by omega] at this
def mergeE (rs more : Rws) : Int := if more.length = rs.length then mayAll rs.length 0 more else 2
/-- rows merged, up to one -/
def mergeTo (rs more : Rws) (i : Nat) : Rws := rs.mapIdx fun j r => if j < i then joinL r (more.getD j []) else r
def mergeR (rs more : Rws) : Rws := if mergeE rs more = 0 then mergeTo rs more rs.length else rs
theorem mergeTo_length (rs more : Rws) (i : Nat) : (mergeTo rs more i).length = rs.length := by simp [mergeTo]
theorem mergeTo_at (rs more : Rws) (i j : Nat) (h : j < (mergeTo rs more i).length) : (mergeTo rs more i)[j] = if j < i then joinL (rs[j]'(by rw [mergeTo_length] at h; exact h)) (more.getD j []) else rs[j]'(by rw [mergeTo_length] at h; exact h) := by
  simp [mergeTo]
theorem mergeTo_zero (rs more : Rws) : mergeTo rs more 0 = rs := by
  apply List.ext_getElem (mergeTo_length _ _ _)
  intro j h1 h2
  rw [mergeTo_at]; simp
theorem mergeTo_succ (rs more : Rws) (i : Nat) (h : i < rs.length) : mergeTo rs more (i + 1) = (mergeTo rs more i).set i (joinL rs[i] (more.getD i [])) := by
  apply List.ext_getElem (by rw [List.length_set, mergeTo_length, mergeTo_length])
  intro j h1 h2
  rw [mergeTo_at, List.getElem_set]
  by_cases e : i = j
  · subst e; simp
  · rw [if_neg e, mergeTo_at]
    by_cases c : j < i
    · rw [if_pos c, if_pos (by omega)]
    · rw [if_neg c, if_neg (by omega)]
theorem mergeTo_get (rs more : Rws) (i : Nat) (h : i < rs.length) : (mergeTo rs more i).getD i [] = rs[i] := by
  rw [List.getD_eq_getElem?_getD, List.getElem?_eq_getElem (by rw [mergeTo_length]; exact h), mergeTo_at]
  simp
theorem mergeTo_learn (rs more : Rws) (i : Nat) (h : i < rs.length) (hm : mayV rs.length (i : Int) (more.getD i []) = 0) : learnR (mergeTo rs more i) (i : Int) (more.getD i []) = mergeTo rs more (i + 1) := by
  unfold learnR
  rw [mergeTo_length, if_pos hm, mergeTo_succ _ _ _ h]
  rw [show ((i : Int).toNat) = i by omega, mergeTo_get _ _ _ h]
theorem AllOk.mergeTo {rs more : Rws} (h : AllOk rs) (hm : AllOk more) (i : Nat) : AllOk (mergeTo rs more i) := by
  intro r hr
  obtain ⟨j, hj, rfl⟩ := List.mem_iff_getElem.1 hr
  rw [mergeTo_at]
  have hj' : j < rs.length := by rw [mergeTo_length] at hj; exact hj
  split
  · exact (join_spec (h _ (List.getElem_mem hj')) (hm.at j)).1
  · exact h _ (List.getElem_mem hj')
theorem mayAll_ok {n : Nat} : ∀ {r : Rws} {i : Nat}, mayAll n i r = 0 → AllOk r
  | [], _, _ => fun x hx => by simp at hx
  | v :: r, i, h => by
    unfold mayAll at h
    split at h
    · rename_i h0
      intro x hx
      rcases List.mem_cons.1 hx with rfl | hx
      · exact (mayV_zero h0).2
      · exact mayAll_ok h x hx
    · rename_i h0; exact absurd h h0
theorem AllOk.merge {rs more : Rws} (h : AllOk rs) : AllOk (mergeR rs more) := by
  unfold mergeR
  split
  · rename_i he
    unfold mergeE at he
    split at he
    · exact h.mergeTo (mayAll_ok he) _
    · simp at he
  · exact h
theorem mergeR_length (rs more : Rws) : (mergeR rs more).length = rs.length := by unfold mergeR; split <;> simp [mergeTo_length]
/-- what is stable -/
def stableL (rs : Rws) : List Dot := rs.foldl meetL (rs.getD 0 [])
def minTo (rs : Rws) (p : Int) : Nat → Int
  | 0 => 0
  | k + 1 => if k = 0 ∨ getV (rs.getD k []) p < minTo rs p k then getV (rs.getD k []) p else minTo rs p k
def stableF (rs : Rws) (p : Nat) : Int := minTo rs (p : Int) rs.length
def refStable (rs : Rws) : List Dot := ofL (stableF rs) 64
theorem minTo_bd (rs : Rws) (p : Int) : ∀ k, 0 ≤ minTo rs p k ∧ minTo rs p k ≤ 1048576
  | 0 => by simp [minTo]
  | k + 1 => by
    unfold minTo
    split
    · exact getV_nonneg _ _
    · exact minTo_bd rs p k
theorem fold_meet {rs : Rws} (h : AllOk rs) : ∀ k, k ≤ rs.length → Okv ((rs.take k).foldl meetL (rs.getD 0 [])) ∧ (1 ≤ k → ∀ p, 0 ≤ p → p < 64 → cnt ((rs.take k).foldl meetL (rs.getD 0 [])) p = minTo rs p k)
  | 0, _ => ⟨h.at 0, fun h => absurd h (by omega)⟩
  | k + 1, hk => by
    obtain ⟨i1, i2⟩ := fold_meet h k (by omega)
    have hlt : k < rs.length := by omega
    have hr : Okv rs[k] := h _ (List.getElem_mem hlt)
    rw [List.take_succ_eq_append_getElem hlt, List.foldl_append]
    obtain ⟨m1, m2⟩ := meet_spec i1 hr
    refine ⟨m1, fun _ p hp0 hp1 => ?_⟩
    show cnt (meetL _ rs[k]) p = _
    rw [m2]
    have hg : getV (rs.getD k []) p = cnt rs[k] p := by
      rw [List.getD_eq_getElem?_getD, List.getElem?_eq_getElem hlt]
      show getV rs[k] p = _
      rw [getV_eq, if_pos ((chk_ok _).2 hr)]
    unfold minTo
    rw [hg]
    by_cases hk0 : k = 0
    · subst hk0
      rw [if_pos (Or.inl rfl)]
      show minI (cnt (rs.getD 0 []) p) _ = _
      have : rs.getD 0 [] = rs[0] := by rw [List.getD_eq_getElem?_getD, List.getElem?_eq_getElem hlt]; rfl
      rw [this]; unfold minI; split <;> rfl
    · rw [i2 (by omega) p hp0 hp1]
      unfold minI
      by_cases c : cnt rs[k] p < minTo rs p k
      · rw [if_pos c, if_pos (Or.inr c)]
      · rw [if_neg c, if_neg (by omega)]
theorem stable_eq {rs : Rws} (h : AllOk rs) (hn : 1 ≤ rs.length) : stableL rs = refStable rs := by
  obtain ⟨h1, h2⟩ := fold_meet h rs.length (Nat.le_refl _)
  rw [List.take_length] at h1 h2
  obtain ⟨h3, h4⟩ := ofL_spec (f := stableF rs) fun j => minTo_bd rs (j : Int) rs.length
  refine Okv.ext h1 h3 fun p => ?_
  show cnt (rs.foldl meetL (rs.getD 0 [])) p = cnt (ofL (stableF rs) 64) p
  rw [h4]
  by_cases c : 0 ≤ p ∧ p < 64
  · rw [if_pos c, h2 hn p c.1 c.2]
    unfold stableF
    rw [show ((p.toNat : Nat) : Int) = p by omega]
  · rw [if_neg c]; exact cnt_out h1 p c
theorem stable_ok {rs : Rws} (h : AllOk rs) : Okv (stableL rs) := by
  have := (fold_meet h rs.length (Nat.le_refl _)).1
  rwa [List.take_length] at this
theorem fold_le {rs : Rws} : ∀ {l : Rws} {a : List Dot}, Okv a → AllOk l → ∀ p, cnt (l.foldl meetL a) p ≤ cnt a p ∧ (∀ r ∈ l, cnt (l.foldl meetL a) p ≤ cnt r p) ∧ ∀ x, x ≤ cnt a p → (∀ r ∈ l, x ≤ cnt r p) → x ≤ cnt (l.foldl meetL a) p
  | [], a, _, _, p => ⟨Int.le_refl _, fun r hr => by simp at hr, fun x hx _ => hx⟩
  | r :: l, a, ha, hl, p => by
    have hr := hl r (by simp)
    obtain ⟨m1, m2⟩ := meet_spec ha hr
    obtain ⟨i1, i2, i3⟩ := fold_le (rs := rs) (l := l) m1 (fun x hx => hl x (by simp [hx])) p
    have hm := m2 p
    show cnt (l.foldl meetL (meetL a r)) p ≤ _ ∧ _
    refine ⟨?_, fun x hx => ?_, fun x hx hxs => ?_⟩
    · rw [hm] at i1; unfold minI at i1; split at i1 <;> omega
    · rcases List.mem_cons.1 hx with rfl | hx
      · show cnt (l.foldl meetL (meetL a x)) p ≤ _
        rw [hm] at i1; unfold minI at i1; split at i1 <;> omega
      · exact i2 x hx
    · refine i3 x ?_ (fun y hy => hxs y (by simp [hy]))
      have := hxs r (by simp)
      rw [hm]; unfold minI; split <;> omega
/-- what is stable is within each row, and is the greatest such -/
theorem stable_le {rs : Rws} (h : AllOk rs) (p : Int) : ∀ r ∈ rs, cnt (stableL rs) p ≤ cnt r p := (fold_le (rs := rs) (h.at 0) h p).2.1
theorem stable_ge {rs : Rws} (h : AllOk rs) (hn : 1 ≤ rs.length) (p x : Int) (hx : ∀ r ∈ rs, x ≤ cnt r p) : x ≤ cnt (stableL rs) p := by
  refine (fold_le (rs := rs) (h.at 0) h p).2.2 x ?_ hx
  have : rs.getD 0 [] = rs[0] := by rw [List.getD_eq_getElem?_getD, List.getElem?_eq_getElem (by omega)]; rfl
  rw [this]; exact hx _ (List.getElem_mem _)
theorem learn_cnt {rs : Rws} (h : AllOk rs) (q : Int) (v : List Dot) (i : Nat) (hi : i < rs.length) (p : Int) :
    cnt ((learnR rs q v)[i]'(by rw [learnR_length]; exact hi)) p = if mayV rs.length q v = 0 ∧ q = (i : Int) then maxI (cnt rs[i] p) (cnt v p) else cnt rs[i] p := by
  unfold learnR
  by_cases hm : mayV rs.length q v = 0
  · obtain ⟨hq, hv⟩ := mayV_zero hm
    simp only [hm, if_true, true_and]
    rw [List.getElem_set]
    by_cases e : q = (i : Int)
    · have e2 : q.toNat = i := by omega
      have e3 : rs.getD q.toNat [] = rs[i] := by rw [e2, List.getD_eq_getElem?_getD, List.getElem?_eq_getElem hi]; rfl
      rw [if_pos e2, if_pos e, e3]
      exact (join_spec (h _ (List.getElem_mem hi)) hv).2 p
    · rw [if_neg (by omega), if_neg e]
  · simp only [hm, if_false, false_and]
theorem stable_mono {rs : Rws} (h : AllOk rs) (hn : 1 ≤ rs.length) (q : Int) (v : List Dot) : withinB (stableL rs) (stableL (learnR rs q v)) = true := by
  have h2 := h.learn q v
  rw [withinB_iff]
  refine ⟨stable_ok h, stable_ok h2, fun p => ?_⟩
  refine stable_ge h2 (by rw [learnR_length]; exact hn) p _ fun r hr => ?_
  obtain ⟨i, hi, rfl⟩ := List.mem_iff_getElem.1 hr
  have hi2 : i < rs.length := by rw [learnR_length] at hi; exact hi
  rw [learn_cnt h q v i hi2 p]
  have := stable_le h p _ (List.getElem_mem hi2)
  split
  · unfold maxI; split <;> omega
  · exact this
theorem stable_within {rs : Rws} (h : AllOk rs) (i : Nat) (hi : i < rs.length) : withinB (stableL rs) rs[i] = true := by
  rw [withinB_iff]
  exact ⟨stable_ok h, h _ (List.getElem_mem hi), fun p => stable_le h p _ (List.getElem_mem hi)⟩
theorem within_nil {b : List Dot} (h : Okv b) : withinB [] b = true := by
  rw [withinB_iff]
  exact ⟨Okv.nil, h, fun p => (cnt_nonneg h p).1⟩
/-- some facts, in turn -/
abbrev Fct := Int × List Dot
def learnS (rs : Rws) (l : List Fct) : Rws := l.foldl (fun r f => learnR r f.1 f.2) rs
theorem learnS_length : ∀ (l : List Fct) (rs : Rws), (learnS rs l).length = rs.length
  | [], _ => rfl
  | f :: l, rs => by show (learnS (learnR rs f.1 f.2) l).length = _; rw [learnS_length l, learnR_length]
theorem learnS_ok : ∀ (l : List Fct) {rs : Rws}, AllOk rs → AllOk (learnS rs l)
  | [], _, h => h
  | f :: l, rs, h => learnS_ok l (h.learn f.1 f.2)
theorem learnS_snoc (rs : Rws) (l : List Fct) (f : Fct) : learnS rs (l ++ [f]) = learnR (learnS rs l) f.1 f.2 := by simp [learnS]
def upB (n i : Nat) (f : Fct) : Bool := decide (mayV n f.1 f.2 = 0 ∧ f.1 = (i : Int))
theorem learnS_cnt (i : Nat) (p : Int) : ∀ (l : List Fct) {rs : Rws} (h : AllOk rs) (hi : i < rs.length) (x : Int),
    cnt ((learnS rs l)[i]'(by rw [learnS_length]; exact hi)) p ≤ x ↔ cnt rs[i] p ≤ x ∧ ∀ f ∈ l, upB rs.length i f = true → cnt f.2 p ≤ x
  | [], rs, h, hi, x => by simp [learnS]
  | f :: l, rs, h, hi, x => by
    have ih := learnS_cnt i p l (h.learn f.1 f.2) (by rw [learnR_length]; exact hi) x
    refine Iff.trans ih ?_
    rw [learn_cnt h f.1 f.2 i hi p, learnR_length]
    simp only [List.forall_mem_cons, ← and_assoc]
    refine and_congr ?_ Iff.rfl
    unfold upB
    by_cases c : mayV rs.length f.1 f.2 = 0 ∧ f.1 = (i : Int)
    · rw [if_pos c, decide_eq_true c]
      simp only [true_implies]
      unfold maxI; split <;> omega
    · rw [if_neg c, decide_eq_false c]; simp
/-- the order of facts does not matter -/
theorem learnS_rev (l : List Fct) (n : Nat) : learnS (List.replicate n []) l.reverse = learnS (List.replicate n []) l := by
  apply List.ext_getElem (by rw [learnS_length, learnS_length])
  intro i h1 h2
  have hi : i < (List.replicate n ([] : List Dot)).length := by rw [learnS_length] at h2; exact h2
  have ok := AllOk.rep n
  refine Okv.ext (learnS_ok _ ok _ (List.getElem_mem _)) (learnS_ok _ ok _ (List.getElem_mem _)) fun p => ?_
  apply Int.le_antisymm
  · rw [learnS_cnt i p _ ok hi]
    have := (learnS_cnt i p l ok hi _).1 (Int.le_refl _)
    exact ⟨this.1, fun f hf => this.2 f (List.mem_reverse.1 hf)⟩
  · rw [learnS_cnt i p _ ok hi]
    have := (learnS_cnt i p l.reverse ok hi _).1 (Int.le_refl _)
    exact ⟨this.1, fun f hf => this.2 f (List.mem_reverse.2 hf)⟩
end Go.Proofs.Ytpaogcighlfelaa
