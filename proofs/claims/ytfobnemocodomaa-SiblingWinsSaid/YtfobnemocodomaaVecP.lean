/- The plain laws of vectors: what the merge of two says of their counts. No program in it but the names. -/
import Derived.Test.YtfobnemocodomaaWithin
import Derived.Test.YtfobnemocodomaaVecD
set_option linter.unusedVariables false
set_option linter.unusedSimpArgs false
namespace Go.Proofs.Ytfobnemocodomaa
open Go.RowKit

theorem Okv.nil : Okv [] := ⟨by simp, List.Pairwise.nil⟩
theorem Okv.cons_iff {x : Dot} {a : List Dot} : Okv (x :: a) ↔ (0 ≤ x.1 ∧ x.1 < 64 ∧ 1 ≤ x.2 ∧ x.2 ≤ 1048576) ∧ (∀ d ∈ a, x.1 < d.1) ∧ Okv a := by
  unfold Okv
  rw [List.pairwise_cons]
  simp only [List.mem_cons, forall_eq_or_imp]
  constructor
  · rintro ⟨⟨h1, h2⟩, h3, h4⟩; exact ⟨h1, h3, h2, h4⟩
  · rintro ⟨h1, h3, h2, h4⟩; exact ⟨⟨h1, h2⟩, h3, h4⟩
theorem cnt_mem {l : List Dot} (h : Okv l) {d : Dot} (hd : d ∈ l) : cnt l d.1 = d.2 := by
  obtain ⟨i, hi, rfl⟩ := List.getElem_of_mem hd
  exact cnt_at l h i hi
theorem cnt_gt {l : List Dot} {p : Int} (h : ∀ d ∈ l, p < d.1) : cnt l p = 0 := cnt_none l p fun d hd e => by have := h d hd; omega
theorem cnt_cons (x : Dot) (l : List Dot) (p : Int) : cnt (x :: l) p = if x.1 = p then x.2 else cnt l p := rfl
theorem cnt_nonneg {l : List Dot} (h : Okv l) (p : Int) : 0 ≤ cnt l p ∧ cnt l p ≤ 1048576 := by
  by_cases c : ∃ d ∈ l, d.1 = p
  · obtain ⟨d, hd, rfl⟩ := c
    rw [cnt_mem h hd]; have := h.1 d hd; omega
  · rw [cnt_none l p fun d hd e => c ⟨d, hd, e⟩]; omega
theorem cnt_pos {l : List Dot} (h : Okv l) {p : Int} (hp : 0 < cnt l p) : ∃ d ∈ l, d.1 = p ∧ d.2 = cnt l p := by
  by_cases c : ∃ d ∈ l, d.1 = p
  · obtain ⟨d, hd, rfl⟩ := c
    exact ⟨d, hd, rfl, (cnt_mem h hd).symm⟩
  · rw [cnt_none l p fun d hd e => c ⟨d, hd, e⟩] at hp; omega

structure MSpec (a b : List Dot) (M : List (Int × Int × Int)) : Prop where
  sorted : M.Pairwise fun x y => x.1 < y.1
  ofm : ∀ x ∈ M, x.2.1 = cnt a x.1 ∧ x.2.2 = cnt b x.1 ∧ ((∃ d ∈ a, d.1 = x.1) ∨ (∃ d ∈ b, d.1 = x.1))
  ina : ∀ d ∈ a, (d.1, cnt a d.1, cnt b d.1) ∈ M
  inb : ∀ d ∈ b, (d.1, cnt a d.1, cnt b d.1) ∈ M

theorem MSpec.gt {a b : List Dot} {M : List (Int × Int × Int)} (h : MSpec a b M) {p : Int} (ha : ∀ d ∈ a, p < d.1) (hb : ∀ d ∈ b, p < d.1) : ∀ x ∈ M, p < x.1 := by
  intro x hx
  rcases (h.ofm x hx).2.2 with ⟨d, hd, e⟩ | ⟨d, hd, e⟩
  · have := ha d hd; omega
  · have := hb d hd; omega

theorem MSpec.stepA {x : Dot} {a b : List Dot} {M : List (Int × Int × Int)} (ha : Okv (x :: a)) (hb : ∀ d ∈ b, x.1 < d.1) (h : MSpec a b M) : MSpec (x :: a) b ((x.1, x.2, 0) :: M) := by
  obtain ⟨_, hax, _⟩ := Okv.cons_iff.1 ha
  have hg := h.gt hax hb
  refine ⟨List.pairwise_cons.2 ⟨hg, h.sorted⟩, ?_, ?_, ?_⟩
  · intro z hz
    rcases List.mem_cons.1 hz with rfl | hz
    · exact ⟨by simp [cnt_cons], (cnt_gt hb).symm, .inl ⟨x, by simp, rfl⟩⟩
    · obtain ⟨h1, h2, h3⟩ := h.ofm z hz
      have := hg z hz
      exact ⟨by rw [cnt_cons, if_neg (by omega)]; exact h1, h2, h3.imp (fun ⟨d, hd, e⟩ => ⟨d, by simp [hd], e⟩) id⟩
  · intro d hd
    rcases List.mem_cons.1 hd with rfl | hd
    · rw [cnt_cons, if_pos rfl, cnt_gt hb]; simp
    · have := hax d hd
      rw [cnt_cons, if_neg (by omega)]
      exact List.mem_cons_of_mem _ (h.ina d hd)
  · intro d hd
    have := hb d hd
    rw [cnt_cons, if_neg (by omega)]
    exact List.mem_cons_of_mem _ (h.inb d hd)
theorem MSpec.stepB {y : Dot} {a b : List Dot} {M : List (Int × Int × Int)} (hb : Okv (y :: b)) (ha : ∀ d ∈ a, y.1 < d.1) (h : MSpec a b M) : MSpec a (y :: b) ((y.1, 0, y.2) :: M) := by
  obtain ⟨_, hbx, _⟩ := Okv.cons_iff.1 hb
  have hg := h.gt ha hbx
  refine ⟨List.pairwise_cons.2 ⟨hg, h.sorted⟩, ?_, ?_, ?_⟩
  · intro z hz
    rcases List.mem_cons.1 hz with rfl | hz
    · exact ⟨(cnt_gt ha).symm, by simp [cnt_cons], .inr ⟨y, by simp, rfl⟩⟩
    · obtain ⟨h1, h2, h3⟩ := h.ofm z hz
      have := hg z hz
      exact ⟨h1, by rw [cnt_cons, if_neg (by omega)]; exact h2, h3.imp id (fun ⟨d, hd, e⟩ => ⟨d, by simp [hd], e⟩)⟩
  · intro d hd
    have := ha d hd
    rw [cnt_cons y, if_neg (by omega)]
    exact List.mem_cons_of_mem _ (h.ina d hd)
  · intro d hd
    rcases List.mem_cons.1 hd with rfl | hd
    · rw [cnt_cons, if_pos rfl, cnt_gt ha]; simp
    · have := hbx d hd
      rw [cnt_cons y, if_neg (by omega)]
      exact List.mem_cons_of_mem _ (h.inb d hd)
theorem MSpec.stepC {x y : Dot} {a b : List Dot} {M : List (Int × Int × Int)} (ha : Okv (x :: a)) (hb : Okv (y :: b)) (e : x.1 = y.1) (h : MSpec a b M) : MSpec (x :: a) (y :: b) ((x.1, x.2, y.2) :: M) := by
  obtain ⟨_, hax, _⟩ := Okv.cons_iff.1 ha
  obtain ⟨_, hbx, _⟩ := Okv.cons_iff.1 hb
  have hg := h.gt hax (fun d hd => by have := hbx d hd; omega)
  refine ⟨List.pairwise_cons.2 ⟨hg, h.sorted⟩, ?_, ?_, ?_⟩
  · intro z hz
    rcases List.mem_cons.1 hz with rfl | hz
    · exact ⟨by simp [cnt_cons], by simp [cnt_cons, e], .inl ⟨x, by simp, rfl⟩⟩
    · obtain ⟨h1, h2, h3⟩ := h.ofm z hz
      have := hg z hz
      exact ⟨by rw [cnt_cons, if_neg (by omega)]; exact h1, by rw [cnt_cons, if_neg (by omega)]; exact h2, h3.imp (fun ⟨d, hd, e⟩ => ⟨d, by simp [hd], e⟩) (fun ⟨d, hd, e⟩ => ⟨d, by simp [hd], e⟩)⟩
  · intro d hd
    rcases List.mem_cons.1 hd with rfl | hd
    · rw [cnt_cons, if_pos rfl, cnt_cons, if_pos e.symm]; simp
    · have := hax d hd
      rw [cnt_cons, if_neg (by omega), cnt_cons, if_neg (by omega)]
      exact List.mem_cons_of_mem _ (h.ina d hd)
  · intro d hd
    rcases List.mem_cons.1 hd with rfl | hd
    · rw [cnt_cons, if_pos e, cnt_cons, if_pos rfl, e]; simp
    · have := hbx d hd
      rw [cnt_cons, if_neg (by omega), cnt_cons, if_neg (by omega)]
      exact List.mem_cons_of_mem _ (h.inb d hd)

theorem mrg_spec (a b : List Dot) (ha : Okv a) (hb : Okv b) : MSpec a b (mrg a b) := by
  fun_induction mrg a b with
  | case1 b =>
    induction b with
    | nil => exact ⟨List.Pairwise.nil, by simp, by simp, by simp⟩
    | cons y b ih => exact MSpec.stepB hb (by simp) (ih (Okv.cons_iff.1 hb).2.2)
  | case2 x a ih => exact MSpec.stepA ha (by simp) (ih (Okv.cons_iff.1 ha).2.2 hb)
  | case3 x a y b h ih =>
    obtain ⟨_, h1, h2⟩ := Okv.cons_iff.1 ha
    obtain ⟨_, h3, h4⟩ := Okv.cons_iff.1 hb
    exact MSpec.stepA ha (fun d hd => by rcases List.mem_cons.1 hd with rfl | hd; exact h; have := h3 d hd; omega) (ih h2 hb)
  | case4 x a y b h h' ih =>
    obtain ⟨_, h1, h2⟩ := Okv.cons_iff.1 ha
    obtain ⟨_, h3, h4⟩ := Okv.cons_iff.1 hb
    exact MSpec.stepB hb (fun d hd => by rcases List.mem_cons.1 hd with rfl | hd; exact h'; have := h1 d hd; omega) (ih ha h4)
  | case5 x a y b h h' ih =>
    obtain ⟨_, h1, h2⟩ := Okv.cons_iff.1 ha
    obtain ⟨_, h3, h4⟩ := Okv.cons_iff.1 hb
    exact MSpec.stepC ha hb (by omega) (ih h2 h4)

theorem leB_iff {a b : List Dot} (ha : Okv a) (hb : Okv b) : leB (mrg a b) = true ↔ ∀ p, cnt a p ≤ cnt b p := by
  have h := mrg_spec a b ha hb
  unfold leB
  rw [List.all_eq_true]
  simp only [decide_eq_true_eq]
  constructor
  · intro hl p
    by_cases c : 0 < cnt a p
    · obtain ⟨d, hd, rfl, _⟩ := cnt_pos ha c
      exact hl _ (h.ina d hd)
    · have := cnt_nonneg hb p; omega
  · intro hl x hx
    obtain ⟨h1, h2, _⟩ := h.ofm x hx
    rw [h1, h2]; exact hl _
theorem inB_iff {a b : List Dot} (ha : Okv a) (hb : Okv b) : inB a b = true ↔ ∀ p, cnt a p ≤ cnt b p := by
  have hcb := (chk_ok b).2 hb
  unfold inB hasV
  simp only [List.all_eq_true, Bool.and_eq_true, decide_eq_true_eq, getV_eq, hcb, if_true]
  constructor
  · intro hl p
    by_cases c : 0 < cnt a p
    · obtain ⟨d, hd, rfl, e⟩ := cnt_pos ha c
      have := (hl d hd).2; omega
    · have := cnt_nonneg hb p; omega
  · intro hl d hd
    have := ha.1 d hd
    have := hl d.1
    rw [cnt_mem ha hd] at this
    exact ⟨by omega, this⟩
theorem within_eq (a b : List Dot) : withinB a b = refWithinB a b := by
  unfold withinB refWithinB
  by_cases ha : chk a = 0
  · by_cases hb : chk b = 0
    · have : leB (mrg a b) = inB a b := by
        rw [Bool.eq_iff_iff, leB_iff ((chk_ok a).1 ha) ((chk_ok b).1 hb), inB_iff ((chk_ok a).1 ha) ((chk_ok b).1 hb)]
      rw [this]
    · simp [hb]
  · simp [ha]
theorem cmp_eq (a b : List Dot) : cmpI a b = refCmpI a b := by unfold cmpI refCmpI; rw [within_eq, within_eq]

theorem withinB_iff (a b : List Dot) : withinB a b = true ↔ Okv a ∧ Okv b ∧ ∀ p, cnt a p ≤ cnt b p := by
  unfold withinB
  by_cases ha : chk a = 0
  · by_cases hb : chk b = 0
    · simp only [ha, hb, decide_true, Bool.true_and, leB_iff ((chk_ok a).1 ha) ((chk_ok b).1 hb)]
      exact ⟨fun h => ⟨(chk_ok a).1 ha, (chk_ok b).1 hb, h⟩, fun h => h.2.2⟩
    · simp only [hb, decide_false, Bool.and_false, Bool.false_and, Bool.false_eq_true, false_iff]
      exact fun h => hb ((chk_ok b).2 h.2.1)
  · simp only [ha, decide_false, Bool.false_and, Bool.false_eq_true, false_iff]
    exact fun h => ha ((chk_ok a).2 h.1)

/-- two vectors of the same counts are one -/
theorem Okv.ext : ∀ {a b : List Dot}, Okv a → Okv b → (∀ p, cnt a p = cnt b p) → a = b
  | [], [], _, _, _ => rfl
  | [], y :: b, _, hb, h => by have e := h y.1; have := (Okv.cons_iff.1 hb).1; rw [cnt_cons, if_pos rfl] at e; simp only [cnt] at e; omega
  | x :: a, [], ha, _, h => by have e := h x.1; have := (Okv.cons_iff.1 ha).1; rw [cnt_cons, if_pos rfl] at e; simp only [cnt] at e; omega
  | x :: a, y :: b, ha, hb, h => by
    obtain ⟨hx, h1, h2⟩ := Okv.cons_iff.1 ha
    obtain ⟨hy, h3, h4⟩ := Okv.cons_iff.1 hb
    have hxy : x.1 = y.1 := by
      rcases Int.lt_trichotomy x.1 y.1 with c | c | c
      · have e := h x.1
        rw [cnt_cons, if_pos rfl, cnt_gt (l := y :: b) (fun d hd => by rcases List.mem_cons.1 hd with rfl | hd; exact c; have := h3 d hd; omega)] at e
        omega
      · exact c
      · have e := h y.1
        rw [cnt_cons y, if_pos rfl, cnt_gt (l := x :: a) (fun d hd => by rcases List.mem_cons.1 hd with rfl | hd; exact c; have := h1 d hd; omega)] at e
        omega
    have hx2 : x.2 = y.2 := by
      have e := h x.1
      rwa [cnt_cons, if_pos rfl, cnt_cons, if_pos hxy.symm] at e
    have : a = b := Okv.ext h2 h4 fun p => by
      have e := h p
      rw [cnt_cons, cnt_cons] at e
      by_cases c : x.1 = p
      · rw [cnt_gt (p := p) (fun d hd => by have := h1 d hd; omega), cnt_gt (p := p) (fun d hd => by have := h3 d hd; omega)]
      · rwa [if_neg c, if_neg (by omega)] at e
    rw [this, Prod.ext hxy hx2]
end Go.Proofs.Ytfobnemocodomaa
