/- Kids: slices.Clone. -/
import Derived.Test.YtfobnemocodomaaKidD
set_option linter.unusedVariables false
set_option linter.unusedSimpArgs false
set_option maxHeartbeats 2000000
namespace Go.Proofs.Ytfobnemocodomaa
open Go.RowKit Go.Great

def kCells (l : List Kx) : List Value := l.flatMap Kx.cells
theorem kCells_len : ∀ (l : List Kx), (∀ x ∈ l, x.ok) → (kCells l).length = l.length * 33
  | [], _ => rfl
  | x :: r, h => by
    have e : kCells (x :: r) = x.cells ++ kCells r := by simp [kCells]
    rw [e, List.length_append, Kx.len (h x (by simp)), kCells_len r (fun y hy => h y (by simp [hy])), List.length_cons]; omega
theorem kCells_at : ∀ (l : List Kx), (∀ x ∈ l, x.ok) → ∀ (i j : Nat) (h : i < l.length) (v : Value), l[i].cells[j]? = some v → (kCells l)[i * 33 + j]? = some v
  | [], _, i, j, h, v, hv => by simp at h
  | x :: r, ho, i, j, h, v, hv => by
    have e : kCells (x :: r) = x.cells ++ kCells r := by simp [kCells]
    have hl : x.cells.length = 33 := Kx.len (ho x (by simp))
    rw [e]
    cases i with
    | zero =>
      simp only [List.getElem_cons_zero] at hv
      have hj : j < 33 := by rw [← hl]; exact (List.getElem?_eq_some_iff.1 hv).1
      rw [List.getElem?_append_left (by rw [hl]; omega), Nat.zero_mul, Nat.zero_add]
      exact hv
    | succ i =>
      simp only [List.getElem_cons_succ] at hv
      rw [List.getElem?_append_right (by rw [hl]; omega), hl, show (i + 1) * 33 + j - 33 = i * 33 + j by omega]
      exact kCells_at r (fun y hy => ho y (by simp [hy])) i j (by simpa using h) v hv
theorem kOnes (l : List Kx) : ∀ u ∈ kCells l, u.oneCell' = true := by
  intro u hu
  unfold kCells at hu
  rw [List.mem_flatMap] at hu
  obtain ⟨x, _, hu⟩ := hu
  unfold Kx.cells at hu
  rcases List.mem_cons.1 hu with rfl | hu
  · rfl
  · have := digC_one x.D
    rw [Array.all_eq_true_iff_forall_mem] at this
    exact this u (by simpa using hu)
theorem Kids.oks {W : World} {A : Option Addr} {l : List Kx} (h : Kids W A l) : ∀ x ∈ l, x.ok := fun x hx => by
  obtain ⟨i, hi, rfl⟩ := List.getElem_of_mem hx
  obtain ⟨_, _, h, _⟩ := h.2 i hi; exact h
theorem Kids.cells {w : World} {ad : Addr} {l : List Kx} (h : Kids w (some ad) l) : ∀ (j : Nat) (u : Value), (kCells l)[j]? = some u → w.cell? (ad.add j) = some u := by
  intro j u hj
  have hlt := (List.getElem?_eq_some_iff.1 hj).1
  rw [kCells_len l h.oks] at hlt
  have hi : j / 33 < l.length := by omega
  obtain ⟨ad', e, hok, h1⟩ := h.2 (j / 33) hi
  cases e
  have hjm : j % 33 < l[j / 33].cells.length := by rw [Kx.len hok]; omega
  have hv := List.getElem?_eq_getElem hjm
  have h2 := kCells_at l h.oks (j / 33) (j % 33) hi _ hv
  rw [show j / 33 * 33 + j % 33 = j by omega, hj] at h2
  have h3 := h1 (j % 33) _ hv
  rw [← h2] at h3
  have e3 : (ad.add (j / 33 * 33)).add (j % 33) = ad.add j := by
    unfold Addr.add
    by_cases z : j % 33 = 0
    · rw [if_pos z]
      by_cases y : j / 33 * 33 = 0
      · rw [if_pos y, if_pos (by omega)]
      · rw [if_neg y, if_neg (by omega)]
        rw [show j / 33 * 33 = j by omega]
    · rw [if_neg z, if_neg (by omega : ¬ j = 0)]
      by_cases y : j / 33 * 33 = 0
      · rw [if_pos y, show j % 33 = j by omega]
      · rw [if_neg y]
        show (⟨ad.block, ad.off + j / 33 * 33 + j % 33, none⟩ : Addr) = ⟨ad.block, ad.off + j, none⟩
        rw [show ad.off + j / 33 * 33 + j % 33 = ad.off + j by omega]
  rw [e3] at h3
  exact h3
theorem infoKid : ∃ z, (Try.prog.info? 88).map (fun i => (i.zero, i.size, i.bytes)) = some (some (.agg z), 33, 48) ∧ z.size = 33 := by
  refine ⟨(Kx.cells ⟨⟨#[]⟩, List.replicate 32 0⟩).toArray, by kernel_rfl, by simp [Kx.cells, digC]⟩
theorem own_kids {W : World} {g : Nat} {v : Value} {l : List Kx} (h : OwnG 88 33 W g v l.length (kCells l)) (ho : ∀ x ∈ l, x.ok) : ∃ A c, v = .slice A l.length c ∧ l.length ≤ c ∧ (∀ D, A = some D → D.block = g) ∧ Kids W A l := by
  obtain ⟨c, rfl, h1, h2⟩ := h.shape
  refine ⟨_, c, rfl, h1, (fun D hD => by cases hD; rfl), by unfold maxLen at h2; omega, fun i hi => ⟨_, rfl, ho _ (List.getElem_mem hi), fun j u hj => ?_⟩⟩
  have e : (((⟨g, 0, none⟩ : Addr).add (i * 33)).add j) = ⟨g, i * 33 + j, none⟩ := by
    unfold Addr.add
    split <;> split <;> simp_all
  rw [e]
  exact (h.cell _ u (kCells_at l ho i j hi u hj)).1
theorem add_block (a : Addr) (j : Nat) : (a.add j).block = a.block := by unfold Addr.add; split <;> rfl
theorem cell_addr {W W' : World} (D : Addr) (h : W'.heap[D.block]? = W.heap[D.block]?) : W'.cell? D = W.cell? D := by simp only [World.cell?, h]
theorem Kids.other {W W' : World} {A : Option Addr} {l : List Kx} (h : Kids W A l) (hA : ∀ D, A = some D → W'.heap[D.block]? = W.heap[D.block]?) : Kids W' A l :=
  ⟨h.1, fun i hi => by
    obtain ⟨ad, e, a, b⟩ := h.2 i hi
    refine ⟨ad, e, a, fun j v hj => ?_⟩
    have hb := b j v hj
    have hk := hA ad e
    have e1 : ((ad.add (i * 33)).add j).block = ad.block := by rw [add_block, add_block]
    rw [← hb]
    exact cell_addr _ (by rw [e1]; exact hk)⟩
theorem kFresh (w : World) : OwnG 88 33 (w.alloc (.cells #[] 88)) w.heap.size (.slice (some ⟨w.heap.size, 0, none⟩) 0 0) 0 [] :=
  ⟨0, #[], rfl, World.alloc_heap_new _ _, Nat.le_refl _, by simp [maxLen], by simp, by simp, by simp⟩
set_option maxRecDepth 100000 in
theorem kClone_any (A : Option Addr) (c : Nat) (l : List Kx) (w : World) (h : Kids w A l) (hl : l.length ≤ 100000) :
    Calls Try.prog 76 #[.slice A l.length c] w fun r w' => (∃ A' c', r = .returned (.slice A' l.length c') ∧ l.length ≤ c' ∧ (∀ D, A' = some D → w.heap.size ≤ D.block) ∧ Kids w' A' l) ∧ Gr w w' := by
  have hu := Try.underlying29
  cases A with
  | none =>
    have hl0 : l = [] := by
      cases l with
      | nil => rfl
      | cons d r => obtain ⟨ad, e, _⟩ := h.2 0 (by simp); cases e
    subst hl0
    have hrun : ∀ w, (binOp .eql 29 (.slice none 0 c) (.slice none 0 0)).run Try.prog w = .ok (.bool true) w := fun w => Lib.run_eql_slice_nil w _ _ none 0 c 0 0 hu
    clear h
    go_enter Try.func76, Try.ntmps76
    go_wp2
    go_ret
    exact ⟨⟨none, 0, rfl, by simp, (fun _ h => by cases h), Kids.nil _ _⟩, Gr.rfl' _⟩
  | some ad =>
    have hoks := h.oks
    have hga : Gr w (w.alloc (.cells #[] 88)) := (Gr.rfl' w).al _
    have HD := Lib.hid (h.gr hga).cells
    obtain ⟨z, hz, hzz⟩ := infoKid
    obtain ⟨i0, hi, hz0, hz1, hz2⟩ := info_parts hz
    have HO := Lib.hid (kFresh w)
    have HOK := Lib.hid hoks
    have HKL := Lib.hid (kCells_len l hoks)
    have hrun : ∀ w, (binOp .eql 29 (.slice (some ad) l.length c) (.slice none 0 0)).run Try.prog w = .ok (.bool false) w := fun w => Lib.run_eql_slice_nil w _ _ (some ad) l.length c 0 0 hu
    clear h hz hoks
    go_enter Try.func76, Try.ntmps76
    go_wp2_with (at_builtin; go_loud (refine wp_appendG rfl _ _ 29 rfl 88 i0 (.agg z) 33 48 Try.underlying29 hi hz0 hz1 hz2 hzz (by decide) w.heap.size _ 0 [] rfl HO.out ad l.length c (kCells l) rfl HKL.out HD.out (kOnes l) (by simp only [maxLen]; omega) (by omega) ?_); intro v' w2 g' hown' hg' hgrow; rw [Nat.zero_add, List.nil_append] at hown'; obtain ⟨A', c', hv', hlc, hgb, hk'⟩ := own_kids hown' HOK.out; subst hv')
    refine bodyPost_ret (v := .slice A' l.length c') (by simp [results, Try.results76, go_sem]) rfl ?_
    exact ⟨⟨A', c', rfl, hlc, (fun D hD => by have hz : (w.alloc (.cells #[] 88)).heap.size = w.heap.size + 1 := (by simp); have := hgb D hD; rcases hg' with e | e <;> omega), hk'⟩, hga.grown hgrow (Nat.le_of_lt (by simp)) (fun k hk => by cases hk; omega)⟩
end Go.Proofs.Ytfobnemocodomaa
