/- Versions: slices.Grow from nothing, slices.Concat. -/
import Derived.Test.YtfobnemocodomaaSibE
import Derived.Lib.AppendZeros
set_option linter.unusedVariables false
set_option linter.unusedSimpArgs false
set_option maxHeartbeats 2000000
namespace Go.Proofs.Ytfobnemocodomaa
open Go.RowKit Go.Great

/-- nothing is appended -/
theorem run_append0 {P : Program} (w : World) (t ty E : TypeId) (i : TypeInfo) (ht : P.underlying t = some (.slice E)) (hi : P.info? E = some i) (b A : Option Addr) (n cap c : Nat) (hn : n ≤ cap) :
    (Builtin.append_ #[t, t] ty #[.slice b n cap, .slice A 0 c]).run P w = .ok (.slice b n cap) w := by
  cases A <;> cases b <;> simp [Builtin.append_, run_underlying ht, sizeOf, typeInfo, hi, Builtin.lenOf, hn, Builtin.firstCells, loadCells, loadCellsFrom, storeCells]
theorem wp_append0 {P : Program} {w : World} {ops : Array Oper} {rest : List Oper} {o : Oper} {a : Act} {Q : Exit → Act → World → Prop} (hgd : o.guard = none) (s x : Operand) (t : TypeId)
    (ho : o.op = .call { callee := .builtin .append, args := #[s, x], argTypes := #[t, t] })
    (E : TypeId) (i : TypeInfo) (ht : P.underlying t = some (.slice E)) (hi : P.info? E = some i) (b A : Option Addr) (n cap c : Nat) (hs : a.eval s = .slice b n cap) (hx : a.eval x = .slice A 0 c) (hn : n ≤ cap)
    (h : wpList P ops Q rest (a.put o.dst (.slice b n cap)) w) : wpList P ops Q (o :: rest) a w :=
  Lib.wpList_append_run w hgd s x t t ho _ _ hs hx _ _ (run_append0 w t o.type E i ht hi b A n cap c hn) h
theorem z5_cells : (Value.agg Z5).cells.size = 5 := rfl
theorem zero_size (zc : Array Value) (n : Nat) : (Builtin.zeroCells zc n).size = n * zc.size := by simp [Builtin.zeroCells]
set_option maxRecDepth 100000 in
theorem vGrow0_any (w : World) :
    Calls Try.prog 170 #[.slice none 0 0, .int .i64 0] w fun r w' => r = .returned (.slice none 0 0) ∧ w' = w := by
  go_enter Try.func170, Try.ntmps170
  go_wp2
  go_ret
  exact ⟨rfl, rfl⟩
set_option maxRecDepth 100000 in
theorem vGrow_any (n : Nat) (w : World) (h0 : 0 < n) (hn : n ≤ 1000000) :
    Calls Try.prog 170 #[.slice none 0 0, .int .i64 n] w fun r w' => (∃ v, r = .returned v ∧ OwnG 49 5 w' w.heap.size v 0 []) ∧ Gr w w' := by
  obtain ⟨i0, hi, hz0, hzs, hz2⟩ := info_parts infoV
  have h1 : ¬ ((n : Int) < 0) := by omega
  have h2 : wrap64 ((n : Int) - 0) = n := by unfold wrap64; omega
  have h4 : (n : Int) > 0 := by omega
  have hR := Lib.run_append_nil_zeros (P := Try.prog) w 22 3 22 49 i0 (.agg Z5) .i64 .i64 Try.underlying22 Try.underlying3 hi hz0 n h0 (by rw [hzs]; decide) (by omega) (by rw [hz2]; omega)
  have hge := grownCap_ge w n 0 49
  have hle := grownCap_le_maxLen w n 0 49 (by simp only [maxLen]; omega)
  obtain ⟨cc, hcc⟩ : ∃ c, grownCap w n 0 49 = c := ⟨_, rfl⟩
  rw [hcc] at hR hge hle
  have HO : Hid (OwnG 49 5 (w.drew.alloc (.cells (Builtin.zeroCells (Value.agg Z5).cells n ++ Builtin.zeroCells (Value.agg Z5).cells (cc - n)) 49)) w.heap.size (.slice (some ⟨w.heap.size, 0, none⟩) 0 cc) 0 []) := Lib.hid (by
    refine ⟨cc, _, rfl, World.alloc_heap_new _ _, Nat.zero_le _, hle, ?_, by simp, by simp⟩
    rw [Array.size_append, zero_size, zero_size, z5_cells]; omega)
  have HG : Hid (Gr w (w.drew.alloc (.cells (Builtin.zeroCells (Value.agg Z5).cells n ++ Builtin.zeroCells (Value.agg Z5).cells (cc - n)) 49))) := Lib.hid ((Gr.rfl' w).dr.al _)
  have HR := Lib.hid hR
  clear hR
  generalize w.drew.alloc (.cells (Builtin.zeroCells (Value.agg Z5).cells n ++ Builtin.zeroCells (Value.agg Z5).cells (cc - n)) 49) = wa at HR HO HG
  have hcz : (0 : Int) ≤ cc := by omega
  go_enter Try.func170, Try.ntmps170
  go_wp2_with (at_builtin; refine Lib.wpList_append_run _ rfl _ _ _ _ rfl _ _ rfl rfl _ _ HR.out ?_)
  go_ret
  exact ⟨⟨_, rfl, HO.out⟩, HG.out⟩

def allV (rs : List VRow) : List Vx := rs.flatMap fun r => r.l
theorem allV_take {rs : List VRow} {k : Nat} (h : k < rs.length) : allV (rs.take (k + 1)) = allV (rs.take k) ++ rs[k].l := by
  unfold allV
  rw [List.take_succ_eq_append_getElem h, List.flatMap_append]; simp
theorem allV_le (rs : List VRow) : ∀ k, (allV (rs.take k)).length ≤ (allV rs).length := fun k => by
  have e : allV rs = allV (rs.take k) ++ allV (rs.drop k) := by unfold allV; rw [← List.flatMap_append, List.take_append_drop]
  rw [e, List.length_append]; omega
theorem Vers.none {w : World} {l : List Vx} (h : Vers w none l) : l = [] := by
  cases l with
  | nil => rfl
  | cons x r => obtain ⟨ad, e, _⟩ := h.2 0 (by simp); cases e
theorem Vers.cells {w : World} {ad : Addr} {l : List Vx} (h : Vers w (some ad) l) : ∀ (j : Nat) (u : Value), (vCells l)[j]? = some u → w.cell? (ad.add j) = some u := by
  intro j u hj
  have hlt := (List.getElem?_eq_some_iff.1 hj).1
  rw [vCells_len] at hlt
  have hi : j / 5 < l.length := by omega
  obtain ⟨ad', e, _, h1⟩ := h.2 (j / 5) hi
  cases e
  have hjm : j % 5 < l[j / 5].cells.size := by show j % 5 < 5; omega
  have hv := Array.getElem?_eq_getElem hjm
  have h2 := vCells_at l (j / 5) (j % 5) hi _ hv
  rw [show j / 5 * 5 + j % 5 = j by omega, hj] at h2
  have h3 := h1 (j % 5) _ hv
  rw [← h2] at h3
  have e3 : (ad.add (j / 5 * 5)).add (j % 5) = ad.add j := by
    unfold Addr.add
    by_cases z : j % 5 = 0
    · rw [if_pos z]
      by_cases y : j / 5 * 5 = 0
      · rw [if_pos y, if_pos (by omega)]
      · rw [if_neg y, if_neg (by omega)]
        rw [show j / 5 * 5 = j by omega]
    · rw [if_neg z, if_neg (by omega : ¬ j = 0)]
      by_cases y : j / 5 * 5 = 0
      · rw [if_pos y, show j % 5 = j by omega]
      · rw [if_neg y]
        show (⟨ad.block, ad.off + j / 5 * 5 + j % 5, Option.none⟩ : Addr) = ⟨ad.block, ad.off + j, Option.none⟩
        rw [show ad.off + j / 5 * 5 + j % 5 = ad.off + j by omega]
  rw [e3] at h3
  exact h3
set_option maxRecDepth 100000 in
theorem vConcat_any (A : Option Addr) (cap : Nat) (rs : List VRow) (w : World) (h : VRows w A rs) (hlb : (allV rs).length ≤ 1000000) :
    Calls Try.prog 105 #[.slice A rs.length cap] w fun r w' => (∃ v, r = .returned v ∧ OwnV w' w.heap.size v (allV rs)) ∧ Gr w w' := by
  have H := Lib.hid h; clear h
  have hm := H.out.1
  obtain ⟨i0, hi, hz0, hzs, hz2⟩ := info_parts infoV
  go_enter Try.func105, Try.ntmps105
  go_wp2
  go_loopw [3, 11] (fun s i wr => ∃ k : Nat, k ≤ rs.length ∧ s = .int .i64 (allV (rs.take k)).length ∧ i = .int .i64 k ∧ wr = w) (fun _ i _ => rs.length - (intOf i).toNat)
  case atStart => exact ⟨0, Nat.zero_le _, rfl, rfl, rfl⟩
  case round =>
    obtain ⟨k, hk, rfl, rfl, hww⟩ := hrel
    have hww := hww.symm
    subst hww
    by_cases hlt : k < rs.length
    · have hki : (k : Int) < rs.length := by omega
      obtain ⟨ad, rfl, hc, hv⟩ := H.out.2 k hlt
      have htk := allV_take hlt
      have hle := allV_le rs (k + 1)
      rw [htk, List.length_append] at hle
      obtain ⟨x, hx⟩ : ∃ x, rs[k] = x := ⟨_, rfl⟩
      rw [hx] at hc htk hle
      obtain ⟨Ax, cx, lx⟩ := x
      dsimp only at hc htk hle
      have hw : wrap64 (((allV (rs.take k)).length : Int) + (lx.length : Int)) = ((allV (rs.take (k + 1))).length : Int) := by rw [htk, List.length_append]; unfold wrap64; omega
      have hn0 : ¬ (((allV (rs.take (k + 1))).length : Int) < 0) := by omega
      have HTK := Lib.hid htk
      clear hx hv htk
      go_wp2
      go_roundw
      case rel => exact ⟨k + 1, by omega, by rw [HTK.out, List.length_append, Int.natCast_add], by go_num, trivial⟩
      case measure => simp [intOf]; omega
    · have hki : ¬ (k : Int) < rs.length := by omega
      have hkk : k = rs.length := by omega
      subst hkk
      rw [List.take_length]
      by_cases ht : (allV rs).length = 0
      · have hnil : allV rs = [] := List.eq_nil_of_length_eq_zero ht
        have hz : (((allV rs).length : Nat) : Int) = 0 := by omega
        rw [hz]
        go_wp2_with fail
        refine (vGrow0_any w).mono ?_
        rintro r wa ⟨rfl, hwa⟩
        subst hwa
        have hga := Lib.hid (Gr.rfl' wa)
        go_wp2
        go_loopw [6, 27] (fun v i wr => ∃ k : Nat, k ≤ rs.length ∧ v = .slice none 0 0 ∧ i = .int .i64 k ∧ wr = wa) (fun _ i _ => rs.length - (intOf i).toNat)
        case atStart => exact ⟨0, Nat.zero_le _, rfl, rfl, rfl⟩
        case round =>
          obtain ⟨k, hk, rfl, rfl, hww⟩ := hrel
          have hww := hww.symm
          subst hww
          by_cases hlt : k < rs.length
          · have hki : (k : Int) < rs.length := by omega
            obtain ⟨ad, rfl, hc, hv⟩ := H.out.2 k hlt
            have hle := allV_le rs (k + 1)
            rw [allV_take hlt, List.length_append] at hle
            have hl0 : rs[k].l.length = 0 := by omega
            obtain ⟨x, hx⟩ : ∃ x, rs[k] = x := ⟨_, rfl⟩
            rw [hx] at hc hl0
            obtain ⟨Ax, cx, lx⟩ := x
            dsimp only at hc hl0
            rw [hl0] at hc
            clear hx hv hle
            go_wp2_with (at_builtin; refine wp_append0 rfl _ _ 22 rfl 49 i0 Try.underlying22 hi none Ax 0 0 cx rfl rfl (Nat.le_refl _) ?_)
            go_roundw
            case rel => exact ⟨k + 1, by omega, rfl, by go_num, trivial⟩
            case measure => simp [intOf]; omega
          · have hki : ¬ (k : Int) < rs.length := by omega
            go_wp2
            go_ret
            exact ⟨⟨_, rfl, Or.inl ⟨rfl, rfl⟩⟩, hga.out⟩
      · go_wp2_with fail
        refine (vGrow_any (allV rs).length w (by omega) hlb).mono ?_
        rintro r wa ⟨⟨v0, rfl, hog⟩, hga⟩
        have HOG := Lib.hid hog
        have HGA := Lib.hid hga
        clear hog hga
        go_wp2
        go_loopw [6, 27] (fun v i wq => ∃ k : Nat, k ≤ rs.length ∧ i = .int .i64 k ∧ (∃ g, w.heap.size ≤ g ∧ Hid (OwnG 49 5 wq g v (allV (rs.take k)).length (vCells (allV (rs.take k))))) ∧ Hid (Gr w wq)) (fun _ i _ => rs.length - (intOf i).toNat)
        case atStart => exact ⟨0, Nat.zero_le _, rfl, ⟨_, Nat.le_refl _, HOG⟩, HGA⟩
        case round =>
          clear HOG HGA
          obtain ⟨k, hk, rfl, ⟨g, hgB, HOG⟩, HG⟩ := hrel
          obtain ⟨cv, rfl, hc1, hc2⟩ := HOG.out.shape
          by_cases hlt : k < rs.length
          · have hki : (k : Int) < rs.length := by omega
            obtain ⟨ad, rfl, hc, hv⟩ := (H.out.gr HG.out).2 k hlt
            have htk := allV_take hlt
            have hle := allV_le rs (k + 1)
            rw [htk, List.length_append] at hle
            obtain ⟨x, hx⟩ : ∃ x, rs[k] = x := ⟨_, rfl⟩
            rw [hx] at hc htk hle hv
            obtain ⟨Ax, cx, lx⟩ := x
            dsimp only at hc htk hle hv
            have HTK := Lib.hid htk
            cases Ax with
            | none =>
              have hl0 := hv.none
              subst hl0
              have HOG' : Hid (OwnG 49 5 wr g (.slice (some ⟨g, 0, none⟩) (allV (rs.take k)).length cv) (allV (rs.take (k + 1))).length (vCells (allV (rs.take (k + 1))))) := Lib.hid (by rw [HTK.out, List.append_nil]; exact HOG.out)
              clear hx hv htk hle HTK HOG
              go_wp2_with (at_builtin; refine wp_append0 rfl _ _ 22 rfl 49 i0 Try.underlying22 hi _ none _ _ cx rfl rfl hc1 ?_)
              go_roundw
              case rel => exact ⟨k + 1, by omega, by go_num, ⟨g, hgB, HOG'⟩, HG⟩
              case measure => simp [intOf]; omega
            | some bd =>
              have HCE := Lib.hid hv.cells
              clear hx hv htk
              go_wp2_with (at_builtin; go_loud (refine wp_appendG rfl _ _ 22 rfl 49 i0 (.agg Z5) 5 64 Try.underlying22 hi hz0 hzs hz2 rfl (by decide) g _ _ _ rfl HOG.out bd lx.length cx (vCells lx) rfl (vCells_len lx) HCE.out (vOnes lx) (by simp only [maxLen]; omega) (by omega) ?_); intro v' w4 g' hown' hg' hgrow; have GT4 := Lib.hid (HG.out.grown hgrow HG.out.size (fun j e => by cases e; omega)); have HO4 : Hid (OwnG 49 5 w4 g' v' (allV (rs.take (k + 1))).length (vCells (allV (rs.take (k + 1))))) := Lib.hid (by rw [HTK.out, vCells_app, List.length_append]; exact hown'); have hgs := HG.out.size; have hgB' : w.heap.size ≤ g' := (by rcases hg' with rfl | hg' <;> omega); clear hown' hg' hgrow)
              go_roundw
              case rel => exact ⟨k + 1, by omega, by go_num, ⟨g', hgB', HO4⟩, GT4⟩
              case measure => simp [intOf]; omega
          · have hki : ¬ (k : Int) < rs.length := by omega
            have hkk : k = rs.length := by omega
            subst hkk
            rw [List.take_length] at HOG
            rw [List.take_length]
            go_wp2
            go_ret
            exact ⟨⟨_, rfl, Or.inr ⟨g, hgB, HOG.out⟩⟩, HG.out⟩
end Go.Proofs.Ytfobnemocodomaa
