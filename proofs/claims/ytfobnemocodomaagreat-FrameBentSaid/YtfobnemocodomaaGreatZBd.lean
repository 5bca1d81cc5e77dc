/- Joined texts: SynC SynA SibF SibG SibH SibI SibJ. -/
import Derived.Test.YtfobnemocodomaaGreatZBa
import Derived.Test.YtfobnemocodomaaGreatZBc
import Derived.Lib.AppendZeros
import Derived.Test.YtfobnemocodomaaGreatZBb
set_option linter.unusedVariables false
set_option linter.unusedSimpArgs false
set_option maxHeartbeats 1000000
namespace Go.Proofs.YtfobnemocodomaaGreat
open Go.RowKit Go.Great

def cmpC (x y : Int) : Int := if x < y then -1 else if y < x then 1 else 0
def orC (p q : Int) : Int := if p ≠ 0 then p else q
/-- two boxed versions -/
structure Two (w : World) (x y : Vx) (W : World) : Prop where
  gr : Gr w W
  a : W.heap[w.heap.size]? = some (.cells x.cells 114 (0, 0))
  b : W.heap[w.heap.size + 1]? = some (.cells y.cells 114 (0, 0))
theorem Two.mk' (w : World) (x y : Vx) : Two w x y ((w.alloc (.cells x.cells 114)).alloc (.cells y.cells 114)) := by
  have hn2 := World.alloc_heap_new (w.alloc (.cells x.cells 114)) (.cells y.cells 114)
  have hn1 := World.alloc_heap_new w (.cells x.cells 114)
  have hsz : (w.alloc (.cells x.cells 114)).heap.size = w.heap.size + 1 := by simp
  rw [hsz] at hn2
  exact ⟨((Gr.rfl' w).al _).al _, (((Gr.rfl' (w.alloc (.cells x.cells 114))).al (.cells y.cells 114)).block w.heap.size (by rw [hsz]; omega)).trans hn1, hn2⟩
theorem Two.step {w W W' : World} {x y : Vx} (h : Two w x y W) (g : Gr W W') : Two w x y W' :=
  ⟨h.gr.tr g, (g.block _ (Array.getElem?_eq_some_iff.1 h.a).1).trans h.a, (g.block _ (Array.getElem?_eq_some_iff.1 h.b).1).trans h.b⟩
set_option maxRecDepth 100000 in
theorem bcells {W : World} {g : Nat} {x : Vx} (h : W.heap[g]? = some (.cells x.cells 114 (0, 0))) :
    W.cell? ⟨g, 0, none⟩ = some (.int .i64 x.P) ∧ W.cell? ⟨g, 1, none⟩ = some (.int .i64 x.C) ∧ W.cell? ⟨g, 2, none⟩ = some (.slice x.A x.pl.length x.pc) ∧ W.cell? ⟨g, 3, none⟩ = some (.bool x.D) ∧ W.cell? ⟨g, 4, none⟩ = some (.string x.T) := by
  have k : ∀ (j : Nat) (v : Value), x.cells[j]? = some v → W.cell? ⟨g, j, none⟩ = some v := fun j v hj => by simp only [World.cell?, h]; exact hj
  exact ⟨k 0 _ rfl, k 1 _ rfl, k 2 _ rfl, k 3 _ rfl, k 4 _ rfl⟩
theorem two_ints {W : World} (a b : Value) (t : TypeId) : (W.alloc (.cells #[a, b] t)).cell? ⟨W.heap.size, 0, none⟩ = some a ∧ (W.alloc (.cells #[a, b] t)).cell? ⟨W.heap.size, 1, none⟩ = some b := by
  have hn := World.alloc_heap_new W (.cells #[a, b] t)
  simp only [World.cell?, hn]
  exact ⟨rfl, rfl⟩
/-- the order of syncing: peers upwards, counts downwards -/
def synC (x y : Vx) : Int := orC (cmpC x.P y.P) (cmpC y.C x.C)
end Go.Proofs.YtfobnemocodomaaGreat
set_option linter.unusedVariables false
set_option linter.unusedSimpArgs false
set_option maxHeartbeats 2000000
namespace Go.Proofs.YtfobnemocodomaaGreat
open Go.RowKit Go.Great

/-- nothing is appended -/
theorem run_append0 {P : Program} (w : World) (t ty E : TypeId) (i : TypeInfo) (ht : P.underlying t = some (.slice E)) (hi : P.info? E = some i) (b A : Option Addr) (n cap c : Nat) (hn : n ≤ cap) :
    (Builtin.append_ #[t, t] ty #[.slice b n cap, .slice A 0 c]).run P w = .ok (.slice b n cap) w := by
  cases A <;> cases b <;> simp [Builtin.append_, run_underlying ht, sizeOf, typeInfo, hi, Builtin.lenOf, hn, Builtin.firstCells, loadCells, loadCellsFrom, storeCells]
theorem wp_append0 {P : Program} {w : World} {ops : Array Oper} {rest : List Oper} {o : Oper} {a : Act} {Q : Exit → Act → World → Prop} (hgd : o.guard = none) (s x : Operand) (t : TypeId)
    (ho : o.op = .call { callee := .builtin .append, args := #[s, x], argTypes := #[t, t] })
    (E : TypeId) (i : TypeInfo) (ht : P.underlying t = some (.slice E)) (hi : P.info? E = some i) (b A : Option Addr) (n cap c : Nat) (hs : a.eval s = .slice b n cap) (hx : a.eval x = .slice A 0 c) (hn : n ≤ cap)
    (h : wpList P ops Q rest (a.put o.dst (.slice b n cap)) w) : wpList P ops Q (o :: rest) a w :=
  Lib.wpList_append_run w hgd s x t t ho _ _ hs hx _ _ (run_append0 w t o.type E i ht hi b A n cap c hn) h
theorem z5_cells : (Value.agg Z5).cells.size = 5 := rfl
theorem zero_size (zc : Array Value) (n : Nat) : (Builtin.zeroCells zc n).size = n * zc.size := by simp [Builtin.zeroCells]
set_option maxRecDepth 100000 in
theorem vGrow0_any (w : World) :
    Calls Tryz.prog 143 #[.slice none 0 0, .int .i64 0] w fun r w' => r = .returned (.slice none 0 0) ∧ w' = w := by
  go_enter Tryz.func143, Tryz.ntmps143
  go_wp2
  go_ret
  exact ⟨rfl, rfl⟩
set_option maxRecDepth 100000 in
theorem vGrow_any (n : Nat) (w : World) (h0 : 0 < n) (hn : n ≤ 1000000) :
    Calls Tryz.prog 143 #[.slice none 0 0, .int .i64 n] w fun r w' => (∃ v, r = .returned v ∧ OwnG 114 5 w' w.heap.size v 0 []) ∧ Gr w w' := by
  obtain ⟨i0, hi, hz0, hzs, hz2⟩ := info_parts infoV
  have h1 : ¬ ((n : Int) < 0) := by omega
  have h2 : wrap64 ((n : Int) - 0) = n := by unfold wrap64; omega
  have h4 : (n : Int) > 0 := by omega
  have hR := Lib.run_append_nil_zeros (P := Tryz.prog) w 23 3 23 114 i0 (.agg Z5) .i64 .i64 Tryz.underlying23 Tryz.underlying3 hi hz0 n h0 (by rw [hzs]; decide) (by omega) (by rw [hz2]; omega)
  have hge := grownCap_ge w n 0 114
  have hle := grownCap_le_maxLen w n 0 114 (by simp only [maxLen]; omega)
  obtain ⟨cc, hcc⟩ : ∃ c, grownCap w n 0 114 = c := ⟨_, rfl⟩
  rw [hcc] at hR hge hle
  have HO : Hid (OwnG 114 5 (w.drew.alloc (.cells (Builtin.zeroCells (Value.agg Z5).cells n ++ Builtin.zeroCells (Value.agg Z5).cells (cc - n)) 114)) w.heap.size (.slice (some ⟨w.heap.size, 0, none⟩) 0 cc) 0 []) := Lib.hid (by
    refine ⟨cc, _, rfl, World.alloc_heap_new _ _, Nat.zero_le _, hle, ?_, by simp, by simp⟩
    rw [Array.size_append, zero_size, zero_size, z5_cells]; omega)
  have HG : Hid (Gr w (w.drew.alloc (.cells (Builtin.zeroCells (Value.agg Z5).cells n ++ Builtin.zeroCells (Value.agg Z5).cells (cc - n)) 114))) := Lib.hid ((Gr.rfl' w).dr.al _)
  have HR := Lib.hid hR
  clear hR
  generalize w.drew.alloc (.cells (Builtin.zeroCells (Value.agg Z5).cells n ++ Builtin.zeroCells (Value.agg Z5).cells (cc - n)) 114) = wa at HR HO HG
  have hcz : (0 : Int) ≤ cc := by omega
  go_enter Tryz.func143, Tryz.ntmps143
  go_wp2_with (at_builtin; refine Lib.wpList_append_run _ rfl _ _ _ _ rfl _ _ rfl rfl _ _ HR.out ?_)
  go_ret
  exact ⟨⟨_, rfl, HO.out⟩, HG.out⟩

def allV (rs : List VRow) : List Vx := rs.flatMap fun r => r.l
theorem allV_take {rs : List VRow} {k : Nat} (h : k < rs.length) : allV (rs.take (k + 1)) = allV (rs.take k) ++ rs[k].l := by
  unfold allV
  rw [List.take_succ_eq_append_getElem h, List.flatMap_append]; simp
theorem allV_le (rs : List VRow) : ∀ k, (allV (rs.take k)).length ≤ (allV rs).length := fun k => by
  have e : allV rs = allV (rs.take k) ++ allV (rs.drop k) := by unfold allV; rw [← List.flatMap_append, List.take_append_drop]
  rw [e, List.length_append]; omega
theorem Vers.none {w : World} {l : List Vx} (h : Vers w none l) : l = [] := by
  cases l with
  | nil => rfl
  | cons x r => obtain ⟨ad, e, _⟩ := h.2 0 (by simp); cases e
theorem Vers.cells {w : World} {ad : Addr} {l : List Vx} (h : Vers w (some ad) l) : ∀ (j : Nat) (u : Value), (vCells l)[j]? = some u → w.cell? (ad.add j) = some u := by
  intro j u hj
  have hlt := (List.getElem?_eq_some_iff.1 hj).1
  rw [vCells_len] at hlt
  have hi : j / 5 < l.length := by omega
  obtain ⟨ad', e, _, h1⟩ := h.2 (j / 5) hi
  cases e
  have hjm : j % 5 < l[j / 5].cells.size := by show j % 5 < 5; omega
  have hv := Array.getElem?_eq_getElem hjm
  have h2 := vCells_at l (j / 5) (j % 5) hi _ hv
  rw [show j / 5 * 5 + j % 5 = j by omega, hj] at h2
  have h3 := h1 (j % 5) _ hv
  rw [← h2] at h3
  have e3 : (ad.add (j / 5 * 5)).add (j % 5) = ad.add j := by
    unfold Addr.add
    by_cases z : j % 5 = 0
    · rw [if_pos z]
      by_cases y : j / 5 * 5 = 0
      · rw [if_pos y, if_pos (by omega)]
      · rw [if_neg y, if_neg (by omega)]
        rw [show j / 5 * 5 = j by omega]
    · rw [if_neg z, if_neg (by omega : ¬ j = 0)]
      by_cases y : j / 5 * 5 = 0
      · rw [if_pos y, show j % 5 = j by omega]
      · rw [if_neg y]
        show (⟨ad.block, ad.off + j / 5 * 5 + j % 5, Option.none⟩ : Addr) = ⟨ad.block, ad.off + j, Option.none⟩
        rw [show ad.off + j / 5 * 5 + j % 5 = ad.off + j by omega]
  rw [e3] at h3
  exact h3
set_option maxRecDepth 100000 in
theorem vConcat_any (A : Option Addr) (cap : Nat) (rs : List VRow) (w : World) (h : VRows w A rs) (hlb : (allV rs).length ≤ 1000000) :
    Calls Tryz.prog 130 #[.slice A rs.length cap] w fun r w' => (∃ v, r = .returned v ∧ OwnV w' w.heap.size v (allV rs)) ∧ Gr w w' := by
  have H := Lib.hid h; clear h
  have hm := H.out.1
  obtain ⟨i0, hi, hz0, hzs, hz2⟩ := info_parts infoV
  go_enter Tryz.func130, Tryz.ntmps130
  go_wp2
  go_loopw [3, 11] (fun s i wr => ∃ k : Nat, k ≤ rs.length ∧ s = .int .i64 (allV (rs.take k)).length ∧ i = .int .i64 k ∧ wr = w) (fun _ i _ => rs.length - (intOf i).toNat)
  case atStart => exact ⟨0, Nat.zero_le _, rfl, rfl, rfl⟩
  case round =>
    obtain ⟨k, hk, rfl, rfl, hww⟩ := hrel
    have hww := hww.symm
    subst hww
    by_cases hlt : k < rs.length
    · have hki : (k : Int) < rs.length := by omega
      obtain ⟨ad, rfl, hc, hv⟩ := H.out.2 k hlt
      have htk := allV_take hlt
      have hle := allV_le rs (k + 1)
      rw [htk, List.length_append] at hle
      obtain ⟨x, hx⟩ : ∃ x, rs[k] = x := ⟨_, rfl⟩
      rw [hx] at hc htk hle
      obtain ⟨Ax, cx, lx⟩ := x
      dsimp only at hc htk hle
      have hw : wrap64 (((allV (rs.take k)).length : Int) + (lx.length : Int)) = ((allV (rs.take (k + 1))).length : Int) := by rw [htk, List.length_append]; unfold wrap64; omega
      have hn0 : ¬ (((allV (rs.take (k + 1))).length : Int) < 0) := by omega
      have HTK := Lib.hid htk
      clear hx hv htk
      go_wp2
      go_roundw
      case rel => exact ⟨k + 1, by omega, by rw [HTK.out, List.length_append, Int.natCast_add], by go_num, trivial⟩
      case measure => simp [intOf]; omega
    · have hki : ¬ (k : Int) < rs.length := by omega
      have hkk : k = rs.length := by omega
      subst hkk
      rw [List.take_length]
      by_cases ht : (allV rs).length = 0
      · have hnil : allV rs = [] := List.eq_nil_of_length_eq_zero ht
        have hz : (((allV rs).length : Nat) : Int) = 0 := by omega
        rw [hz]
        go_wp2_with fail
        refine (vGrow0_any w).mono ?_
        rintro r wa ⟨rfl, hwa⟩
        subst hwa
        have hga := Lib.hid (Gr.rfl' wa)
        go_wp2
        go_loopw [6, 27] (fun v i wr => ∃ k : Nat, k ≤ rs.length ∧ v = .slice none 0 0 ∧ i = .int .i64 k ∧ wr = wa) (fun _ i _ => rs.length - (intOf i).toNat)
        case atStart => exact ⟨0, Nat.zero_le _, rfl, rfl, rfl⟩
        case round =>
          obtain ⟨k, hk, rfl, rfl, hww⟩ := hrel
          have hww := hww.symm
          subst hww
          by_cases hlt : k < rs.length
          · have hki : (k : Int) < rs.length := by omega
            obtain ⟨ad, rfl, hc, hv⟩ := H.out.2 k hlt
            have hle := allV_le rs (k + 1)
            rw [allV_take hlt, List.length_append] at hle
            have hl0 : rs[k].l.length = 0 := by omega
            obtain ⟨x, hx⟩ : ∃ x, rs[k] = x := ⟨_, rfl⟩
            rw [hx] at hc hl0
            obtain ⟨Ax, cx, lx⟩ := x
            dsimp only at hc hl0
            rw [hl0] at hc
            clear hx hv hle
            go_wp2_with (at_builtin; refine wp_append0 rfl _ _ 23 rfl 114 i0 Tryz.underlying23 hi none Ax 0 0 cx rfl rfl (Nat.le_refl _) ?_)
            go_roundw
            case rel => exact ⟨k + 1, by omega, rfl, by go_num, trivial⟩
            case measure => simp [intOf]; omega
          · have hki : ¬ (k : Int) < rs.length := by omega
            go_wp2
            go_ret
            exact ⟨⟨_, rfl, Or.inl ⟨rfl, rfl⟩⟩, hga.out⟩
      · go_wp2_with fail
        refine (vGrow_any (allV rs).length w (by omega) hlb).mono ?_
        rintro r wa ⟨⟨v0, rfl, hog⟩, hga⟩
        have HOG := Lib.hid hog
        have HGA := Lib.hid hga
        clear hog hga
        go_wp2
        go_loopw [6, 27] (fun v i wq => ∃ k : Nat, k ≤ rs.length ∧ i = .int .i64 k ∧ (∃ g, w.heap.size ≤ g ∧ Hid (OwnG 114 5 wq g v (allV (rs.take k)).length (vCells (allV (rs.take k))))) ∧ Hid (Gr w wq)) (fun _ i _ => rs.length - (intOf i).toNat)
        case atStart => exact ⟨0, Nat.zero_le _, rfl, ⟨_, Nat.le_refl _, HOG⟩, HGA⟩
        case round =>
          clear HOG HGA
          obtain ⟨k, hk, rfl, ⟨g, hgB, HOG⟩, HG⟩ := hrel
          obtain ⟨cv, rfl, hc1, hc2⟩ := HOG.out.shape
          by_cases hlt : k < rs.length
          · have hki : (k : Int) < rs.length := by omega
            obtain ⟨ad, rfl, hc, hv⟩ := (H.out.gr HG.out).2 k hlt
            have htk := allV_take hlt
            have hle := allV_le rs (k + 1)
            rw [htk, List.length_append] at hle
            obtain ⟨x, hx⟩ : ∃ x, rs[k] = x := ⟨_, rfl⟩
            rw [hx] at hc htk hle hv
            obtain ⟨Ax, cx, lx⟩ := x
            dsimp only at hc htk hle hv
            have HTK := Lib.hid htk
            cases Ax with
            | none =>
              have hl0 := hv.none
              subst hl0
              have HOG' : Hid (OwnG 114 5 wr g (.slice (some ⟨g, 0, none⟩) (allV (rs.take k)).length cv) (allV (rs.take (k + 1))).length (vCells (allV (rs.take (k + 1))))) := Lib.hid (by rw [HTK.out, List.append_nil]; exact HOG.out)
              clear hx hv htk hle HTK HOG
              go_wp2_with (at_builtin; refine wp_append0 rfl _ _ 23 rfl 114 i0 Tryz.underlying23 hi _ none _ _ cx rfl rfl hc1 ?_)
              go_roundw
              case rel => exact ⟨k + 1, by omega, by go_num, ⟨g, hgB, HOG'⟩, HG⟩
              case measure => simp [intOf]; omega
            | some bd =>
              have HCE := Lib.hid hv.cells
              clear hx hv htk
              go_wp2_with (at_builtin; go_loud (refine wp_appendG rfl _ _ 23 rfl 114 i0 (.agg Z5) 5 64 Tryz.underlying23 hi hz0 hzs hz2 rfl (by decide) g _ _ _ rfl HOG.out bd lx.length cx (vCells lx) rfl (vCells_len lx) HCE.out (vOnes lx) (by simp only [maxLen]; omega) (by omega) ?_); intro v' w4 g' hown' hg' hgrow; have GT4 := Lib.hid (HG.out.grown hgrow HG.out.size (fun j e => by cases e; omega)); have HO4 : Hid (OwnG 114 5 w4 g' v' (allV (rs.take (k + 1))).length (vCells (allV (rs.take (k + 1))))) := Lib.hid (by rw [HTK.out, vCells_app, List.length_append]; exact hown'); have hgs := HG.out.size; have hgB' : w.heap.size ≤ g' := (by rcases hg' with rfl | hg' <;> omega); clear hown' hg' hgrow)
              go_roundw
              case rel => exact ⟨k + 1, by omega, by go_num, ⟨g', hgB', HO4⟩, GT4⟩
              case measure => simp [intOf]; omega
          · have hki : ¬ (k : Int) < rs.length := by omega
            have hkk : k = rs.length := by omega
            subst hkk
            rw [List.take_length] at HOG
            rw [List.take_length]
            go_wp2
            go_ret
            exact ⟨⟨_, rfl, Or.inr ⟨g, hgB, HOG.out⟩⟩, HG.out⟩
end Go.Proofs.YtfobnemocodomaaGreat
set_option linter.unusedVariables false
set_option linter.unusedSimpArgs false
set_option maxHeartbeats 2000000
namespace Go.Proofs.YtfobnemocodomaaGreat
open Go.RowKit Go.Great

set_option maxRecDepth 100000 in
theorem vCovers1_any (x y : Vx) (w : World) (hx : VxOk w x) :
    Calls Tryz.prog 132 #[.agg x.cells, .agg y.cells] w fun r w' => r = .returned (.bool (hasV x.pl y.P y.C)) ∧ Gr w w' := by
  have HX := Lib.hid hx
  obtain ⟨P, C, A, pl, pc, D, T⟩ := x
  obtain ⟨Q, E, B, ql, qc, F, U⟩ := y
  clear hx
  unfold Vx.cells
  dsimp only
  have hg1 : Gr w ((w.alloc (.cells #[.int .i64 P, .int .i64 C, .slice A pl.length pc, .bool D, .string T] 114)).alloc (.cells #[.int .i64 Q, .int .i64 E, .slice B ql.length qc, .bool F, .string U] 114)) := ((Gr.rfl' w).al _).al _
  have HG := Lib.hid hg1
  clear hg1
  have HS := Lib.hid (Has_any A pc pl Q E _ (HX.out.1.gr HG.out))
  go_enter Tryz.func132, Tryz.ntmps132
  go_wp2_with fail
  refine (HS.out).mono ?_
  rintro r w1 ⟨rfl, g1⟩
  go_wp2
  go_ret
  exact ⟨rfl, HG.out.tr g1⟩
set_option maxRecDepth 100000 in
theorem vCovers2_any (x y : Vx) (w : World) (hx : VxOk w x) :
    Calls Tryz.prog 136 #[.agg x.cells, .agg y.cells] w fun r w' => r = .returned (.bool (hasV x.pl y.P y.C)) ∧ Gr w w' := by
  have HX := Lib.hid hx
  obtain ⟨P, C, A, pl, pc, D, T⟩ := x
  obtain ⟨Q, E, B, ql, qc, F, U⟩ := y
  clear hx
  unfold Vx.cells
  dsimp only
  have hg1 : Gr w ((w.alloc (.cells #[.int .i64 P, .int .i64 C, .slice A pl.length pc, .bool D, .string T] 114)).alloc (.cells #[.int .i64 Q, .int .i64 E, .slice B ql.length qc, .bool F, .string U] 114)) := ((Gr.rfl' w).al _).al _
  have HG := Lib.hid hg1
  clear hg1
  have HS := Lib.hid (refHas_any A pc pl Q E _ (HX.out.1.gr HG.out))
  go_enter Tryz.func136, Tryz.ntmps136
  go_wp2_with fail
  refine (HS.out).mono ?_
  rintro r w1 ⟨rfl, g1⟩
  go_wp2
  go_ret
  exact ⟨rfl, HG.out.tr g1⟩
end Go.Proofs.YtfobnemocodomaaGreat
set_option linter.unusedVariables false
set_option linter.unusedSimpArgs false
set_option maxHeartbeats 2000000
namespace Go.Proofs.YtfobnemocodomaaGreat
open Go.RowKit Go.Great

theorem chk_one (p c : Int) : chk [(p, c)] = dotChk p c := by
  unfold chk chkGo chkGo
  by_cases h : dotChk p c = 0
  · rw [if_neg (by simpa using h), h]
    have : ¬ p ≤ -1 := by
      intro hp
      unfold dotChk at h
      rw [if_pos (by omega)] at h
      exact absurd h (by decide)
    rw [if_neg this]
  · rw [if_pos h]
theorem dots_oneV {w : World} (p c : Int) (t : TypeId) : Dots (w.alloc (.cells #[.int .i64 p, .int .i64 c] t)) (some ⟨w.heap.size, 0, none⟩) [(p, c)] := by
  have hn := World.alloc_heap_new w (.cells #[.int .i64 p, .int .i64 c] t)
  refine ⟨by simp, fun i hi => ⟨_, rfl, ?_, ?_⟩⟩
  · obtain rfl : i = 0 := by simpa using hi
    have e : (⟨w.heap.size, 0, none⟩ : Addr).add (0 * 2) = ⟨w.heap.size, 0, none⟩ := by unfold Addr.add; rw [if_pos rfl]
    rw [e]
    simp only [World.cell?, hn]; rfl
  · obtain rfl : i = 0 := by simpa using hi
    have e : (⟨w.heap.size, 0, none⟩ : Addr).add (0 * 2) = ⟨w.heap.size, 0, none⟩ := by unfold Addr.add; rw [if_pos rfl]
    rw [e]
    simp only [World.cell?, hn]; rfl
theorem cellV3 {W : World} {b : Nat} {t : TypeId} {v0 v1 v2 v3 v4 : Value} (h : W.heap[b]? = some (.cells #[v0, v1, v2, v3, v4] t (0, 0))) : W.cell? ⟨b, 3, none⟩ = some v3 := by simp only [World.cell?, h]; rfl
theorem cellV4 {W : World} {b : Nat} {t : TypeId} {v0 v1 v2 v3 v4 : Value} (h : W.heap[b]? = some (.cells #[v0, v1, v2, v3, v4] t (0, 0))) : W.cell? ⟨b, 4, none⟩ = some v4 := by simp only [World.cell?, h]; rfl
theorem tEmp {T : ByteArray} (c4 : T ≠ ⟨#[]⟩) : T.toList.isEmpty = false := by
  rw [Lib.toList_data]
  cases h : T.data.toList.isEmpty
  · rfl
  · exact absurd (by apply ByteArray.ext; apply Array.ext'; simpa using h) c4
/-- why a version may not be -/
def verChk (x : Vx) : Int :=
  if dotChk x.P x.C ≠ 0 then dotChk x.P x.C
  else if chk x.pl ≠ 0 then chk x.pl
  else if hasV x.pl x.P x.C = true then 8
  else if 48 < x.T.size then 2
  else if x.D = true ∧ x.T ≠ ⟨#[]⟩ then 7 else 0
theorem tNe (T : ByteArray) : (T.toList == (⟨#[]⟩ : ByteArray).toList) = decide (T = ⟨#[]⟩) := by
  rw [Bool.eq_iff_iff]
  simp only [beq_iff_eq, decide_eq_true_eq]
  constructor
  · intro h
    rw [Lib.toList_data, Lib.toList_data] at h
    exact ByteArray.ext (Array.ext' h)
  · rintro rfl; rfl

set_option maxRecDepth 100000 in
theorem vCheck1_any (x : Vx) (w : World) (hx : VxOk w x) :
    Calls Tryz.prog 103 #[.agg x.cells] w fun r w' => r = .returned (.int .i64 (verChk x)) ∧ Gr w w' := by
  have HX := Lib.hid hx
  have hts := hx.2
  obtain ⟨P, C, A, pl, pc, D, T⟩ := x
  clear hx
  unfold Vx.cells
  dsimp only at hts ⊢
  have hg0 : Gr w (w.alloc (.cells #[.int .i64 P, .int .i64 C, .slice A pl.length pc, .bool D, .string T] 114)) := (Gr.rfl' w).al _
  have hn := World.alloc_heap_new w (.cells #[.int .i64 P, .int .i64 C, .slice A pl.length pc, .bool D, .string T] 114)
  have HBX : Hid (∀ W, Gr (w.alloc (.cells #[.int .i64 P, .int .i64 C, .slice A pl.length pc, .bool D, .string T] 114)) W → W.heap[w.heap.size]? = some (.cells #[.int .i64 P, .int .i64 C, .slice A pl.length pc, .bool D, .string T] 114 (0, 0))) := Lib.hid fun W g => (g.block _ (Array.getElem?_eq_some_iff.1 hn).1).trans hn
  have HG := Lib.hid hg0
  clear hn hg0
  have hd1 := dots_oneV (w := w.alloc (.cells #[.int .i64 P, .int .i64 C, .slice A pl.length pc, .bool D, .string T] 114)) P C 112
  have hsz : (w.alloc (.cells #[.int .i64 P, .int .i64 C, .slice A pl.length pc, .bool D, .string T] 114)).heap.size = w.heap.size + 1 := by simp
  rw [hsz] at hd1
  have HC1 := Lib.hid (Check_any _ 1 [(P, C)] _ hd1)
  have HGA : Hid (Gr (w.alloc (.cells #[.int .i64 P, .int .i64 C, .slice A pl.length pc, .bool D, .string T] 114)) ((w.alloc (.cells #[.int .i64 P, .int .i64 C, .slice A pl.length pc, .bool D, .string T] 114)).alloc (.cells #[.int .i64 P, .int .i64 C] 112))) := Lib.hid ((Gr.rfl' _).al _)
  rw [chk_one] at HC1
  simp only [List.length_cons, List.length_nil, Nat.zero_add] at HC1
  clear hd1 hsz
  by_cases c0 : dotChk P C = 0
  · have h0 : (dotChk P C != 0) = false := by simp [c0]
    rw [c0] at HC1
    by_cases c1 : chk pl = 0
    · by_cases c2 : hasV pl P C = true
      · have HV : Hid (verChk ⟨P, C, A, pl, pc, D, T⟩ = 8) := Lib.hid (by unfold verChk; rw [if_neg (by simp [c0]), if_neg (by simp [c1]), if_pos c2])
        go_enter Tryz.func103, Tryz.ntmps103
        go_wp2_with fail
        refine (HC1.out).mono ?_
        rintro r w1 ⟨rfl, g1⟩
        have GB := Lib.hid (HGA.out.tr g1)
        have hb1 := HBX.out _ GB.out
        have q0 : w1.cell? ⟨w.heap.size, 0, none⟩ = some (.int .i64 P) := by simp only [World.cell?, hb1]; rfl
        have q1 : w1.cell? ⟨w.heap.size, 1, none⟩ = some (.int .i64 C) := by simp only [World.cell?, hb1]; rfl
        have q2 : w1.cell? ⟨w.heap.size, 2, none⟩ = some (.slice A pl.length pc) := by simp only [World.cell?, hb1]; rfl
        clear hb1 g1
        go_wp2_with fail
        refine (Check_any A pc pl _ (HX.out.1.gr (HG.out.tr GB.out))).mono ?_
        rintro r w2 ⟨rfl, g2⟩
        replace GB := Lib.hid (GB.out.tr g2)
        have GA := Lib.hid (HG.out.tr GB.out)
        clear g2 q0 q1 q2
        rw [c1]
        have hb1 := HBX.out _ GB.out
        have q0 : w2.cell? ⟨w.heap.size, 0, none⟩ = some (.int .i64 P) := by simp only [World.cell?, hb1]; rfl
        have q1 : w2.cell? ⟨w.heap.size, 1, none⟩ = some (.int .i64 C) := by simp only [World.cell?, hb1]; rfl
        have q2 : w2.cell? ⟨w.heap.size, 2, none⟩ = some (.slice A pl.length pc) := by simp only [World.cell?, hb1]; rfl
        clear hb1
        go_wp2_with fail
        refine (Has_any A pc pl P C _ (HX.out.1.gr GA.out)).mono ?_
        rintro r w3 ⟨rfl, g3⟩
        replace GB := Lib.hid (GB.out.tr g3)
        replace GA := Lib.hid (HG.out.tr GB.out)
        have hb1 := HBX.out _ GB.out
        clear q0 q1 q2
        have q3 := cellV3 hb1
        have q4 := cellV4 hb1
        clear hb1 g3
        rw [c2]
        go_wp2
        go_ret
        rw [HV.out]
        exact ⟨rfl, GA.out⟩
      · have c2 : hasV pl P C = false := by simpa using c2
        by_cases c3 : 48 < T.size
        · have c3i : (48 : Int) < T.size := by omega
          have HV : Hid (verChk ⟨P, C, A, pl, pc, D, T⟩ = 2) := Lib.hid (by unfold verChk; rw [if_neg (by simp [c0]), if_neg (by simp [c1]), if_neg (by simp [c2]), if_pos c3])
          go_enter Tryz.func103, Tryz.ntmps103
          go_wp2_with fail
          refine (HC1.out).mono ?_
          rintro r w1 ⟨rfl, g1⟩
          have GB := Lib.hid (HGA.out.tr g1)
          have hb1 := HBX.out _ GB.out
          have q0 : w1.cell? ⟨w.heap.size, 0, none⟩ = some (.int .i64 P) := by simp only [World.cell?, hb1]; rfl
          have q1 : w1.cell? ⟨w.heap.size, 1, none⟩ = some (.int .i64 C) := by simp only [World.cell?, hb1]; rfl
          have q2 : w1.cell? ⟨w.heap.size, 2, none⟩ = some (.slice A pl.length pc) := by simp only [World.cell?, hb1]; rfl
          clear hb1 g1
          go_wp2_with fail
          refine (Check_any A pc pl _ (HX.out.1.gr (HG.out.tr GB.out))).mono ?_
          rintro r w2 ⟨rfl, g2⟩
          replace GB := Lib.hid (GB.out.tr g2)
          have GA := Lib.hid (HG.out.tr GB.out)
          clear g2 q0 q1 q2
          rw [c1]
          have hb1 := HBX.out _ GB.out
          have q0 : w2.cell? ⟨w.heap.size, 0, none⟩ = some (.int .i64 P) := by simp only [World.cell?, hb1]; rfl
          have q1 : w2.cell? ⟨w.heap.size, 1, none⟩ = some (.int .i64 C) := by simp only [World.cell?, hb1]; rfl
          have q2 : w2.cell? ⟨w.heap.size, 2, none⟩ = some (.slice A pl.length pc) := by simp only [World.cell?, hb1]; rfl
          clear hb1
          go_wp2_with fail
          refine (Has_any A pc pl P C _ (HX.out.1.gr GA.out)).mono ?_
          rintro r w3 ⟨rfl, g3⟩
          replace GB := Lib.hid (GB.out.tr g3)
          replace GA := Lib.hid (HG.out.tr GB.out)
          have hb1 := HBX.out _ GB.out
          clear q0 q1 q2
          have q3 := cellV3 hb1
          have q4 := cellV4 hb1
          clear hb1 g3
          rw [c2]
          go_wp2
          go_ret
          rw [HV.out]
          exact ⟨rfl, GA.out⟩
        · have c3i : ¬ (48 : Int) < T.size := by omega
          cases D
          · have HV : Hid (verChk ⟨P, C, A, pl, pc, false, T⟩ = 0) := Lib.hid (by unfold verChk; rw [if_neg (by simp [c0]), if_neg (by simp [c1]), if_neg (by simp [c2]), if_neg c3, if_neg (by simp)])
            go_enter Tryz.func103, Tryz.ntmps103
            go_wp2_with fail
            refine (HC1.out).mono ?_
            rintro r w1 ⟨rfl, g1⟩
            have GB := Lib.hid (HGA.out.tr g1)
            have hb1 := HBX.out _ GB.out
            have q0 : w1.cell? ⟨w.heap.size, 0, none⟩ = some (.int .i64 P) := by simp only [World.cell?, hb1]; rfl
            have q1 : w1.cell? ⟨w.heap.size, 1, none⟩ = some (.int .i64 C) := by simp only [World.cell?, hb1]; rfl
            have q2 : w1.cell? ⟨w.heap.size, 2, none⟩ = some (.slice A pl.length pc) := by simp only [World.cell?, hb1]; rfl
            clear hb1 g1
            go_wp2_with fail
            refine (Check_any A pc pl _ (HX.out.1.gr (HG.out.tr GB.out))).mono ?_
            rintro r w2 ⟨rfl, g2⟩
            replace GB := Lib.hid (GB.out.tr g2)
            have GA := Lib.hid (HG.out.tr GB.out)
            clear g2 q0 q1 q2
            rw [c1]
            have hb1 := HBX.out _ GB.out
            have q0 : w2.cell? ⟨w.heap.size, 0, none⟩ = some (.int .i64 P) := by simp only [World.cell?, hb1]; rfl
            have q1 : w2.cell? ⟨w.heap.size, 1, none⟩ = some (.int .i64 C) := by simp only [World.cell?, hb1]; rfl
            have q2 : w2.cell? ⟨w.heap.size, 2, none⟩ = some (.slice A pl.length pc) := by simp only [World.cell?, hb1]; rfl
            clear hb1
            go_wp2_with fail
            refine (Has_any A pc pl P C _ (HX.out.1.gr GA.out)).mono ?_
            rintro r w3 ⟨rfl, g3⟩
            replace GB := Lib.hid (GB.out.tr g3)
            replace GA := Lib.hid (HG.out.tr GB.out)
            have hb1 := HBX.out _ GB.out
            clear q0 q1 q2
            have q3 := cellV3 hb1
            have q4 := cellV4 hb1
            clear hb1 g3
            rw [c2]
            go_wp2
            go_ret
            rw [HV.out]
            exact ⟨rfl, GA.out⟩
          · by_cases c4 : T = ⟨#[]⟩
            · subst c4
              have HV : Hid (verChk ⟨P, C, A, pl, pc, true, ⟨#[]⟩⟩ = 0) := Lib.hid (by unfold verChk; rw [if_neg (by simp [c0]), if_neg (by simp [c1]), if_neg (by simp [c2]), if_neg c3, if_neg (by simp)])
              go_enter Tryz.func103, Tryz.ntmps103
              go_wp2_with fail
              refine (HC1.out).mono ?_
              rintro r w1 ⟨rfl, g1⟩
              have GB := Lib.hid (HGA.out.tr g1)
              have hb1 := HBX.out _ GB.out
              have q0 : w1.cell? ⟨w.heap.size, 0, none⟩ = some (.int .i64 P) := by simp only [World.cell?, hb1]; rfl
              have q1 : w1.cell? ⟨w.heap.size, 1, none⟩ = some (.int .i64 C) := by simp only [World.cell?, hb1]; rfl
              have q2 : w1.cell? ⟨w.heap.size, 2, none⟩ = some (.slice A pl.length pc) := by simp only [World.cell?, hb1]; rfl
              clear hb1 g1
              go_wp2_with fail
              refine (Check_any A pc pl _ (HX.out.1.gr (HG.out.tr GB.out))).mono ?_
              rintro r w2 ⟨rfl, g2⟩
              replace GB := Lib.hid (GB.out.tr g2)
              have GA := Lib.hid (HG.out.tr GB.out)
              clear g2 q0 q1 q2
              rw [c1]
              have hb1 := HBX.out _ GB.out
              have q0 : w2.cell? ⟨w.heap.size, 0, none⟩ = some (.int .i64 P) := by simp only [World.cell?, hb1]; rfl
              have q1 : w2.cell? ⟨w.heap.size, 1, none⟩ = some (.int .i64 C) := by simp only [World.cell?, hb1]; rfl
              have q2 : w2.cell? ⟨w.heap.size, 2, none⟩ = some (.slice A pl.length pc) := by simp only [World.cell?, hb1]; rfl
              clear hb1
              go_wp2_with fail
              refine (Has_any A pc pl P C _ (HX.out.1.gr GA.out)).mono ?_
              rintro r w3 ⟨rfl, g3⟩
              replace GB := Lib.hid (GB.out.tr g3)
              replace GA := Lib.hid (HG.out.tr GB.out)
              have hb1 := HBX.out _ GB.out
              clear q0 q1 q2
              have q3 := cellV3 hb1
              have q4 := cellV4 hb1
              clear hb1 g3
              rw [c2]
              go_wp2
              go_ret
              rw [HV.out]
              exact ⟨rfl, GA.out⟩
            · have HV : Hid (verChk ⟨P, C, A, pl, pc, true, T⟩ = 7) := Lib.hid (by unfold verChk; rw [if_neg (by simp [c0]), if_neg (by simp [c1]), if_neg (by simp [c2]), if_neg c3, if_pos ⟨rfl, c4⟩])
              have c4b : T.toList.isEmpty = false := tEmp c4
              have c4s : (0 : Int) < T.size := by
                have : T.size ≠ 0 := fun h => c4 (by apply ByteArray.ext; exact Array.eq_empty_of_size_eq_zero h)
                omega
              go_enter Tryz.func103, Tryz.ntmps103
              go_wp2_with fail
              refine (HC1.out).mono ?_
              rintro r w1 ⟨rfl, g1⟩
              have GB := Lib.hid (HGA.out.tr g1)
              have hb1 := HBX.out _ GB.out
              have q0 : w1.cell? ⟨w.heap.size, 0, none⟩ = some (.int .i64 P) := by simp only [World.cell?, hb1]; rfl
              have q1 : w1.cell? ⟨w.heap.size, 1, none⟩ = some (.int .i64 C) := by simp only [World.cell?, hb1]; rfl
              have q2 : w1.cell? ⟨w.heap.size, 2, none⟩ = some (.slice A pl.length pc) := by simp only [World.cell?, hb1]; rfl
              clear hb1 g1
              go_wp2_with fail
              refine (Check_any A pc pl _ (HX.out.1.gr (HG.out.tr GB.out))).mono ?_
              rintro r w2 ⟨rfl, g2⟩
              replace GB := Lib.hid (GB.out.tr g2)
              have GA := Lib.hid (HG.out.tr GB.out)
              clear g2 q0 q1 q2
              rw [c1]
              have hb1 := HBX.out _ GB.out
              have q0 : w2.cell? ⟨w.heap.size, 0, none⟩ = some (.int .i64 P) := by simp only [World.cell?, hb1]; rfl
              have q1 : w2.cell? ⟨w.heap.size, 1, none⟩ = some (.int .i64 C) := by simp only [World.cell?, hb1]; rfl
              have q2 : w2.cell? ⟨w.heap.size, 2, none⟩ = some (.slice A pl.length pc) := by simp only [World.cell?, hb1]; rfl
              clear hb1
              go_wp2_with fail
              refine (Has_any A pc pl P C _ (HX.out.1.gr GA.out)).mono ?_
              rintro r w3 ⟨rfl, g3⟩
              replace GB := Lib.hid (GB.out.tr g3)
              replace GA := Lib.hid (HG.out.tr GB.out)
              have hb1 := HBX.out _ GB.out
              clear q0 q1 q2
              have q3 := cellV3 hb1
              have q4 := cellV4 hb1
              clear hb1 g3
              rw [c2]
              go_wp2
              go_ret
              rw [HV.out]
              exact ⟨rfl, GA.out⟩
    · have c1b : (chk pl != 0) = true := by simp [c1]
      have HV : Hid (verChk ⟨P, C, A, pl, pc, D, T⟩ = chk pl) := Lib.hid (by unfold verChk; rw [if_neg (by simp [c0]), if_pos c1])
      go_enter Tryz.func103, Tryz.ntmps103
      go_wp2_with fail
      refine (HC1.out).mono ?_
      rintro r w1 ⟨rfl, g1⟩
      have GB := Lib.hid (HGA.out.tr g1)
      have hb1 := HBX.out _ GB.out
      have q0 : w1.cell? ⟨w.heap.size, 0, none⟩ = some (.int .i64 P) := by simp only [World.cell?, hb1]; rfl
      have q1 : w1.cell? ⟨w.heap.size, 1, none⟩ = some (.int .i64 C) := by simp only [World.cell?, hb1]; rfl
      have q2 : w1.cell? ⟨w.heap.size, 2, none⟩ = some (.slice A pl.length pc) := by simp only [World.cell?, hb1]; rfl
      clear hb1 g1
      go_wp2_with fail
      refine (Check_any A pc pl _ (HX.out.1.gr (HG.out.tr GB.out))).mono ?_
      rintro r w2 ⟨rfl, g2⟩
      replace GB := Lib.hid (GB.out.tr g2)
      have GA := Lib.hid (HG.out.tr GB.out)
      clear g2 q0 q1 q2
      go_wp2
      go_ret
      rw [HV.out]
      exact ⟨rfl, GA.out⟩
  · have h0 : (dotChk P C != 0) = true := by simp [c0]
    have HV : Hid (verChk ⟨P, C, A, pl, pc, D, T⟩ = dotChk P C) := Lib.hid (by unfold verChk; rw [if_pos c0])
    go_enter Tryz.func103, Tryz.ntmps103
    go_wp2_with fail
    refine (HC1.out).mono ?_
    rintro r w1 ⟨rfl, g1⟩
    have GA := Lib.hid (HG.out.tr (HGA.out.tr g1))
    go_wp2
    go_ret
    rw [HV.out]
    exact ⟨rfl, GA.out⟩

set_option maxRecDepth 100000 in
theorem vCheck2_any (x : Vx) (w : World) (hx : VxOk w x) :
    Calls Tryz.prog 109 #[.agg x.cells] w fun r w' => r = .returned (.int .i64 (verChk x)) ∧ Gr w w' := by
  have HX := Lib.hid hx
  have hts := hx.2
  obtain ⟨P, C, A, pl, pc, D, T⟩ := x
  clear hx
  unfold Vx.cells
  dsimp only at hts ⊢
  have hg0 : Gr w (w.alloc (.cells #[.int .i64 P, .int .i64 C, .slice A pl.length pc, .bool D, .string T] 114)) := (Gr.rfl' w).al _
  have hn := World.alloc_heap_new w (.cells #[.int .i64 P, .int .i64 C, .slice A pl.length pc, .bool D, .string T] 114)
  have HBX : Hid (∀ W, Gr (w.alloc (.cells #[.int .i64 P, .int .i64 C, .slice A pl.length pc, .bool D, .string T] 114)) W → W.heap[w.heap.size]? = some (.cells #[.int .i64 P, .int .i64 C, .slice A pl.length pc, .bool D, .string T] 114 (0, 0))) := Lib.hid fun W g => (g.block _ (Array.getElem?_eq_some_iff.1 hn).1).trans hn
  have HG := Lib.hid hg0
  clear hn hg0
  have HC1 := Lib.hid (refDot_any P C (w.alloc (.cells #[.int .i64 P, .int .i64 C, .slice A pl.length pc, .bool D, .string T] 114)))
  have HGA := Lib.hid (Gr.rfl' (w.alloc (.cells #[.int .i64 P, .int .i64 C, .slice A pl.length pc, .bool D, .string T] 114)))
  by_cases c0 : dotChk P C = 0
  · have h0 : (dotChk P C != 0) = false := by simp [c0]
    rw [c0] at HC1
    by_cases c1 : chk pl = 0
    · by_cases c2 : hasV pl P C = true
      · have HV : Hid (verChk ⟨P, C, A, pl, pc, D, T⟩ = 8) := Lib.hid (by unfold verChk; rw [if_neg (by simp [c0]), if_neg (by simp [c1]), if_pos c2])
        go_enter Tryz.func109, Tryz.ntmps109
        go_wp2_with fail
        refine (HC1.out).mono ?_
        rintro r w1 ⟨rfl, g1⟩
        have GB := Lib.hid (HGA.out.tr g1)
        have hb1 := HBX.out _ GB.out
        have q0 : w1.cell? ⟨w.heap.size, 0, none⟩ = some (.int .i64 P) := by simp only [World.cell?, hb1]; rfl
        have q1 : w1.cell? ⟨w.heap.size, 1, none⟩ = some (.int .i64 C) := by simp only [World.cell?, hb1]; rfl
        have q2 : w1.cell? ⟨w.heap.size, 2, none⟩ = some (.slice A pl.length pc) := by simp only [World.cell?, hb1]; rfl
        clear hb1 g1
        go_wp2_with fail
        refine (refCheck_any A pc pl _ (HX.out.1.gr (HG.out.tr GB.out))).mono ?_
        rintro r w2 ⟨rfl, g2⟩
        replace GB := Lib.hid (GB.out.tr g2)
        have GA := Lib.hid (HG.out.tr GB.out)
        clear g2 q0 q1 q2
        rw [c1]
        have hb1 := HBX.out _ GB.out
        have q0 : w2.cell? ⟨w.heap.size, 0, none⟩ = some (.int .i64 P) := by simp only [World.cell?, hb1]; rfl
        have q1 : w2.cell? ⟨w.heap.size, 1, none⟩ = some (.int .i64 C) := by simp only [World.cell?, hb1]; rfl
        have q2 : w2.cell? ⟨w.heap.size, 2, none⟩ = some (.slice A pl.length pc) := by simp only [World.cell?, hb1]; rfl
        clear hb1
        go_wp2_with fail
        refine (refHas_any A pc pl P C _ (HX.out.1.gr GA.out)).mono ?_
        rintro r w3 ⟨rfl, g3⟩
        replace GB := Lib.hid (GB.out.tr g3)
        replace GA := Lib.hid (HG.out.tr GB.out)
        have hb1 := HBX.out _ GB.out
        clear q0 q1 q2
        have q3 := cellV3 hb1
        have q4 := cellV4 hb1
        clear hb1 g3
        rw [c2]
        go_wp2
        go_ret
        rw [HV.out]
        exact ⟨rfl, GA.out⟩
      · have c2 : hasV pl P C = false := by simpa using c2
        by_cases c3 : 48 < T.size
        · have c3i : (48 : Int) < T.size := by omega
          have HV : Hid (verChk ⟨P, C, A, pl, pc, D, T⟩ = 2) := Lib.hid (by unfold verChk; rw [if_neg (by simp [c0]), if_neg (by simp [c1]), if_neg (by simp [c2]), if_pos c3])
          go_enter Tryz.func109, Tryz.ntmps109
          go_wp2_with fail
          refine (HC1.out).mono ?_
          rintro r w1 ⟨rfl, g1⟩
          have GB := Lib.hid (HGA.out.tr g1)
          have hb1 := HBX.out _ GB.out
          have q0 : w1.cell? ⟨w.heap.size, 0, none⟩ = some (.int .i64 P) := by simp only [World.cell?, hb1]; rfl
          have q1 : w1.cell? ⟨w.heap.size, 1, none⟩ = some (.int .i64 C) := by simp only [World.cell?, hb1]; rfl
          have q2 : w1.cell? ⟨w.heap.size, 2, none⟩ = some (.slice A pl.length pc) := by simp only [World.cell?, hb1]; rfl
          clear hb1 g1
          go_wp2_with fail
          refine (refCheck_any A pc pl _ (HX.out.1.gr (HG.out.tr GB.out))).mono ?_
          rintro r w2 ⟨rfl, g2⟩
          replace GB := Lib.hid (GB.out.tr g2)
          have GA := Lib.hid (HG.out.tr GB.out)
          clear g2 q0 q1 q2
          rw [c1]
          have hb1 := HBX.out _ GB.out
          have q0 : w2.cell? ⟨w.heap.size, 0, none⟩ = some (.int .i64 P) := by simp only [World.cell?, hb1]; rfl
          have q1 : w2.cell? ⟨w.heap.size, 1, none⟩ = some (.int .i64 C) := by simp only [World.cell?, hb1]; rfl
          have q2 : w2.cell? ⟨w.heap.size, 2, none⟩ = some (.slice A pl.length pc) := by simp only [World.cell?, hb1]; rfl
          clear hb1
          go_wp2_with fail
          refine (refHas_any A pc pl P C _ (HX.out.1.gr GA.out)).mono ?_
          rintro r w3 ⟨rfl, g3⟩
          replace GB := Lib.hid (GB.out.tr g3)
          replace GA := Lib.hid (HG.out.tr GB.out)
          have hb1 := HBX.out _ GB.out
          clear q0 q1 q2
          have q3 := cellV3 hb1
          have q4 := cellV4 hb1
          clear hb1 g3
          rw [c2]
          go_wp2
          go_ret
          rw [HV.out]
          exact ⟨rfl, GA.out⟩
        · have c3i : ¬ (48 : Int) < T.size := by omega
          cases D
          · have HV : Hid (verChk ⟨P, C, A, pl, pc, false, T⟩ = 0) := Lib.hid (by unfold verChk; rw [if_neg (by simp [c0]), if_neg (by simp [c1]), if_neg (by simp [c2]), if_neg c3, if_neg (by simp)])
            go_enter Tryz.func109, Tryz.ntmps109
            go_wp2_with fail
            refine (HC1.out).mono ?_
            rintro r w1 ⟨rfl, g1⟩
            have GB := Lib.hid (HGA.out.tr g1)
            have hb1 := HBX.out _ GB.out
            have q0 : w1.cell? ⟨w.heap.size, 0, none⟩ = some (.int .i64 P) := by simp only [World.cell?, hb1]; rfl
            have q1 : w1.cell? ⟨w.heap.size, 1, none⟩ = some (.int .i64 C) := by simp only [World.cell?, hb1]; rfl
            have q2 : w1.cell? ⟨w.heap.size, 2, none⟩ = some (.slice A pl.length pc) := by simp only [World.cell?, hb1]; rfl
            clear hb1 g1
            go_wp2_with fail
            refine (refCheck_any A pc pl _ (HX.out.1.gr (HG.out.tr GB.out))).mono ?_
            rintro r w2 ⟨rfl, g2⟩
            replace GB := Lib.hid (GB.out.tr g2)
            have GA := Lib.hid (HG.out.tr GB.out)
            clear g2 q0 q1 q2
            rw [c1]
            have hb1 := HBX.out _ GB.out
            have q0 : w2.cell? ⟨w.heap.size, 0, none⟩ = some (.int .i64 P) := by simp only [World.cell?, hb1]; rfl
            have q1 : w2.cell? ⟨w.heap.size, 1, none⟩ = some (.int .i64 C) := by simp only [World.cell?, hb1]; rfl
            have q2 : w2.cell? ⟨w.heap.size, 2, none⟩ = some (.slice A pl.length pc) := by simp only [World.cell?, hb1]; rfl
            clear hb1
            go_wp2_with fail
            refine (refHas_any A pc pl P C _ (HX.out.1.gr GA.out)).mono ?_
            rintro r w3 ⟨rfl, g3⟩
            replace GB := Lib.hid (GB.out.tr g3)
            replace GA := Lib.hid (HG.out.tr GB.out)
            have hb1 := HBX.out _ GB.out
            clear q0 q1 q2
            have q3 := cellV3 hb1
            have q4 := cellV4 hb1
            clear hb1 g3
            rw [c2]
            go_wp2
            go_ret
            rw [HV.out]
            exact ⟨rfl, GA.out⟩
          · by_cases c4 : T = ⟨#[]⟩
            · subst c4
              have HV : Hid (verChk ⟨P, C, A, pl, pc, true, ⟨#[]⟩⟩ = 0) := Lib.hid (by unfold verChk; rw [if_neg (by simp [c0]), if_neg (by simp [c1]), if_neg (by simp [c2]), if_neg c3, if_neg (by simp)])
              go_enter Tryz.func109, Tryz.ntmps109
              go_wp2_with fail
              refine (HC1.out).mono ?_
              rintro r w1 ⟨rfl, g1⟩
              have GB := Lib.hid (HGA.out.tr g1)
              have hb1 := HBX.out _ GB.out
              have q0 : w1.cell? ⟨w.heap.size, 0, none⟩ = some (.int .i64 P) := by simp only [World.cell?, hb1]; rfl
              have q1 : w1.cell? ⟨w.heap.size, 1, none⟩ = some (.int .i64 C) := by simp only [World.cell?, hb1]; rfl
              have q2 : w1.cell? ⟨w.heap.size, 2, none⟩ = some (.slice A pl.length pc) := by simp only [World.cell?, hb1]; rfl
              clear hb1 g1
              go_wp2_with fail
              refine (refCheck_any A pc pl _ (HX.out.1.gr (HG.out.tr GB.out))).mono ?_
              rintro r w2 ⟨rfl, g2⟩
              replace GB := Lib.hid (GB.out.tr g2)
              have GA := Lib.hid (HG.out.tr GB.out)
              clear g2 q0 q1 q2
              rw [c1]
              have hb1 := HBX.out _ GB.out
              have q0 : w2.cell? ⟨w.heap.size, 0, none⟩ = some (.int .i64 P) := by simp only [World.cell?, hb1]; rfl
              have q1 : w2.cell? ⟨w.heap.size, 1, none⟩ = some (.int .i64 C) := by simp only [World.cell?, hb1]; rfl
              have q2 : w2.cell? ⟨w.heap.size, 2, none⟩ = some (.slice A pl.length pc) := by simp only [World.cell?, hb1]; rfl
              clear hb1
              go_wp2_with fail
              refine (refHas_any A pc pl P C _ (HX.out.1.gr GA.out)).mono ?_
              rintro r w3 ⟨rfl, g3⟩
              replace GB := Lib.hid (GB.out.tr g3)
              replace GA := Lib.hid (HG.out.tr GB.out)
              have hb1 := HBX.out _ GB.out
              clear q0 q1 q2
              have q3 := cellV3 hb1
              have q4 := cellV4 hb1
              clear hb1 g3
              rw [c2]
              go_wp2
              go_ret
              rw [HV.out]
              exact ⟨rfl, GA.out⟩
            · have HV : Hid (verChk ⟨P, C, A, pl, pc, true, T⟩ = 7) := Lib.hid (by unfold verChk; rw [if_neg (by simp [c0]), if_neg (by simp [c1]), if_neg (by simp [c2]), if_neg c3, if_pos ⟨rfl, c4⟩])
              have c4b : T.toList.isEmpty = false := tEmp c4
              have c4s : (0 : Int) < T.size := by
                have : T.size ≠ 0 := fun h => c4 (by apply ByteArray.ext; exact Array.eq_empty_of_size_eq_zero h)
                omega
              go_enter Tryz.func109, Tryz.ntmps109
              go_wp2_with fail
              refine (HC1.out).mono ?_
              rintro r w1 ⟨rfl, g1⟩
              have GB := Lib.hid (HGA.out.tr g1)
              have hb1 := HBX.out _ GB.out
              have q0 : w1.cell? ⟨w.heap.size, 0, none⟩ = some (.int .i64 P) := by simp only [World.cell?, hb1]; rfl
              have q1 : w1.cell? ⟨w.heap.size, 1, none⟩ = some (.int .i64 C) := by simp only [World.cell?, hb1]; rfl
              have q2 : w1.cell? ⟨w.heap.size, 2, none⟩ = some (.slice A pl.length pc) := by simp only [World.cell?, hb1]; rfl
              clear hb1 g1
              go_wp2_with fail
              refine (refCheck_any A pc pl _ (HX.out.1.gr (HG.out.tr GB.out))).mono ?_
              rintro r w2 ⟨rfl, g2⟩
              replace GB := Lib.hid (GB.out.tr g2)
              have GA := Lib.hid (HG.out.tr GB.out)
              clear g2 q0 q1 q2
              rw [c1]
              have hb1 := HBX.out _ GB.out
              have q0 : w2.cell? ⟨w.heap.size, 0, none⟩ = some (.int .i64 P) := by simp only [World.cell?, hb1]; rfl
              have q1 : w2.cell? ⟨w.heap.size, 1, none⟩ = some (.int .i64 C) := by simp only [World.cell?, hb1]; rfl
              have q2 : w2.cell? ⟨w.heap.size, 2, none⟩ = some (.slice A pl.length pc) := by simp only [World.cell?, hb1]; rfl
              clear hb1
              go_wp2_with fail
              refine (refHas_any A pc pl P C _ (HX.out.1.gr GA.out)).mono ?_
              rintro r w3 ⟨rfl, g3⟩
              replace GB := Lib.hid (GB.out.tr g3)
              replace GA := Lib.hid (HG.out.tr GB.out)
              have hb1 := HBX.out _ GB.out
              clear q0 q1 q2
              have q3 := cellV3 hb1
              have q4 := cellV4 hb1
              clear hb1 g3
              rw [c2]
              go_wp2
              go_ret
              rw [HV.out]
              exact ⟨rfl, GA.out⟩
    · have c1b : (chk pl != 0) = true := by simp [c1]
      have HV : Hid (verChk ⟨P, C, A, pl, pc, D, T⟩ = chk pl) := Lib.hid (by unfold verChk; rw [if_neg (by simp [c0]), if_pos c1])
      go_enter Tryz.func109, Tryz.ntmps109
      go_wp2_with fail
      refine (HC1.out).mono ?_
      rintro r w1 ⟨rfl, g1⟩
      have GB := Lib.hid (HGA.out.tr g1)
      have hb1 := HBX.out _ GB.out
      have q0 : w1.cell? ⟨w.heap.size, 0, none⟩ = some (.int .i64 P) := by simp only [World.cell?, hb1]; rfl
      have q1 : w1.cell? ⟨w.heap.size, 1, none⟩ = some (.int .i64 C) := by simp only [World.cell?, hb1]; rfl
      have q2 : w1.cell? ⟨w.heap.size, 2, none⟩ = some (.slice A pl.length pc) := by simp only [World.cell?, hb1]; rfl
      clear hb1 g1
      go_wp2_with fail
      refine (refCheck_any A pc pl _ (HX.out.1.gr (HG.out.tr GB.out))).mono ?_
      rintro r w2 ⟨rfl, g2⟩
      replace GB := Lib.hid (GB.out.tr g2)
      have GA := Lib.hid (HG.out.tr GB.out)
      clear g2 q0 q1 q2
      go_wp2
      go_ret
      rw [HV.out]
      exact ⟨rfl, GA.out⟩
  · have h0 : (dotChk P C != 0) = true := by simp [c0]
    have HV : Hid (verChk ⟨P, C, A, pl, pc, D, T⟩ = dotChk P C) := Lib.hid (by unfold verChk; rw [if_pos c0])
    go_enter Tryz.func109, Tryz.ntmps109
    go_wp2_with fail
    refine (HC1.out).mono ?_
    rintro r w1 ⟨rfl, g1⟩
    have GA := Lib.hid (HG.out.tr (HGA.out.tr g1))
    go_wp2
    go_ret
    rw [HV.out]
    exact ⟨rfl, GA.out⟩

end Go.Proofs.YtfobnemocodomaaGreat
set_option linter.unusedVariables false
set_option linter.unusedSimpArgs false
set_option maxHeartbeats 2000000
namespace Go.Proofs.YtfobnemocodomaaGreat
open Go.RowKit Go.Great

/-- does one of a list cover a dot -/
def covB (l : List Vx) (p c : Int) : Bool := l.any fun y => hasV y.pl p c
theorem covB_step {l : List Vx} {k : Nat} (h : k < l.length) (p c : Int) : covB (l.drop k) p c = (hasV l[k].pl p c || covB (l.drop (k + 1)) p c) := by
  unfold covB; rw [List.drop_eq_getElem_cons h]; rfl
set_option maxRecDepth 100000 in
theorem refCov_any (A : Option Addr) (cap : Nat) (l : List Vx) (y : Vx) (w : World) (h : Vers w A l) :
    Calls Tryz.prog 110 #[.slice A l.length cap, .agg y.cells] w fun r w' => r = .returned (.bool (covB l y.P y.C)) ∧ Gr w w' := by
  have H := Lib.hid h
  have hm := h.1
  clear h
  obtain ⟨P, C, Ay, yl, yc, yD, yT⟩ := y
  unfold Vx.cells
  dsimp only
  have hg1 : Gr w (w.alloc (.cells #[.int .i64 P, .int .i64 C, .slice Ay yl.length yc, .bool yD, .string yT] 114)) := (Gr.rfl' w).al _
  have hn := World.alloc_heap_new w (.cells #[.int .i64 P, .int .i64 C, .slice Ay yl.length yc, .bool yD, .string yT] 114)
  have HBX : Hid (∀ W, Gr (w.alloc (.cells #[.int .i64 P, .int .i64 C, .slice Ay yl.length yc, .bool yD, .string yT] 114)) W → W.cell? ⟨w.heap.size, 0, none⟩ = some (.int .i64 P) ∧ W.cell? ⟨w.heap.size, 1, none⟩ = some (.int .i64 C) ∧ W.cell? ⟨w.heap.size, 2, none⟩ = some (.slice Ay yl.length yc) ∧ W.cell? ⟨w.heap.size, 3, none⟩ = some (.bool yD) ∧ W.cell? ⟨w.heap.size, 4, none⟩ = some (.string yT)) := Lib.hid fun W g => by
    have hb := (g.block _ (Array.getElem?_eq_some_iff.1 hn).1).trans hn
    simp only [World.cell?, hb]
    exact ⟨rfl, rfl, rfl, rfl, rfl⟩
  have HG := Lib.hid hg1
  have g0 := Lib.hid (Gr.rfl' (w.alloc (.cells #[.int .i64 P, .int .i64 C, .slice Ay yl.length yc, .bool yD, .string yT] 114)))
  clear hn hg1
  go_enter Tryz.func110, Tryz.ntmps110
  go_wp2
  go_loopw [5] (fun i wr => ∃ k : Nat, k ≤ l.length ∧ i = .int .i64 k ∧ Hid (covB l P C = covB (l.drop k) P C) ∧ Hid (Gr (w.alloc (.cells #[.int .i64 P, .int .i64 C, .slice Ay yl.length yc, .bool yD, .string yT] 114)) wr)) (fun i _ => l.length - (intOf i).toNat)
  case atStart => exact ⟨0, Nat.zero_le _, rfl, Lib.hid rfl, g0⟩
  case round =>
    clear g0
    obtain ⟨k, hk, rfl, hch, HI⟩ := hrel
    by_cases hlt : k < l.length
    · have hi1 : (k : Int) < (l.length : Int) := by omega
      obtain ⟨ad, rfl, hvx, hcx⟩ := (H.out.gr (HG.out.tr HI.out)).2 k hlt
      have hst := covB_step hlt P C
      rw [← hch.out] at hst
      obtain ⟨x, hx⟩ : ∃ x, l[k] = x := ⟨_, rfl⟩
      rw [hx] at hvx hcx hst
      have HVX := Lib.hid hvx
      have HST := Lib.hid hst
      have HCX := Lib.hid (vat_of hcx)
      have GD : Gr wr wr.drew := (Gr.rfl' wr).dr
      have HC := Lib.hid (fun (W : World) (g : Gr wr W) => vCovers2_any x ⟨P, C, Ay, yl, yc, yD, yT⟩ W (HVX.out.gr g))
      clear hvx hcx hst hx hch
      by_cases hs : hasV x.pl P C = true
      · have HN : Hid (covB l P C = true) := Lib.hid (by rw [HST.out, hs]; rfl)
        simp only [hs] at HC
        clear hs
        clear HST HVX
        obtain ⟨xP, xC, xA, xl, xc, xD, xT⟩ := x
        unfold Vx.cells at HC
        dsimp only at HC HCX
        go_upto_region 4 with (fail)
        go_region_held3 (fun w' => (w'.cell? (ad.add (k * 5)) = some (.int .i64 xP) ∧ w'.cell? ⟨(ad.add (k * 5)).block, (ad.add (k * 5)).off + 1, none⟩ = some (.int .i64 xC) ∧ w'.cell? ⟨(ad.add (k * 5)).block, (ad.add (k * 5)).off + 2, none⟩ = some (.slice xA xl.length xc) ∧ w'.cell? ⟨(ad.add (k * 5)).block, (ad.add (k * 5)).off + 3, none⟩ = some (.bool xD) ∧ w'.cell? ⟨(ad.add (k * 5)).block, (ad.add (k * 5)).off + 4, none⟩ = some (.string xT)) ∧ w'.cell? ⟨w.heap.size, 0, none⟩ = some (.int .i64 P) ∧ w'.cell? ⟨w.heap.size, 1, none⟩ = some (.int .i64 C) ∧ w'.cell? ⟨w.heap.size, 2, none⟩ = some (.slice Ay yl.length yc) ∧ w'.cell? ⟨w.heap.size, 3, none⟩ = some (.bool yD) ∧ w'.cell? ⟨w.heap.size, 4, none⟩ = some (.string yT)) (exact (have h1 := HCX.out.gr GD; have h2 := HBX.out _ (HI.out.tr GD); ⟨⟨h1.1, h1.2.1, h1.2.2.1, h1.2.2.2.1, h1.2.2.2.2⟩, h2⟩)) (first
          | (go_at_call 136; refine (HC.out _ GD).mono ?_; rintro r wc ⟨rfl, hgc⟩; replace GD := GD.tr hgc; clear hgc))
        go_wp2
        go_ret
        rw [HN.out]
        exact ⟨rfl, HG.out.tr (HI.out.tr GD)⟩
      · have hs : hasV x.pl P C = false := by simpa using hs
        have HN : Hid (covB l P C = covB (l.drop (k + 1)) P C) := Lib.hid (by rw [HST.out, hs]; rfl)
        simp only [hs] at HC
        clear hs
        clear HST HVX
        obtain ⟨xP, xC, xA, xl, xc, xD, xT⟩ := x
        unfold Vx.cells at HC
        dsimp only at HC HCX
        go_upto_region 4 with (fail)
        go_region_held3 (fun w' => (w'.cell? (ad.add (k * 5)) = some (.int .i64 xP) ∧ w'.cell? ⟨(ad.add (k * 5)).block, (ad.add (k * 5)).off + 1, none⟩ = some (.int .i64 xC) ∧ w'.cell? ⟨(ad.add (k * 5)).block, (ad.add (k * 5)).off + 2, none⟩ = some (.slice xA xl.length xc) ∧ w'.cell? ⟨(ad.add (k * 5)).block, (ad.add (k * 5)).off + 3, none⟩ = some (.bool xD) ∧ w'.cell? ⟨(ad.add (k * 5)).block, (ad.add (k * 5)).off + 4, none⟩ = some (.string xT)) ∧ w'.cell? ⟨w.heap.size, 0, none⟩ = some (.int .i64 P) ∧ w'.cell? ⟨w.heap.size, 1, none⟩ = some (.int .i64 C) ∧ w'.cell? ⟨w.heap.size, 2, none⟩ = some (.slice Ay yl.length yc) ∧ w'.cell? ⟨w.heap.size, 3, none⟩ = some (.bool yD) ∧ w'.cell? ⟨w.heap.size, 4, none⟩ = some (.string yT)) (exact (have h1 := HCX.out.gr GD; have h2 := HBX.out _ (HI.out.tr GD); ⟨⟨h1.1, h1.2.1, h1.2.2.1, h1.2.2.2.1, h1.2.2.2.2⟩, h2⟩)) (first
          | (go_at_call 136; refine (HC.out _ GD).mono ?_; rintro r wc ⟨rfl, hgc⟩; replace GD := GD.tr hgc; clear hgc))
        go_wp2
        go_roundw
        case rel => exact ⟨k + 1, by omega, by go_num, HN, Lib.hid (HI.out.tr GD)⟩
        case measure => simp [intOf]; omega
    · have hk' : k = l.length := by omega
      subst hk'
      have HN : Hid (covB l P C = false) := Lib.hid (by have := hch.out; rw [List.drop_length] at this; exact this)
      go_wp2
      go_ret
      rw [HN.out]
      exact ⟨rfl, HG.out.tr HI.out⟩
end Go.Proofs.YtfobnemocodomaaGreat
set_option linter.unusedVariables false
set_option linter.unusedSimpArgs false
set_option maxHeartbeats 2000000
namespace Go.Proofs.YtfobnemocodomaaGreat
open Go.RowKit Go.Great

def verGo (last : Int) : List Vx → Int
  | [] => 0
  | x :: r => if verChk x ≠ 0 then verChk x else if x.P ≤ last then 8 else verGo x.P r
def lastV (l : List Vx) (k : Nat) : Int := if h : 0 < k ∧ k ≤ l.length then l[k - 1].P else -1
def covAny (l m : List Vx) : Bool := m.any fun x => covB l x.P x.C
/-- why versions may not be a leaf -/
def leafChk (l : List Vx) : Int := if 64 < l.length then 2 else if verGo (-1) l ≠ 0 then verGo (-1) l else if covAny l l = true then 7 else 0
theorem ver_pos {x : Vx} (h : verChk x = 0) : 0 ≤ x.P := by
  unfold verChk at h
  by_cases h0 : dotChk x.P x.C = 0
  · unfold dotChk at h0
    split at h0 <;> omega
  · rw [if_pos h0] at h; exact absurd h h0
theorem covAny_step (l : List Vx) {m : List Vx} {k : Nat} (h : k < m.length) : covAny l (m.drop k) = (covB l m[k].P m[k].C || covAny l (m.drop (k + 1))) := by
  unfold covAny; rw [List.drop_eq_getElem_cons h]; rfl
set_option maxRecDepth 100000 in
theorem refLeaf_any (A : Option Addr) (cap : Nat) (l : List Vx) (w : World) (h : Vers w A l) :
    Calls Tryz.prog 77 #[.slice A l.length cap] w fun r w' => r = .returned (.int .i64 (leafChk l)) ∧ Gr w w' := by
  have H := Lib.hid h
  have hm := h.1
  have g0 := Lib.hid (Gr.rfl' w)
  clear h
  by_cases h64 : 64 < l.length
  · have h64i : (64 : Int) < l.length := by omega
    have HV : Hid (leafChk l = 2) := Lib.hid (by unfold leafChk; rw [if_pos h64])
    go_enter Tryz.func77, Tryz.ntmps77
    go_wp2
    go_ret
    rw [HV.out]
    exact ⟨rfl, g0.out⟩
  · have h64i : ¬ (64 : Int) < l.length := by omega
    go_enter Tryz.func77, Tryz.ntmps77
    go_wp2
    go_loopw [3] (fun i wr => ∃ k : Nat, k ≤ l.length ∧ i = .int .i64 k ∧ Hid (verGo (-1) l = verGo (lastV l k) (l.drop k)) ∧ Hid (Gr w wr)) (fun i _ => l.length - (intOf i).toNat)
    case atStart => exact ⟨0, Nat.zero_le _, rfl, Lib.hid rfl, g0⟩
    case round =>
      clear g0
      obtain ⟨k, hk, rfl, hch, HG⟩ := hrel
      by_cases hlt : k < l.length
      · have hi1 : (k : Int) < (l.length : Int) := by omega
        obtain ⟨ad, rfl, hvx, hcx⟩ := (H.out.gr HG.out).2 k hlt
        have hst : verGo (lastV l k) (l.drop k) = if verChk l[k] ≠ 0 then verChk l[k] else if l[k].P ≤ lastV l k then 8 else verGo l[k].P (l.drop (k + 1)) := by rw [List.drop_eq_getElem_cons hlt]; rfl
        rw [← hch.out] at hst
        have hls : lastV l (k + 1) = l[k].P := by unfold lastV; rw [dif_pos ⟨by omega, by omega⟩]; rfl
        rw [← hls] at hst
        obtain ⟨x, hx⟩ : ∃ x, l[k] = x := ⟨_, rfl⟩
        rw [hx] at hvx hcx hst hls
        have HVX := Lib.hid hvx
        have HST := Lib.hid hst
        have HLS := Lib.hid hls
        have HCX : Hid (∀ j v, x.cells.toList[j]? = some v → wr.cell? ((ad.add (k * 5)).add j) = some v) := Lib.hid fun j v hj => hcx j v (by simpa using hj)
        have d0 := (vat_of hcx).1
        clear hst hls hvx hx hch
        have hk2 := vCheck2_any x _ HVX.out
        clear hcx
        by_cases hv : verChk x = 0
        · have HPP := Lib.hid (ver_pos hv)
          have HVZ := Lib.hid hv
          rw [hv] at hk2
          have HK := Lib.hid hk2
          clear hk2 hv
          rcases k with _ | j
          · have HN : Hid (verGo (-1) l = verGo (lastV l 1) (l.drop 1)) := Lib.hid (by rw [HST.out, if_neg (by simpa using HVZ.out), if_neg (by have := HPP.out; rw [HLS.out]; show ¬ x.P ≤ -1; omega)])
            simp only [Nat.zero_mul, Addr.add_zero'] at d0
            go_wp2_with (refine ld_at rfl 114 (.tmp 17) rfl _ rfl x.cells.toList _ HCX.out Tryz.underlying114 rfl (by kernel_rfl) ?_)
            refine (HK.out).mono ?_
            rintro e w1 ⟨rfl, hg1⟩
            replace d0 := hg1.cell d0
            go_wp2
            refine wp_region_quiet_lit (by kernel_rfl) (by kernel_rfl) ?_
            repeat (first | go_big_quiet_step (fail) | quiet_step (fail))
            refine wpQuiet_nil ?_
            intro _ hw'
            obtain ⟨nq, hw''⟩ := hw'
            subst hw''
            go_wp2
            go_roundw
            case rel => exact ⟨1, by omega, by go_num, HN, Lib.hid ((HG.out.tr hg1).drN _)⟩
            case measure => simp [intOf]; omega
          · obtain ⟨ad', e', _, hcy⟩ := (H.out.gr HG.out).2 j (by omega)
            cases e'
            have d2 := (vat_of hcy).1
            have hpl : lastV l (j + 1) = l[j].P := by unfold lastV; rw [dif_pos ⟨by omega, by omega⟩]; rfl
            obtain ⟨y, hy⟩ : ∃ y, l[j] = y := ⟨_, rfl⟩
            rw [hy] at d2 hpl
            have HPL := Lib.hid hpl
            have hi2 : (j : Int) < (l.length : Int) := by omega
            clear hpl hcy hy
            by_cases hle : x.P ≤ y.P
            · have HN : Hid (leafChk l = 8) := Lib.hid (by
                have h8 : verGo (-1) l = 8 := by rw [HST.out, if_neg (by simpa using HVZ.out), if_pos (by rw [HLS.out, HPL.out]; exact hle)]
                unfold leafChk; rw [if_neg h64, h8]; rfl)
              go_wp2_with (refine ld_at rfl 114 (.tmp 17) rfl _ rfl x.cells.toList _ HCX.out Tryz.underlying114 rfl (by kernel_rfl) ?_)
              refine (HK.out).mono ?_
              rintro e w1 ⟨rfl, hg1⟩
              replace d0 := hg1.cell d0
              replace d2 := hg1.cell d2
              go_wp2
              refine wp_region_quiet_lit (by kernel_rfl) (by kernel_rfl) ?_
              repeat (first | go_big_quiet_step (fail) | quiet_step (fail))
              refine wpQuiet_nil ?_
              intro _ hw'
              obtain ⟨nq, hw''⟩ := hw'
              subst hw''
              go_wp2
              go_ret
              rw [HN.out]
              exact ⟨rfl, (HG.out.tr hg1).drN _⟩
            · have HN : Hid (verGo (-1) l = verGo (lastV l (j + 1 + 1)) (l.drop (j + 1 + 1))) := Lib.hid (by rw [HST.out, if_neg (by simpa using HVZ.out), if_neg (by rw [HLS.out, HPL.out]; exact hle)])
              go_wp2_with (refine ld_at rfl 114 (.tmp 17) rfl _ rfl x.cells.toList _ HCX.out Tryz.underlying114 rfl (by kernel_rfl) ?_)
              refine (HK.out).mono ?_
              rintro e w1 ⟨rfl, hg1⟩
              replace d0 := hg1.cell d0
              replace d2 := hg1.cell d2
              go_wp2
              refine wp_region_quiet_lit (by kernel_rfl) (by kernel_rfl) ?_
              repeat (first | go_big_quiet_step (fail) | quiet_step (fail))
              refine wpQuiet_nil ?_
              intro _ hw'
              obtain ⟨nq, hw''⟩ := hw'
              subst hw''
              go_wp2
              go_roundw
              case rel => exact ⟨j + 1 + 1, by omega, by go_num, HN, Lib.hid ((HG.out.tr hg1).drN _)⟩
              case measure => simp [intOf]; omega
        · have hvb : (verChk x != 0) = true := by simp [hv]
          have HN : Hid (leafChk l = verChk x) := Lib.hid (by
            have h8 : verGo (-1) l = verChk x := by rw [HST.out, if_pos hv]
            unfold leafChk; rw [if_neg h64, h8, if_pos hv])
          have HK := Lib.hid hk2
          clear hk2 hv
          go_wp2_with (refine ld_at rfl 114 (.tmp 17) rfl _ rfl x.cells.toList _ HCX.out Tryz.underlying114 rfl (by kernel_rfl) ?_)
          refine (HK.out).mono ?_
          rintro e w1 ⟨rfl, hg1⟩
          replace d0 := hg1.cell d0
          go_wp2
          go_ret
          rw [HN.out]
          exact ⟨rfl, HG.out.tr hg1⟩
      · have hkk : k = l.length := by omega
        have hi1 : ¬ (k : Int) < (l.length : Int) := by omega
        have hz : verGo (-1) l = 0 := by rw [hch.out, hkk, List.drop_length]; rfl
        have HZ : Hid (leafChk l = if covAny l l = true then 7 else 0) := Lib.hid (by unfold leafChk; rw [if_neg h64, hz]; rfl)
        have g1 := Lib.hid (Gr.rfl' wr)
        clear hz hch
        go_wp2
        go_loopw [5] (fun i wi => ∃ q : Nat, q ≤ l.length ∧ i = .int .i64 q ∧ Hid (covAny l l = covAny l (l.drop q)) ∧ Hid (Gr wr wi)) (fun i _ => l.length - (intOf i).toNat)
        case atStart => exact ⟨0, Nat.zero_le _, rfl, Lib.hid rfl, g1⟩
        case round =>
          clear g1
          obtain ⟨q, hq, rfl, hcq, HI⟩ := hrel
          by_cases hlq : q < l.length
          · have hq1 : (q : Int) < (l.length : Int) := by omega
            obtain ⟨ad, rfl, hvx, hcx⟩ := (H.out.gr (HG.out.tr HI.out)).2 q hlq
            have hst := covAny_step l hlq
            rw [← hcq.out] at hst
            obtain ⟨x, hx⟩ : ∃ x, l[q] = x := ⟨_, rfl⟩
            rw [hx] at hvx hcx hst
            have HST := Lib.hid hst
            have HCX : Hid (∀ j v, x.cells.toList[j]? = some v → wr.cell? ((ad.add (q * 5)).add j) = some v) := Lib.hid fun j v hj => hcx j v (by simpa using hj)
            have hcv := refCov_any (some ad) cap l x wr (H.out.gr (HG.out.tr HI.out))
            clear hst hvx hcx hx hcq
            by_cases hc : covB l x.P x.C = true
            · rw [hc] at hcv
              have HK := Lib.hid hcv
              have HN : Hid (leafChk l = 7) := Lib.hid (by rw [HZ.out, if_pos (by rw [HST.out, hc]; rfl)])
              clear hcv hc
              go_wp2_with (refine ld_at rfl 114 (.tmp 50) rfl _ rfl x.cells.toList _ HCX.out Tryz.underlying114 rfl (by kernel_rfl) ?_)
              refine (HK.out).mono ?_
              rintro e w1 ⟨rfl, hg1⟩
              go_wp2
              go_ret
              rw [HN.out]
              exact ⟨rfl, (HG.out.tr HI.out).tr hg1⟩
            · have hc : covB l x.P x.C = false := by simpa using hc
              rw [hc] at hcv
              have HK := Lib.hid hcv
              have HN : Hid (covAny l l = covAny l (l.drop (q + 1))) := Lib.hid (by rw [HST.out, hc]; rfl)
              clear hcv hc
              go_wp2_with (refine ld_at rfl 114 (.tmp 50) rfl _ rfl x.cells.toList _ HCX.out Tryz.underlying114 rfl (by kernel_rfl) ?_)
              refine (HK.out).mono ?_
              rintro e w1 ⟨rfl, hg1⟩
              go_wp2
              go_roundw
              case rel => exact ⟨q + 1, by omega, by go_num, HN, Lib.hid (HI.out.tr hg1)⟩
              case measure => simp [intOf]; omega
          · have hq1 : ¬ (q : Int) < (l.length : Int) := by omega
            have hqq : q = l.length := by omega
            have HN : Hid (leafChk l = 0) := Lib.hid (by rw [HZ.out, if_neg (by rw [hcq.out, hqq, List.drop_length]; simp [covAny])])
            clear hqq
            go_wp2
            go_ret
            rw [HN.out]
            exact ⟨rfl, HG.out.tr HI.out⟩
end Go.Proofs.YtfobnemocodomaaGreat
set_option linter.unusedVariables false
set_option linter.unusedSimpArgs false
set_option maxHeartbeats 2000000
namespace Go.Proofs.YtfobnemocodomaaGreat
open Go.RowKit Go.Great

set_option maxRecDepth 100000 in
theorem cov11_any (y x : Vx) (b : Nat) (w : World) (hy : VxOk w y) (hb : w.heap[b]? = some (.cells x.cells 114 (0, 0))) :
    Calls Tryz.prog 131 #[.agg y.cells, .pointer (some ⟨b, 0, none⟩)] w fun r w' => r = .returned (.bool (hasV y.pl x.P x.C)) ∧ Gr w w' := by
  have hn := World.alloc_heap_new w (.cells y.cells 114)
  have hg : Gr w (w.alloc (.cells y.cells 114)) := (Gr.rfl' w).al _
  have hb2 := (hg.block b (Array.getElem?_eq_some_iff.1 hb).1).trans hb
  have HN := Lib.hid hn
  have HB := Lib.hid hb2
  have HG := Lib.hid hg
  have HC := Lib.hid (vCovers1_any y x _ (hy.gr hg))
  clear hn hg hb hb2 hy
  go_enter Tryz.func131, Tryz.ntmps131
  go_wp2_with (first
    | refine wpList_load_row rfl 114 (.tmp 2) rfl w.heap.size rfl 114 y.cells (0, 0) _ HN.out Tryz.underlying114 rfl (by kernel_rfl) ?_
    | refine wpList_load_row rfl 114 (.tmp 1) rfl b rfl 114 x.cells (0, 0) _ HB.out Tryz.underlying114 rfl (by kernel_rfl) ?_)
  refine (HC.out).mono ?_
  rintro r w1 ⟨rfl, g1⟩
  go_wp2
  go_ret
  exact ⟨rfl, HG.out.tr g1⟩
def covIdx (p c : Int) : Int → List Vx → Int
  | _, [] => -1
  | k, y :: r => if hasV y.pl p c = true then k else covIdx p c (k + 1) r
theorem covIdx_spec (p c : Int) : ∀ (l : List Vx) (k : Int), 0 ≤ k → (decide (0 ≤ covIdx p c k l) = covB l p c)
  | [], k, _ => by simp [covIdx, covB]
  | y :: r, k, h => by
    have ih := covIdx_spec p c r (k + 1) (by omega)
    unfold covIdx
    have e : covB (y :: r) p c = (hasV y.pl p c || covB r p c) := rfl
    by_cases hh : hasV y.pl p c = true
    · rw [if_pos hh, e, hh]; simp [h]
    · rw [if_neg hh, e, ih]; simp at hh; simp [hh]
set_option maxRecDepth 100000 in
theorem covIndex_any (A : Option Addr) (cap : Nat) (l : List Vx) (x : Vx) (b : Nat) (w : World) (h : Vers w A l) (hb : w.heap[b]? = some (.cells x.cells 114 (0, 0))) :
    Calls Tryz.prog 128 #[.slice A l.length cap, .func (.func 131) #[] #[.pointer (some ⟨b, 0, none⟩)]] w fun e w' => e = .returned (.int .i64 (covIdx x.P x.C 0 l)) ∧ Gr w w' := by
  have H := Lib.hid h; clear h
  have HB := Lib.hid hb; clear hb
  have hm := H.out.1
  have g0 := Lib.hid (Gr.rfl' w)
  go_enter Tryz.func128, Tryz.ntmps128
  go_wp2
  go_loopw [8] (fun i wr => ∃ k : Nat, k ≤ l.length ∧ i = .int .i64 k ∧ Hid (covIdx x.P x.C 0 l = covIdx x.P x.C k (l.drop k)) ∧ Hid (Gr w wr)) (fun i _ => l.length - (intOf i).toNat)
  case atStart => exact ⟨0, Nat.zero_le _, rfl, Lib.hid rfl, g0⟩
  case round =>
    clear g0
    obtain ⟨k, hk, rfl, hch, HG⟩ := hrel
    by_cases hlt : k < l.length
    · have hi1 : (k : Int) < (l.length : Int) := by omega
      obtain ⟨ad, rfl, hvx, hcx⟩ := (H.out.gr HG.out).2 k hlt
      have hst : covIdx x.P x.C k (l.drop k) = if hasV l[k].pl x.P x.C = true then (k : Int) else covIdx x.P x.C (k + 1 : Int) (l.drop (k + 1)) := by rw [List.drop_eq_getElem_cons hlt]; rfl
      rw [← hch.out] at hst
      obtain ⟨y, hy⟩ : ∃ y, l[k] = y := ⟨_, rfl⟩
      rw [hy] at hvx hcx hst
      have HST := Lib.hid hst
      have HCX : Hid (∀ j v, y.cells.toList[j]? = some v → wr.cell? ((ad.add (k * 5)).add j) = some v) := Lib.hid fun j v hj => hcx j v (by simpa using hj)
      have hc := cov11_any y x b wr hvx ((HG.out.block b (Array.getElem?_eq_some_iff.1 HB.out).1).trans HB.out)
      clear hst hvx hcx hy hch
      by_cases hh : hasV y.pl x.P x.C = true
      · rw [hh] at hc
        have HC := Lib.hid hc
        have HN : Hid (covIdx x.P x.C 0 l = k) := Lib.hid (by rw [HST.out, if_pos hh])
        clear hc hh
        go_wp2_with (refine ld_at rfl 114 (.tmp 14) rfl _ rfl y.cells.toList _ HCX.out Tryz.underlying114 rfl (by kernel_rfl) ?_)
        refine (HC.out).mono ?_
        rintro e w1 ⟨rfl, hg1⟩
        go_wp2
        go_ret
        rw [HN.out]
        exact ⟨rfl, HG.out.tr hg1⟩
      · have HN : Hid (covIdx x.P x.C 0 l = covIdx x.P x.C ((k + 1 : Nat) : Int) (l.drop (k + 1))) := Lib.hid (by rw [HST.out, if_neg hh]; rfl)
        have hh : hasV y.pl x.P x.C = false := by simpa using hh
        rw [hh] at hc
        have HC := Lib.hid hc
        clear hc hh
        go_wp2_with (refine ld_at rfl 114 (.tmp 14) rfl _ rfl y.cells.toList _ HCX.out Tryz.underlying114 rfl (by kernel_rfl) ?_)
        refine (HC.out).mono ?_
        rintro e w1 ⟨rfl, hg1⟩
        go_wp2
        go_roundw
        case rel => exact ⟨k + 1, by omega, by go_num, HN, Lib.hid (HG.out.tr hg1)⟩
        case measure => simp [intOf]; omega
    · have hk' : k = l.length := by omega
      have hi1 : ¬ (k : Int) < (l.length : Int) := by omega
      have HN : Hid (covIdx x.P x.C 0 l = -1) := Lib.hid (by rw [hch.out, hk', List.drop_length]; rfl)
      clear hk' hch
      go_wp2
      go_ret
      rw [HN.out]
      exact ⟨rfl, HG.out⟩
set_option maxRecDepth 100000 in
theorem covHas_any (A : Option Addr) (cap : Nat) (l : List Vx) (x : Vx) (b : Nat) (w : World) (h : Vers w A l) (hb : w.heap[b]? = some (.cells x.cells 114 (0, 0))) :
    Calls Tryz.prog 104 #[.slice A l.length cap, .func (.func 131) #[] #[.pointer (some ⟨b, 0, none⟩)]] w fun e w' => e = .returned (.bool (covB l x.P x.C)) ∧ Gr w w' := by
  have HC := Lib.hid (covIndex_any A cap l x b w h hb)
  have HS := Lib.hid (covIdx_spec x.P x.C l 0 (by omega))
  clear h hb
  go_enter Tryz.func104, Tryz.ntmps104
  go_wp2_with fail
  refine (HC.out).mono ?_
  rintro e w1 ⟨rfl, hg1⟩
  go_wp2
  go_ret
  exact ⟨ret_bool HS.out, hg1⟩
end Go.Proofs.YtfobnemocodomaaGreat
