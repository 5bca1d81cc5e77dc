/- Rows of versions of one's own; which versions live. -/
import Derived.Test.YtfobnemocodomaaSibC
set_option linter.unusedVariables false
set_option linter.unusedSimpArgs false
set_option maxHeartbeats 4000000
namespace Go.Proofs.Ytfobnemocodomaa
open Go.RowKit Go.Great

def vCells (l : List Vx) : List Value := l.flatMap fun x => x.cells.toList
theorem vCells_len (l : List Vx) : (vCells l).length = l.length * 5 := by
  induction l with
  | nil => rfl
  | cons x r ih =>
    have e : (vCells (x :: r)).length = 5 + (vCells r).length := by simp [vCells, Vx.cells]; omega
    rw [e, ih, List.length_cons]; omega
theorem vCells_app (l m : List Vx) : vCells (l ++ m) = vCells l ++ vCells m := by simp [vCells]
theorem vCells_at : ∀ (l : List Vx) (i j : Nat) (h : i < l.length) (v : Value), l[i].cells[j]? = some v → (vCells l)[i * 5 + j]? = some v
  | [], i, j, h, v, hv => by simp at h
  | x :: r, i, j, h, v, hv => by
    have e : vCells (x :: r) = x.cells.toList ++ vCells r := by simp [vCells]
    have hl : x.cells.toList.length = 5 := rfl
    rw [e]
    cases i with
    | zero =>
      simp only [List.getElem_cons_zero] at hv
      have hj : j < 5 := (Array.getElem?_eq_some_iff.1 hv).1
      rw [List.getElem?_append_left (by rw [hl]; omega), Nat.zero_mul, Nat.zero_add]
      simpa using hv
    | succ i =>
      simp only [List.getElem_cons_succ] at hv
      rw [List.getElem?_append_right (by rw [hl]; omega), hl, show (i + 1) * 5 + j - 5 = i * 5 + j by omega]
      exact vCells_at r i j (by simpa using h) v hv
theorem vOnes (l : List Vx) : ∀ u ∈ vCells l, u.oneCell' = true := by
  intro u hu
  unfold vCells at hu
  rw [List.mem_flatMap] at hu
  obtain ⟨x, _, hu⟩ := hu
  have := vOne x
  rw [Array.all_eq_true_iff_forall_mem] at this
  exact this u (by simpa using hu)
theorem infoV : (Try.prog.info? 49).map (fun i => (i.zero, i.size, i.bytes)) = some (some (.agg Z5), 5, 64) := by kernel_rfl
/-- versions in a row of one's own -/
def OwnV (W : World) (B : Nat) (v : Value) (l : List Vx) : Prop := (v = .slice none 0 0 ∧ l = []) ∨ ∃ g, B ≤ g ∧ OwnG 49 5 W g v l.length (vCells l)
theorem OwnV.gr {W W' : World} {B : Nat} {v : Value} {l : List Vx} (h : OwnV W B v l) (k : Gr W W') : OwnV W' B v l := by
  rcases h with h | ⟨g, h1, h2⟩
  · exact Or.inl h
  · exact Or.inr ⟨g, h1, h2.gr k⟩

theorem vNew (w : World) (x : Vx) : ∀ j u, x.cells.toList[j]? = some u → (w.alloc (.cells x.cells 49)).cell? ((⟨w.heap.size, 0, none⟩ : Addr).add j) = some u := by
  intro j u hj
  have hn := World.alloc_heap_new w (.cells x.cells 49)
  have e : (⟨w.heap.size, 0, none⟩ : Addr).add j = ⟨w.heap.size, j, none⟩ := by unfold Addr.add; split <;> simp_all
  rw [e]
  simp only [World.cell?, hn]
  simpa using hj

def vsOk (W : World) (l : List Vx) : Prop := ∀ x ∈ l, VxOk W x
theorem vsOk.gr {W W' : World} {l : List Vx} (h : vsOk W l) (g : Gr W W') : vsOk W' l := fun x hx => (h x hx).gr g
theorem Vers.oks {W : World} {A : Option Addr} {l : List Vx} (h : Vers W A l) : vsOk W l := fun x hx => by
  obtain ⟨i, hi, rfl⟩ := List.getElem_of_mem hx
  obtain ⟨_, _, h, _⟩ := h.2 i hi; exact h
theorem OwnV.vers {W : World} {B : Nat} {v : Value} {l : List Vx} (h : OwnV W B v l) (ht : vsOk W l) : ∃ A c, v = .slice A l.length c ∧ l.length ≤ c ∧ Vers W A l := by
  rcases h with ⟨rfl, rfl⟩ | ⟨g, _, h⟩
  · exact ⟨none, 0, rfl, Nat.le_refl _, by simp, fun i hi => absurd hi (by simp)⟩
  · obtain ⟨c, rfl, h1, h2⟩ := h.shape
    refine ⟨_, c, rfl, h1, by unfold maxLen at h2; omega, fun i hi => ⟨_, rfl, ht _ (List.getElem_mem hi), fun j u hj => ?_⟩⟩
    have e : (((⟨g, 0, none⟩ : Addr).add (i * 5)).add j) = ⟨g, i * 5 + j, none⟩ := by
      unfold Addr.add
      split <;> split <;> simp_all
    rw [e]
    exact (h.cell _ u (vCells_at l i j hi u hj)).1
theorem OwnV.shp {W : World} {B : Nat} {v : Value} {l : List Vx} (h : OwnV W B v l) : ∃ A n c, v = .slice A n c ∧ Hid (n = l.length) ∧ Hid (∀ D, A = some D → D.block < W.heap.size) := by
  rcases h with ⟨rfl, rfl⟩ | ⟨g, _, hog⟩
  · exact ⟨none, 0, 0, rfl, Lib.hid rfl, Lib.hid (fun _ h => by cases h)⟩
  · obtain ⟨c, h, _⟩ := hog.shape; exact ⟨_, _, c, h, Lib.hid rfl, Lib.hid (fun D hD => by cases hD; exact hog.lt)⟩
theorem OwnV.nil (W : World) (B : Nat) : OwnV W B (.slice none 0 0) [] := Or.inl ⟨rfl, rfl⟩
theorem OwnV.mono {W : World} {B B' : Nat} {v : Value} {l : List Vx} (h : OwnV W B v l) (k : B' ≤ B) : OwnV W B' v l := by
  rcases h with h | ⟨g, h1, h2⟩
  · exact Or.inl h
  · exact Or.inr ⟨g, by omega, h2⟩
def liveL (l : List Vx) : List Vx := l.filter fun x => !x.D
theorem live_step {l : List Vx} {k : Nat} (h : k < l.length) : liveL (l.take (k + 1)) = liveL (l.take k) ++ (if l[k].D = true then [] else [l[k]]) := by
  unfold liveL
  rw [List.take_succ_eq_append_getElem h, List.filter_append]
  congr 1
  cases hd : l[k].D <;> simp [hd]
theorem live_len (l : List Vx) : (liveL l).length ≤ l.length := List.length_filter_le _ _

set_option maxRecDepth 100000 in
theorem vLive1_any (A : Option Addr) (cap : Nat) (l : List Vx) (w : World) (h : Vers w A l) (hlb : l.length ≤ 1000000000) :
    Calls Try.prog 48 #[.slice A l.length cap] w fun r w' => (∃ v, r = .returned v ∧ OwnV w' w.heap.size v (liveL l)) ∧ Gr w w' := by
  have H := Lib.hid h; clear h
  have HG0 := Lib.hid (Gr.rfl' w)
  obtain ⟨i0, hi, hz0, hzs, hz2⟩ := info_parts infoV
  go_enter Try.func48, Try.ntmps48
  go_wp2
  go_loopw [3, 8] (fun v i wr => ∃ k : Nat, k ≤ l.length ∧ i = .int .i64 k ∧ Hid (OwnV wr w.heap.size v (liveL (l.take k))) ∧ Hid (Gr w wr)) (fun _ i _ => l.length - (intOf i).toNat)
  case atStart => exact ⟨0, Nat.zero_le _, rfl, Lib.hid (OwnV.nil _ _), HG0⟩
  case round =>
    clear HG0
    obtain ⟨k, hk, rfl, HO, HG⟩ := hrel
    obtain ⟨Av, ln, cvv, rfl, HLN, HGL⟩ := HO.out.shp
    by_cases hlt : k < l.length
    · have hki : (k : Int) < l.length := by omega
      obtain ⟨ad, rfl, _, hcx⟩ := (H.out.gr HG.out).2 k hlt
      have hst := live_step hlt
      have hrl := live_len (l.take k)
      rw [List.length_take] at hrl
      obtain ⟨r, hr⟩ : ∃ r, liveL (l.take k) = r := ⟨_, rfl⟩
      rw [hr] at hst hrl HO
      obtain ⟨x, hx⟩ : ∃ x, l[k] = x := ⟨_, rfl⟩
      rw [hx] at hcx hst
      have hrl2 : r.length ≤ 1000000000 := by omega
      obtain ⟨P, C, Ax, pl, pc, D, T⟩ := x
      have HCX := Lib.hid hcx
      have HST := Lib.hid hst
      clear hcx hst hx hr hrl HLN HGL
      cases D
      · rw [if_neg (by simp)] at HST
        have HCL0 : Hid (∀ j v, (#[.int .i64 P, .int .i64 C, .slice Ax pl.length pc, .bool false, .string T] : Array Value).toList[j]? = some v → wr.cell? ((ad.add (k * 5)).add j) = some v) := Lib.hid fun j v hj => HCX.out j v (by simpa [Vx.cells] using hj)
        clear HCX
        go_upto_region 6 with (first
          | refine ld_at rfl 49 (.tmp 10) rfl _ rfl [.int .i64 P, .int .i64 C, .slice Ax pl.length pc, .bool false, .string T] _ HCL0.out Try.underlying49 rfl (by kernel_rfl) ?_
          | refine allocV rfl rfl ?_
          | (refine storeV ⟨P, C, Ax, pl, pc, false, T⟩ rfl (.tmp 5) _ rfl rfl rfl rfl ?_; intro wt hx1 hg1; obtain ⟨gX, hgX⟩ : ∃ g, wr.heap.size = g := ⟨_, rfl⟩; rw [hgX] at hx1 ⊢; have HX1 := Lib.hid hx1; have d3 : wt.cell? ⟨gX, 3, none⟩ = some (.bool false) := (by simp only [World.cell?, hx1]; rfl); have GT := Lib.hid (HG.out.tr hg1); replace HO := Lib.hid (HO.out.gr hg1); clear hx1 hg1 hgX HG HCL0))
        rcases HO.out with ⟨hvn, hrn⟩ | ⟨g, hgB, hog⟩
        · cases hvn
          have HA : Hid (Gr wt (wt.alloc (.cells #[.int .i64 P, .int .i64 C, .slice Ax pl.length pc, .bool false, .string T] 49))) := Lib.hid ((Gr.rfl' _).al _)
          have hnw : ∀ (j : Nat) (u : Value), [.int .i64 P, .int .i64 C, .slice Ax pl.length pc, .bool false, .string T][j]? = some u → (wt.alloc (.cells #[.int .i64 P, .int .i64 C, .slice Ax pl.length pc, .bool false, .string T] 49)).cell? ((⟨wt.heap.size, 0, none⟩ : Addr).add j) = some u := vNew wt ⟨P, C, Ax, pl, pc, false, T⟩
          have HNW := Lib.hid hnw
          have HCL : Hid ([.int .i64 P, .int .i64 C, .slice Ax pl.length pc, .bool false, .string T] = vCells [⟨P, C, Ax, pl, pc, false, T⟩]) := Lib.hid (by simp [vCells, Vx.cells])
          have HO1 : Hid (∀ u ∈ ([.int .i64 P, .int .i64 C, .slice Ax pl.length pc, .bool false, .string T] : List Value), u.oneCell' = true) := Lib.hid (by rw [HCL.out]; exact vOnes _)
          have HGA := Lib.hid (GT.out.tr HA.out)
          have HASZ : Hid ((wt.alloc (.cells #[.int .i64 P, .int .i64 C, .slice Ax pl.length pc, .bool false, .string T] 49)).heap.size = wt.heap.size + 1) := Lib.hid (by simp)
          have hwsz := GT.out.size
          clear hnw
          go_wp2_with (first | refine wpList_load_row rfl 49 (.tmp 5) rfl gX rfl 49 #[.int .i64 P, .int .i64 C, .slice Ax pl.length pc, .bool false, .string T] (0, 0) _ HX1.out Try.underlying49 rfl (by kernel_rfl) ?_ | (at_builtin; go_loud (refine wp_appendN rfl _ _ 22 rfl 49 i0 (.agg Z5) 5 64 Try.underlying22 hi hz0 hzs hz2 rfl (by decide) rfl ⟨_, 0, none⟩ 1 1 _ rfl rfl HNW.out HO1.out (by decide) (by decide) (by decide) ?_); intro v' w4 g' hown' hg' hgrow; have hgq : Gr (wt.alloc (.cells #[.int .i64 P, .int .i64 C, .slice Ax pl.length pc, .bool false, .string T] 49)) w4 := ⟨hgrow.os, hgrow.tape, hgrow.output, hgrow.size, fun k hk => hgrow.block k hk (by simp)⟩; have GT4 := Lib.hid (HGA.out.tr hgq); have HO4 : Hid (OwnV w4 w.heap.size v' (r ++ [⟨P, C, Ax, pl, pc, false, T⟩])) := Lib.hid (Or.inr ⟨g', by have := HASZ.out; omega, by rw [hrn]; rw [HCL.out] at hown'; exact hown'⟩); clear hown' hg' hgrow hgq))
          go_roundw
          case rel => exact ⟨k + 1, by omega, by go_num, Lib.hid (by rw [HST.out]; exact HO4.out), GT4⟩
          case measure => simp [intOf]; omega
        · obtain ⟨cv, hcv, hcv1, hcv2⟩ := hog.shape
          cases hcv
          have hgw : g < wt.heap.size := hog.lt
          have HA : Hid (Gr wt (wt.alloc (.cells #[.int .i64 P, .int .i64 C, .slice Ax pl.length pc, .bool false, .string T] 49))) := Lib.hid ((Gr.rfl' _).al _)
          have HOG := Lib.hid (hog.gr HA.out)
          have hnw : ∀ (j : Nat) (u : Value), [.int .i64 P, .int .i64 C, .slice Ax pl.length pc, .bool false, .string T][j]? = some u → (wt.alloc (.cells #[.int .i64 P, .int .i64 C, .slice Ax pl.length pc, .bool false, .string T] 49)).cell? ((⟨wt.heap.size, 0, none⟩ : Addr).add j) = some u := vNew wt ⟨P, C, Ax, pl, pc, false, T⟩
          have HNW := Lib.hid hnw
          have HCL : Hid ([.int .i64 P, .int .i64 C, .slice Ax pl.length pc, .bool false, .string T] = vCells [⟨P, C, Ax, pl, pc, false, T⟩]) := Lib.hid (by simp [vCells, Vx.cells])
          have HO1 : Hid (∀ u ∈ ([.int .i64 P, .int .i64 C, .slice Ax pl.length pc, .bool false, .string T] : List Value), u.oneCell' = true) := Lib.hid (by rw [HCL.out]; exact vOnes _)
          have HGA := Lib.hid (GT.out.tr HA.out)
          have HASZ : Hid ((wt.alloc (.cells #[.int .i64 P, .int .i64 C, .slice Ax pl.length pc, .bool false, .string T] 49)).heap.size = wt.heap.size + 1) := Lib.hid (by simp)
          have hwsz := GT.out.size
          clear hnw hog
          go_wp2_with (first | refine wpList_load_row rfl 49 (.tmp 5) rfl gX rfl 49 #[.int .i64 P, .int .i64 C, .slice Ax pl.length pc, .bool false, .string T] (0, 0) _ HX1.out Try.underlying49 rfl (by kernel_rfl) ?_ | (at_builtin; go_loud (refine wp_appendG rfl _ _ 22 rfl 49 i0 (.agg Z5) 5 64 Try.underlying22 hi hz0 hzs hz2 rfl (by decide) g _ _ _ rfl HOG.out ⟨_, 0, none⟩ 1 1 _ rfl rfl HNW.out HO1.out (by simp only [maxLen]; omega) (by omega) ?_); intro v' w4 g' hown' hg' hgrow; have GT4 := Lib.hid (HGA.out.grown hgrow HGA.out.size (fun j e => by cases e; omega)); have HO4 : Hid (OwnV w4 w.heap.size v' (r ++ [⟨P, C, Ax, pl, pc, false, T⟩])) := Lib.hid (Or.inr ⟨g', by have := HASZ.out; rcases hg' with rfl | hg' <;> omega, by rw [HCL.out] at hown'; rw [vCells_app]; simpa using hown'⟩); clear hown' hg' hgrow))
          go_roundw
          case rel => exact ⟨k + 1, by omega, by go_num, Lib.hid (by rw [HST.out]; exact HO4.out), GT4⟩
          case measure => simp [intOf]; omega
      · rw [if_pos rfl, List.append_nil] at HST
        have HCL0 : Hid (∀ j v, (#[.int .i64 P, .int .i64 C, .slice Ax pl.length pc, .bool true, .string T] : Array Value).toList[j]? = some v → wr.cell? ((ad.add (k * 5)).add j) = some v) := Lib.hid fun j v hj => HCX.out j v (by simpa [Vx.cells] using hj)
        clear HCX
        go_wp2_with (first
          | refine ld_at rfl 49 (.tmp 10) rfl _ rfl [.int .i64 P, .int .i64 C, .slice Ax pl.length pc, .bool true, .string T] _ HCL0.out Try.underlying49 rfl (by kernel_rfl) ?_
          | refine allocV rfl rfl ?_
          | (refine storeV ⟨P, C, Ax, pl, pc, true, T⟩ rfl (.tmp 5) _ rfl rfl rfl rfl ?_; intro wt hx1 hg1; obtain ⟨gX, hgX⟩ : ∃ g, wr.heap.size = g := ⟨_, rfl⟩; rw [hgX] at hx1 ⊢; have HX1 := Lib.hid hx1; have d3 : wt.cell? ⟨gX, 3, none⟩ = some (.bool true) := (by simp only [World.cell?, hx1]; rfl); have GT := Lib.hid (HG.out.tr hg1); replace HO := Lib.hid (HO.out.gr hg1); clear hx1 hg1 hgX HG HCL0))
        go_roundw
        case rel => exact ⟨k + 1, by omega, by go_num, Lib.hid (by rw [HST.out]; exact HO.out), GT⟩
        case measure => simp [intOf]; omega
    · have hki : ¬ (k : Int) < l.length := by omega
      have hkk : k = l.length := by omega
      subst hkk
      rw [List.take_length] at HO
      go_wp2
      refine bodyPost_ret (v := .slice Av ln cvv) (by simp [results, Try.results48, go_sem]) rfl ?_
      exact ⟨⟨_, rfl, HO.out⟩, HG.out⟩
set_option maxRecDepth 100000 in
theorem vLive2_any (A : Option Addr) (cap : Nat) (l : List Vx) (w : World) (h : Vers w A l) (hlb : l.length ≤ 1000000000) :
    Calls Try.prog 25 #[.slice A l.length cap] w fun r w' => (∃ v, r = .returned v ∧ OwnV w' w.heap.size v (liveL l)) ∧ Gr w w' := by
  have H := Lib.hid h; clear h
  have HG0 := Lib.hid (Gr.rfl' w)
  obtain ⟨i0, hi, hz0, hzs, hz2⟩ := info_parts infoV
  go_enter Try.func25, Try.ntmps25
  go_wp2
  go_loopw [3, 4] (fun v i wr => ∃ k : Nat, k ≤ l.length ∧ i = .int .i64 k ∧ Hid (OwnV wr w.heap.size v (liveL (l.take k))) ∧ Hid (Gr w wr)) (fun _ i _ => l.length - (intOf i).toNat)
  case atStart => exact ⟨0, Nat.zero_le _, rfl, Lib.hid (OwnV.nil _ _), HG0⟩
  case round =>
    clear HG0
    obtain ⟨k, hk, rfl, HO, HG⟩ := hrel
    obtain ⟨Av, ln, cvv, rfl, HLN, HGL⟩ := HO.out.shp
    by_cases hlt : k < l.length
    · have hki : (k : Int) < l.length := by omega
      obtain ⟨ad, rfl, _, hcx⟩ := (H.out.gr HG.out).2 k hlt
      have hst := live_step hlt
      have hrl := live_len (l.take k)
      rw [List.length_take] at hrl
      obtain ⟨r, hr⟩ : ∃ r, liveL (l.take k) = r := ⟨_, rfl⟩
      rw [hr] at hst hrl HO
      obtain ⟨x, hx⟩ : ∃ x, l[k] = x := ⟨_, rfl⟩
      rw [hx] at hcx hst
      have hrl2 : r.length ≤ 1000000000 := by omega
      obtain ⟨P, C, Ax, pl, pc, D, T⟩ := x
      have HCX := Lib.hid hcx
      have HST := Lib.hid hst
      clear hcx hst hx hr hrl HLN HGL
      cases D
      · rw [if_neg (by simp)] at HST
        have HCL0 : Hid (∀ j v, (#[.int .i64 P, .int .i64 C, .slice Ax pl.length pc, .bool false, .string T] : Array Value).toList[j]? = some v → wr.cell? ((ad.add (k * 5)).add j) = some v) := Lib.hid fun j v hj => HCX.out j v (by simpa [Vx.cells] using hj)
        have d3 : wr.cell? ⟨(ad.add (k * 5)).block, (ad.add (k * 5)).off + 3, none⟩ = some (.bool false) := (vat_of HCX.out).2.2.2.1
        clear HCX
        obtain ⟨wt, hwt⟩ : ∃ wt, wr = wt := ⟨_, rfl⟩
        subst hwt
        have GT := HG
        rcases HO.out with ⟨hvn, hrn⟩ | ⟨g, hgB, hog⟩
        · cases hvn
          have HA : Hid (Gr wr (wr.alloc (.cells #[.int .i64 P, .int .i64 C, .slice Ax pl.length pc, .bool false, .string T] 49))) := Lib.hid ((Gr.rfl' _).al _)
          have hnw : ∀ (j : Nat) (u : Value), [.int .i64 P, .int .i64 C, .slice Ax pl.length pc, .bool false, .string T][j]? = some u → (wr.alloc (.cells #[.int .i64 P, .int .i64 C, .slice Ax pl.length pc, .bool false, .string T] 49)).cell? ((⟨wr.heap.size, 0, none⟩ : Addr).add j) = some u := vNew wr ⟨P, C, Ax, pl, pc, false, T⟩
          have HNW := Lib.hid hnw
          have HCL : Hid ([.int .i64 P, .int .i64 C, .slice Ax pl.length pc, .bool false, .string T] = vCells [⟨P, C, Ax, pl, pc, false, T⟩]) := Lib.hid (by simp [vCells, Vx.cells])
          have HO1 : Hid (∀ u ∈ ([.int .i64 P, .int .i64 C, .slice Ax pl.length pc, .bool false, .string T] : List Value), u.oneCell' = true) := Lib.hid (by rw [HCL.out]; exact vOnes _)
          have HGA := Lib.hid (GT.out.tr HA.out)
          have HASZ : Hid ((wr.alloc (.cells #[.int .i64 P, .int .i64 C, .slice Ax pl.length pc, .bool false, .string T] 49)).heap.size = wr.heap.size + 1) := Lib.hid (by simp)
          have hwsz := GT.out.size
          clear hnw
          go_wp2_with (first | refine ld_at rfl 49 (.tmp 20) rfl _ rfl [.int .i64 P, .int .i64 C, .slice Ax pl.length pc, .bool false, .string T] _ HCL0.out Try.underlying49 rfl (by kernel_rfl) ?_ | (at_builtin; go_loud (refine wp_appendN rfl _ _ 22 rfl 49 i0 (.agg Z5) 5 64 Try.underlying22 hi hz0 hzs hz2 rfl (by decide) rfl ⟨_, 0, none⟩ 1 1 _ rfl rfl HNW.out HO1.out (by decide) (by decide) (by decide) ?_); intro v' w4 g' hown' hg' hgrow; have hgq : Gr (wr.alloc (.cells #[.int .i64 P, .int .i64 C, .slice Ax pl.length pc, .bool false, .string T] 49)) w4 := ⟨hgrow.os, hgrow.tape, hgrow.output, hgrow.size, fun k hk => hgrow.block k hk (by simp)⟩; have GT4 := Lib.hid (HGA.out.tr hgq); have HO4 : Hid (OwnV w4 w.heap.size v' (r ++ [⟨P, C, Ax, pl, pc, false, T⟩])) := Lib.hid (Or.inr ⟨g', by have := HASZ.out; omega, by rw [hrn]; rw [HCL.out] at hown'; exact hown'⟩); clear hown' hg' hgrow hgq))
          go_roundw
          case rel => exact ⟨k + 1, by omega, by go_num, Lib.hid (by rw [HST.out]; exact HO4.out), GT4⟩
          case measure => simp [intOf]; omega
        · obtain ⟨cv, hcv, hcv1, hcv2⟩ := hog.shape
          cases hcv
          have hgw : g < wr.heap.size := hog.lt
          have HA : Hid (Gr wr (wr.alloc (.cells #[.int .i64 P, .int .i64 C, .slice Ax pl.length pc, .bool false, .string T] 49))) := Lib.hid ((Gr.rfl' _).al _)
          have HOG := Lib.hid (hog.gr HA.out)
          have hnw : ∀ (j : Nat) (u : Value), [.int .i64 P, .int .i64 C, .slice Ax pl.length pc, .bool false, .string T][j]? = some u → (wr.alloc (.cells #[.int .i64 P, .int .i64 C, .slice Ax pl.length pc, .bool false, .string T] 49)).cell? ((⟨wr.heap.size, 0, none⟩ : Addr).add j) = some u := vNew wr ⟨P, C, Ax, pl, pc, false, T⟩
          have HNW := Lib.hid hnw
          have HCL : Hid ([.int .i64 P, .int .i64 C, .slice Ax pl.length pc, .bool false, .string T] = vCells [⟨P, C, Ax, pl, pc, false, T⟩]) := Lib.hid (by simp [vCells, Vx.cells])
          have HO1 : Hid (∀ u ∈ ([.int .i64 P, .int .i64 C, .slice Ax pl.length pc, .bool false, .string T] : List Value), u.oneCell' = true) := Lib.hid (by rw [HCL.out]; exact vOnes _)
          have HGA := Lib.hid (GT.out.tr HA.out)
          have HASZ : Hid ((wr.alloc (.cells #[.int .i64 P, .int .i64 C, .slice Ax pl.length pc, .bool false, .string T] 49)).heap.size = wr.heap.size + 1) := Lib.hid (by simp)
          have hwsz := GT.out.size
          clear hnw hog
          go_wp2_with (first | refine ld_at rfl 49 (.tmp 20) rfl _ rfl [.int .i64 P, .int .i64 C, .slice Ax pl.length pc, .bool false, .string T] _ HCL0.out Try.underlying49 rfl (by kernel_rfl) ?_ | (at_builtin; go_loud (refine wp_appendG rfl _ _ 22 rfl 49 i0 (.agg Z5) 5 64 Try.underlying22 hi hz0 hzs hz2 rfl (by decide) g _ _ _ rfl HOG.out ⟨_, 0, none⟩ 1 1 _ rfl rfl HNW.out HO1.out (by simp only [maxLen]; omega) (by omega) ?_); intro v' w4 g' hown' hg' hgrow; have GT4 := Lib.hid (HGA.out.grown hgrow HGA.out.size (fun j e => by cases e; omega)); have HO4 : Hid (OwnV w4 w.heap.size v' (r ++ [⟨P, C, Ax, pl, pc, false, T⟩])) := Lib.hid (Or.inr ⟨g', by have := HASZ.out; rcases hg' with rfl | hg' <;> omega, by rw [HCL.out] at hown'; rw [vCells_app]; simpa using hown'⟩); clear hown' hg' hgrow))
          go_roundw
          case rel => exact ⟨k + 1, by omega, by go_num, Lib.hid (by rw [HST.out]; exact HO4.out), GT4⟩
          case measure => simp [intOf]; omega
      · rw [if_pos rfl, List.append_nil] at HST
        have d3 : wr.cell? ⟨(ad.add (k * 5)).block, (ad.add (k * 5)).off + 3, none⟩ = some (.bool true) := (vat_of HCX.out).2.2.2.1
        have GT := HG
        clear HCX
        go_wp2
        go_roundw
        case rel => exact ⟨k + 1, by omega, by go_num, Lib.hid (by rw [HST.out]; exact HO.out), GT⟩
        case measure => simp [intOf]; omega
    · have hki : ¬ (k : Int) < l.length := by omega
      have hkk : k = l.length := by omega
      subst hkk
      rw [List.take_length] at HO
      go_wp2
      refine bodyPost_ret (v := .slice Av ln cvv) (by simp [results, Try.results25, go_sem]) rfl ?_
      exact ⟨⟨_, rfl, HO.out⟩, HG.out⟩
end Go.Proofs.Ytfobnemocodomaa
