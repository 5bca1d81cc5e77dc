/- The program's covered, from within: its inner test, and the search with it. -/
import Derived.Test.YtfobnemocodomaaSibH
set_option linter.unusedVariables false
set_option linter.unusedSimpArgs false
set_option maxHeartbeats 2000000
namespace Go.Proofs.Ytfobnemocodomaa
open Go.RowKit Go.Great

set_option maxRecDepth 100000 in
theorem cov11_any (y x : Vx) (b : Nat) (w : World) (hy : VxOk w y) (hb : w.heap[b]? = some (.cells x.cells 49 (0, 0))) :
    Calls Try.prog 161 #[.agg y.cells, .pointer (some ⟨b, 0, none⟩)] w fun r w' => r = .returned (.bool (hasV y.pl x.P x.C)) ∧ Gr w w' := by
  have hn := World.alloc_heap_new w (.cells y.cells 49)
  have hg : Gr w (w.alloc (.cells y.cells 49)) := (Gr.rfl' w).al _
  have hb2 := (hg.block b (Array.getElem?_eq_some_iff.1 hb).1).trans hb
  have HN := Lib.hid hn
  have HB := Lib.hid hb2
  have HG := Lib.hid hg
  have HC := Lib.hid (vCovers1_any y x _ (hy.gr hg))
  clear hn hg hb hb2 hy
  go_enter Try.func161, Try.ntmps161
  go_wp2_with (first
    | refine wpList_load_row rfl 49 (.tmp 2) rfl w.heap.size rfl 49 y.cells (0, 0) _ HN.out Try.underlying49 rfl (by kernel_rfl) ?_
    | refine wpList_load_row rfl 49 (.tmp 1) rfl b rfl 49 x.cells (0, 0) _ HB.out Try.underlying49 rfl (by kernel_rfl) ?_)
  refine (HC.out).mono ?_
  rintro r w1 ⟨rfl, g1⟩
  go_wp2
  go_ret
  exact ⟨rfl, HG.out.tr g1⟩
def covIdx (p c : Int) : Int → List Vx → Int
  | _, [] => -1
  | k, y :: r => if hasV y.pl p c = true then k else covIdx p c (k + 1) r
theorem covIdx_spec (p c : Int) : ∀ (l : List Vx) (k : Int), 0 ≤ k → (decide (0 ≤ covIdx p c k l) = covB l p c)
  | [], k, _ => by simp [covIdx, covB]
  | y :: r, k, h => by
    have ih := covIdx_spec p c r (k + 1) (by omega)
    unfold covIdx
    have e : covB (y :: r) p c = (hasV y.pl p c || covB r p c) := rfl
    by_cases hh : hasV y.pl p c = true
    · rw [if_pos hh, e, hh]; simp [h]
    · rw [if_neg hh, e, ih]; simp at hh; simp [hh]
set_option maxRecDepth 100000 in
theorem covIndex_any (A : Option Addr) (cap : Nat) (l : List Vx) (x : Vx) (b : Nat) (w : World) (h : Vers w A l) (hb : w.heap[b]? = some (.cells x.cells 49 (0, 0))) :
    Calls Try.prog 159 #[.slice A l.length cap, .func (.func 161) #[] #[.pointer (some ⟨b, 0, none⟩)]] w fun e w' => e = .returned (.int .i64 (covIdx x.P x.C 0 l)) ∧ Gr w w' := by
  have H := Lib.hid h; clear h
  have HB := Lib.hid hb; clear hb
  have hm := H.out.1
  have g0 := Lib.hid (Gr.rfl' w)
  go_enter Try.func159, Try.ntmps159
  go_wp2
  go_loopw [8] (fun i wr => ∃ k : Nat, k ≤ l.length ∧ i = .int .i64 k ∧ Hid (covIdx x.P x.C 0 l = covIdx x.P x.C k (l.drop k)) ∧ Hid (Gr w wr)) (fun i _ => l.length - (intOf i).toNat)
  case atStart => exact ⟨0, Nat.zero_le _, rfl, Lib.hid rfl, g0⟩
  case round =>
    clear g0
    obtain ⟨k, hk, rfl, hch, HG⟩ := hrel
    by_cases hlt : k < l.length
    · have hi1 : (k : Int) < (l.length : Int) := by omega
      obtain ⟨ad, rfl, hvx, hcx⟩ := (H.out.gr HG.out).2 k hlt
      have hst : covIdx x.P x.C k (l.drop k) = if hasV l[k].pl x.P x.C = true then (k : Int) else covIdx x.P x.C (k + 1 : Int) (l.drop (k + 1)) := by rw [List.drop_eq_getElem_cons hlt]; rfl
      rw [← hch.out] at hst
      obtain ⟨y, hy⟩ : ∃ y, l[k] = y := ⟨_, rfl⟩
      rw [hy] at hvx hcx hst
      have HST := Lib.hid hst
      have HCX : Hid (∀ j v, y.cells.toList[j]? = some v → wr.cell? ((ad.add (k * 5)).add j) = some v) := Lib.hid fun j v hj => hcx j v (by simpa using hj)
      have hc := cov11_any y x b wr hvx ((HG.out.block b (Array.getElem?_eq_some_iff.1 HB.out).1).trans HB.out)
      clear hst hvx hcx hy hch
      by_cases hh : hasV y.pl x.P x.C = true
      · rw [hh] at hc
        have HC := Lib.hid hc
        have HN : Hid (covIdx x.P x.C 0 l = k) := Lib.hid (by rw [HST.out, if_pos hh])
        clear hc hh
        go_wp2_with (refine ld_at rfl 49 (.tmp 14) rfl _ rfl y.cells.toList _ HCX.out Try.underlying49 rfl (by kernel_rfl) ?_)
        refine (HC.out).mono ?_
        rintro e w1 ⟨rfl, hg1⟩
        go_wp2
        go_ret
        rw [HN.out]
        exact ⟨rfl, HG.out.tr hg1⟩
      · have HN : Hid (covIdx x.P x.C 0 l = covIdx x.P x.C ((k + 1 : Nat) : Int) (l.drop (k + 1))) := Lib.hid (by rw [HST.out, if_neg hh]; rfl)
        have hh : hasV y.pl x.P x.C = false := by simpa using hh
        rw [hh] at hc
        have HC := Lib.hid hc
        clear hc hh
        go_wp2_with (refine ld_at rfl 49 (.tmp 14) rfl _ rfl y.cells.toList _ HCX.out Try.underlying49 rfl (by kernel_rfl) ?_)
        refine (HC.out).mono ?_
        rintro e w1 ⟨rfl, hg1⟩
        go_wp2
        go_roundw
        case rel => exact ⟨k + 1, by omega, by go_num, HN, Lib.hid (HG.out.tr hg1)⟩
        case measure => simp [intOf]; omega
    · have hk' : k = l.length := by omega
      have hi1 : ¬ (k : Int) < (l.length : Int) := by omega
      have HN : Hid (covIdx x.P x.C 0 l = -1) := Lib.hid (by rw [hch.out, hk', List.drop_length]; rfl)
      clear hk' hch
      go_wp2
      go_ret
      rw [HN.out]
      exact ⟨rfl, HG.out⟩
set_option maxRecDepth 100000 in
theorem covHas_any (A : Option Addr) (cap : Nat) (l : List Vx) (x : Vx) (b : Nat) (w : World) (h : Vers w A l) (hb : w.heap[b]? = some (.cells x.cells 49 (0, 0))) :
    Calls Try.prog 87 #[.slice A l.length cap, .func (.func 161) #[] #[.pointer (some ⟨b, 0, none⟩)]] w fun e w' => e = .returned (.bool (covB l x.P x.C)) ∧ Gr w w' := by
  have HC := Lib.hid (covIndex_any A cap l x b w h hb)
  have HS := Lib.hid (covIdx_spec x.P x.C l 0 (by omega))
  clear h hb
  go_enter Try.func87, Try.ntmps87
  go_wp2_with fail
  refine (HC.out).mono ?_
  rintro e w1 ⟨rfl, hg1⟩
  go_wp2
  go_ret
  exact ⟨ret_bool HS.out, hg1⟩
end Go.Proofs.Ytfobnemocodomaa
