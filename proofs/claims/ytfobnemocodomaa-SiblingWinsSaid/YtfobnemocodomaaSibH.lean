/- The document's covered. -/
import Derived.Test.YtfobnemocodomaaSibF
import Derived.Test.YtfobnemocodomaaSibC
set_option linter.unusedVariables false
set_option linter.unusedSimpArgs false
set_option maxHeartbeats 2000000
namespace Go.Proofs.Ytfobnemocodomaa
open Go.RowKit Go.Great

/-- does one of a list cover a dot -/
def covB (l : List Vx) (p c : Int) : Bool := l.any fun y => hasV y.pl p c
theorem covB_step {l : List Vx} {k : Nat} (h : k < l.length) (p c : Int) : covB (l.drop k) p c = (hasV l[k].pl p c || covB (l.drop (k + 1)) p c) := by
  unfold covB; rw [List.drop_eq_getElem_cons h]; rfl
set_option maxRecDepth 100000 in
theorem refCov_any (A : Option Addr) (cap : Nat) (l : List Vx) (y : Vx) (w : World) (h : Vers w A l) :
    Calls Try.prog 89 #[.slice A l.length cap, .agg y.cells] w fun r w' => r = .returned (.bool (covB l y.P y.C)) ∧ Gr w w' := by
  have H := Lib.hid h
  have hm := h.1
  clear h
  obtain ⟨P, C, Ay, yl, yc, yD, yT⟩ := y
  unfold Vx.cells
  dsimp only
  have hg1 : Gr w (w.alloc (.cells #[.int .i64 P, .int .i64 C, .slice Ay yl.length yc, .bool yD, .string yT] 49)) := (Gr.rfl' w).al _
  have hn := World.alloc_heap_new w (.cells #[.int .i64 P, .int .i64 C, .slice Ay yl.length yc, .bool yD, .string yT] 49)
  have HBX : Hid (∀ W, Gr (w.alloc (.cells #[.int .i64 P, .int .i64 C, .slice Ay yl.length yc, .bool yD, .string yT] 49)) W → W.cell? ⟨w.heap.size, 0, none⟩ = some (.int .i64 P) ∧ W.cell? ⟨w.heap.size, 1, none⟩ = some (.int .i64 C) ∧ W.cell? ⟨w.heap.size, 2, none⟩ = some (.slice Ay yl.length yc) ∧ W.cell? ⟨w.heap.size, 3, none⟩ = some (.bool yD) ∧ W.cell? ⟨w.heap.size, 4, none⟩ = some (.string yT)) := Lib.hid fun W g => by
    have hb := (g.block _ (Array.getElem?_eq_some_iff.1 hn).1).trans hn
    simp only [World.cell?, hb]
    exact ⟨rfl, rfl, rfl, rfl, rfl⟩
  have HG := Lib.hid hg1
  have g0 := Lib.hid (Gr.rfl' (w.alloc (.cells #[.int .i64 P, .int .i64 C, .slice Ay yl.length yc, .bool yD, .string yT] 49)))
  clear hn hg1
  go_enter Try.func89, Try.ntmps89
  go_wp2
  go_loopw [5] (fun i wr => ∃ k : Nat, k ≤ l.length ∧ i = .int .i64 k ∧ Hid (covB l P C = covB (l.drop k) P C) ∧ Hid (Gr (w.alloc (.cells #[.int .i64 P, .int .i64 C, .slice Ay yl.length yc, .bool yD, .string yT] 49)) wr)) (fun i _ => l.length - (intOf i).toNat)
  case atStart => exact ⟨0, Nat.zero_le _, rfl, Lib.hid rfl, g0⟩
  case round =>
    clear g0
    obtain ⟨k, hk, rfl, hch, HI⟩ := hrel
    by_cases hlt : k < l.length
    · have hi1 : (k : Int) < (l.length : Int) := by omega
      obtain ⟨ad, rfl, hvx, hcx⟩ := (H.out.gr (HG.out.tr HI.out)).2 k hlt
      have hst := covB_step hlt P C
      rw [← hch.out] at hst
      obtain ⟨x, hx⟩ : ∃ x, l[k] = x := ⟨_, rfl⟩
      rw [hx] at hvx hcx hst
      have HVX := Lib.hid hvx
      have HST := Lib.hid hst
      have HCX := Lib.hid (vat_of hcx)
      have GD : Gr wr wr.drew := (Gr.rfl' wr).dr
      have HC := Lib.hid (fun (W : World) (g : Gr wr W) => vCovers2_any x ⟨P, C, Ay, yl, yc, yD, yT⟩ W (HVX.out.gr g))
      clear hvx hcx hst hx hch
      by_cases hs : hasV x.pl P C = true
      · have HN : Hid (covB l P C = true) := Lib.hid (by rw [HST.out, hs]; rfl)
        simp only [hs] at HC
        clear hs
        clear HST HVX
        obtain ⟨xP, xC, xA, xl, xc, xD, xT⟩ := x
        unfold Vx.cells at HC
        dsimp only at HC HCX
        go_upto_region 4 with (fail)
        go_region_held3 (fun w' => (w'.cell? (ad.add (k * 5)) = some (.int .i64 xP) ∧ w'.cell? ⟨(ad.add (k * 5)).block, (ad.add (k * 5)).off + 1, none⟩ = some (.int .i64 xC) ∧ w'.cell? ⟨(ad.add (k * 5)).block, (ad.add (k * 5)).off + 2, none⟩ = some (.slice xA xl.length xc) ∧ w'.cell? ⟨(ad.add (k * 5)).block, (ad.add (k * 5)).off + 3, none⟩ = some (.bool xD) ∧ w'.cell? ⟨(ad.add (k * 5)).block, (ad.add (k * 5)).off + 4, none⟩ = some (.string xT)) ∧ w'.cell? ⟨w.heap.size, 0, none⟩ = some (.int .i64 P) ∧ w'.cell? ⟨w.heap.size, 1, none⟩ = some (.int .i64 C) ∧ w'.cell? ⟨w.heap.size, 2, none⟩ = some (.slice Ay yl.length yc) ∧ w'.cell? ⟨w.heap.size, 3, none⟩ = some (.bool yD) ∧ w'.cell? ⟨w.heap.size, 4, none⟩ = some (.string yT)) (exact (have h1 := HCX.out.gr GD; have h2 := HBX.out _ (HI.out.tr GD); ⟨⟨h1.1, h1.2.1, h1.2.2.1, h1.2.2.2.1, h1.2.2.2.2⟩, h2⟩)) (first
          | (go_at_call 42; refine (HC.out _ GD).mono ?_; rintro r wc ⟨rfl, hgc⟩; replace GD := GD.tr hgc; clear hgc))
        go_wp2
        go_ret
        rw [HN.out]
        exact ⟨rfl, HG.out.tr (HI.out.tr GD)⟩
      · have hs : hasV x.pl P C = false := by simpa using hs
        have HN : Hid (covB l P C = covB (l.drop (k + 1)) P C) := Lib.hid (by rw [HST.out, hs]; rfl)
        simp only [hs] at HC
        clear hs
        clear HST HVX
        obtain ⟨xP, xC, xA, xl, xc, xD, xT⟩ := x
        unfold Vx.cells at HC
        dsimp only at HC HCX
        go_upto_region 4 with (fail)
        go_region_held3 (fun w' => (w'.cell? (ad.add (k * 5)) = some (.int .i64 xP) ∧ w'.cell? ⟨(ad.add (k * 5)).block, (ad.add (k * 5)).off + 1, none⟩ = some (.int .i64 xC) ∧ w'.cell? ⟨(ad.add (k * 5)).block, (ad.add (k * 5)).off + 2, none⟩ = some (.slice xA xl.length xc) ∧ w'.cell? ⟨(ad.add (k * 5)).block, (ad.add (k * 5)).off + 3, none⟩ = some (.bool xD) ∧ w'.cell? ⟨(ad.add (k * 5)).block, (ad.add (k * 5)).off + 4, none⟩ = some (.string xT)) ∧ w'.cell? ⟨w.heap.size, 0, none⟩ = some (.int .i64 P) ∧ w'.cell? ⟨w.heap.size, 1, none⟩ = some (.int .i64 C) ∧ w'.cell? ⟨w.heap.size, 2, none⟩ = some (.slice Ay yl.length yc) ∧ w'.cell? ⟨w.heap.size, 3, none⟩ = some (.bool yD) ∧ w'.cell? ⟨w.heap.size, 4, none⟩ = some (.string yT)) (exact (have h1 := HCX.out.gr GD; have h2 := HBX.out _ (HI.out.tr GD); ⟨⟨h1.1, h1.2.1, h1.2.2.1, h1.2.2.2.1, h1.2.2.2.2⟩, h2⟩)) (first
          | (go_at_call 42; refine (HC.out _ GD).mono ?_; rintro r wc ⟨rfl, hgc⟩; replace GD := GD.tr hgc; clear hgc))
        go_wp2
        go_roundw
        case rel => exact ⟨k + 1, by omega, by go_num, HN, Lib.hid (HI.out.tr GD)⟩
        case measure => simp [intOf]; omega
    · have hk' : k = l.length := by omega
      subst hk'
      have HN : Hid (covB l P C = false) := Lib.hid (by have := hch.out; rw [List.drop_length] at this; exact this)
      go_wp2
      go_ret
      rw [HN.out]
      exact ⟨rfl, HG.out.tr HI.out⟩
end Go.Proofs.Ytfobnemocodomaa
