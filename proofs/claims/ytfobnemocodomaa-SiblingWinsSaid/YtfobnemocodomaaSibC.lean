/- The document's Same of versions. -/
import Derived.Test.YtfobnemocodomaaSibB
set_option linter.unusedVariables false
set_option linter.unusedSimpArgs false
set_option maxHeartbeats 2000000
namespace Go.Proofs.Ytfobnemocodomaa
open Go.RowKit Go.Great

/-- a version's cells, one by one -/
def VAt (W : World) (a : Addr) (P C : Int) (A : Option Addr) (n c : Nat) (D : Bool) (T : ByteArray) : Prop :=
  W.cell? a = some (.int .i64 P) ∧ W.cell? ⟨a.block, a.off + 1, none⟩ = some (.int .i64 C) ∧ W.cell? ⟨a.block, a.off + 2, none⟩ = some (.slice A n c) ∧ W.cell? ⟨a.block, a.off + 3, none⟩ = some (.bool D) ∧ W.cell? ⟨a.block, a.off + 4, none⟩ = some (.string T)
theorem vat_of {W : World} {a : Addr} {x : Vx} (h : ∀ j v, x.cells[j]? = some v → W.cell? (a.add j) = some v) : VAt W a x.P x.C x.A x.pl.length x.pc x.D x.T :=
  ⟨h 0 (.int .i64 x.P) rfl, h 1 (.int .i64 x.C) rfl, h 2 (.slice x.A x.pl.length x.pc) rfl, h 3 (.bool x.D) rfl, h 4 (.string x.T) rfl⟩
theorem VAt.gr {W W' : World} {a : Addr} {P C : Int} {A : Option Addr} {n c : Nat} {D : Bool} {T : ByteArray} (h : VAt W a P C A n c D T) (g : Gr W W') : VAt W' a P C A n c D T :=
  ⟨g.cell h.1, g.cell h.2.1, g.cell h.2.2.1, g.cell h.2.2.2.1, g.cell h.2.2.2.2⟩

set_option maxRecDepth 100000 in
theorem vSames2_any (A B : Option Addr) (ca cb : Nat) (a b : List Vx) (w : World) (h1 : Vers w A a) (h2 : Vers w B b) :
    Calls Try.prog 34 #[.slice A a.length ca, .slice B b.length cb] w fun r w' => r = .returned (.bool (vsames a b)) ∧ Gr w w' := by
  have H1 := Lib.hid h1; clear h1
  have H2 := Lib.hid h2; clear h2
  have hm := H1.out.1
  have hg0 := Lib.hid (Gr.rfl' w)
  by_cases hlen : a.length = b.length
  · have hlb : ((a.length : Int) != (b.length : Int)) = false := by simp [hlen]
    have HL := Lib.hid hlen; clear hlen
    go_enter Try.func34, Try.ntmps34
    go_wp2
    go_loopw [5] (fun i wr => ∃ k : Nat, k ≤ a.length ∧ i = .int .i64 k ∧ Hid (vsames a b = vsames (a.drop k) (b.drop k)) ∧ Hid (Gr w wr)) (fun i _ => a.length - (intOf i).toNat)
    case atStart => exact ⟨0, Nat.zero_le _, rfl, Lib.hid rfl, hg0⟩
    case round =>
      clear hg0
      obtain ⟨k, hk, rfl, hch, HG⟩ := hrel
      by_cases hlt : k < a.length
      · have hlt2 : k < b.length := by rw [← HL.out]; exact hlt
        have hi1 : (k : Int) < (a.length : Int) := by omega
        have hi2 : (k : Int) < (b.length : Int) := by omega
        obtain ⟨ad, rfl, hvx, hcx⟩ := (H1.out.gr HG.out).2 k hlt
        obtain ⟨bd, rfl, hvy, hcy⟩ := (H2.out.gr HG.out).2 k hlt2
        have hst := vsames_step hlt hlt2
        rw [← hch.out] at hst
        obtain ⟨x, hx⟩ : ∃ x, a[k] = x := ⟨_, rfl⟩
        obtain ⟨y, hy⟩ : ∃ y, b[k] = y := ⟨_, rfl⟩
        rw [hx] at hvx hcx hst
        rw [hy] at hvy hcy hst
        have HVX := Lib.hid hvx
        have HVY := Lib.hid hvy
        have HST := Lib.hid hst
        have HCX := Lib.hid (vat_of hcx)
        have HCY := Lib.hid (vat_of hcy)
        have GD : Gr wr wr.drew := (Gr.rfl' wr).dr
        clear hvx hcx hvy hcy hst hx hy hch
        by_cases hs : vsame x y = true
        · have HN : Hid (vsames a b = vsames (a.drop (k + 1)) (b.drop (k + 1))) := Lib.hid (by rw [HST.out, hs]; simp)
          have HC := Lib.hid (fun (W : World) (g : Gr wr W) => vSame2_any x y W (HVX.out.gr g) (HVY.out.gr g))
          rw [hs] at HC
          clear hs HST HVX HVY
          obtain ⟨xP, xC, xA, xl, xc, xD, xT⟩ := x
          obtain ⟨yP, yC, yA, yl, yc, yD, yT⟩ := y
          unfold Vx.cells at HC
          dsimp only at HC HCX HCY
          go_upto_region 6 with (fail)
          go_region_held3 (fun w' => w'.cell? (ad.add (k * 5)) = some (.int .i64 xP) ∧ w'.cell? ⟨(ad.add (k * 5)).block, (ad.add (k * 5)).off + 1, none⟩ = some (.int .i64 xC) ∧ w'.cell? ⟨(ad.add (k * 5)).block, (ad.add (k * 5)).off + 2, none⟩ = some (.slice xA xl.length xc) ∧ w'.cell? ⟨(ad.add (k * 5)).block, (ad.add (k * 5)).off + 3, none⟩ = some (.bool xD) ∧ w'.cell? ⟨(ad.add (k * 5)).block, (ad.add (k * 5)).off + 4, none⟩ = some (.string xT) ∧ w'.cell? (bd.add (k * 5)) = some (.int .i64 yP) ∧ w'.cell? ⟨(bd.add (k * 5)).block, (bd.add (k * 5)).off + 1, none⟩ = some (.int .i64 yC) ∧ w'.cell? ⟨(bd.add (k * 5)).block, (bd.add (k * 5)).off + 2, none⟩ = some (.slice yA yl.length yc) ∧ w'.cell? ⟨(bd.add (k * 5)).block, (bd.add (k * 5)).off + 3, none⟩ = some (.bool yD) ∧ w'.cell? ⟨(bd.add (k * 5)).block, (bd.add (k * 5)).off + 4, none⟩ = some (.string yT)) (exact (have h1 := HCX.out.gr GD; have h2 := HCY.out.gr GD; ⟨h1.1, h1.2.1, h1.2.2.1, h1.2.2.2.1, h1.2.2.2.2, h2.1, h2.2.1, h2.2.2.1, h2.2.2.2.1, h2.2.2.2.2⟩)) (first
            | (go_at_call 47; refine (HC.out _ GD).mono ?_; rintro r wc ⟨rfl, hgc⟩; replace GD := GD.tr hgc; clear hgc))
          go_wp2
          go_roundw
          case rel => exact ⟨k + 1, by omega, by go_num, HN, Lib.hid (HG.out.tr GD)⟩
          case measure => simp [intOf]; omega
        · have hs : vsame x y = false := by simpa using hs
          have HN : Hid (vsames a b = false) := Lib.hid (by rw [HST.out, hs]; simp)
          have HC := Lib.hid (fun (W : World) (g : Gr wr W) => vSame2_any x y W (HVX.out.gr g) (HVY.out.gr g))
          rw [hs] at HC
          clear hs HST HVX HVY
          obtain ⟨xP, xC, xA, xl, xc, xD, xT⟩ := x
          obtain ⟨yP, yC, yA, yl, yc, yD, yT⟩ := y
          unfold Vx.cells at HC
          dsimp only at HC HCX HCY
          go_upto_region 6 with (fail)
          go_region_held3 (fun w' => w'.cell? (ad.add (k * 5)) = some (.int .i64 xP) ∧ w'.cell? ⟨(ad.add (k * 5)).block, (ad.add (k * 5)).off + 1, none⟩ = some (.int .i64 xC) ∧ w'.cell? ⟨(ad.add (k * 5)).block, (ad.add (k * 5)).off + 2, none⟩ = some (.slice xA xl.length xc) ∧ w'.cell? ⟨(ad.add (k * 5)).block, (ad.add (k * 5)).off + 3, none⟩ = some (.bool xD) ∧ w'.cell? ⟨(ad.add (k * 5)).block, (ad.add (k * 5)).off + 4, none⟩ = some (.string xT) ∧ w'.cell? (bd.add (k * 5)) = some (.int .i64 yP) ∧ w'.cell? ⟨(bd.add (k * 5)).block, (bd.add (k * 5)).off + 1, none⟩ = some (.int .i64 yC) ∧ w'.cell? ⟨(bd.add (k * 5)).block, (bd.add (k * 5)).off + 2, none⟩ = some (.slice yA yl.length yc) ∧ w'.cell? ⟨(bd.add (k * 5)).block, (bd.add (k * 5)).off + 3, none⟩ = some (.bool yD) ∧ w'.cell? ⟨(bd.add (k * 5)).block, (bd.add (k * 5)).off + 4, none⟩ = some (.string yT)) (exact (have h1 := HCX.out.gr GD; have h2 := HCY.out.gr GD; ⟨h1.1, h1.2.1, h1.2.2.1, h1.2.2.2.1, h1.2.2.2.2, h2.1, h2.2.1, h2.2.2.1, h2.2.2.2.1, h2.2.2.2.2⟩)) (first
            | (go_at_call 47; refine (HC.out _ GD).mono ?_; rintro r wc ⟨rfl, hgc⟩; replace GD := GD.tr hgc; clear hgc))
          go_wp2
          go_ret
          rw [HN.out]
          exact ⟨rfl, HG.out.tr GD⟩
      · have hk' : k = a.length := by omega
        subst hk'
        have HN : Hid (vsames a b = true) := Lib.hid (by have := hch.out; rw [List.drop_length, HL.out, List.drop_length] at this; exact this)
        go_wp2
        go_ret
        rw [HN.out]
        exact ⟨rfl, HG.out⟩
  · have hlb : ((a.length : Int) != (b.length : Int)) = true := by simp; omega
    have HN := Lib.hid (vsames_len a b hlen)
    clear hlen
    go_enter Try.func34, Try.ntmps34
    go_wp2
    go_ret
    rw [HN.out]
    exact ⟨rfl, hg0.out⟩
end Go.Proofs.Ytfobnemocodomaa
