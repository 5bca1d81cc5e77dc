/- hearsayref08: Stable; hearsaylaw08: great. -/
import Derived.Test.YtpaogcighlfelaaMatF
set_option linter.unusedVariables false
set_option linter.unusedSimpArgs false
set_option maxHeartbeats 4000000
namespace Go.Proofs.Ytpaogcighlfelaa
open Go.RowKit

theorem minTo_succ (rs : Rws) (p : Int) (k : Nat) : minTo rs p (k + 1) = if k = 0 ∨ getV (rs.getD k []) p < minTo rs p k then getV (rs.getD k []) p else minTo rs p k := rfl
theorem ofL_succ (f : Nat → Int) (k : Nat) : ofL f (k + 1) = ofL f k ++ if 0 < f k then [((k : Int), f k)] else [] := rfl
theorem refStable_any (A : Option Addr) (c : Nat) (ds : List DRow) (w : World) (h : DRows w A ds) :
    Calls Try.prog 20 #[.slice A ds.length c] w fun e w' => ∃ v, e = .returned v ∧ OwnDots w' w.heap.size v (refStable (ls ds)) ∧ Gr w w' := by
  have HT := Lib.hid h
  have hn := h.1
  obtain ⟨i0, hi, hz0, hz1, hz2⟩ := info_parts infoDot
  clear h
  go_enter Try.func20, Try.ntmps20
  go_wp2
  go_loopw [3, 4] (fun s i wr => ∃ p : Nat, p ≤ 64 ∧ i = .int .i64 p ∧ Hid (OwnDots wr w.heap.size s (ofL (stableF (ls ds)) p)) ∧ Hid (Gr w wr)) (fun _ i _ => 64 - (intOf i).toNat)
  case atStart => exact ⟨0, Nat.zero_le _, rfl, Lib.hid (OwnDots.nil _ _), Lib.hid (Gr.rfl' _)⟩
  case round =>
    obtain ⟨p, hp, rfl, HO, HG⟩ := hrel
    by_cases hlt : p < 64
    · have hpi : (p : Int) < 64 := by omega
      obtain ⟨A1, c1, rfl, hlc1, _⟩ := HO.out.dots
      have HLC := Lib.hid hlc1
      clear hlc1
      obtain ⟨wo, hwo⟩ : ∃ wo : World, wo = wr := ⟨_, rfl⟩
      subst hwo
      go_wp2
      go_loopw [5, 6] (fun nv i wr => ∃ k : Nat, k ≤ ds.length ∧ i = .int .i64 k ∧ (∃ x, nv = .int .i64 x ∧ Hid (x = minTo (ls ds) p k)) ∧ Hid (Gr wo wr)) (fun _ i _ => ds.length - (intOf i).toNat)
      case atStart => exact ⟨0, Nat.zero_le _, rfl, ⟨0, rfl, Lib.hid rfl⟩, Lib.hid (Gr.rfl' _)⟩
      case round =>
        obtain ⟨k, hk, rfl, ⟨x, rfl, HX⟩, HG2⟩ := hrel
        by_cases hltk : k < ds.length
        · have hki : (k : Int) < (ds.length : Int) := by omega
          obtain ⟨ad, rfl, hc, hdk⟩ := HT.out.2 k hltk
          replace hc := (HG.out.tr HG2.out).cell hc
          have HGT := Lib.hid (refGet_any ds[k].A ds[k].cap ds[k].l p wr (hdk.gr (HG.out.tr HG2.out)))
          have hms := minTo_succ (ls ds) p k
          rw [ls_at ds k hltk, ← HX.out] at hms
          obtain ⟨y, hy⟩ : ∃ y, getV ds[k].l p = y := ⟨_, rfl⟩
          rw [hy] at HGT hms
          clear hdk hy
          by_cases h0 : k = 0
          · subst h0
            have HX2 : Hid (y = minTo (ls ds) p (0 + 1)) := Lib.hid (by rw [hms, if_pos (Or.inl rfl)])
            clear hms
            have e0 : ad.add 0 = ad := by unfold Addr.add; simp
            rw [e0] at hc
            clear e0
            go_wp2_with fail
            refine (HGT.out).mono ?_
            rintro e w2 ⟨rfl, hg⟩
            have HG3 := Lib.hid (HG2.out.tr hg)
            clear hg HGT
            go_wp2
            go_roundw
            case rel => exact ⟨0 + 1, by omega, by go_num, ⟨y, rfl, HX2⟩, HG3⟩
            case measure => simp [intOf]; omega
          · have h0i : ¬ (k : Int) = 0 := by omega
            have h0b : ((k : Int) == 0) = false := by simpa using h0
            by_cases hyx : y < x
            · have HX2 : Hid (y = minTo (ls ds) p (k + 1)) := Lib.hid (by rw [hms, if_pos (Or.inr hyx)])
              have hyb : decide (y < x) = true := decide_eq_true hyx
              clear hms
              go_wp2_with fail
              refine (HGT.out).mono ?_
              rintro e w2 ⟨rfl, hg⟩
              have HG3 := Lib.hid (HG2.out.tr hg)
              clear hg HGT
              go_wp2
              go_roundw
              case rel => exact ⟨k + 1, by omega, by go_num, ⟨y, rfl, HX2⟩, HG3⟩
              case measure => simp [intOf]; omega
            · have HX2 : Hid (x = minTo (ls ds) p (k + 1)) := Lib.hid (by rw [hms, if_neg (by omega)])
              have hyb : decide (y < x) = false := decide_eq_false hyx
              clear hms
              go_wp2_with fail
              refine (HGT.out).mono ?_
              rintro e w2 ⟨rfl, hg⟩
              have HG3 := Lib.hid (HG2.out.tr hg)
              clear hg HGT
              go_wp2
              go_roundw
              case rel => exact ⟨k + 1, by omega, by go_num, ⟨x, rfl, HX2⟩, HG3⟩
              case measure => simp [intOf]; omega
        · have hkn : k = ds.length := by omega
          subst hkn
          have hki : ¬ (ds.length : Int) < (ds.length : Int) := by omega
          have hsf : stableF (ls ds) p = x := by unfold stableF; rw [ls_len]; exact HX.out.symm
          have hsu := ofL_succ (stableF (ls ds)) p
          rw [hsf] at hsu
          have HO2 := Lib.hid (HO.out.gr HG2.out)
          have HG3 := Lib.hid (HG.out.tr HG2.out)
          have hlen := ofL_length (stableF (ls ds)) p
          clear HO
          by_cases hx0 : 0 < x
          · rw [if_pos hx0] at hsu
            have HSU := Lib.hid hsu
            have hgs := HG3.out.size
            clear hsf hsu HX
            go_wp2_with (first | (at_builtin; go_loud (refine wpList_append_own _ rfl _ _ 28 rfl w.heap.size 41 i0 (.agg #[.int .i64 0, .int .i64 0]) 2 16 Try.underlying28 hi hz0 hz1 hz2 rfl (by decide) _ _ _ rfl (World.ownsRow.alloc HO2.out _) ⟨_, 0, none⟩ 1 1 [.int .i64 p, .int .i64 x] rfl rfl (cells_new _ _ _) (by simp [Value.oneCell']) (by simp only [maxLen]; omega) (by omega) (by simp; omega) ?_); intro v' w2 hown' hgrow _; obtain ⟨g', cap', rfl⟩ := ownsRow_succ hown'))
            obtain ⟨h1, h2⟩ := own_add (Nat.le_refl _) HG3.out HO2.out hown' hgrow
            have HO4 := Lib.hid h1
            have HG4 := Lib.hid h2
            rw [← HSU.out] at HO4
            clear h1 h2 hown' hgrow
            go_wp2
            go_roundw
            case rel => exact ⟨p + 1, by omega, by go_num, HO4, HG4⟩
            case measure => simp [intOf]; omega
          · rw [if_neg hx0, List.append_nil] at hsu
            have HO5 : Hid (OwnDots wr w.heap.size (.slice A1 (ofL (stableF (ls ds)) p).length c1) (ofL (stableF (ls ds)) (p + 1))) := Lib.hid (by rw [hsu]; exact HO2.out)
            clear hsf hsu HX HO2
            go_wp2
            go_roundw
            case rel => exact ⟨p + 1, by omega, by go_num, HO5, HG3⟩
            case measure => simp [intOf]; omega
    · have hpn : p = 64 := by omega
      subst hpn
      go_wp2
      go_ret
      exact ⟨_, rfl, HO.out, HG.out⟩
/-- a fact's four cells -/
structure FRow where
  P : Int
  A : Option Addr
  cap : Nat
  v : List Dot
  all : Bool
  RA : Option Addr
  rcap : Nat
  rows : List DRow
def FRow.good (w : World) (f : FRow) : Prop := Dots w f.A f.v ∧ f.v.length ≤ f.cap ∧ DRows w f.RA f.rows ∧ ∀ d ∈ f.rows, d.l.length ≤ d.cap
theorem FRow.good.gr {w w' : World} {f : FRow} (h : f.good w) (g : Gr w w') : f.good w' := ⟨h.1.gr g, h.2.1, h.2.2.1.gr g, h.2.2.2⟩
def Facts (w : World) (A : Option Addr) (fs : List FRow) : Prop :=
  fs.length ≤ 9223372036854775807 ∧ ∀ i (h : i < fs.length), ∃ ad, A = some ad ∧ w.cell? (ad.add (i * 4)) = some (.int .i64 fs[i].P) ∧
    w.cell? ⟨(ad.add (i * 4)).block, (ad.add (i * 4)).off + 1, none⟩ = some (.slice fs[i].A fs[i].v.length fs[i].cap) ∧
    w.cell? ⟨(ad.add (i * 4)).block, (ad.add (i * 4)).off + 2, none⟩ = some (.bool fs[i].all) ∧
    w.cell? ⟨(ad.add (i * 4)).block, (ad.add (i * 4)).off + 3, none⟩ = some (.slice fs[i].RA fs[i].rows.length fs[i].rcap) ∧ fs[i].good w
theorem Facts.gr {w w' : World} {A : Option Addr} {fs : List FRow} (h : Facts w A fs) (g : Gr w w') : Facts w' A fs :=
  ⟨h.1, fun i hi => let ⟨ad, e, a, b, c, d, k⟩ := h.2 i hi; ⟨ad, e, g.cell a, g.cell b, g.cell c, g.cell d, k.gr g⟩⟩
def SomeB (e : Ending) : Prop := ∃ b, e = .returned (.bool b)
theorem great_any (A : Option Addr) (c : Nat) (fs : List FRow) (w : World) (h : Facts w A fs) :
    Calls Try.prog 6 #[.slice A fs.length c] w fun e w' => SomeB e ∧ w' = w := by
  have HT := Lib.hid h
  have hn := h.1
  clear h
  by_cases h40 : (40 : Int) < (fs.length : Int)
  · go_enter Try.func6, Try.ntmps6
    go_wp2
    go_ret
    exact ⟨⟨_, rfl⟩, rfl⟩
  go_enter Try.func6, Try.ntmps6
  go_wp2
  go_loopw [3] (fun i wr => ∃ k : Nat, k ≤ fs.length ∧ i = .int .i64 k ∧ wr = w) (fun i _ => fs.length - (intOf i).toNat)
  case atStart => exact ⟨0, Nat.zero_le _, rfl, rfl⟩
  case round =>
    obtain ⟨k, hk, rfl, rfl⟩ := hrel
    by_cases hlt : k < fs.length
    · have hki : (k : Int) < (fs.length : Int) := by omega
      obtain ⟨ad, rfl, h0, h1, h2, h3, hgood⟩ := HT.out.2 k hlt
      have HGD := Lib.hid hgood
      clear hgood
      by_cases hv : (70 : Int) < (fs[k].v.length : Int)
      · go_wp2
        go_ret
        exact ⟨⟨_, rfl⟩, rfl⟩
      have hvb : decide ((70 : Int) < (fs[k].v.length : Int)) = false := decide_eq_false hv
      by_cases hr : (70 : Int) < (fs[k].rows.length : Int)
      · have hrb : decide ((70 : Int) < (fs[k].rows.length : Int)) = true := decide_eq_true hr
        go_wp2
        go_ret
        exact ⟨⟨_, rfl⟩, rfl⟩
      have hrb : decide ((70 : Int) < (fs[k].rows.length : Int)) = false := decide_eq_false hr
      obtain ⟨f, hf⟩ : ∃ f, fs[k] = f := ⟨_, rfl⟩
      rw [hf] at h0 h1 h2 h3 hv hr HGD hvb hrb
      clear hf
      have hrn : f.rows.length ≤ 70 := by omega
      obtain ⟨wo, hwo⟩ : ∃ wo : World, wo = wr := ⟨_, rfl⟩
      subst hwo
      go_wp2
      go_loopw [4] (fun i wr => ∃ j : Nat, j ≤ f.rows.length ∧ i = .int .i64 j ∧ wr = wo) (fun i _ => f.rows.length - (intOf i).toNat)
      case atStart => exact ⟨0, Nat.zero_le _, rfl, rfl⟩
      case round =>
        obtain ⟨j, hj, rfl, rfl⟩ := hrel
        by_cases hltj : j < f.rows.length
        · have hji : (j : Int) < (f.rows.length : Int) := by omega
          obtain ⟨bd, hbd, hcj, _⟩ := HGD.out.2.2.1.2 j hltj
          rw [hbd] at h3
          by_cases hx : (70 : Int) < (f.rows[j].l.length : Int)
          · go_wp2
            go_ret
            exact ⟨⟨_, rfl⟩, rfl⟩
          · go_wp2
            go_roundw
            case rel => exact ⟨j + 1, by omega, by go_num, trivial⟩
            case measure => simp [intOf]; omega
        · have hjn : j = f.rows.length := by omega
          have hji : ¬ (j : Int) < (f.rows.length : Int) := by omega
          go_wp2
          go_roundw
          case rel => exact ⟨k + 1, by omega, by go_num, trivial⟩
          case measure => simp [intOf]; omega
    · have hkn : k = fs.length := by omega
      subst hkn
      have hki : ¬ (fs.length : Int) < (fs.length : Int) := by omega
      go_wp2
      go_ret
      exact ⟨⟨_, rfl⟩, rfl⟩
end Go.Proofs.Ytpaogcighlfelaa
