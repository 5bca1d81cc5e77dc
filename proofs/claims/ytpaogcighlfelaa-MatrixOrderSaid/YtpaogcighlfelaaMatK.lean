/- hearsaylaw08: MatrixOrder. -/
import Derived.Test.YtpaogcighlfelaaMatJ
set_option linter.unusedVariables false
set_option linter.unusedSimpArgs false
set_option maxHeartbeats 8000000
namespace Go.Proofs.Ytpaogcighlfelaa
open Go.RowKit

theorem wrapN (p : Int) : ∃ n : Nat, wrap64 (1 + wrap64 ((IntKind.u64.wrap p).tmod 6)) = (n : Int) ∧ 1 ≤ n ∧ n ≤ 6 := by
  have h0 : 0 ≤ IntKind.u64.wrap p := by
    show 0 ≤ p % 18446744073709551616
    omega
  generalize IntKind.u64.wrap p = q at h0
  rw [Int.tmod_eq_emod_of_nonneg h0]
  refine ⟨(1 + q % 6).toNat, ?_, by omega, by omega⟩
  unfold wrap64
  omega
theorem MatI.other {W W' : World} {ma ra mb rb : Nat} {rsA rsB : Rws} (h : MatI W ma ra rsA) (m : MatI W mb rb rsB) (g : Gm rb W W') (h1 : ma ≠ rb) (h2 : ra ≠ rb) : MatI W' ma ra rsA := by
  obtain ⟨cs, k1, k2, k3⟩ := h.row
  refine ⟨(g.block ma (Array.getElem?_eq_some_iff.1 h.box).1 (fun e => h1 (Option.some.inj e))).trans h.box, ⟨cs, (g.block ra (Array.getElem?_eq_some_iff.1 k1).1 (fun e => h2 (Option.some.inj e))).trans k1, k2, fun i hi => ?_⟩, h.ok, h.pos, h.le⟩
  obtain ⟨A, c, q1, q2, q3⟩ := k3 i hi
  exact ⟨A, c, q1, q2, q3.gm m g⟩
theorem MatI.lt {W : World} {mb rb : Nat} {rs : Rws} (h : MatI W mb rb rs) : mb < W.heap.size ∧ rb < W.heap.size := by
  obtain ⟨cs, h1, _⟩ := h.row
  exact ⟨(Array.getElem?_eq_some_iff.1 h.box).1, (Array.getElem?_eq_some_iff.1 h1).1⟩
def fct (fs : List FRow) : List Fct := fs.map fun f => (f.P, f.v)
theorem fct_len (fs : List FRow) : (fct fs).length = fs.length := by simp [fct]
def wasL (n : Nat) (fs : List FRow) (k : Nat) : List Dot := if k = 0 then [] else stableL (learnS (List.replicate n []) ((fct fs).take k))
def rsA (n : Nat) (fs : List FRow) (k : Nat) : Rws := learnS (List.replicate n []) ((fct fs).take k)
def rsB (n : Nat) (fs : List FRow) (k : Nat) : Rws := learnS (List.replicate n []) ((fct fs).reverse.take k)
theorem rsA_len (n : Nat) (fs : List FRow) (k : Nat) : (rsA n fs k).length = n := by unfold rsA; rw [learnS_length]; simp
theorem rsA_ok (n : Nat) (fs : List FRow) (k : Nat) : AllOk (rsA n fs k) := learnS_ok _ (AllOk.rep n)
theorem rsA_succ (n : Nat) (fs : List FRow) (k : Nat) (h : k < fs.length) : learnR (rsA n fs k) fs[k].P fs[k].v = rsA n fs (k + 1) := by
  have hk : k < (fct fs).length := by rw [fct_len]; exact h
  unfold rsA
  rw [List.take_succ_eq_append_getElem hk, learnS_snoc]
  simp [fct]
theorem rsB_succ (n : Nat) (fs : List FRow) (k m : Nat) (h : k < fs.length) (hm : m < fs.length) (e : m + 1 + k = fs.length) : learnR (rsB n fs k) fs[m].P fs[m].v = rsB n fs (k + 1) := by
  have hk : k < (fct fs).reverse.length := by rw [List.length_reverse, fct_len]; exact h
  unfold rsB
  rw [List.take_succ_eq_append_getElem hk, learnS_snoc, List.getElem_reverse]
  simp only [fct, List.getElem_map, List.length_map]
  have e2 : fs.length - 1 - k = m := by omega
  simp only [e2]
theorem rs_eq (n : Nat) (fs : List FRow) : rsA n fs fs.length = rsB n fs fs.length := by
  unfold rsA rsB
  rw [List.take_of_length_le (by rw [fct_len]; exact Nat.le_refl _), List.take_of_length_le (by rw [List.length_reverse, fct_len]; exact Nat.le_refl _)]
  exact (learnS_rev _ _).symm
theorem was_within (n : Nat) (hn : 1 ≤ n) (fs : List FRow) (k : Nat) (h : k < fs.length) : refWithinB (wasL n fs k) (wasL n fs (k + 1)) = true := by
  rw [← within_eq]
  have e2 : wasL n fs (k + 1) = stableL (rsA n fs (k + 1)) := by unfold wasL rsA; rw [if_neg (by omega)]
  rw [e2]
  by_cases hk : k = 0
  · have e1 : wasL n fs k = [] := by unfold wasL; rw [if_pos hk]
    rw [e1]
    exact within_nil (stable_ok (rsA_ok n fs (k + 1)))
  · have e1 : wasL n fs k = stableL (rsA n fs k) := by unfold wasL rsA; rw [if_neg hk]
    rw [e1, ← rsA_succ n fs k h]
    exact stable_mono (rsA_ok n fs k) (by rw [rsA_len]; exact hn) _ _
theorem was_row (n : Nat) (fs : List FRow) (k i : Nat) (hi : i < (rsA n fs k).length) : refWithinB (wasL n fs k) (rsA n fs k)[i] = true := by
  rw [← within_eq]
  by_cases hk : k = 0
  · have e1 : wasL n fs k = [] := by unfold wasL; rw [if_pos hk]
    rw [e1]
    exact within_nil (rsA_ok n fs k _ (List.getElem_mem hi))
  · have e1 : wasL n fs k = stableL (rsA n fs k) := by unfold wasL rsA; rw [if_neg hk]
    rw [e1]
    exact stable_within (rsA_ok n fs k) i hi
set_option maxRecDepth 100000 in
theorem matrixOrder_walk (p : Int) (A : Option Addr) (c : Nat) (fs : List FRow) (w : World) (h : Facts w A fs) :
    Calls Try.prog 3 #[.int .i64 p, .slice A fs.length c] w fun e w' => e = .returned (.bool true) ∧ Gr w w' := by
  have AW := Lib.hid awake8_any
  have HF := Lib.hid h
  have hfn := h.1
  have HGR := Lib.hid (great_any A c fs w h)
  clear h
  go_enter Try.func3, Try.ntmps3
  go_wp2_with fail
  refine (HGR.out).mono ?_
  rintro e w1 ⟨⟨b, rfl⟩, hw1⟩
  rw [hw1]
  clear hw1 w1
  cases b with
  | true =>
    have HG := Lib.hid (Gr.rfl' w)
    go_wp2_with fail
    refine (AW.out _).mono ?_
    rintro e wAW ⟨rfl, hg⟩
    replace HG := Lib.hid (HG.out.tr hg)
    clear hg
    go_wp2
    go_ret
    exact ⟨rfl, HG.out⟩
  | false =>
    go_wp2_with fail
    obtain ⟨n, hn, hn1, hn6⟩ := wrapN p
    rw [hn]
    have HNW := Lib.hid (fun w => New_any n w (by omega) (by omega))
    rw [show ((n : Int)).toNat = n by omega] at HNW
    clear hn
    refine (HNW.out _).mono ?_
    rintro e w2 ⟨ma, ra, rfl, hma, hma1, hra1, hg2⟩
    have hla := hma.lt
    go_wp2_with fail
    refine (HNW.out _).mono ?_
    rintro e w3 ⟨mb, rb, rfl, hmb, hmb1, hrb1, hg3⟩
    have HMA0 := Lib.hid (hma.gr hg3)
    have HMB0 := Lib.hid hmb
    have HG0 := Lib.hid (hg2.tr hg3)
    have n1 : ma ≠ rb := by omega
    have n2 : ra ≠ rb := by omega
    have n3 : mb ≠ ra := by omega
    have n4 : rb ≠ ra := by omega
    have r1 : w.heap.size ≤ ra := hra1
    have r2 : w.heap.size ≤ rb := by have := hg2.size; omega
    clear hma hmb hg2 hg3 hma1 hra1 hmb1 hrb1 hla HNW HGR
    go_wp2
    go_loopw [8, 9] (fun v i wr => ∃ k : Nat, k ≤ fs.length ∧ i = .int .i64 k ∧ (∃ A c, v = .slice A (wasL n fs k).length c ∧ Hid (Dots wr A (wasL n fs k))) ∧ Hid (MatI wr ma ra (rsA n fs k)) ∧ Hid (MatI wr mb rb (rsB n fs k)) ∧ Hid (Gr w wr)) (fun _ i _ => fs.length - (intOf i).toNat)
    case atStart => exact ⟨0, Nat.zero_le _, rfl, ⟨none, 0, rfl, Lib.hid (Dots.nil _ _)⟩, HMA0, HMB0, HG0⟩
    case round =>
      clear HMA0 HMB0 HG0
      obtain ⟨k, hk, rfl, ⟨A1, c1, rfl, HD⟩, HMA, HMB, HG⟩ := hrel
      by_cases hlt : k < fs.length
      · have hki : (k : Int) < (fs.length : Int) := by omega
        obtain ⟨m, hm⟩ : ∃ m : Nat, m + 1 + k = fs.length := ⟨fs.length - 1 - k, by omega⟩
        have hmf : m < fs.length := by omega
        have hmi : (fs.length : Int) - 1 - (k : Int) = (m : Int) := by omega
        have hml : (m : Int) < (fs.length : Int) := by omega
        have hm0 : (0 : Int) ≤ (m : Int) := by omega
        have hv1 : wrap64 ((fs.length : Int) - 1) = (fs.length : Int) - 1 := by unfold wrap64; omega
        have hv2 : wrap64 ((fs.length : Int) - 1 - (k : Int)) = (m : Int) := by unfold wrap64; omega
        have hv3 : IntKind.i64.wrap ((fs.length : Int) - 1) = (fs.length : Int) - 1 := by rw [IntKind.wrap_i64]; omega
        have hv4 : IntKind.i64.wrap ((fs.length : Int) - 1 - (k : Int)) = (m : Int) := by rw [IntKind.wrap_i64]; omega
        have hv5 : IntKind.i64.wrap (m : Int) = (m : Int) := by rw [IntKind.wrap_i64]; omega
        obtain ⟨ad, rfl, _⟩ := HF.out.2 k hlt
        have HK : Hid (∀ w', Gr w w' → ∀ j (hj : j < fs.length), w'.cell? (ad.add (j * 4)) = some (.int .i64 fs[j].P) ∧ w'.cell? ⟨(ad.add (j * 4)).block, (ad.add (j * 4)).off + 1, none⟩ = some (.slice fs[j].A fs[j].v.length fs[j].cap) ∧ fs[j].good w') := Lib.hid (fun w' g j hj => by
          obtain ⟨ad', e, h0, h1, _, _, h4⟩ := (HF.out.gr g).2 j hj
          cases e
          exact ⟨h0, h1, h4⟩)
        have hsA := rsA_succ n fs k hlt
        have hsB := rsB_succ n fs k m hlt hmf hm
        have HWI := Lib.hid (was_within n hn1 fs k hlt)
        have hwl : wasL n fs (k + 1) = stableL (rsA n fs (k + 1)) := by unfold wasL rsA; rw [if_neg (by omega)]
        obtain ⟨c0, c1', _⟩ := HK.out _ HG.out k hlt
        have HL1 := Lib.hid (fun w4 (gg : Gr wr w4) => Learn_any ma ra (rsA n fs k) fs[k].P fs[k].A fs[k].cap fs[k].v w4 (HMA.out.gr gg) ((HK.out _ HG.out k hlt).2.2.1.gr gg) (HK.out _ HG.out k hlt).2.2.2.1)
        have HK1 : Hid (∀ w', Gr w w' → w'.cell? (ad.add (k * 4)) = some (.int .i64 fs[k].P) ∧ w'.cell? ⟨(ad.add (k * 4)).block, (ad.add (k * 4)).off + 1, none⟩ = some (.slice fs[k].A fs[k].v.length fs[k].cap)) := Lib.hid (fun w' g => ⟨(HK.out _ g k hlt).1, (HK.out _ g k hlt).2.1⟩)
        have HK2 : Hid (∀ w', Gr w w' → w'.cell? (ad.add (m * 4)) = some (.int .i64 fs[m].P) ∧ w'.cell? ⟨(ad.add (m * 4)).block, (ad.add (m * 4)).off + 1, none⟩ = some (.slice fs[m].A fs[m].v.length fs[m].cap) ∧ fs[m].good w') := Lib.hid (fun w' g => HK.out _ g m hmf)
        rw [hsA] at HL1
        obtain ⟨f1, hf1⟩ : ∃ f, fs[k] = f := ⟨_, rfl⟩
        obtain ⟨f2, hf2⟩ : ∃ f, fs[m] = f := ⟨_, rfl⟩
        rw [hf1] at HL1 HK1 c0 c1'
        rw [hf2] at HK2 hsB
        have HSB := Lib.hid hsB
        obtain ⟨P1, fA1, fc1, fv1, _, _, _, _⟩ := f1
        obtain ⟨P2, fA2, fc2, fv2, _, _, _, _⟩ := f2
        simp only at HL1 HK1 HK2 HSB c0 c1'
        have hSS : Gr wr wr.drew := (Gr.rfl' _).dr
        have HWL := Lib.hid hwl
        clear hf1 hf2 hsA hsB HK hwl hm
        go_wp2
        go_region_held3 (fun w' => w'.cell? (ad.add (k * 4)) = some (.int .i64 P1) ∧ w'.cell? ⟨(ad.add (k * 4)).block, (ad.add (k * 4)).off + 1, none⟩ = some (.slice fA1 fv1.length fc1)) (first | exact ⟨c0, c1'⟩ | exact HK1.out _ hG4) (first
          | (go_at_call 9; refine (HL1.out _ hSS).mono ?_; rintro e w4 ⟨rfl, hm4, hgm4⟩; have hG4 := (HG.out.tr hSS).growB hgm4 r1; clear HL1))
        have hmbS := HMB.out.gr hSS
        have hdS := HD.out.gr hSS
        have hmaS := HMA.out.gr hSS
        have HMA4 := Lib.hid hm4
        have HMB4 := Lib.hid (hmbS.other hmaS hgm4 n3 n4)
        have HD4 := Lib.hid (hdS.gm hmaS hgm4)
        have HG4 := Lib.hid hG4
        have hSS4 : Gr w4 w4.drew := (Gr.rfl' _).dr
        have HL2 := Lib.hid (fun w5 (gg : Gr w4 w5) => Learn_any mb rb (rsB n fs k) P2 fA2 fc2 fv2 w5 (HMB4.out.gr gg) ((HK2.out _ HG4.out).2.2.1.gr gg) (HK2.out _ HG4.out).2.2.2.1)
        rw [HSB.out] at HL2
        obtain ⟨e0, e1, _⟩ := HK2.out _ HG4.out
        clear hm4 hgm4 hmbS hdS hmaS hG4 hSS HMA HMB HD HG c0 c1'
        go_wp2
        go_region_held3 (fun w' => w'.cell? (ad.add (m * 4)) = some (.int .i64 P2) ∧ w'.cell? ⟨(ad.add (m * 4)).block, (ad.add (m * 4)).off + 1, none⟩ = some (.slice fA2 fv2.length fc2)) (first | exact ⟨e0, e1⟩ | exact ⟨(HK2.out _ hG5).1, (HK2.out _ hG5).2.1⟩) (first
          | (go_at_call 9; refine (HL2.out _ hSS4).mono ?_; rintro e w5 ⟨rfl, hm5, hgm5⟩; have hG5 := (HG4.out.tr hSS4).growB hgm5 r2; clear HL2))
        have hmaS := HMA4.out.gr hSS4
        have hdS := HD4.out.gr hSS4
        have hmbS := HMB4.out.gr hSS4
        have HMB5 := Lib.hid hm5
        have HMA5 := Lib.hid (hmaS.other hmbS hgm5 n1 n2)
        have HD5 := Lib.hid (hdS.gm hmbS hgm5)
        have HG5 := Lib.hid hG5
        have HS := Lib.hid (Stable_any ma ra (rsA n fs (k + 1)) w5 HMA5.out)
        rw [← HWL.out] at HS
        clear hm5 hgm5 hmbS hdS hmaS hG5 hSS4 HMA4 HMB4 HD4 HG4 e0 e1
        go_wp2_with fail
        refine (HS.out).mono ?_
        rintro e w6 ⟨v6, rfl, ho6, hg6⟩
        obtain ⟨A6, c6, rfl, _, hd6⟩ := ho6.dots
        have HMA6 := Lib.hid (HMA5.out.gr hg6)
        have HMB6 := Lib.hid (HMB5.out.gr hg6)
        have HG6 := Lib.hid (HG5.out.tr hg6)
        have HD6 := Lib.hid hd6
        have HW := Lib.hid (refWithin_any A1 A6 c1 c6 (wasL n fs k) (wasL n fs (k + 1)) w6 (HD5.out.gr hg6) hd6)
        rw [HWI.out] at HW
        clear hg6 ho6 hd6 HMA5 HMB5 HG5 HS HD5
        go_wp2_with fail
        refine (HW.out).mono ?_
        rintro e w7 ⟨rfl, hg7⟩
        have HMA7 := Lib.hid (HMA6.out.gr hg7)
        have HMB7 := Lib.hid (HMB6.out.gr hg7)
        have HG7 := Lib.hid (HG6.out.tr hg7)
        have HD7 := Lib.hid (HD6.out.gr hg7)
        clear hg7 HMA6 HMB6 HG6 HD6 HW
        go_wp2
        go_roundw
        case rel => exact ⟨k + 1, by omega, by go_num, ⟨A6, c6, rfl, HD7⟩, HMA7, HMB7, HG7⟩
        case measure => simp [intOf]; omega
      · have hkn : k = fs.length := by omega
        subst hkn
        have hki : ¬ (fs.length : Int) < (fs.length : Int) := by omega
        go_wp2
        go_loopw [11] (fun i wr => ∃ j : Nat, j ≤ n ∧ i = .int .i64 j ∧ Hid (Dots wr A1 (wasL n fs fs.length)) ∧ Hid (MatI wr ma ra (rsA n fs fs.length)) ∧ Hid (MatI wr mb rb (rsB n fs fs.length)) ∧ Hid (Gr w wr)) (fun i _ => n - (intOf i).toNat)
        case atStart => exact ⟨0, Nat.zero_le _, rfl, HD, HMA, HMB, HG⟩
        case round =>
          clear HD HMA HMB HG
          obtain ⟨j, hj, rfl, HD, HMA, HMB, HG⟩ := hrel
          by_cases hlj : j < n
          · have hji : (j : Int) < (n : Int) := by omega
            have hjl : j < (rsA n fs fs.length).length := by rw [rsA_len]; exact hlj
            have HR := Lib.hid (Row_any ma ra _ j hjl wr HMA.out)
            have HWI := Lib.hid (was_row n fs fs.length j hjl)
            obtain ⟨l, hl⟩ : ∃ l, (rsA n fs fs.length)[j] = l := ⟨_, rfl⟩
            rw [hl] at HR HWI
            clear hl
            go_wp2_with fail
            refine (HR.out).mono ?_
            rintro e w6 ⟨v6, rfl, ho6, hg6⟩
            obtain ⟨A6, c6, rfl, _, hd6⟩ := ho6.dots
            have HMA6 := Lib.hid (HMA.out.gr hg6)
            have HMB6 := Lib.hid (HMB.out.gr hg6)
            have HG6 := Lib.hid (HG.out.tr hg6)
            have HD6 := Lib.hid (HD.out.gr hg6)
            have HW := Lib.hid (refWithin_any A1 A6 c1 c6 (wasL n fs fs.length) l w6 (HD.out.gr hg6) hd6)
            rw [HWI.out] at HW
            clear hg6 ho6 hd6 HMA HMB HG HD HR
            go_wp2_with fail
            refine (HW.out).mono ?_
            rintro e w7 ⟨rfl, hg7⟩
            have HMA7 := Lib.hid (HMA6.out.gr hg7)
            have HMB7 := Lib.hid (HMB6.out.gr hg7)
            have HG7 := Lib.hid (HG6.out.tr hg7)
            have HD7 := Lib.hid (HD6.out.gr hg7)
            clear hg7 HMA6 HMB6 HG6 HD6 HW
            go_wp2
            go_roundw
            case rel => exact ⟨j + 1, by omega, by go_num, HD7, HMA7, HMB7, HG7⟩
            case measure => simp [intOf]; omega
          · have hjn : j = n := by omega
            subst hjn
            have hji : ¬ (j : Int) < (j : Int) := by omega
            have HR1 := Lib.hid (Rows_any ma ra _ wr HMA.out)
            have HR2 := Lib.hid (fun w4 (gg : Gr wr w4) => Rows_any mb rb _ w4 (HMB.out.gr gg))
            have HEQ := Lib.hid (rs_eq j fs)
            clear HMA HMB HD
            go_wp2_with fail
            refine (HR1.out).mono ?_
            rintro e w6 ⟨⟨v6, rfl, d6, hn6, hl6⟩, hg6⟩
            obtain ⟨A6, c6, rfl, _, hd6⟩ := hn6.rows
            have HD6 := Lib.hid hd6
            have HG6 := Lib.hid (HG.out.tr hg6)
            have HRX := Lib.hid (HR2.out _ hg6)
            have HL6 := Lib.hid hl6
            clear hg6 hn6 hd6 HR1 HR2 hl6 HG
            go_wp2_with fail
            refine (HRX.out).mono ?_
            rintro e w7 ⟨⟨v7, rfl, d7, hn7, hl7⟩, hg7⟩
            obtain ⟨A7, c7, rfl, _, hd7⟩ := hn7.rows
            have HG7 := Lib.hid (HG6.out.tr hg7)
            have HSM := Lib.hid (refSame8_any A6 A7 c6 c7 d6 d7 w7 (HD6.out.gr hg7) hd7)
            rw [decide_eq_true (by unfold ls; rw [HL6.out, hl7]; exact HEQ.out)] at HSM
            clear hg7 hn7 hd7 HRX hl7 HG6 HD6
            go_wp2_with fail
            refine (HSM.out).mono ?_
            rintro e w8 ⟨rfl, hg8⟩
            have HG := Lib.hid (HG7.out.tr hg8)
            clear hg8 HSM HG7
            go_wp2_with fail
            refine (AW.out _).mono ?_
            rintro e wAW ⟨rfl, hg⟩
            replace HG := Lib.hid (HG.out.tr hg)
            clear hg
            go_wp2
            go_ret
            exact ⟨rfl, HG.out⟩
end Go.Proofs.Ytpaogcighlfelaa
