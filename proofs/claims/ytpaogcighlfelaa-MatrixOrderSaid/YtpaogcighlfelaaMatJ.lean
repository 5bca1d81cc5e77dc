/- hearsaylaw08: MatrixLearns. -/
import Derived.Test.YtpaogcighlfelaaMatH
set_option linter.unusedVariables false
set_option linter.unusedSimpArgs false
set_option maxHeartbeats 8000000
namespace Go.Proofs.Ytpaogcighlfelaa
open Go.RowKit

theorem DRows.low {w : World} {A : Option Addr} {ds : List DRow} (h : DRows w A ds) : 0 < ds.length → ∀ ad, A = some ad → ad.block < w.heap.size := by
  intro hp ad e
  obtain ⟨ad', e', hc, _⟩ := h.2 0 hp
  rw [e] at e'; cases e'
  have := World.block_lt_of_cell? w _ hc
  rwa [Addr.add_block] at this
theorem RowC.made (w : World) (cs : Array Value) (k B : Nat) (hs : cs.size = k) (ha : ∀ j, j < k → cs[j]? = some (.slice none 0 0)) (hk : k ≤ 64) (hB : B ≤ w.heap.size) :
    RowC (w.alloc (.cells cs 28)) B w.heap.size (.slice (some ⟨w.heap.size, 0, none⟩) k k) (List.replicate k ⟨none, 0, []⟩) := by
  refine ⟨hB, ⟨k, cs, by simp, World.alloc_heap_new _ _, by simp, by simp [maxLen]; omega, by simp [hs], by simp, ?_⟩, fun d hd => ?_⟩
  · apply List.ext_getElem?
    intro j
    by_cases hj : j < k
    · rw [List.length_replicate, List.getElem?_take_of_lt (by omega), Array.getElem?_toList, ha j hj, List.getElem?_map, List.getElem?_replicate, if_pos hj]; rfl
    · rw [List.getElem?_eq_none (by simp; omega), List.getElem?_eq_none (by simp; omega)]
  · rw [List.eq_of_mem_replicate hd]
    exact ⟨by simp, Dots.nil _ _, fun ad e => by simp at e⟩
theorem ls_rep (k : Nat) : ls (List.replicate k ⟨none, 0, []⟩) = List.replicate k [] := by unfold ls; rw [List.map_replicate]
set_option maxRecDepth 100000 in
theorem matrixLearns_walk (p : Int) (A : Option Addr) (c : Nat) (fs : List FRow) (x y : Int) (w : World) (h : Facts w A fs) :
    Calls Try.prog 4 #[.int .i64 p, .slice A fs.length c, .agg #[.int .i64 x, .int .i64 y]] w fun e w' => e = .returned (.bool true) ∧ Gr w w' := by
  have AW := Lib.hid awake8_any
  have HF := Lib.hid h
  have hfn := h.1
  obtain ⟨w0, hw0⟩ : ∃ w0, w.alloc (.cells #[.int .i64 x, .int .i64 y] 41) = w0 := ⟨_, rfl⟩
  have hg0 : Gr w w0 := by rw [← hw0]; exact (Gr.rfl' w).al _
  have hb0 : w0.cell? ⟨w.heap.size, 0, none⟩ = some (.int .i64 x) ∧ w0.cell? ⟨w.heap.size, 1, none⟩ = some (.int .i64 y) := by
    have hn := World.alloc_heap_new w (.cells #[.int .i64 x, .int .i64 y] 41)
    rw [hw0] at hn
    constructor <;> (simp only [World.cell?, hn]; rfl)
  have hsz0 : w0.heap.size = w.heap.size + 1 := by rw [← hw0]; simp
  have HB0 := Lib.hid hb0
  have HGR := Lib.hid (great_any A c fs w0 (h.gr hg0))
  have HG0 := Lib.hid hg0
  have HW0 := Lib.hid hw0
  clear h hg0 hb0 hw0
  by_cases hp : 1 ≤ p ∧ p ≤ 64
  · obtain ⟨n, rfl⟩ : ∃ n : Nat, p = (n : Int) := ⟨p.toNat, by omega⟩
    have hn1 : 1 ≤ n := by omega
    have hn64 : n ≤ 64 := by omega
    have HNW := Lib.hid (New_any n w0 hp.1 hp.2)
    rw [show ((n : Int)).toNat = n by omega] at HNW
    have q1 : ¬ (n : Int) < 1 := by omega
    have q2 : ¬ (64 : Int) < (n : Int) := by omega
    clear hp
    go_enter Try.func4, Try.ntmps4
    go_upto_region 1 with (fail)
    rw [show w.alloc (.cells #[.int .i64 x, .int .i64 y] 41) = w0 from HW0.out]
    go_wp2_with fail
    refine (HGR.out).mono ?_
    rintro e w1 ⟨⟨b, rfl⟩, hw1⟩
    rw [hw1]
    clear hw1 w1
    cases b with
    | true =>
      have HG := HG0
      go_wp2_with fail
      refine (AW.out _).mono ?_
      rintro e wAW ⟨rfl, hg⟩
      replace HG := Lib.hid (HG.out.tr hg)
      clear hg
      go_wp2
      go_ret
      exact ⟨rfl, HG.out⟩
    | false =>
      go_wp2_with fail
      refine (HNW.out).mono ?_
      rintro e w2 ⟨mb, rb, rfl, hm, hmb, hrb, hg⟩
      have HM2 := Lib.hid hm
      have HGN := Lib.hid hg
      have HP := Lib.hid (Peers_any mb rb _ w2 hm)
      rw [List.length_replicate] at HP
      have hrl : rb < w2.heap.size := by obtain ⟨cs, h1, _⟩ := hm.row; exact (Array.getElem?_eq_some_iff.1 h1).1
      clear hm hg HNW
      go_wp2_with fail
      refine (HP.out).mono ?_
      rintro e w3 ⟨rfl, rfl⟩
      obtain ⟨cs, hrun, hcs, hat⟩ := madeRows w3 n hn64
      have HRC0 := Lib.hid (RowC.made w3 cs n w3.heap.size hcs hat hn64 (Nat.le_refl _))
      have HM3 := Lib.hid (HM2.out.gr ((Gr.rfl' w3).al (.cells cs 28)))
      rw [← ls_rep] at HM3
      have HG3 := Lib.hid (HGN.out.al (.cells cs 28))
      have HGW : Hid (w.heap.size ≤ rb) := Lib.hid (by omega)
      have HB3 : Hid (∀ w', Gr w0 w' → w'.cell? ⟨w.heap.size, 0, none⟩ = some (.int .i64 x) ∧ w'.cell? ⟨w.heap.size, 1, none⟩ = some (.int .i64 y)) := Lib.hid (fun w' g => ⟨g.cell HB0.out.1, g.cell HB0.out.2⟩)
      clear hcs hat HP HM2
      go_wp2
      go_loopw [8, 9] (fun v i wr => ∃ (k g : Nat) (ds : List DRow), k ≤ fs.length ∧ i = .int .i64 k ∧ Hid (RowC wr w3.heap.size g v ds) ∧ Hid (MatI wr mb rb (ls ds)) ∧ Hid (Gr w0 wr)) (fun _ i _ => fs.length - (intOf i).toNat)
      case atStart => exact ⟨0, _, _, Nat.zero_le _, rfl, HRC0, HM3, HG3⟩
      case round =>
        clear HRC0 HM3 HG3 hrun
        obtain ⟨k, g, ds, hk, rfl, HRC, HMI, HG⟩ := hrel
        obtain ⟨cv, hv, _, _⟩ := HRC.out.rows
        subst hv
        by_cases hlt : k < fs.length
        · have hki : (k : Int) < (fs.length : Int) := by omega
          obtain ⟨ad, rfl, _⟩ := HF.out.2 k hlt
          obtain ⟨f, hf⟩ : ∃ f, fs[k] = f := ⟨_, rfl⟩
          have HK : Hid (∀ w', Gr w0 w' → w'.cell? (ad.add (k * 4)) = some (.int .i64 f.P) ∧ w'.cell? ⟨(ad.add (k * 4)).block, (ad.add (k * 4)).off + 1, none⟩ = some (.slice f.A f.v.length f.cap) ∧ w'.cell? ⟨(ad.add (k * 4)).block, (ad.add (k * 4)).off + 2, none⟩ = some (.bool f.all) ∧ w'.cell? ⟨(ad.add (k * 4)).block, (ad.add (k * 4)).off + 3, none⟩ = some (.slice f.RA f.rows.length f.rcap) ∧ f.good w') := Lib.hid (fun w' g => by
            obtain ⟨ad', e, h0, h1, h2, h3, h4⟩ := (HF.out.gr (HG0.out.tr g)).2 k hlt
            cases e
            rw [hf] at h0 h1 h2 h3 h4
            exact ⟨h0, h1, h2, h3, h4⟩)
          have HLOW : Hid (0 < f.rows.length → ∀ bd, f.RA = some bd → bd.block ≠ rb) := Lib.hid (fun h0 bd e => by
            obtain ⟨_, _, _, _, _, _, _, _, _, _⟩ := HF.out.2 k hlt
            have hgood := (HF.out.2 k hlt).choose_spec.2.2.2.2.2
            rw [hf] at hgood
            have := hgood.2.2.1.low h0 bd e
            have := HGW.out
            omega)
          obtain ⟨P, fA, fc, fv, all, fRA, frc, frows⟩ := f
          simp only at HK HLOW
          have HRB : Hid (rb < w3.heap.size) := Lib.hid hrl
          have HR0 : Hid (w0.heap.size ≤ rb) := Lib.hid hrb
          clear hf
          cases all with
          | true =>
            obtain ⟨c0, c1, c2, c3, hgood⟩ := HK.out _ HG.out
            have HMG := Lib.hid (Merge_any mb rb (ls ds) fRA frc frows wr HMI.out hgood.2.2.1 hgood.2.2.2 HLOW.out)
            have HRM := Lib.hid (fun w4 (gm : Gm rb wr w4) => refMerge_any w3.heap.size g cv ds fRA frc frows w4 (HRC.out.gm HMI.out gm HRB.out) (hgood.2.2.1.gm HMI.out gm HLOW.out) hgood.2.2.2 (Nat.le_trans HRC.out.1 (Nat.le_of_lt (HRC.out.gm HMI.out gm HRB.out).2.1.lt)) (by have := HMI.out.le; rw [ls_len] at this; exact this))
            obtain ⟨z, hz⟩ : ∃ z, mergeE (ls ds) (ls frows) = z := ⟨_, rfl⟩
            rw [hz] at HMG HRM
            clear hz hgood
            go_wp2_with fail
            refine (HMG.out).mono ?_
            rintro e w4 ⟨rfl, hm4, hgm4⟩
            have HG4 := Lib.hid (HG.out.growB hgm4 HR0.out)
            have HMI4 := Lib.hid hm4
            have HRM4 := Lib.hid (HRM.out _ hgm4)
            obtain ⟨d0, d1, d2, d3, _⟩ := HK.out _ HG4.out
            clear hm4 hgm4 HMG HRM HRC HMI HG c0 c1 c2 c3
            go_wp2_with fail
            refine (HRM4.out).mono ?_
            rintro e w5 ⟨⟨v5, rfl, gz, dsz, hrc5, hls5⟩, hg5⟩
            obtain ⟨rsz, hrsz⟩ : ∃ rsz, mergeR (ls ds) (ls frows) = rsz := ⟨_, rfl⟩
            rw [hrsz] at hls5 HMI4
            have HGZ := Lib.hid (HG4.out.tr hg5)
            have HMI := Lib.hid (HMI4.out.gr hg5)
            have HRC := Lib.hid hrc5
            have HLS := Lib.hid hls5
            have HRW := Lib.hid (Rows_any mb rb rsz w5 HMI.out)
            clear hg5 hrc5 hls5 hrsz HRM4 HMI4 HG4 d0 d1 d2 d3
            go_wp2_with fail
            refine (HRW.out).mono ?_
            rintro e wa ⟨⟨va, rfl, da, hna, hla⟩, hga⟩
            obtain ⟨Aa, ca, rfl, hda1, hda⟩ := hna.rows
            obtain ⟨cz, hvz, _, hdz⟩ := HRC.out.rows
            subst hvz
            have HSM := Lib.hid (refSame8_any Aa _ ca cz da dsz wa hda (hdz.gr hga))
            have HDZ := Lib.hid hdz
            rw [decide_eq_true (by unfold ls; rw [hla]; exact HLS.out.symm)] at HSM
            have HMI2 := Lib.hid (HMI.out.gr hga)
            have HGa := Lib.hid (HGZ.out.tr hga)
            have HRCa := Lib.hid (HRC.out.gr hga)
            have HDa := Lib.hid (hdz.gr hga)
            clear hna hla hga hda1 hda HRW HRC HMI HGZ hdz HDZ
            go_wp2_with fail
            refine (HSM.out).mono ?_
            rintro e wb ⟨rfl, hgb⟩
            have HST := Lib.hid (Stable_any mb rb rsz wb (HMI2.out.gr hgb))
            have HMI3 := Lib.hid (HMI2.out.gr hgb)
            have HGb := Lib.hid (HGa.out.tr hgb)
            have HRCb := Lib.hid (HRCa.out.gr hgb)
            have HDb := Lib.hid (HDa.out.gr hgb)
            clear hgb HSM HMI2 HGa HRCa HDa
            go_wp2_with fail
            refine (HST.out).mono ?_
            rintro e wc ⟨vc, rfl, hoc, hgc⟩
            have HRS := Lib.hid (refStable_any _ cz dsz wc (HDb.out.gr hgc))
            have HMI4 := Lib.hid (HMI3.out.gr hgc)
            have HGc := Lib.hid (HGb.out.tr hgc)
            have HRCc := Lib.hid (HRCb.out.gr hgc)
            obtain ⟨Ac, cc, rfl, _, hdc⟩ := hoc.dots
            have HDC := Lib.hid hdc
            have hse := stable_eq HMI4.out.ok HMI4.out.pos
            rw [HLS.out, ← hse] at HRS
            clear hgc HST HMI3 HGb HRCb HDb hoc hdc hse
            go_wp2_with fail
            refine (HRS.out).mono ?_
            rintro e wd ⟨vd, rfl, hod, hgd⟩
            obtain ⟨Ad, cd, rfl, _, hdd⟩ := hod.dots
            have HSA := Lib.hid (refSame_any Ac Ad cc cd (stableL rsz) (stableL rsz) wd (HDC.out.gr hgd) hdd)
            rw [decide_eq_true rfl] at HSA
            have HMI5 := Lib.hid (HMI4.out.gr hgd)
            have HGd := Lib.hid (HGc.out.tr hgd)
            have HRCd := Lib.hid (HRCc.out.gr hgd)
            clear hgd HRS HMI4 HGc HRCc HDC hod hdd
            go_wp2_with fail
            refine (HSA.out).mono ?_
            rintro e we ⟨rfl, hge⟩
            have HMI6 := Lib.hid (HMI5.out.gr hge)
            have HGe := Lib.hid (HGd.out.tr hge)
            have HRCe := Lib.hid (HRCd.out.gr hge)
            have HLSe : Hid (MatI we mb rb (ls dsz)) := Lib.hid (by rw [HLS.out]; exact HMI6.out)
            clear hge HSA HMI5 HGd HRCd
            go_wp2
            go_roundw
            case rel => exact ⟨k + 1, gz, dsz, by omega, by go_num, HRCe, HLSe, HGe⟩
            case measure => simp [intOf]; omega
          | false =>
            obtain ⟨c0, c1, c2, c3, hgood⟩ := HK.out _ HG.out
            have HLN := Lib.hid (fun w4 (gg : Gr wr w4) => Learn_any mb rb (ls ds) P fA fc fv w4 (HMI.out.gr gg) (hgood.1.gr gg) hgood.2.1)
            have HRM := Lib.hid (fun w4 (gm : Gm rb wr w4) => refLearn_any w3.heap.size g cv ds P fA fc fv w4 (HRC.out.gm HMI.out gm HRB.out) (hgood.1.gm HMI.out gm) hgood.2.1 (Nat.le_trans HRC.out.1 (Nat.le_of_lt (HRC.out.gm HMI.out gm HRB.out).2.1.lt)) (by have := HMI.out.le; rw [ls_len] at this; exact this))
            rw [ls_len] at HLN
            obtain ⟨z, hz⟩ : ∃ z, mayV ds.length P fv = z := ⟨_, rfl⟩
            rw [hz] at HLN HRM
            have hSS : Gr wr wr.drew := (Gr.rfl' _).dr
            clear hz hgood
            go_wp2
            go_region_held3 (fun w' => w'.cell? (ad.add (k * 4)) = some (.int .i64 P) ∧ w'.cell? ⟨(ad.add (k * 4)).block, (ad.add (k * 4)).off + 1, none⟩ = some (.slice fA fv.length fc)) (first | exact ⟨c0, c1⟩ | exact ⟨(HK.out _ hG4).1, (HK.out _ hG4).2.1⟩) (first
              | (go_at_call 9; refine (HLN.out _ hSS).mono ?_; rintro e w4 ⟨rfl, hm4, hgm4⟩; have hG4 := (HG.out.tr hSS).growB hgm4 HR0.out; clear HLN))
            have HG4 := Lib.hid hG4
            have HMI4 := Lib.hid hm4
            have HRM4 := Lib.hid (fun w5 (gg : Gr w4 w5) => HRM.out w5 ((hSS.gm rb).tr (hgm4.trR gg)))
            obtain ⟨d0, d1, d2, d3, _⟩ := HK.out _ HG4.out
            have hSS4 : Gr w4 w4.drew := (Gr.rfl' _).dr
            clear hm4 hgm4 HRM HRC HMI HG c0 c1 c2 c3 hG4 hSS
            go_wp2
            go_region_held3 (fun w' => w'.cell? (ad.add (k * 4)) = some (.int .i64 P) ∧ w'.cell? ⟨(ad.add (k * 4)).block, (ad.add (k * 4)).off + 1, none⟩ = some (.slice fA fv.length fc)) (first | exact ⟨d0, d1⟩ | exact ⟨(HK.out _ hG5).1, (HK.out _ hG5).2.1⟩) (first
              | (go_at_call 18; refine (HRM4.out _ hSS4).mono ?_; rintro e w5 ⟨⟨v5, rfl, gz, dsz, hrc5, hls5⟩, hg5⟩; have hG5 := HG4.out.tr (hSS4.tr hg5); clear HRM4))
            obtain ⟨rsz, hrsz⟩ : ∃ rsz, learnR (ls ds) P fv = rsz := ⟨_, rfl⟩
            rw [hrsz] at hls5 HMI4
            have HGZ := Lib.hid hG5
            have HMI := Lib.hid (HMI4.out.gr (hSS4.tr hg5))
            have HRC := Lib.hid hrc5
            have HLS := Lib.hid hls5
            have HRW := Lib.hid (Rows_any mb rb rsz w5 HMI.out)
            clear hg5 hrc5 hls5 hrsz HMI4 HG4 d0 d1 d2 d3 hG5 hSS4
            go_wp2_with fail
            refine (HRW.out).mono ?_
            rintro e wa ⟨⟨va, rfl, da, hna, hla⟩, hga⟩
            obtain ⟨Aa, ca, rfl, hda1, hda⟩ := hna.rows
            obtain ⟨cz, hvz, _, hdz⟩ := HRC.out.rows
            subst hvz
            have HSM := Lib.hid (refSame8_any Aa _ ca cz da dsz wa hda (hdz.gr hga))
            have HDZ := Lib.hid hdz
            rw [decide_eq_true (by unfold ls; rw [hla]; exact HLS.out.symm)] at HSM
            have HMI2 := Lib.hid (HMI.out.gr hga)
            have HGa := Lib.hid (HGZ.out.tr hga)
            have HRCa := Lib.hid (HRC.out.gr hga)
            have HDa := Lib.hid (hdz.gr hga)
            clear hna hla hga hda1 hda HRW HRC HMI HGZ hdz HDZ
            go_wp2_with fail
            refine (HSM.out).mono ?_
            rintro e wb ⟨rfl, hgb⟩
            have HST := Lib.hid (Stable_any mb rb rsz wb (HMI2.out.gr hgb))
            have HMI3 := Lib.hid (HMI2.out.gr hgb)
            have HGb := Lib.hid (HGa.out.tr hgb)
            have HRCb := Lib.hid (HRCa.out.gr hgb)
            have HDb := Lib.hid (HDa.out.gr hgb)
            clear hgb HSM HMI2 HGa HRCa HDa
            go_wp2_with fail
            refine (HST.out).mono ?_
            rintro e wc ⟨vc, rfl, hoc, hgc⟩
            have HRS := Lib.hid (refStable_any _ cz dsz wc (HDb.out.gr hgc))
            have HMI4 := Lib.hid (HMI3.out.gr hgc)
            have HGc := Lib.hid (HGb.out.tr hgc)
            have HRCc := Lib.hid (HRCb.out.gr hgc)
            obtain ⟨Ac, cc, rfl, _, hdc⟩ := hoc.dots
            have HDC := Lib.hid hdc
            have hse := stable_eq HMI4.out.ok HMI4.out.pos
            rw [HLS.out, ← hse] at HRS
            clear hgc HST HMI3 HGb HRCb HDb hoc hdc hse
            go_wp2_with fail
            refine (HRS.out).mono ?_
            rintro e wd ⟨vd, rfl, hod, hgd⟩
            obtain ⟨Ad, cd, rfl, _, hdd⟩ := hod.dots
            have HSA := Lib.hid (refSame_any Ac Ad cc cd (stableL rsz) (stableL rsz) wd (HDC.out.gr hgd) hdd)
            rw [decide_eq_true rfl] at HSA
            have HMI5 := Lib.hid (HMI4.out.gr hgd)
            have HGd := Lib.hid (HGc.out.tr hgd)
            have HRCd := Lib.hid (HRCc.out.gr hgd)
            clear hgd HRS HMI4 HGc HRCc HDC hod hdd
            go_wp2_with fail
            refine (HSA.out).mono ?_
            rintro e we ⟨rfl, hge⟩
            have HMI6 := Lib.hid (HMI5.out.gr hge)
            have HGe := Lib.hid (HGd.out.tr hge)
            have HRCe := Lib.hid (HRCd.out.gr hge)
            have HLSe : Hid (MatI we mb rb (ls dsz)) := Lib.hid (by rw [HLS.out]; exact HMI6.out)
            clear hge HSA HMI5 HGd HRCd
            go_wp2
            go_roundw
            case rel => exact ⟨k + 1, gz, dsz, by omega, by go_num, HRCe, HLSe, HGe⟩
            case measure => simp [intOf]; omega
        · have hkn : k = fs.length := by omega
          subst hkn
          have hki : ¬ (fs.length : Int) < (fs.length : Int) := by omega
          obtain ⟨b0, b1⟩ := HB3.out _ HG.out
          have hSS : Gr wr wr.drew := (Gr.rfl' _).dr
          have HST := Lib.hid (fun w4 (gg : Gr wr w4) => Steady_any mb rb (ls ds) x y w4 (HMI.out.gr gg))
          have HRS := Lib.hid (fun w4 (gg : Gr wr w4) => refStable_any (some ⟨g, 0, none⟩) cv ds w4 ((HRC.out.gr gg).rows.choose_spec.2.2))
          rw [← stable_eq HMI.out.ok HMI.out.pos] at HRS
          have HRH := Lib.hid (fun A c w4 h => refHas_any A c (stableL (ls ds)) x y w4 h)
          obtain ⟨z, hz⟩ : ∃ z, hasV (stableL (ls ds)) x y = z := ⟨_, rfl⟩
          rw [hz] at HST HRH
          have HGE := HG
          clear hz HRC HMI HG
          go_wp2
          go_region_held3 (fun w' => w'.cell? ⟨w.heap.size, 0, none⟩ = some (.int .i64 x) ∧ w'.cell? ⟨w.heap.size, 1, none⟩ = some (.int .i64 y)) (first | exact ⟨b0, b1⟩ | exact HB3.out _ (HGE.out.tr hS4)) (first
            | (go_at_call 21; refine (HST.out _ hSS).mono ?_; rintro e w4 ⟨rfl, hg4⟩; have hS4 := hSS.tr hg4; clear HST hg4)
            | (go_at_call 20; refine (HRS.out _ hS4).mono ?_; rintro e w5 ⟨v5, rfl, ho5, hg5⟩; obtain ⟨A5, c5, rfl, _, hd5⟩ := ho5.dots; replace hS4 := hS4.tr hg5; clear HRS hg5 ho5)
            | (go_at_call 22; refine (HRH.out A5 c5 _ hd5).mono ?_; rintro e w6 ⟨rfl, hg6⟩; replace hS4 := hS4.tr hg6; clear HRH hg6)
            | (go_at_call 7; refine (AW.out _).mono ?_; rintro e w7 ⟨rfl, hg7⟩; replace hS4 := hS4.tr hg7; clear AW hg7))
          have HZ := Lib.hid (HG0.out.tr (HGE.out.tr hS4))
          clear hS4
          go_wp2
          go_ret
          exact ⟨rfl, HZ.out⟩
  · have HNW := Lib.hid (New_no p w0 hp)
    by_cases q1 : p < 1
    · clear hp
      have q1b : decide (p < 1) = true := decide_eq_true q1
      go_enter Try.func4, Try.ntmps4
      go_upto_region 1 with (fail)
      rw [show w.alloc (.cells #[.int .i64 x, .int .i64 y] 41) = w0 from HW0.out]
      go_wp2_with fail
      refine (HGR.out).mono ?_
      rintro e w1 ⟨⟨b, rfl⟩, hw1⟩
      rw [hw1]
      clear hw1 w1
      cases b with
      | true =>
        have HG := HG0
        go_wp2_with fail
        refine (AW.out _).mono ?_
        rintro e wAW ⟨rfl, hg⟩
        replace HG := Lib.hid (HG.out.tr hg)
        clear hg
        go_wp2
        go_ret
        exact ⟨rfl, HG.out⟩
      | false =>
        go_wp2_with fail
        refine (HNW.out).mono ?_
        rintro e w2 ⟨rfl, hg⟩
        have HG := Lib.hid (HG0.out.tr hg)
        clear hg
        go_wp2_with fail
        refine (AW.out _).mono ?_
        rintro e wAW ⟨rfl, hg⟩
        replace HG := Lib.hid (HG.out.tr hg)
        clear hg
        go_wp2
        go_ret
        exact ⟨rfl, HG.out⟩
    · have q2 : 64 < p := by omega
      have q1b : decide (p < 1) = false := decide_eq_false q1
      have q2b : decide (64 < p) = true := decide_eq_true q2
      clear hp
      go_enter Try.func4, Try.ntmps4
      go_upto_region 1 with (fail)
      rw [show w.alloc (.cells #[.int .i64 x, .int .i64 y] 41) = w0 from HW0.out]
      go_wp2_with fail
      refine (HGR.out).mono ?_
      rintro e w1 ⟨⟨b, rfl⟩, hw1⟩
      rw [hw1]
      clear hw1 w1
      cases b with
      | true =>
        have HG := HG0
        go_wp2_with fail
        refine (AW.out _).mono ?_
        rintro e wAW ⟨rfl, hg⟩
        replace HG := Lib.hid (HG.out.tr hg)
        clear hg
        go_wp2
        go_ret
        exact ⟨rfl, HG.out⟩
      | false =>
        go_wp2_with fail
        refine (HNW.out).mono ?_
        rintro e w2 ⟨rfl, hg⟩
        have HG := Lib.hid (HG0.out.tr hg)
        clear hg
        go_wp2_with fail
        refine (AW.out _).mono ?_
        rintro e wAW ⟨rfl, hg⟩
        replace HG := Lib.hid (HG.out.tr hg)
        clear hg
        go_wp2
        go_ret
        exact ⟨rfl, HG.out⟩
end Go.Proofs.Ytpaogcighlfelaa
