/- hearsayref08: Merge, Stable, Same. -/
import Derived.Test.YtpaogcighlfelaaMatE
set_option linter.unusedVariables false
set_option linter.unusedSimpArgs false
set_option maxHeartbeats 4000000
namespace Go.Proofs.Ytpaogcighlfelaa
open Go.RowKit

theorem refMerge_any (B g c : Nat) (ds : List DRow) (A : Option Addr) (cm : Nat) (ms : List DRow) (w : World) (h : RowC w B g (.slice (some ⟨g, 0, none⟩) ds.length c) ds) (hm : DRows w A ms) (hcap : ∀ d ∈ ms, d.l.length ≤ d.cap) (hB : B ≤ w.heap.size) (hn : ds.length ≤ 64) :
    Calls Try.prog 17 #[.slice (some ⟨g, 0, none⟩) ds.length c, .slice A ms.length cm] w fun e w' => (∃ v', e = .returned (.tuple #[v', .int .i64 (mergeE (ls ds) (ls ms))]) ∧ ∃ g' ds', RowC w' B g' v' ds' ∧ ls ds' = mergeR (ls ds) (ls ms)) ∧ Gr w w' := by
  have HRC := Lib.hid h
  have HM := Lib.hid hm
  have HCAP := Lib.hid hcap
  have hmm := hm.1
  clear h hm hcap
  by_cases hln : ms.length = ds.length
  · rw [hln]
    have HLN := Lib.hid hln
    have HME : Hid (mergeE (ls ds) (ls ms) = mayAll ds.length 0 (ls ms)) := Lib.hid (by unfold mergeE; rw [ls_len, ls_len, if_pos hln])
    clear hln hmm
    have HR0 : Hid (∃ ds', RowC w B g (.slice (some ⟨g, 0, none⟩) ds.length c) ds' ∧ ls ds' = mergeTo (ls ds) (ls ms) 0) := Lib.hid ⟨ds, HRC.out, (mergeTo_zero _ _).symm⟩
    go_enter Try.func17, Try.ntmps17
    go_wp2
    go_loopw [6, 7] (fun v i wr => ∃ (k g2 : Nat), k ≤ ds.length ∧ i = .int .i64 k ∧ Hid (∃ ds', RowC wr B g2 v ds' ∧ ls ds' = mergeTo (ls ds) (ls ms) k) ∧ Hid (∀ j (hj : j < (ls ms).length), j < k → mayV ds.length ((0 + j : Nat) : Int) (ls ms)[j] = 0) ∧ Hid (Gr w wr)) (fun _ i _ => ds.length - (intOf i).toNat)
    case atStart => exact ⟨0, g, Nat.zero_le _, rfl, HR0, Lib.hid (fun j _ hj => absurd hj (by omega)), Lib.hid (Gr.rfl' _)⟩
    case round =>
      obtain ⟨k, g2, hk, rfl, HR, HZ, HG⟩ := hrel
      by_cases hlt : k < ds.length
      · have hki : (k : Int) < (ds.length : Int) := by omega
        have hkd : k < ms.length := by have := HLN.out; omega
        obtain ⟨ad, rfl, hc, hdk⟩ := HM.out.2 k hkd
        replace hc := HG.out.cell hc
        obtain ⟨ds', hrc, hls⟩ := HR.out
        have hlen : ds'.length = ds.length := by rw [← ls_len ds', hls, mergeTo_length, ls_len]
        obtain ⟨c2, hv, _, _⟩ := hrc.rows
        rw [hlen] at hv
        subst hv
        have hBw : B ≤ wr.heap.size := Nat.le_trans hB HG.out.size
        have hrc' : RowC wr B g2 (.slice (some ⟨g2, 0, none⟩) ds'.length c2) ds' := by rw [hlen]; exact hrc
        have HL := Lib.hid (refLearn_any B g2 c2 ds' k ms[k].A ms[k].cap ms[k].l wr hrc' (hdk.gr HG.out) (HCAP.out _ (List.getElem_mem hkd)) hBw (by omega))
        rw [hls, hlen] at HL
        have hkl : k < (ls ms).length := by rw [ls_len]; exact hkd
        have hlk : (ls ms)[k] = ms[k].l := ls_at' ms k hkl
        have hgk : (ls ms).getD k [] = ms[k].l := ls_at ms k hkd
        have hml := mergeTo_learn (ls ds) (ls ms) k (by rw [ls_len]; exact hlt)
        rw [hgk, ls_len] at hml
        obtain ⟨d, hd⟩ : ∃ d, ms[k] = d := ⟨_, rfl⟩
        rw [hd] at hc HL hlk hml
        obtain ⟨dA, dc, dl⟩ := d
        simp only at hc HL hlk hml
        by_cases hm : mayV ds.length (k : Int) dl = 0
        · have HZ2 : Hid (∀ j (hj : j < (ls ms).length), j < k + 1 → mayV ds.length ((0 + j : Nat) : Int) (ls ms)[j] = 0) := Lib.hid (fun j hj hjk => by
            by_cases e : j = k
            · subst e; rw [hlk, Nat.zero_add]; exact hm
            · exact HZ.out j hj (by omega))
          rw [hm, hml hm] at HL
          clear hm hlk hd hdk HZ hrc hrc' hls hgk hml HR
          go_wp2_with fail
          refine (HL.out).mono ?_
          rintro e w2 ⟨⟨v', rfl, g3, ds3, hr3, hl3⟩, hg⟩
          have HG2 := Lib.hid (HG.out.tr hg)
          have HR3 : Hid (∃ ds', RowC w2 B g3 v' ds' ∧ ls ds' = mergeTo (ls ds) (ls ms) (k + 1)) := Lib.hid ⟨ds3, hr3, hl3⟩
          clear hg HL hr3 hl3
          go_wp2
          go_roundw
          case rel => exact ⟨k + 1, g3, by omega, by go_num, HR3, HZ2, HG2⟩
          case measure => simp [intOf]; omega
        · have hme := mayAll_at ds.length (ls ms) 0 k hkl HZ.out (by rw [hlk, Nat.zero_add]; exact hm)
          rw [hlk, Nat.zero_add] at hme
          have HE : Hid (mergeE (ls ds) (ls ms) = mayV ds.length (k : Int) dl) := Lib.hid (by rw [HME.out]; exact hme)
          obtain ⟨x, hx⟩ : ∃ x, mayV ds.length (k : Int) dl = x := ⟨_, rfl⟩
          rw [hx] at HL hm HE
          have HRR : Hid (ls ds = mergeR (ls ds) (ls ms)) := Lib.hid (by unfold mergeR; rw [HE.out, if_neg hm])
          clear hme hlk hd hdk HZ hx hrc hrc' hls hgk hml HR
          go_wp2_with fail
          refine (HL.out).mono ?_
          rintro e w2 ⟨⟨v', rfl, _⟩, hg⟩
          have HG2 := Lib.hid (HG.out.tr hg)
          clear hg HL
          go_wp2
          refine bodyPost_ret (v := .tuple #[.slice (some ⟨g, 0, none⟩) ds.length c, .int .i64 x]) (by simp [results, Try.results17, go_sem]) rfl ?_
          rw [HE.out]
          exact ⟨⟨_, rfl, g, ds, HRC.out.gr HG2.out, HRR.out⟩, HG2.out⟩
      · have hkn : k = ds.length := by omega
        subst hkn
        have hki : ¬ (ds.length : Int) < (ds.length : Int) := by omega
        have hz := mayAll_zero ds.length (ls ms) 0 (fun j hj => HZ.out j hj (by rw [ls_len] at hj; have := HLN.out; omega))
        have HE : Hid (mergeE (ls ds) (ls ms) = 0) := Lib.hid (by rw [HME.out]; exact hz)
        have HRR : Hid (mergeR (ls ds) (ls ms) = mergeTo (ls ds) (ls ms) ds.length) := Lib.hid (by unfold mergeR; rw [HE.out, if_pos rfl, ls_len])
        obtain ⟨ds', hrc, hls⟩ := HR.out
        obtain ⟨c2, hv, _, _⟩ := hrc.rows
        subst hv
        have HRE : Hid (ls ds' = mergeR (ls ds) (ls ms)) := Lib.hid (by rw [HRR.out]; exact hls)
        have HRC2 := Lib.hid hrc
        obtain ⟨n2, hn2⟩ : ∃ n2, ds'.length = n2 := ⟨_, rfl⟩
        have HN2 := Lib.hid hn2
        rw [hn2] at HRC2 ⊢
        clear hz HZ hrc hls hn2 HR
        go_wp2
        refine bodyPost_ret (v := .tuple #[.slice (some ⟨g2, 0, none⟩) n2 c2, .int .i64 0]) (by simp [results, Try.results17, go_sem]) rfl ?_
        rw [HE.out]
        exact ⟨⟨_, rfl, g2, ds', HRC2.out, HRE.out⟩, HG.out⟩
  · have HE : Hid (mergeE (ls ds) (ls ms) = 2) := Lib.hid (by unfold mergeE; rw [ls_len, ls_len, if_neg hln])
    have HRR : Hid (ls ds = mergeR (ls ds) (ls ms)) := Lib.hid (by unfold mergeR; rw [HE.out, if_neg (by decide)])
    have hni : ¬ (ds.length : Int) = (ms.length : Int) := by omega
    obtain ⟨n, hn2⟩ : ∃ n, ms.length = n := ⟨_, rfl⟩
    obtain ⟨m, hm2⟩ : ∃ m, ds.length = m := ⟨_, rfl⟩
    rw [hm2] at HRC hni ⊢
    rw [hn2] at hni ⊢
    clear HM hn2 hm2 hmm hln
    go_enter Try.func17, Try.ntmps17
    go_wp2
    refine bodyPost_ret (v := .tuple #[.slice (some ⟨g, 0, none⟩) m c, .int .i64 2]) (by simp [results, Try.results17, go_sem]) rfl ?_
    rw [HE.out]
    exact ⟨⟨_, rfl, g, ds, HRC.out, HRR.out⟩, Gr.rfl' _⟩
theorem refSame8_any (A A2 : Option Addr) (c c2 : Nat) (xs ys : List DRow) (w : World) (h : DRows w A xs) (h2 : DRows w A2 ys) :
    Calls Try.prog 13 #[.slice A xs.length c, .slice A2 ys.length c2] w fun e w' => e = .returned (.bool (decide (ls xs = ls ys))) ∧ Gr w w' := by
  have HT := Lib.hid h
  have HU := Lib.hid h2
  have hn := h.1
  clear h h2
  by_cases hll : xs.length = ys.length
  · rw [← hll]
    have HLL := Lib.hid hll
    clear hll
    go_enter Try.func13, Try.ntmps13
    go_wp2
    go_loopw [5] (fun i wr => ∃ k : Nat, k ≤ xs.length ∧ i = .int .i64 k ∧ Hid (∀ j (h : j < xs.length), j < k → xs[j].l = (ys[j]'(by have := HLL.out; omega)).l) ∧ Hid (Gr w wr)) (fun i _ => xs.length - (intOf i).toNat)
    case atStart => exact ⟨0, Nat.zero_le _, rfl, Lib.hid (fun j _ hj => absurd hj (by omega)), Lib.hid (Gr.rfl' _)⟩
    case round =>
      obtain ⟨k, hk, rfl, HA, HR⟩ := hrel
      by_cases hlt : k < xs.length
      · have hki : (k : Int) < (xs.length : Int) := by omega
        obtain ⟨ad, rfl, hc, hdx⟩ := HT.out.2 k hlt
        have hlt2 : k < ys.length := by have := HLL.out; omega
        obtain ⟨bd, rfl, hd, hdy⟩ := HU.out.2 k hlt2
        replace hc := HR.out.cell hc
        replace hd := HR.out.cell hd
        have HS := Lib.hid (fun w2 (g : Gr wr w2) => refSame_any xs[k].A ys[k].A xs[k].cap ys[k].cap xs[k].l ys[k].l w2 (hdx.gr (HR.out.tr g)) (hdy.gr (HR.out.tr g)))
        have hSS : Gr wr wr.drew := (Gr.rfl' _).dr
        by_cases hpq : xs[k].l = ys[k].l
        · have HA2 : Hid (∀ j (h : j < xs.length), j < k + 1 → xs[j].l = (ys[j]'(by have := HLL.out; omega)).l) := Lib.hid (fun j h hj => by
            by_cases hjk : j = k
            · subst hjk; exact hpq
            · exact HA.out j h (by omega))
          rw [decide_eq_true hpq] at HS
          clear hpq HA hdx hdy
          go_wp2
          go_region_held3 (fun w' => w'.cell? (ad.add k) = some (.slice xs[k].A xs[k].l.length xs[k].cap) ∧ w'.cell? (bd.add k) = some (.slice ys[k].A ys[k].l.length ys[k].cap)) (first | exact ⟨hc, hd⟩ | exact ⟨hg1.cell hc, hg1.cell hd⟩) (first
            | (go_at_call 19; refine (HS.out _ hSS).mono ?_; rintro e w1 ⟨rfl, hg1⟩; clear HS))
          have HG1 := Lib.hid (HR.out.tr (hSS.tr hg1))
          clear hg1
          go_wp2
          go_roundw
          case rel => exact ⟨k + 1, by omega, by go_num, HA2, HG1⟩
          case measure => simp [intOf]; omega
        · have HV : Hid (decide (ls xs = ls ys) = false) := Lib.hid (by
            simp only [decide_eq_false_iff_not]
            intro e
            apply hpq
            have h1 := ls_at xs k hlt
            have h2 := ls_at ys k hlt2
            rw [e] at h1
            exact h1.symm.trans h2)
          rw [decide_eq_false hpq] at HS
          clear hpq HA hdx hdy
          go_wp2
          go_region_held3 (fun w' => w'.cell? (ad.add k) = some (.slice xs[k].A xs[k].l.length xs[k].cap) ∧ w'.cell? (bd.add k) = some (.slice ys[k].A ys[k].l.length ys[k].cap)) (first | exact ⟨hc, hd⟩ | exact ⟨hg1.cell hc, hg1.cell hd⟩) (first
            | (go_at_call 19; refine (HS.out _ hSS).mono ?_; rintro e w1 ⟨rfl, hg1⟩; clear HS))
          have HG1 := Lib.hid (HR.out.tr (hSS.tr hg1))
          clear hg1
          go_wp2
          go_ret
          rw [HV.out]
          exact ⟨rfl, HG1.out⟩
      · have hkn : k = xs.length := by omega
        subst hkn
        have hki : ¬ (xs.length : Int) < (xs.length : Int) := by omega
        have HV : Hid (decide (ls xs = ls ys) = true) := Lib.hid (by
          simp only [decide_eq_true_eq]
          apply List.ext_getElem (by rw [ls_len, ls_len]; exact HLL.out)
          intro j h1 h2
          rw [ls_at', ls_at']
          rw [ls_len] at h1
          exact HA.out j h1 h1)
        go_wp2
        go_ret
        rw [HV.out]
        exact ⟨rfl, HR.out⟩
  · have HV : Hid (decide (ls xs = ls ys) = false) := Lib.hid (by
      simp only [decide_eq_false_iff_not]
      intro e
      have := congrArg List.length e
      rw [ls_len, ls_len] at this
      exact hll this)
    have hni : ¬ (xs.length : Int) = (ys.length : Int) := by omega
    obtain ⟨m, hm⟩ : ∃ m, xs.length = m := ⟨_, rfl⟩
    obtain ⟨n, hn2⟩ : ∃ n, ys.length = n := ⟨_, rfl⟩
    rw [hm, hn2] at hll hni ⊢
    clear hm hn2 hn
    go_enter Try.func13, Try.ntmps13
    go_wp2
    go_ret
    rw [HV.out]
    exact ⟨rfl, Gr.rfl' _⟩
end Go.Proofs.Ytpaogcighlfelaa
