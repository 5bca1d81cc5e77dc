/- hearsaylaw10.CoderReads. -/
import Derived.Test.YtgbpolejjfipgaaRsB
set_option linter.unusedVariables false
set_option linter.unusedSimpArgs false
set_option maxHeartbeats 800000
namespace Go.Proofs.Ytgbpolejjfipgaa
open Go.RowKit Go.Shelf Go.Great

theorem cutB_sz (S : ByteArray) (k : Nat) : (cutB S k).size ≤ S.size := by simp [cutB, ByteArray.size_extract]
theorem numM_sz (m : Int) (S : ByteArray) (e : Int) : (numM m S e).2.1.size ≤ S.size := by
  unfold numM
  split
  · exact Nat.le_refl _
  split
  · exact Nat.le_refl _
  · exact cutB_sz _ _
theorem txtM_sz (m : Int) (S : ByteArray) (e : Int) : (txtM m S e).2.1.size ≤ S.size := by
  unfold txtM
  split
  · exact Nat.le_refl _
  split
  · exact Nat.le_refl _
  · exact cutB_sz _ _
theorem flgM_sz (S : ByteArray) (e : Int) : (flgM S e).2.1.size ≤ S.size := by
  unfold flgM
  split
  · exact Nat.le_refl _
  split
  · exact Nat.le_refl _
  · exact cutB_sz _ _
theorem dgM_sz (S : ByteArray) (e : Int) : (dgM S e).2.1.size ≤ S.size := by
  unfold dgM
  split
  · exact Nat.le_refl _
  split
  · exact Nat.le_refl _
  · exact cutB_sz _ _
theorem eqDgM (S : ByteArray) (e : Int) (w : World) : (Op.equalIn 10000 37 (.agg (digC (dgM S e).1)) (.agg (digC (dgM S e).1))).run Try.prog w = .ok true w := by
  have h := eqDig 9998 _ _ (dgM_len S e) (dgM_len S e) w
  rw [decide_eq_true rfl] at h
  exact h
attribute [local go_sem high] eqDgM

set_option maxRecDepth 100000 in
set_option maxHeartbeats 4000000 in
theorem CoderReads_any (s : ByteArray) (A : Option Addr) (c0 : Nat) (l : List Pc) (w : World) (h : Pcs w A l) (hs63 : s.size ≤ 9223372036854775807) :
    Calls Try.prog 4 #[.string s, .slice A l.length c0] w fun r w' => r = .returned (.bool true) ∧ Gr w w' := by
  have H := Lib.hid h; clear h
  have hll := H.out.1
  rcases hm : greatGo 0 0 l with _ | _
  · by_cases hs5 : s.size ≤ 5000
    · have hs5b : ¬ (5000 : Int) < s.size := by omega
      go_enter Try.func4, Try.ntmps4
      go_wp2_with fail
      refine (great_any A c0 l _ H.out).mono ?_
      rintro r wq ⟨rfl, rfl⟩
      rw [hm]
      clear hm
      go_wp2_with fail
      refine (New_any s _).mono ?_
      rintro r w1 ⟨rfl, rfl⟩
      have HR0 : Hid (Sr 62 wq.heap.size s 0 ((wq.alloc (.cells #[.string s, .int .i64 0] 62)).alloc (.cells #[.string s, .int .i64 0] 51))) := (Below.heap_alloc _ _ _ (by simp)).trans (World.alloc_heap_new wq _)
      have HQ0 : Hid (Sr 51 (wq.heap.size + 1) s 0 ((wq.alloc (.cells #[.string s, .int .i64 0] 62)).alloc (.cells #[.string s, .int .i64 0] 51))) := by
        have := World.alloc_heap_new (wq.alloc (.cells #[.string s, .int .i64 0] 62)) (.cells #[.string s, .int .i64 0] 51)
        rw [World.size_alloc] at this
        exact this
      have hg0 := Lib.hid (((Gr.rfl' wq).al (.cells #[.string s, .int .i64 0] 62)).al (.cells #[.string s, .int .i64 0] 51))
      go_wp2
      go_loopw [7] (fun i wr => ∃ k : Nat, ∃ S : ByteArray, ∃ e : Int, k ≤ l.length ∧ i = .int .i64 k ∧ S.size ≤ 9223372036854775807 ∧ Hid (Sr 62 wq.heap.size S e wr) ∧ Hid (Sr 51 (wq.heap.size + 1) S e wr) ∧ Gr wq wr) (fun i _ => l.length - (intOf i).toNat)
      case atStart => exact ⟨0, s, 0, Nat.zero_le _, rfl, hs63, HR0, HQ0, hg0.out⟩
      case round =>
        clear HR0 HQ0 hg0
        obtain ⟨k, S, e, hk, rfl, hS, HR, HQ, hg⟩ := hrel
        by_cases hlt : k < l.length
        · have hki : (k : Int) < l.length := by omega
          obtain ⟨ad, rfl, hp⟩ := H.out.get k hlt
          have k1q := hp.c1
          have k0 := hg.cell hp.c0
          have k1 := hg.cell hp.c1
          clear hp
          go_upto_block 2 with (fail)
          go_cut [8] from 35 to 100 (fun s8 wx => s8 = .bool true ∧ ∃ S' : ByteArray, ∃ e' : Int, S'.size ≤ 9223372036854775807 ∧ Hid (Sr 62 wq.heap.size S' e' wx) ∧ Hid (Sr 51 (wq.heap.size + 1) S' e' wx) ∧ Gr wq wx)
          case first =>
            by_cases e0 : l[k].K = 0
            · have hk0 : (l[k].K == 0) = true := by simp [e0]
              have HSZ := Lib.hid (Nat.le_trans (numM_sz l[k].N S e) hS)
              clear e0
              go_wp2
              replace HR := Lib.hid (HR.out.gr ((Gr.rfl' _).dr))
              replace HQ := Lib.hid (HQ.out.gr ((Gr.rfl' _).dr))
              replace hg := hg.dr
              go_region_held3 (fun w' => w'.cell? ⟨(ad.add (k * 35)).block, (ad.add (k * 35)).off + 1, none⟩ = some (.int .i64 l[k].N)) (exact hg.cell k1q) (first
                | (go_at_call 18; refine (dNumber_any wq.heap.size S e l[k].N _ HR.out hS).mono ?_; rintro r wc ⟨rfl, h1, m1⟩; replace HR := Lib.hid h1; replace HQ := Lib.hid (HQ.out.rm m1 (by omega)); replace hg := m1.below hg (Nat.le_refl _); clear h1 m1)
                | (go_at_call 19; refine (sNumber_any (wq.heap.size + 1) S e l[k].N _ HQ.out hS).mono ?_; rintro r wc ⟨rfl, h1, m1⟩; replace HQ := Lib.hid h1; replace HR := Lib.hid (HR.out.rm m1 (by omega)); replace hg := m1.below hg (by omega); clear h1 m1))
              all_goals (go_wp2; go_meet; exact ⟨rfl, _, _, HSZ.out, HR, HQ, hg⟩)
            have b0 : (l[k].K == 0) = false := by simpa using e0
            by_cases e1 : l[k].K = 1
            · have hk1 : (l[k].K == 1) = true := by simp [e1]
              have HSZ := Lib.hid (Nat.le_trans (txtM_sz l[k].N S e) hS)
              clear e0 e1
              go_wp2
              replace HR := Lib.hid (HR.out.gr ((Gr.rfl' _).dr))
              replace HQ := Lib.hid (HQ.out.gr ((Gr.rfl' _).dr))
              replace hg := hg.dr
              go_region_held3 (fun w' => w'.cell? ⟨(ad.add (k * 35)).block, (ad.add (k * 35)).off + 1, none⟩ = some (.int .i64 l[k].N)) (exact hg.cell k1q) (first
                | (go_at_call 20; refine (dText_any wq.heap.size l[k].N S e _ HR.out hS).mono ?_; rintro r wc ⟨rfl, h1, m1⟩; replace HR := Lib.hid h1; replace HQ := Lib.hid (HQ.out.rm m1 (by omega)); replace hg := m1.below hg (Nat.le_refl _); clear h1 m1)
                | (go_at_call 21; refine (sText_any (wq.heap.size + 1) l[k].N S e _ HQ.out hS).mono ?_; rintro r wc ⟨rfl, h1, m1⟩; replace HQ := Lib.hid h1; replace HR := Lib.hid (HR.out.rm m1 (by omega)); replace hg := m1.below hg (by omega); clear h1 m1))
              all_goals (go_wp2; go_meet; exact ⟨rfl, _, _, HSZ.out, HR, HQ, hg⟩)
            have b1 : (l[k].K == 1) = false := by simpa using e1
            by_cases e2 : l[k].K = 2
            · have hk2 : (l[k].K == 2) = true := by simp [e2]
              have HSZ := Lib.hid (Nat.le_trans (flgM_sz S e) hS)
              clear e0 e1 e2
              go_wp2_with fail
              refine (dFlag_any wq.heap.size S e _ HR.out hS).mono ?_
              rintro r wc ⟨rfl, h1, m1⟩
              replace HR := Lib.hid h1
              replace HQ := Lib.hid (HQ.out.rm m1 (by omega))
              replace hg := m1.below hg (Nat.le_refl _)
              clear h1 m1
              go_wp2_with fail
              refine (sFlag_any (wq.heap.size + 1) S e _ HQ.out hS).mono ?_
              rintro r wd ⟨rfl, h1, m1⟩
              replace HQ := Lib.hid h1
              replace HR := Lib.hid (HR.out.rm m1 (by omega))
              replace hg := m1.below hg (by omega)
              clear h1 m1
              go_wp2
              go_meet
              exact ⟨rfl, _, _, HSZ.out, HR, HQ, hg⟩
            have b2 : (l[k].K == 2) = false := by simpa using e2
            by_cases e3 : l[k].K = 3
            · have hk3 : (l[k].K == 3) = true := by simp [e3]
              have HSZ := Lib.hid (Nat.le_trans (dgM_sz S e) hS)
              clear e0 e1 e2 e3
              go_wp2_with fail
              refine (dDigest_any wq.heap.size S e _ HR.out hS).mono ?_
              rintro r wc ⟨rfl, h1, m1⟩
              replace HR := Lib.hid h1
              replace HQ := Lib.hid (HQ.out.rm m1 (by omega))
              replace hg := m1.below hg (Nat.le_refl _)
              clear h1 m1
              go_wp2_with fail
              refine (sDigest_any (wq.heap.size + 1) S e _ HQ.out hS).mono ?_
              rintro r wd ⟨rfl, h1, m1⟩
              replace HQ := Lib.hid h1
              replace HR := Lib.hid (HR.out.rm m1 (by omega))
              replace hg := m1.below hg (by omega)
              clear h1 m1
              go_wp2
              go_meet
              exact ⟨rfl, _, _, HSZ.out, HR, HQ, hg⟩
            have b3 : (l[k].K == 3) = false := by simpa using e3
            by_cases e4 : l[k].K = 4
            · have hk4 : (l[k].K == 4) = true := by simp [e4]
              clear e0 e1 e2 e3 e4
              go_wp2_with fail
              refine (dFail_any wq.heap.size S e (bits .and .i64 l[k].N 15) _ HR.out).mono ?_
              rintro r wc ⟨rfl, h1, m1⟩
              replace HR := Lib.hid h1
              replace HQ := Lib.hid (HQ.out.rm m1 (by omega))
              replace hg := m1.below hg (Nat.le_refl _)
              have k1c := hg.cell k1q
              clear h1 m1
              go_wp2_with fail
              refine (sFail_any (wq.heap.size + 1) S e (bits .and .i64 l[k].N 15) _ HQ.out).mono ?_
              rintro r wd ⟨rfl, h1, m1⟩
              replace HQ := Lib.hid h1
              replace HR := Lib.hid (HR.out.rm m1 (by omega))
              replace hg := m1.below hg (by omega)
              clear h1 m1
              go_wp2
              go_meet
              exact ⟨rfl, _, _, hS, HR, HQ, hg⟩
            · have b4 : (l[k].K == 4) = false := by simpa using e4
              clear e0 e1 e2 e3 e4
              go_wp2
              go_meet
              exact ⟨rfl, _, _, hS, HR, HQ, hg⟩
          case rest =>
            obtain ⟨rfl, S', e', hS', HR1, HQ1, hg1⟩ := hcut
            clear k0 k1
            have c1 := HQ1.out.cell1
            have c0 := HQ1.out.cell0
            go_upto_region 23 with (fail)
            have HRn := fun n => HR1.out.gr ((Gr.rfl' wc).drN n)
            have HQn := fun n => HQ1.out.gr ((Gr.rfl' wc).drN n)
            refine wp_region_quiet_lit (by kernel_rfl) (by kernel_rfl) ?_
            repeat (first | go_big_quiet_step (first | (go_at_call 28; exact Calls.quiet_of_same (Err_any wq.heap.size S' e' _ (HRn _))) | (go_at_call 29; exact Calls.quiet_of_same (Left_any wq.heap.size S' e' _ (HRn _))) | (go_at_call 30; exact Calls.quiet_of_same (dDone_any wq.heap.size S' e' _ (HRn _))) | (go_at_call 31; exact Calls.quiet_of_same (sDone_any (wq.heap.size + 1) S' e' _ (HQn _)))) | quiet_step (first | (go_at_call 28; exact Calls.quiet_of_same (Err_any wq.heap.size S' e' _ (HRn _))) | (go_at_call 29; exact Calls.quiet_of_same (Left_any wq.heap.size S' e' _ (HRn _))) | (go_at_call 30; exact Calls.quiet_of_same (dDone_any wq.heap.size S' e' _ (HRn _))) | (go_at_call 31; exact Calls.quiet_of_same (sDone_any (wq.heap.size + 1) S' e' _ (HQn _)))))
            refine wpQuiet_nil ?_
            intro _ hw'
            obtain ⟨nq, hw''⟩ := hw'
            subst hw''
            go_wp2
            go_roundw
            case rel => exact ⟨k + 1, S', e', by omega, by go_num, hS', Lib.hid (HRn nq), Lib.hid (HQn nq), hg1.drN nq⟩
            case measure => simp [intOf]; omega
        · have hkk : k = l.length := by omega
          subst hkk
          go_wp2_with fail
          refine (awake_any _).mono ?_
          rintro r w2 ⟨rfl, hg2⟩
          go_wp2
          go_ret
          exact ⟨rfl, hg.tr hg2⟩
    · have hs5b : (5000 : Int) < s.size := by omega
      go_enter Try.func4, Try.ntmps4
      go_wp2_with fail
      refine (great_any A c0 l _ H.out).mono ?_
      rintro r wq ⟨rfl, rfl⟩
      rw [hm]
      go_wp2_with fail
      refine (awake_any _).mono ?_
      rintro r w2 ⟨rfl, hg⟩
      go_wp2
      go_ret
      exact ⟨rfl, hg⟩
  · go_enter Try.func4, Try.ntmps4
    go_wp2_with fail
    refine (great_any A c0 l _ H.out).mono ?_
    rintro r wq ⟨rfl, rfl⟩
    rw [hm]
    go_wp2_with fail
    refine (awake_any _).mono ?_
    rintro r w2 ⟨rfl, hg⟩
    go_wp2
    go_ret
    exact ⟨rfl, hg⟩
end Go.Proofs.Ytgbpolejjfipgaa
