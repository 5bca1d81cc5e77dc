/- The document's Bytes; great; OpsWrites. -/
import Derived.Test.YtjjdgmabgiembaaDoorOpsH
set_option linter.unusedVariables false
set_option linter.unusedSimpArgs false
set_option maxHeartbeats 400000
namespace Go.Proofs.YtjjdgmabgiembaaDoor
open Go.RowKit Go.Shelf Go.Great

set_option maxRecDepth 100000 in
set_option maxHeartbeats 1000000 in
theorem refBytes_any (A : Option Addr) (cap : Nat) (l : List Opx) (w : World) (hO : Oxs w A l) :
    Calls Tryd.prog 12 #[.slice A l.length cap] w fun r w' => r = .returned (.tuple #[.string ⟨(bytesV l).1.toArray⟩, .int .i64 (bytesV l).2]) ∧ Gr w w' := by
  have HO := Lib.hid hO; clear hO
  have hll := HO.out.1
  have HW := Lib.hid (Rw.new w)
  have hga := Lib.hid ((Gr.rfl' w).al (.cells #[.string ⟨#[]⟩, .int .i64 0] 53))
  by_cases h4 : 400 < l.length
  · have h4i : (400 : Int) < l.length := by omega
    have hX : Hid (bytesV l = ([], 2)) := by show _ = _; unfold bytesV; rw [if_pos h4]
    go_enter Tryd.func12, Tryd.ntmps12
    go_wp2
    go_ret2
    rw [hX.out]
    exact ⟨rfl, hga.out⟩
  · have h4i : ¬ (400 : Int) < l.length := by omega
    have hX : Hid (bytesV l = doneV (oputs l (wnum l.length ([], 0)))) := by show _ = _; unfold bytesV; rw [if_neg h4]
    have hl1 := wnum_len l.length ([], 0)
    have HL := Lib.hid (oputs_len l (wnum l.length ([], 0)))
    simp only [List.length_nil] at hl1
    go_enter Tryd.func12, Tryd.ntmps12
    go_wp2_with fail
    refine (rNum2 w.heap.size ([], 0) l.length _ HW.out (by decide)).mono ?_
    rintro r w1 ⟨rfl, h1, m1⟩
    have H1 := Lib.hid h1
    have hG1 := Lib.hid (m1.below hga.out (Nat.le_refl _))
    clear h1 m1
    go_wp2
    go_loopw [5] (fun i wr => ∃ k : Nat, k ≤ l.length ∧ i = .int .i64 k ∧ Hid (Rw w.heap.size ⟨(oputs (l.take k) (wnum l.length ([], 0))).1.toArray⟩ (oputs (l.take k) (wnum l.length ([], 0))).2 wr) ∧ Hid (Gr w wr)) (fun i _ => l.length - (intOf i).toNat)
    case atStart => exact ⟨0, Nat.zero_le _, rfl, H1, hG1⟩
    case round =>
      clear H1 hG1
      obtain ⟨k, hk, rfl, HWr, HG⟩ := hrel
      by_cases hlt : k < l.length
      · have hki : (k : Int) < l.length := by omega
        have hlk := HL.out k hk
        obtain ⟨ad, rfl, hsz, hcs⟩ := (HO.out.gr HG.out).2 k hlt
        have HCS : Hid (∀ j v, l[k].cells.toList[j]? = some v → wr.cell? ((ad.add (k * 8)).add j) = some v) := fun j v hv => hcs j v (by simpa using hv)
        clear hcs
        have hcl := HWr.out.lt
        go_wp2_with (refine wpList_load_at rfl 23 _ rfl _ rfl l[k].cells.toList _ HCS.out Tryd.underlying23 rfl (by kernel_rfl) ?_)
        refine (refPut_any w.heap.size (oputs (l.take k) (wnum l.length ([], 0))) l[k] wr hcl hsz.1 hsz.2 HWr.out (by omega)).mono ?_
        rintro r w2 ⟨rfl, h2, m2⟩
        have H2 : Hid (Rw w.heap.size ⟨(oputs (l.take (k + 1)) (wnum l.length ([], 0))).1.toArray⟩ (oputs (l.take (k + 1)) (wnum l.length ([], 0))).2 w2) := by show Rw _ _ _ _; rw [oputs_take hlt]; exact h2
        have HG2 := Lib.hid (m2.below HG.out (Nat.le_refl _))
        clear h2 m2
        go_wp2
        go_roundw
        case rel => exact ⟨k + 1, by omega, by go_num, H2, HG2⟩
        case measure => simp [intOf]; omega
      · have hki : ¬ (k : Int) < l.length := by omega
        have hkk : k = l.length := by omega
        subst hkk
        rw [List.take_length] at HWr
        go_wp2_with fail
        refine (rDone_any _ _ _ _ HWr.out).mono ?_
        rintro r w2 ⟨rfl, m2⟩
        go_wp2
        go_ret2
        rw [hX.out, rdone_eq]
        exact ⟨rfl, HG.out.tr m2⟩

set_option maxRecDepth 100000 in
theorem great_any (A : Option Addr) (cap : Nat) (l : List Opx) (w : World) (hO : Oxs w A l) :
    Calls Tryd.prog 10 #[.slice A l.length cap] w fun r w' => (r = .returned (.bool false) ∨ r = .returned (.bool true)) ∧ Gr w w' := by
  have HO := Lib.hid hO; clear hO
  have hll := HO.out.1
  have hg0 := Lib.hid (Gr.rfl' w)
  go_enter Tryd.func10, Tryd.ntmps10
  go_wp2
  go_loopw [3, 4] (fun n i wr => ∃ (k : Nat) (v : Int), k ≤ l.length ∧ n = .int .i64 v ∧ i = .int .i64 k ∧ Hid (Gr w wr)) (fun _ i _ => l.length - (intOf i).toNat)
  case atStart => exact ⟨0, 0, Nat.zero_le _, rfl, rfl, hg0⟩
  case round =>
    clear hg0
    obtain ⟨k, v, hk, rfl, rfl, HG⟩ := hrel
    by_cases hlt : k < l.length
    · have hki : (k : Int) < l.length := by omega
      obtain ⟨ad, rfl, hsz, hcs⟩ := (HO.out.gr HG.out).2 k hlt
      have q6 : wr.cell? { block := (ad.add (k * 8)).block, off := (ad.add (k * 8)).off + 6 } = some (.string l[k].Pa) := hcs 6 _ rfl
      have q7 : wr.cell? { block := (ad.add (k * 8)).block, off := (ad.add (k * 8)).off + 7 } = some (.string l[k].Da) := hcs 7 _ rfl
      have q6' : wr.drew.cell? ((ad.add (k * 8)).add 6) = some (.string l[k].Pa) := q6
      have q7' : wr.drew.cell? ((ad.add (k * 8)).add 7) = some (.string l[k].Da) := q7
      obtain ⟨h1, h2⟩ := hsz
      clear hcs
      go_wp2
      refine wp_region_quiet_lit (by kernel_rfl) (by kernel_rfl) ?_
      repeat (first | go_big_quiet_step (fail) | quiet_step (fail))
      refine wpQuiet_nil ?_
      intro _ hw'
      obtain ⟨nq, hw''⟩ := hw'
      subst hw''
      have hG1 := Lib.hid (HG.out.drN nq)
      go_wp2
      all_goals first
        | (go_ret; exact ⟨.inr rfl, hG1.out⟩)
        | exact ⟨⟨k + 1, _, by omega, rfl, by go_num, hG1⟩, by simp [intOf]; omega⟩
    · have hki : ¬ (k : Int) < l.length := by omega
      go_wp2
      go_ret
      exact ⟨.inl rfl, HG.out⟩

set_option maxRecDepth 100000 in
theorem OpsWrites_any (A : Option Addr) (cap : Nat) (l : List Opx) (w : World) (hO : Oxs w A l) (hF : Fl w) :
    Calls Tryd.prog 4 #[.slice A l.length cap] w fun r w' => r = .returned (.bool true) ∧ Gr w w' := by
  have HO := Lib.hid hO; clear hO
  have HF := Lib.hid hF; clear hF
  go_enter Tryd.func4, Tryd.ntmps4
  go_wp2_with fail
  refine (great_any A cap l w HO.out).mono ?_
  rintro r w1 ⟨rfl | rfl, g1⟩
  rotate_left
  ·
    go_wp2_with fail
    refine (awake_any _ (HF.out.gr g1)).mono ?_
    rintro r w2 ⟨rfl, g2⟩
    go_wp2
    go_ret
    exact ⟨rfl, g1.tr g2⟩
  ·
    go_wp2_with fail
    refine (Bytes_any A cap l _ (HO.out.gr g1) (HF.out.gr g1)).mono ?_
    rintro r w2 ⟨rfl, g2⟩
    replace g1 := g1.tr g2
    clear g2
    go_wp2_with fail
    refine (refBytes_any A cap l _ (HO.out.gr g1)).mono ?_
    rintro r w3 ⟨rfl, g2⟩
    replace g1 := g1.tr g2
    clear g2
    go_wp2_with fail
    refine (awake_any _ (HF.out.gr g1)).mono ?_
    rintro r w4 ⟨rfl, g2⟩
    go_wp2
    go_ret
    exact ⟨rfl, g1.tr g2⟩
end Go.Proofs.YtjjdgmabgiembaaDoor
