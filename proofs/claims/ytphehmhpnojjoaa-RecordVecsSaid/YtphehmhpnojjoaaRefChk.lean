/- The document's Check of a list of dots. -/
import Derived.Test.YtphehmhpnojjoaaVecA
set_option linter.unusedVariables false
set_option linter.unusedSimpArgs false
set_option maxHeartbeats 400000
namespace Go.Proofs.Ytphehmhpnojjoaa
open Go.RowKit

theorem refDot_any (p c : Int) (w : World) : Calls Try.prog 65 #[.agg #[.int .i64 p, .int .i64 c]] w fun e w' => e = .returned (.int .i64 (dotChk p c)) ∧ Gr w w' := by
  go_enter Try.func65, Try.ntmps65
  go_wp2
  all_goals
    go_ret
    exact ⟨ret_int (by unfold dotChk; repeat (first | rw [if_pos (by omega)] | rw [if_neg (by omega)])), (Gr.rfl' _).al _⟩

def lastOf (l : List Dot) (k : Nat) : Int := if h : 0 < k ∧ k - 1 < l.length then (l[k - 1]'h.2).1 else -1
theorem refCheck_any (A : Option Addr) (cap : Nat) (l : List Dot) (w : World) (h : Dots w A l) :
   Calls Try.prog 41 #[.slice A l.length cap] w fun e w' => e = .returned (.int .i64 (chk l)) ∧ Gr w w' := by
  have H := Lib.hid h; clear h
  have hm := H.out.1
  go_enter Try.func41, Try.ntmps41
  go_wp2
  go_loopw [3] (fun i wr => ∃ k : Nat, k ≤ l.length ∧ i = .int .i64 k ∧ Hid (chk l = chkGo (lastOf l k) (l.drop k)) ∧ Gr w wr) (fun i _ => l.length - (intOf i).toNat)
  case atStart => exact ⟨0, Nat.zero_le _, rfl, Lib.hid rfl, Below.refl _ _⟩
  case round =>
    obtain ⟨k, hk, rfl, hch, hb⟩ := hrel
    by_cases hlt : k < l.length
    · obtain ⟨ad, rfl, hx, hy⟩ := (H.out.gr hb).2 k hlt
      have hdrop : Hid (l.drop k = l[k] :: l.drop (k+1)) := List.drop_eq_getElem_cons hlt
      have hlast : Hid (lastOf l (k + 1) = l[k].1) := by show _ = _; unfold lastOf; rw [dif_pos ⟨by omega, by omega⟩]; rfl
      have hi1 : (k : Int) < (l.length : Int) := by omega
      have hdp : Hid (∀ p c, l[k] = (p, c) → dotChk p c = 0 → 0 ≤ p) := by
        intro p c _ h; unfold dotChk at h; split at h <;> omega
      rcases k with _ | j
      · generalize hd : l[0] = d at *
        obtain ⟨p, c⟩ := d
        have hdp' := hdp.out p c rfl
        clear hd hdp
        simp only [Nat.zero_mul, Addr.add_zero'] at hx hy
        have hl0 : Hid (lastOf l 0 = -1) := rfl
        have hc0 : chkGo (lastOf l 0) ((p, c) :: l.drop (0+1)) = if dotChk p c ≠ 0 then dotChk p c else if p ≤ lastOf l 0 then 8 else chkGo p (l.drop (0+1)) := rfl
        have HC0 := Lib.hid hc0; clear hc0
        by_cases hok : dotChk p c = 0
        · have hok' : (dotChk p c != 0) = false := by simp [hok]
          have hp0 := hdp' hok
          have HOK := Lib.hid hok; clear hok hdp'
          go_wp2_with (go_at_call 65; refine (refDot_any _ _ _).mono ?_; rintro e w1 ⟨rfl, hg1⟩)
          refine wp_region_quiet_lit (by kernel_rfl) (by kernel_rfl) ?_
          repeat (first | go_big_quiet_step (fail) | quiet_step (fail))
          refine wpQuiet_nil ?_
          intro _ hw'
          obtain ⟨nq, hw''⟩ := hw'
          subst hw''
          go_wp2
          go_roundw
          case rel => exact ⟨1, by omega, by go_num, Lib.hid (by rw [hch.out, hdrop.out, HC0.out, if_neg (by simp [HOK.out]), if_neg (by rw [hl0.out]; omega), hlast.out]), (hb.tr hg1).drN _⟩
          case measure => simp [intOf]; omega
        · have hok' : (dotChk p c != 0) = true := by simp [hok]
          have HOK := Lib.hid hok; clear hok hdp'
          go_wp2_with (go_at_call 65; refine (refDot_any _ _ _).mono ?_; rintro e w1 ⟨rfl, hg1⟩)
          go_ret
          exact ⟨ret_int (by rw [hch.out, hdrop.out, HC0.out, if_pos HOK.out]), hb.tr hg1⟩
      · obtain ⟨ad', e', hx2, hy2⟩ := (H.out.gr hb).2 j (by omega)
        cases e'
        have hpl : Hid (lastOf l (j + 1) = l[j].1) := by show _ = _; unfold lastOf; rw [dif_pos ⟨by omega, by omega⟩]; rfl
        have hi2 : (j : Int) < (l.length : Int) := by omega
        generalize hd : l[j + 1] = d at *
        obtain ⟨p, c⟩ := d
        generalize l[j] = d2 at *
        obtain ⟨q, c2⟩ := d2
        clear hd hdp
        dsimp only at hx hy hlast hx2 hy2 hpl
        have hc0 : chkGo (lastOf l (j+1)) ((p, c) :: l.drop (j+1+1)) = if dotChk p c ≠ 0 then dotChk p c else if p ≤ lastOf l (j+1) then 8 else chkGo p (l.drop (j+1+1)) := rfl
        have HC0 := Lib.hid hc0; clear hc0
        by_cases hok : dotChk p c = 0
        · have hok' : (dotChk p c != 0) = false := by simp [hok]
          have HOK := Lib.hid hok; clear hok
          by_cases hle : p ≤ q
          all_goals
            go_wp2_with (go_at_call 65; refine (refDot_any _ _ _).mono ?_; rintro e w1 ⟨rfl, hg1⟩; replace hx := hg1.cell hx; replace hx2 := hg1.cell hx2)
            refine wp_region_quiet_lit (by kernel_rfl) (by kernel_rfl) ?_
            repeat (first | go_big_quiet_step (fail) | quiet_step (fail))
            refine wpQuiet_nil ?_
            intro _ hw'
            obtain ⟨nq, hw''⟩ := hw'
            subst hw''
            go_wp2
          · go_ret
            exact ⟨ret_int (by rw [hch.out, hdrop.out, HC0.out, if_neg (by simp [HOK.out]), if_pos (by rw [hpl.out]; omega)]), (hb.tr hg1).drN _⟩
          · go_roundw
            case rel => exact ⟨j + 1 + 1, by omega, by go_num, Lib.hid (by rw [hch.out, hdrop.out, HC0.out, if_neg (by simp [HOK.out]), if_neg (by rw [hpl.out]; omega), hlast.out]), (hb.tr hg1).drN _⟩
            case measure => simp [intOf]; omega
        · have hok' : (dotChk p c != 0) = true := by simp [hok]
          have HOK := Lib.hid hok; clear hok
          go_wp2_with (go_at_call 65; refine (refDot_any _ _ _).mono ?_; rintro e w1 ⟨rfl, hg1⟩)
          go_ret
          exact ⟨ret_int (by rw [hch.out, hdrop.out, HC0.out, if_pos HOK.out]), hb.tr hg1⟩
    · have : k = l.length := by omega
      subst this
      go_wp2
      go_ret
      have := hch.out
      simp at this
      exact ⟨ret_int (by rw [this]; rfl), hb⟩
end Go.Proofs.Ytphehmhpnojjoaa
