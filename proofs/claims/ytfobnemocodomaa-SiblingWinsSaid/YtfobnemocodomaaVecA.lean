/- vec's small functions: dot, Check, right, find, Get, Has. -/
import Derived.Test.YtfobnemocodomaaBase
set_option linter.unusedVariables false
set_option linter.unusedSimpArgs false
set_option maxHeartbeats 400000
namespace Go.Proofs.Ytfobnemocodomaa
open Go.RowKit

theorem dot_any (p c : Int) (w : World) : Calls Try.prog 162 #[.agg #[.int .i64 p, .int .i64 c]] w fun e w' => e = .returned (.int .i64 (dotChk p c)) ∧ Gr w w' := by
  go_enter Try.func162, Try.ntmps162
  go_wp2
  all_goals
    go_ret
    exact ⟨ret_int (by unfold dotChk; repeat (first | rw [if_pos (by omega)] | rw [if_neg (by omega)])), (Gr.rfl' _).al _⟩

theorem Check_any (A : Option Addr) (cap : Nat) (l : List Dot) (w : World) (h : Dots w A l) :
   Calls Try.prog 90 #[.slice A l.length cap] w fun e w' => e = .returned (.int .i64 (chk l)) ∧ Gr w w' := by
  have H := Lib.hid h; clear h
  have hm := H.out.1
  go_enter Try.func90, Try.ntmps90
  go_wp2
  go_loopw [3,9] (fun last i wr => ∃ k : Nat, ∃ la : Int, k ≤ l.length ∧ i = .int .i64 k ∧ last = .int .i64 la ∧ Hid (chk l = chkGo la (l.drop k)) ∧ Gr w wr) (fun _ i _ => l.length - (intOf i).toNat)
  case atStart => exact ⟨0, -1, Nat.zero_le _, rfl, rfl, Lib.hid rfl, Below.refl _ _⟩
  case round =>
    obtain ⟨k, la, hk, rfl, rfl, hch, hb⟩ := hrel
    by_cases hlt : k < l.length
    · obtain ⟨ad, rfl, hx, hy⟩ := (H.out.gr hb).2 k hlt
      have hdrop : Hid (l.drop k = l[k] :: l.drop (k+1)) := List.drop_eq_getElem_cons hlt
      generalize hd : l[k] = d at *
      obtain ⟨p, c⟩ := d
      clear hd
      dsimp only at hx hy
      have hc0 : chkGo la ((p, c) :: l.drop (k+1)) = if dotChk p c ≠ 0 then dotChk p c else if p ≤ la then 8 else chkGo p (l.drop (k+1)) := rfl
      have HC0 := Lib.hid hc0; clear hc0
      by_cases hok : dotChk p c = 0
      · have hok' : (dotChk p c != 0) = false := by simp [hok]
        have HOK := Lib.hid hok; clear hok
        by_cases hle : p ≤ la
        all_goals
          go_wp2_with (go_at_call 162; refine (dot_any _ _ _).mono ?_; rintro e w1 ⟨rfl, hg1⟩; obtain ⟨hc1, hf1⟩ := bcell hg1; have hz1 := hg1.size; simp at hz1)
        · go_ret
          refine ⟨ret_int ?_, (hb.al _).tr hg1⟩
          rw [hch.out, hdrop.out, HC0.out, if_neg (by simp [HOK.out]), if_pos (by omega)]
        · go_roundw
          case rel => exact ⟨k + 1, p, by omega, by go_num, rfl, Lib.hid (by rw [hch.out, hdrop.out, HC0.out, if_neg (by simp [HOK.out]), if_neg (by omega)]), (hb.al _).tr hg1⟩
          case measure => simp [intOf]; omega
      · have hok' : (dotChk p c != 0) = true := by simp [hok]
        have HOK := Lib.hid hok; clear hok
        go_wp2_with (go_at_call 162; refine (dot_any _ _ _).mono ?_; rintro e w1 ⟨rfl, hg1⟩)
        go_ret
        refine ⟨ret_int ?_, (hb.al _).tr hg1⟩
        rw [hch.out, hdrop.out, HC0.out, if_pos HOK.out]
    · have : k = l.length := by omega
      subst this
      go_wp2
      go_ret
      have := hch.out
      simp at this
      exact ⟨ret_int (by rw [this]; rfl), hb⟩

/-- A row of rows of dots: the slice header and what it leads to. -/
structure DRow where
  A : Option Addr
  cap : Nat
  l : List Dot
def DRows (w : World) (A : Option Addr) (rs : List DRow) : Prop :=
  rs.length ≤ 9223372036854775807 ∧ ∀ i (h : i < rs.length), ∃ ad, A = some ad ∧ w.cell? (ad.add i) = some (.slice rs[i].A rs[i].l.length rs[i].cap) ∧ Dots w rs[i].A rs[i].l
theorem DRows.gr {w w' : World} {A : Option Addr} {rs : List DRow} (h : DRows w A rs) (g : Gr w w') : DRows w' A rs :=
  ⟨h.1, fun i hi => let ⟨ad, e, a, b⟩ := h.2 i hi; ⟨ad, e, g.cell a, b.gr g⟩⟩

def idxBad : Int → List DRow → Int
  | _, [] => -1
  | k, r :: rs => if chk r.l ≠ 0 then k else idxBad (k + 1) rs
theorem idxBad_spec : ∀ (rs : List DRow) (k : Int), 0 ≤ k → (0 ≤ idxBad k rs ↔ ∃ r ∈ rs, chk r.l ≠ 0)
  | [], k, _ => by simp [idxBad]
  | r :: rs, k, h => by
    unfold idxBad
    have ih := idxBad_spec rs (k + 1) (by omega)
    by_cases c : chk r.l = 0
    · simp [c, ih]
    · simp [c, h]
def rightB (rs : List DRow) : Bool := rs.all fun r => chk r.l == 0

theorem right1_any (A : Option Addr) (cap : Nat) (l : List Dot) (w : World) (h : Dots w A l) :
   Calls Try.prog 210 #[.slice A l.length cap] w fun e w' => e = .returned (.bool (chk l != 0)) ∧ Gr w w' := by
  have H := Lib.hid h; clear h
  go_enter Try.func210, Try.ntmps210
  go_wp2_with (go_at_call 90; refine (Check_any _ _ _ _ H.out).mono ?_; rintro e w1 ⟨rfl, hg1⟩)
  go_ret
  exact ⟨rfl, hg1⟩

theorem IndexFunc_any (A : Option Addr) (cap : Nat) (rs : List DRow) (w : World) (h : DRows w A rs) :
   Calls Try.prog 219 #[.slice A rs.length cap, .func (.func 210) #[] #[]] w fun e w' => e = .returned (.int .i64 (idxBad 0 rs)) ∧ Gr w w' := by
  have H := Lib.hid h; clear h
  have hm := H.out.1
  go_enter Try.func219, Try.ntmps219
  go_wp2
  go_loopw [8] (fun i wr => ∃ k : Nat, k ≤ rs.length ∧ i = .int .i64 k ∧ Hid (idxBad 0 rs = idxBad k (rs.drop k)) ∧ Gr w wr) (fun i _ => rs.length - (intOf i).toNat)
  case atStart => exact ⟨0, Nat.zero_le _, rfl, Lib.hid rfl, Below.refl _ _⟩
  case round =>
    obtain ⟨k, hk, rfl, hch, hb⟩ := hrel
    by_cases hlt : k < rs.length
    · obtain ⟨ad, rfl, hx, hD⟩ := (H.out.gr hb).2 k hlt
      have hdrop : Hid (rs.drop k = rs[k] :: rs.drop (k+1)) := List.drop_eq_getElem_cons hlt
      generalize hd : rs[k] = d at *
      obtain ⟨Ar, capr, l⟩ := d
      clear hd
      dsimp only at hx hD
      have HD := Lib.hid hD; clear hD
      have hc0 : idxBad k (⟨Ar, capr, l⟩ :: rs.drop (k+1)) = if chk l ≠ 0 then (k : Int) else idxBad (k + 1 : Int) (rs.drop (k+1)) := rfl
      have HC0 := Lib.hid hc0; clear hc0
      by_cases hok : chk l = 0
      · have hok' : (chk l != 0) = false := by simp [hok]
        have HOK := Lib.hid hok; clear hok
        go_wp2_with (go_at_call 210; refine (right1_any _ _ _ _ HD.out).mono ?_; rintro e w1 ⟨rfl, hg1⟩)
        go_roundw
        case rel => exact ⟨k + 1, by omega, by go_num, Lib.hid (by rw [hch.out, hdrop.out, HC0.out, if_neg (by simp [HOK.out])]; rfl), hb.tr hg1⟩
        case measure => simp [intOf]; omega
      · have hok' : (chk l != 0) = true := by simp [hok]
        have HOK := Lib.hid hok; clear hok
        go_wp2_with (go_at_call 210; refine (right1_any _ _ _ _ HD.out).mono ?_; rintro e w1 ⟨rfl, hg1⟩)
        go_ret
        refine ⟨ret_int ?_, hb.tr hg1⟩
        rw [hch.out, hdrop.out, HC0.out, if_pos HOK.out]
    · have : k = rs.length := by omega
      subst this
      go_wp2
      go_ret
      have := hch.out
      simp at this
      exact ⟨ret_int (by rw [this]; rfl), hb⟩

theorem ContainsFunc_any (A : Option Addr) (cap : Nat) (rs : List DRow) (w : World) (h : DRows w A rs) :
   Calls Try.prog 209 #[.slice A rs.length cap, .func (.func 210) #[] #[]] w fun e w' => e = .returned (.bool (!rightB rs)) ∧ Gr w w' := by
  have H := Lib.hid h; clear h
  have hs : (!rightB rs) = decide (0 ≤ idxBad 0 rs) := by
    have := idxBad_spec rs 0 (by omega)
    rw [Bool.eq_iff_iff]
    simp only [decide_eq_true_eq, this]
    simp [rightB]
  have HS := Lib.hid hs; clear hs
  go_enter Try.func209, Try.ntmps209
  go_wp2_with (go_at_call 219; refine (IndexFunc_any _ _ _ _ H.out).mono ?_; rintro e w1 ⟨rfl, hg1⟩)
  go_ret
  exact ⟨ret_bool HS.out.symm, hg1⟩

theorem right_any (A : Option Addr) (cap : Nat) (rs : List DRow) (w : World) (h : DRows w A rs) :
   Calls Try.prog 195 #[.slice A rs.length cap] w fun e w' => e = .returned (.bool (rightB rs)) ∧ Gr w w' := by
  have H := Lib.hid h; clear h
  go_enter Try.func195, Try.ntmps195
  go_wp2_with (go_at_call 209; refine (ContainsFunc_any _ _ _ _ H.out).mono ?_; rintro e w1 ⟨rfl, hg1⟩)
  go_ret
  exact ⟨ret_bool (by simp), hg1⟩

end Go.Proofs.Ytfobnemocodomaa
