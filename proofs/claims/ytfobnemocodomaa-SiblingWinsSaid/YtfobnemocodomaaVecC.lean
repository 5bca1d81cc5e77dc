/- slices.Equal, Same, and the document's answer for vectors, function by function. -/
import Derived.Test.YtfobnemocodomaaVecB
import Derived.Laws.StructEq
set_option linter.unusedVariables false
set_option linter.unusedSimpArgs false
set_option maxHeartbeats 400000
namespace Go.Proofs.Ytfobnemocodomaa
open Go.RowKit

section
variable {P : Program} {d : Nat} {xs ys : Array Value} {f : Field} {fs : List Field} {a b : Value} {r s : Bool} {w : World}
theorem eqf_last (hn : (f.name == "_") = false) (ha : (part f.type xs f.offset).run P w = .ok a w) (hb : (part f.type ys f.offset).run P w = .ok b w) (he : (Op.equalIn d f.type a b).run P w = .ok r w) : (Op.eqFields d xs ys [f]).run P w = .ok r w := by
  have hn' : f.name ≠ "_" := by simpa using hn
  simp only [Op.eqFields, if_pos hn', Sem.run_bind, ha, hb, he, Result.andThen_ok]
  cases r <;> simp
theorem eqf_cons (hn : (f.name == "_") = false) (ha : (part f.type xs f.offset).run P w = .ok a w) (hb : (part f.type ys f.offset).run P w = .ok b w) (he : (Op.equalIn d f.type a b).run P w = .ok r w) (hr : (Op.eqFields d xs ys fs).run P w = .ok s w) : (Op.eqFields d xs ys (f :: fs)).run P w = .ok (r && s) w := by
  have hn' : f.name ≠ "_" := by simpa using hn
  rw [Op.eqFields]
  simp only [if_pos hn', Sem.run_bind, ha, hb, he, Result.andThen_ok]
  cases r
  · simp
  · simpa using hr
theorem eqA_of {t : TypeId} {fs : Array Field} (hu : P.underlying t = some (.struct fs)) (hp : P.stoodInHeld t = false) (h : (Op.eqFields d xs ys fs.toList).run P w = .ok r w) : (Op.equalIn (d + 1) t (.agg xs) (.agg ys)).run P w = .ok r w := by
  have hf : P.fieldsOf t = fs := by simp [Program.fieldsOf, hu]
  rw [run_equalIn_struct (P := P) w d t xs ys (by rw [hf]; exact hu) hp, hf]
  exact h
end
theorem eqDot (d : Nat) (w : World) (x0 y0 : Int) (x1 y1 : Int) :
    (Op.equalIn (d + 2) 47 (.agg #[.int .i64 x0, .int .i64 x1]) (.agg #[.int .i64 y0, .int .i64 y1])).run Try.prog w = .ok (x0 == y0 && (x1 == y1)) w := by
  refine eqA_of Try.underlying47 (by kernel_rfl) ?_
  refine eqf_cons (by rfl) (by go_simp; rfl) (by go_simp; rfl) (by go_simp) ?_
  exact eqf_last (by rfl) (by go_simp; rfl) (by go_simp; rfl) (by go_simp)
attribute [local go_sem high] eqDot

theorem drop_ne {l m : List Dot} {k : Nat} (hl : k < l.length) (hm : k < m.length) (he : l.take k = m.take k) (h : l[k] ≠ m[k]) : l ≠ m := by
  rintro rfl; exact h rfl
theorem take_succ_eq {l m : List Dot} {k : Nat} (hl : k < l.length) (hm : k < m.length) (he : l.take k = m.take k) (h : l[k] = m[k]) : l.take (k + 1) = m.take (k + 1) := by
  rw [List.take_succ_eq_append_getElem hl, List.take_succ_eq_append_getElem hm, he, h]

theorem Equal_any (A1 A2 : Option Addr) (c1 c2 : Nat) (a b : List Dot) (w : World) (h1 : Dots w A1 a) (h2 : Dots w A2 b) :
    Calls Try.prog 186 #[.slice A1 a.length c1, .slice A2 b.length c2] w fun e w' => e = .returned (.bool (decide (a = b))) ∧ Gr w w' := by
  have hu31 := Try.underlying47
  have H1 := Lib.hid h1; clear h1
  have H2 := Lib.hid h2; clear h2
  have hm := H1.out.1
  by_cases hlen : a.length = b.length
  · have hlb : ((a.length : Int) != (b.length : Int)) = false := by simp [hlen]
    have HL := Lib.hid hlen; clear hlen
    go_enter Try.func186, Try.ntmps186
    go_wp2
    go_loopw [13] (fun i wr => ∃ k : Nat, k ≤ a.length ∧ i = .int .i64 k ∧ Hid (a.take k = b.take k) ∧ Gr w wr) (fun i _ => a.length - (intOf i).toNat)
    case atStart => exact ⟨0, Nat.zero_le _, rfl, Lib.hid rfl, Below.refl _ _⟩
    case round =>
      obtain ⟨k, hk, rfl, hch, hb⟩ := hrel
      by_cases hlt : k < a.length
      · have hlt2 : k < b.length := by rw [← HL.out]; exact hlt
        obtain ⟨ad, rfl, hx, hy⟩ := (H1.out.gr hb).2 k hlt
        obtain ⟨bd, rfl, hx2, hy2⟩ := (H2.out.gr hb).2 k hlt2
        have hne : Hid (a[k] ≠ b[k] → a ≠ b) := fun h => drop_ne hlt hlt2 hch.out h
        have heq : Hid (a[k] = b[k] → a.take (k + 1) = b.take (k + 1)) := fun h => take_succ_eq hlt hlt2 hch.out h
        have hi1 : (k : Int) < (a.length : Int) := by omega
        have hi2 : (k : Int) < (b.length : Int) := by omega
        generalize a[k] = x at *
        generalize b[k] = y at *
        obtain ⟨p, c⟩ := x
        obtain ⟨q, d⟩ := y
        dsimp only at hx hy hx2 hy2 hne heq
        by_cases hpq : p = q ∧ c = d
        · have hpb : (p == q && (c == d)) = true := by simp [hpq.1, hpq.2]
          have hEQ := heq.out (by rw [hpq.1, hpq.2])
          have HEQ := Lib.hid hEQ; clear hEQ hpq heq hne
          go_wp2
          refine wp_region_quiet_lit (by kernel_rfl) (by kernel_rfl) ?_
          repeat (first | go_big_quiet_step (fail) | quiet_step (fail))
          refine wpQuiet_nil ?_
          intro _ hw'
          obtain ⟨nq, hw''⟩ := hw'
          subst hw''
          go_wp2
          go_roundw
          case rel => exact ⟨k + 1, by omega, by go_num, HEQ, hb.drN _⟩
          case measure => simp [intOf]; omega
        · have hpb : (p == q && (c == d)) = false := by
            rw [Bool.eq_false_iff]; intro h; simp at h; exact hpq h
          have hNE := hne.out (fun h => hpq ⟨congrArg Prod.fst h, congrArg Prod.snd h⟩)
          have HNE := Lib.hid hNE; clear hNE hpq heq hne
          go_wp2
          refine wp_region_quiet_lit (by kernel_rfl) (by kernel_rfl) ?_
          repeat (first | go_big_quiet_step (fail) | quiet_step (fail))
          refine wpQuiet_nil ?_
          intro _ hw'
          obtain ⟨nq, hw''⟩ := hw'
          subst hw''
          go_wp2
          go_ret
          exact ⟨ret_bool (by simp [HNE.out]), hb.drN _⟩
      · have hk' : k = a.length := by omega
        subst hk'
        have hEQ : a = b := by
          have := hch.out
          rw [List.take_length] at this
          rw [this, List.take_of_length_le (by have := HL.out; omega)]
        have HEQ := Lib.hid hEQ; clear hEQ
        go_wp2
        go_ret
        exact ⟨ret_bool (by simp [← HEQ.out]), hb⟩
  · have hlb : ((a.length : Int) != (b.length : Int)) = true := by simp; omega
    have hNE : a ≠ b := fun h => hlen (by rw [h])
    have HNE := Lib.hid hNE; clear hNE hlen
    go_enter Try.func186, Try.ntmps186
    go_wp2
    go_ret
    exact ⟨ret_bool (by simp [HNE.out]), Gr.rfl' _⟩

theorem Same_any (A1 A2 : Option Addr) (c1 c2 : Nat) (a b : List Dot) (w : World) (h1 : Dots w A1 a) (h2 : Dots w A2 b) :
    Calls Try.prog 136 #[.slice A1 a.length c1, .slice A2 b.length c2] w fun e w' => e = .returned (.bool (decide (a = b))) ∧ Gr w w' := by
  have H1 := Lib.hid h1; clear h1
  have H2 := Lib.hid h2; clear h2
  go_enter Try.func136, Try.ntmps136
  go_wp2_with (go_at_call 186; refine (Equal_any A1 A2 c1 c2 a b _ H1.out H2.out).mono ?_; rintro e w1 ⟨rfl, hg⟩)
  go_ret
  exact ⟨rfl, hg⟩

theorem refSame_any (A1 A2 : Option Addr) (c1 c2 : Nat) (a b : List Dot) (w : World) (h1 : Dots w A1 a) (h2 : Dots w A2 b) :
    Calls Try.prog 33 #[.slice A1 a.length c1, .slice A2 b.length c2] w fun e w' => e = .returned (.bool (decide (a = b))) ∧ Gr w w' := by
  have hu31 := Try.underlying47
  have H1 := Lib.hid h1; clear h1
  have H2 := Lib.hid h2; clear h2
  have hm := H1.out.1
  by_cases hlen : a.length = b.length
  · have hlb : ((a.length : Int) != (b.length : Int)) = false := by simp [hlen]
    have HL := Lib.hid hlen; clear hlen
    go_enter Try.func33, Try.ntmps33
    go_wp2
    go_loopw [5] (fun i wr => ∃ k : Nat, k ≤ a.length ∧ i = .int .i64 k ∧ Hid (a.take k = b.take k) ∧ Gr w wr) (fun i _ => a.length - (intOf i).toNat)
    case atStart => exact ⟨0, Nat.zero_le _, rfl, Lib.hid rfl, Below.refl _ _⟩
    case round =>
      obtain ⟨k, hk, rfl, hch, hb⟩ := hrel
      by_cases hlt : k < a.length
      · have hlt2 : k < b.length := by rw [← HL.out]; exact hlt
        obtain ⟨ad, rfl, hx, hy⟩ := (H1.out.gr hb).2 k hlt
        obtain ⟨bd, rfl, hx2, hy2⟩ := (H2.out.gr hb).2 k hlt2
        have hne : Hid (a[k] ≠ b[k] → a ≠ b) := fun h => drop_ne hlt hlt2 hch.out h
        have heq : Hid (a[k] = b[k] → a.take (k + 1) = b.take (k + 1)) := fun h => take_succ_eq hlt hlt2 hch.out h
        have hi1 : (k : Int) < (a.length : Int) := by omega
        have hi2 : (k : Int) < (b.length : Int) := by omega
        generalize a[k] = x at *
        generalize b[k] = y at *
        obtain ⟨p, c⟩ := x
        obtain ⟨q, d⟩ := y
        dsimp only at hx hy hx2 hy2 hne heq
        by_cases hpq : p = q ∧ c = d
        · have hpb : (p == q && (c == d)) = true := by simp [hpq.1, hpq.2]
          have hEQ := heq.out (by rw [hpq.1, hpq.2])
          have HEQ := Lib.hid hEQ; clear hEQ hpq heq hne
          go_wp2
          refine wp_region_quiet_lit (by kernel_rfl) (by kernel_rfl) ?_
          repeat (first | go_big_quiet_step (fail) | quiet_step (fail))
          refine wpQuiet_nil ?_
          intro _ hw'
          obtain ⟨nq, hw''⟩ := hw'
          subst hw''
          go_wp2
          go_roundw
          case rel => exact ⟨k + 1, by omega, by go_num, HEQ, hb.drN _⟩
          case measure => simp [intOf]; omega
        · have hpb : (p == q && (c == d)) = false := by
            rw [Bool.eq_false_iff]; intro h; simp at h; exact hpq h
          have hNE := hne.out (fun h => hpq ⟨congrArg Prod.fst h, congrArg Prod.snd h⟩)
          have HNE := Lib.hid hNE; clear hNE hpq heq hne
          go_wp2
          refine wp_region_quiet_lit (by kernel_rfl) (by kernel_rfl) ?_
          repeat (first | go_big_quiet_step (fail) | quiet_step (fail))
          refine wpQuiet_nil ?_
          intro _ hw'
          obtain ⟨nq, hw''⟩ := hw'
          subst hw''
          go_wp2
          go_ret
          exact ⟨ret_bool (by simp [HNE.out]), hb.drN _⟩
      · have hk' : k = a.length := by omega
        subst hk'
        have hEQ : a = b := by
          have := hch.out
          rw [List.take_length] at this
          rw [this, List.take_of_length_le (by have := HL.out; omega)]
        have HEQ := Lib.hid hEQ; clear hEQ
        go_wp2
        go_ret
        exact ⟨ret_bool (by simp [← HEQ.out]), hb⟩
  · have hlb : ((a.length : Int) != (b.length : Int)) = true := by simp; omega
    have hNE : a ≠ b := fun h => hlen (by rw [h])
    have HNE := Lib.hid hNE; clear hNE hlen
    go_enter Try.func33, Try.ntmps33
    go_wp2
    go_ret
    exact ⟨ret_bool (by simp [HNE.out]), Gr.rfl' _⟩

theorem refDot_any (p c : Int) (w : World) : Calls Try.prog 92 #[.agg #[.int .i64 p, .int .i64 c]] w fun e w' => e = .returned (.int .i64 (dotChk p c)) ∧ Gr w w' := by
  go_enter Try.func92, Try.ntmps92
  go_wp2
  all_goals
    go_ret
    exact ⟨ret_int (by unfold dotChk; repeat (first | rw [if_pos (by omega)] | rw [if_neg (by omega)])), (Gr.rfl' _).al _⟩

def lastOf (l : List Dot) (k : Nat) : Int := if h : 0 < k ∧ k - 1 < l.length then (l[k - 1]'h.2).1 else -1
theorem refCheck_any (A : Option Addr) (cap : Nat) (l : List Dot) (w : World) (h : Dots w A l) :
   Calls Try.prog 93 #[.slice A l.length cap] w fun e w' => e = .returned (.int .i64 (chk l)) ∧ Gr w w' := by
  have H := Lib.hid h; clear h
  have hm := H.out.1
  go_enter Try.func93, Try.ntmps93
  go_wp2
  go_loopw [3] (fun i wr => ∃ k : Nat, k ≤ l.length ∧ i = .int .i64 k ∧ Hid (chk l = chkGo (lastOf l k) (l.drop k)) ∧ Gr w wr) (fun i _ => l.length - (intOf i).toNat)
  case atStart => exact ⟨0, Nat.zero_le _, rfl, Lib.hid rfl, Below.refl _ _⟩
  case round =>
    obtain ⟨k, hk, rfl, hch, hb⟩ := hrel
    by_cases hlt : k < l.length
    · obtain ⟨ad, rfl, hx, hy⟩ := (H.out.gr hb).2 k hlt
      have hdrop : Hid (l.drop k = l[k] :: l.drop (k+1)) := List.drop_eq_getElem_cons hlt
      have hlast : Hid (lastOf l (k + 1) = l[k].1) := by show _ = _; unfold lastOf; rw [dif_pos ⟨by omega, by omega⟩]; rfl
      have hi1 : (k : Int) < (l.length : Int) := by omega
      have hdp : Hid (∀ p c, l[k] = (p, c) → dotChk p c = 0 → 0 ≤ p) := by
        intro p c _ h; unfold dotChk at h; split at h <;> omega
      rcases k with _ | j
      · generalize hd : l[0] = d at *
        obtain ⟨p, c⟩ := d
        have hdp' := hdp.out p c rfl
        clear hd hdp
        simp only [Nat.zero_mul, Addr.add_zero'] at hx hy
        have hl0 : Hid (lastOf l 0 = -1) := rfl
        have hc0 : chkGo (lastOf l 0) ((p, c) :: l.drop (0+1)) = if dotChk p c ≠ 0 then dotChk p c else if p ≤ lastOf l 0 then 8 else chkGo p (l.drop (0+1)) := rfl
        have HC0 := Lib.hid hc0; clear hc0
        by_cases hok : dotChk p c = 0
        · have hok' : (dotChk p c != 0) = false := by simp [hok]
          have hp0 := hdp' hok
          have HOK := Lib.hid hok; clear hok hdp'
          go_wp2_with (go_at_call 92; refine (refDot_any _ _ _).mono ?_; rintro e w1 ⟨rfl, hg1⟩)
          refine wp_region_quiet_lit (by kernel_rfl) (by kernel_rfl) ?_
          repeat (first | go_big_quiet_step (fail) | quiet_step (fail))
          refine wpQuiet_nil ?_
          intro _ hw'
          obtain ⟨nq, hw''⟩ := hw'
          subst hw''
          go_wp2
          go_roundw
          case rel => exact ⟨1, by omega, by go_num, Lib.hid (by rw [hch.out, hdrop.out, HC0.out, if_neg (by simp [HOK.out]), if_neg (by rw [hl0.out]; omega), hlast.out]), (hb.tr hg1).drN _⟩
          case measure => simp [intOf]; omega
        · have hok' : (dotChk p c != 0) = true := by simp [hok]
          have HOK := Lib.hid hok; clear hok hdp'
          go_wp2_with (go_at_call 92; refine (refDot_any _ _ _).mono ?_; rintro e w1 ⟨rfl, hg1⟩)
          go_ret
          exact ⟨ret_int (by rw [hch.out, hdrop.out, HC0.out, if_pos HOK.out]), hb.tr hg1⟩
      · obtain ⟨ad', e', hx2, hy2⟩ := (H.out.gr hb).2 j (by omega)
        cases e'
        have hpl : Hid (lastOf l (j + 1) = l[j].1) := by show _ = _; unfold lastOf; rw [dif_pos ⟨by omega, by omega⟩]; rfl
        have hi2 : (j : Int) < (l.length : Int) := by omega
        generalize hd : l[j + 1] = d at *
        obtain ⟨p, c⟩ := d
        generalize l[j] = d2 at *
        obtain ⟨q, c2⟩ := d2
        clear hd hdp
        dsimp only at hx hy hlast hx2 hy2 hpl
        have hc0 : chkGo (lastOf l (j+1)) ((p, c) :: l.drop (j+1+1)) = if dotChk p c ≠ 0 then dotChk p c else if p ≤ lastOf l (j+1) then 8 else chkGo p (l.drop (j+1+1)) := rfl
        have HC0 := Lib.hid hc0; clear hc0
        by_cases hok : dotChk p c = 0
        · have hok' : (dotChk p c != 0) = false := by simp [hok]
          have HOK := Lib.hid hok; clear hok
          by_cases hle : p ≤ q
          all_goals
            go_wp2_with (go_at_call 92; refine (refDot_any _ _ _).mono ?_; rintro e w1 ⟨rfl, hg1⟩; replace hx := hg1.cell hx; replace hx2 := hg1.cell hx2)
            refine wp_region_quiet_lit (by kernel_rfl) (by kernel_rfl) ?_
            repeat (first | go_big_quiet_step (fail) | quiet_step (fail))
            refine wpQuiet_nil ?_
            intro _ hw'
            obtain ⟨nq, hw''⟩ := hw'
            subst hw''
            go_wp2
          · go_ret
            exact ⟨ret_int (by rw [hch.out, hdrop.out, HC0.out, if_neg (by simp [HOK.out]), if_pos (by rw [hpl.out]; omega)]), (hb.tr hg1).drN _⟩
          · go_roundw
            case rel => exact ⟨j + 1 + 1, by omega, by go_num, Lib.hid (by rw [hch.out, hdrop.out, HC0.out, if_neg (by simp [HOK.out]), if_neg (by rw [hpl.out]; omega), hlast.out]), (hb.tr hg1).drN _⟩
            case measure => simp [intOf]; omega
        · have hok' : (dotChk p c != 0) = true := by simp [hok]
          have HOK := Lib.hid hok; clear hok
          go_wp2_with (go_at_call 92; refine (refDot_any _ _ _).mono ?_; rintro e w1 ⟨rfl, hg1⟩)
          go_ret
          exact ⟨ret_int (by rw [hch.out, hdrop.out, HC0.out, if_pos HOK.out]), hb.tr hg1⟩
    · have : k = l.length := by omega
      subst this
      go_wp2
      go_ret
      have := hch.out
      simp at this
      exact ⟨ret_int (by rw [this]; rfl), hb⟩
end Go.Proofs.Ytfobnemocodomaa
