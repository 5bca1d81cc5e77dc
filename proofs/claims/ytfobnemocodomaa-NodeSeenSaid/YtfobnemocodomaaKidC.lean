/- The document's Same of nodes; too much to be asked. -/
import Derived.Test.YtfobnemocodomaaKidB
set_option linter.unusedVariables false
set_option linter.unusedSimpArgs false
set_option maxHeartbeats 2000000
namespace Go.Proofs.Ytfobnemocodomaa
open Go.RowKit Go.Great

set_option maxRecDepth 100000 in
theorem nSame2_any (A1 A2 B1 B2 : Option Addr) (c1 c2 d1 d2 : Nat) (a1 a2 : List Vx) (a b : List Kx) (w : World) (h1 : Vers w A1 a1) (h2 : Vers w A2 a2) (h3 : Kids w B1 a) (h4 : Kids w B2 b) :
    Calls Try.prog 26 #[.agg #[.slice A1 a1.length c1, .slice B1 a.length d1], .agg #[.slice A2 a2.length c2, .slice B2 b.length d2]] w fun r w' => r = .returned (.bool (vsames a1 a2 && decide (a = b))) ∧ Gr w w' := by
  have H1 := Lib.hid h1
  have H2 := Lib.hid h2
  have H3 := Lib.hid h3
  have H4 := Lib.hid h4
  have hm := h3.1
  clear h1 h2 h3 h4
  have hg0 : Gr w (w.alloc (.cells #[.slice A1 a1.length c1, .slice B1 a.length d1] 31)) := (Gr.rfl' w).al _
  have hg1 := hg0.al (.cells #[.slice A2 a2.length c2, .slice B2 b.length d2] 31)
  have HG := Lib.hid hg1
  clear hg0 hg1
  have HS := Lib.hid (vSames2_any A1 A2 c1 c2 a1 a2 _ (H1.out.gr HG.out) (H2.out.gr HG.out))
  by_cases hlen : a.length = b.length
  · have hlb : ((a.length : Int) != (b.length : Int)) = false := by simp [hlen]
    have HL := Lib.hid hlen; clear hlen
    by_cases hs : vsames a1 a2 = true
    · rw [hs] at HS ⊢
      go_enter Try.func26, Try.ntmps26
      go_wp2_with fail
      refine (HS.out).mono ?_
      rintro r w1 ⟨rfl, g1⟩
      have q0 := g1.cell (show ((w.alloc (.cells #[.slice A1 a1.length c1, .slice B1 a.length d1] 31)).alloc (.cells #[.slice A2 a2.length c2, .slice B2 b.length d2] 31)).cell? ⟨w.heap.size, 1, none⟩ = some (.slice B1 a.length d1) from nodeOld1 _ _ _ _ _ _)
      have q1 := g1.cell (show ((w.alloc (.cells #[.slice A1 a1.length c1, .slice B1 a.length d1] 31)).alloc (.cells #[.slice A2 a2.length c2, .slice B2 b.length d2] 31)).cell? ⟨w.heap.size + 1, 1, none⟩ = some (.slice B2 b.length d2) from nodeNew1 _ _ _ _ _ _)
      have Q0 := Lib.hid q0
      have Q1 := Lib.hid q1
      have GG := Lib.hid (HG.out.tr g1)
      have g0 := Lib.hid (Gr.rfl' w1)
      clear g1 q0 q1
      go_wp2
      go_loopw [5] (fun i wr => ∃ k : Nat, k ≤ a.length ∧ i = .int .i64 k ∧ Hid (a.take k = b.take k) ∧ Hid (Gr w1 wr)) (fun i _ => a.length - (intOf i).toNat)
      case atStart => exact ⟨0, Nat.zero_le _, rfl, Lib.hid rfl, g0⟩
      case round =>
        clear g0
        obtain ⟨k, hk, rfl, hch, HI⟩ := hrel
        have q0 := HI.out.cell Q0.out
        have q1 := HI.out.cell Q1.out
        by_cases hlt : k < a.length
        · have hlt2 : k < b.length := by rw [← HL.out]; exact hlt
          have hi1 : (k : Int) < (a.length : Int) := by omega
          have hi2 : (k : Int) < (b.length : Int) := by omega
          obtain ⟨ad, rfl, hox, hcx⟩ := (H3.out.gr (GG.out.tr HI.out)).2 k hlt
          obtain ⟨bd, rfl, hoy, hcy⟩ := (H4.out.gr (GG.out.tr HI.out)).2 k hlt2
          have hne : Hid (a[k] ≠ b[k] → a ≠ b) := Lib.hid fun h => kdrop_ne hlt hlt2 h
          have heq : Hid (a[k] = b[k] → a.take (k + 1) = b.take (k + 1)) := Lib.hid fun h => by rw [List.take_succ_eq_append_getElem hlt, List.take_succ_eq_append_getElem hlt2, hch.out, h]
          obtain ⟨x, hx⟩ : ∃ x, a[k] = x := ⟨_, rfl⟩
          obtain ⟨y, hy⟩ : ∃ y, b[k] = y := ⟨_, rfl⟩
          rw [hx] at hox hcx hne heq
          rw [hy] at hoy hcy hne heq
          have HOX := Lib.hid hox
          have HOY := Lib.hid hoy
          have HCX : Hid (∀ (n j : Nat) (v : Value), x.cells[j]? = some v → (wr.drewN n).cell? ((ad.add (k * 33)).add j) = some v) := Lib.hid fun n j v hv => hcx j v hv
          have HCY : Hid (∀ (n j : Nat) (v : Value), y.cells[j]? = some v → (wr.drewN n).cell? ((bd.add (k * 33)).add j) = some v) := Lib.hid fun n j v hv => hcy j v hv
          clear hox hoy hcx hcy hx hy
          by_cases hxy : x = y
          · have hEq : ∀ w, (Op.equalIn 10000 88 (.agg x.cells.toArray) (.agg y.cells.toArray)).run Try.prog w = .ok true w := fun w => by rw [eqKid x y HOX.out HOY.out, decide_eq_true hxy]
            have HEQ := Lib.hid (heq.out hxy)
            clear hxy hne heq
            go_wp2
            refine wp_region_quiet_lit (by kernel_rfl) (by kernel_rfl) ?_
            repeat (first
              | (refine ldq_at rfl 88 (.tmp 31) rfl _ rfl x.cells _ (fun w hw => by obtain ⟨n, rfl⟩ := hw; exact HCX.out n) Try.underlying88 rfl (by rw [Kx.len HOX.out]; exact sizeKid) ?_)
              | (refine ldq_at rfl 88 (.tmp 36) rfl _ rfl y.cells _ (fun w hw => by obtain ⟨n, rfl⟩ := hw; exact HCY.out n) Try.underlying88 rfl (by rw [Kx.len HOY.out]; exact sizeKid) ?_)
              | go_big_quiet_step (fail) | quiet_step (fail))
            refine wpQuiet_nil ?_
            intro _ hw'
            obtain ⟨nq, hw''⟩ := hw'
            subst hw''
            go_wp2
            go_roundw
            case rel => exact ⟨k + 1, by omega, by go_num, HEQ, Lib.hid (HI.out.drN nq)⟩
            case measure => simp [intOf]; omega
          · have hEq : ∀ w, (Op.equalIn 10000 88 (.agg x.cells.toArray) (.agg y.cells.toArray)).run Try.prog w = .ok false w := fun w => by rw [eqKid x y HOX.out HOY.out, decide_eq_false hxy]
            have HNE := Lib.hid (hne.out hxy)
            clear hxy hne heq
            go_wp2
            refine wp_region_quiet_lit (by kernel_rfl) (by kernel_rfl) ?_
            repeat (first
              | (refine ldq_at rfl 88 (.tmp 31) rfl _ rfl x.cells _ (fun w hw => by obtain ⟨n, rfl⟩ := hw; exact HCX.out n) Try.underlying88 rfl (by rw [Kx.len HOX.out]; exact sizeKid) ?_)
              | (refine ldq_at rfl 88 (.tmp 36) rfl _ rfl y.cells _ (fun w hw => by obtain ⟨n, rfl⟩ := hw; exact HCY.out n) Try.underlying88 rfl (by rw [Kx.len HOY.out]; exact sizeKid) ?_)
              | go_big_quiet_step (fail) | quiet_step (fail))
            refine wpQuiet_nil ?_
            intro _ hw'
            obtain ⟨nq, hw''⟩ := hw'
            subst hw''
            go_wp2
            go_ret
            exact ⟨ret_bool (by simp [HNE.out]), GG.out.tr (HI.out.drN _)⟩
        · have hk' : k = a.length := by omega
          subst hk'
          have hEQ : a = b := by
            have := hch.out
            rw [List.take_length] at this
            rw [this, List.take_of_length_le (by have := HL.out; omega)]
          have HEQ := Lib.hid hEQ; clear hEQ
          go_wp2
          go_ret
          exact ⟨ret_bool (by simp [← HEQ.out]), GG.out.tr HI.out⟩
    · have hs : vsames a1 a2 = false := by simpa using hs
      rw [hs] at HS ⊢
      go_enter Try.func26, Try.ntmps26
      go_wp2_with fail
      refine (HS.out).mono ?_
      rintro r w1 ⟨rfl, g1⟩
      go_wp2
      go_ret
      exact ⟨by simp, HG.out.tr g1⟩
  · have hlb : ((a.length : Int) != (b.length : Int)) = true := by simp; omega
    have hNE : a ≠ b := fun h => hlen (by rw [h])
    have HNE := Lib.hid hNE; clear hNE hlen
    go_enter Try.func26, Try.ntmps26
    go_wp2
    go_ret
    exact ⟨ret_bool (by simp [HNE.out]), HG.out⟩

end Go.Proofs.Ytfobnemocodomaa
