/- Nodes: too much to be asked. -/
import Derived.Test.YtfobnemocodomaaKidB
set_option linter.unusedVariables false
set_option linter.unusedSimpArgs false
set_option maxHeartbeats 2000000
namespace Go.Proofs.Ytfobnemocodomaa
open Go.RowKit Go.Great

set_option maxRecDepth 100000 in
theorem nGreat_any (A B : Option Addr) (c d : Nat) (a : List Vx) (b : List Kx) (w : World) (h1 : Vers w A a) (h2 : Kids w B b) :
    Calls Try.prog 22 #[.agg #[.slice A a.length c, .slice B b.length d]] w fun r w' => ((r = .returned (.bool false) ∧ a.length ≤ 70 ∧ b.length ≤ 140) ∨ r = .returned (.bool true)) ∧ Gr w w' := by
  have H1 := Lib.hid h1
  have H2 := Lib.hid h2
  have hm := h2.1
  clear h1 h2
  have hgn := Lib.hid ((Gr.rfl' w).al (.cells #[.slice A a.length c, .slice B b.length d] 31))
  by_cases h140 : 140 < b.length
  · have h140i : (140 : Int) < b.length := by omega
    go_enter Try.func22, Try.ntmps22
    go_wp2
    go_ret
    exact ⟨.inr rfl, hgn.out⟩
  · have h140i : ¬ (140 : Int) < b.length := by omega
    have hgr := Lib.hid ((Gr.rfl' (w.alloc (.cells #[.slice A a.length c, .slice B b.length d] 31))).al (.cells #[.slice A a.length c] 22))
    have HV := Lib.hid (VRows.one (cap := c) (H1.out.gr hgn.out) 22)
    have hgt := vGreat_any _ 1 _ _ HV.out
    have hsz : (w.alloc (.cells #[.slice A a.length c, .slice B b.length d] 31)).heap.size = w.heap.size + 1 := by simp
    rw [hsz] at hgt
    simp only [List.length_cons, List.length_nil, Nat.zero_add] at hgt
    have HGT := Lib.hid hgt
    clear hgt hsz
    go_enter Try.func22, Try.ntmps22
    go_wp2_with fail
    refine (HGT.out).mono ?_
    rintro r w1 ⟨⟨rfl, h70⟩ | rfl, g1⟩
    · have h70' : a.length ≤ 70 := h70 ⟨A, c, a⟩ (by simp)
      have q0 : (w.alloc (.cells #[.slice A a.length c, .slice B b.length d] 31)).cell? ⟨w.heap.size, 1, none⟩ = some (.slice B b.length d) := by
        have hn := World.alloc_heap_new w (.cells #[.slice A a.length c, .slice B b.length d] 31)
        simp only [World.cell?, hn]; rfl
      have Q0 := Lib.hid (g1.cell (hgr.out.cell q0))
      have GG := Lib.hid ((hgn.out.tr hgr.out).tr g1)
      have g0 := Lib.hid (Gr.rfl' w1)
      clear g1 h70 HGT HV hgr hgn q0
      go_wp2
      go_loopw [3] (fun i wr => ∃ k : Nat, k ≤ b.length ∧ i = .int .i64 k ∧ Hid (Gr w1 wr)) (fun i _ => b.length - (intOf i).toNat)
      case atStart => exact ⟨0, Nat.zero_le _, rfl, g0⟩
      case round =>
        clear g0
        obtain ⟨k, hk, rfl, HI⟩ := hrel
        have q0 := HI.out.cell Q0.out
        by_cases hlt : k < b.length
        · have hi1 : (k : Int) < (b.length : Int) := by omega
          obtain ⟨ad, rfl, hox, hcx⟩ := (H2.out.gr (GG.out.tr HI.out)).2 k hlt
          have d0 := hcx 0 _ rfl
          rw [show (ad.add (k * 33)).add 0 = ad.add (k * 33) by unfold Addr.add; simp] at d0
          have hz := hox.s
          clear hox hcx
          go_wp2
          all_goals first
            | (go_ret; exact ⟨.inr rfl, GG.out.tr HI.out⟩)
            | exact ⟨⟨k + 1, by omega, by go_num, HI⟩, by simp [intOf]; omega⟩
        · have hi1 : ¬ (k : Int) < (b.length : Int) := by omega
          go_wp2
          go_ret
          have hb := GG.out.tr HI.out
          have hbk : b.length ≤ 140 := by omega
          first | exact ⟨.inl ⟨rfl, h70', hbk⟩, hb⟩ | (refine ⟨?_, hb⟩; simp [h70', hbk])
    · go_wp2
      go_ret
      exact ⟨.inr rfl, (hgn.out.tr hgr.out).tr g1⟩
end Go.Proofs.Ytfobnemocodomaa
