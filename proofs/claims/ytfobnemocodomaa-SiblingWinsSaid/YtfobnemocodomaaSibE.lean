/- Are leaves too much to be asked here. -/
import Derived.Test.YtfobnemocodomaaSibD
set_option linter.unusedVariables false
set_option linter.unusedSimpArgs false
set_option maxHeartbeats 4000000
namespace Go.Proofs.Ytfobnemocodomaa
open Go.RowKit Go.Great

/-- a leaf among others: the slice's header and what it leads to -/
structure VRow where
  A : Option Addr
  cap : Nat
  l : List Vx
def VRows (w : World) (A : Option Addr) (rs : List VRow) : Prop :=
  rs.length ≤ 9223372036854775807 ∧ ∀ i (h : i < rs.length), ∃ ad, A = some ad ∧ w.cell? (ad.add i) = some (.slice rs[i].A rs[i].l.length rs[i].cap) ∧ Vers w rs[i].A rs[i].l
theorem VRows.gr {w w' : World} {A : Option Addr} {rs : List VRow} (h : VRows w A rs) (g : Gr w w') : VRows w' A rs :=
  ⟨h.1, fun i hi => let ⟨ad, e, a, b⟩ := h.2 i hi; ⟨ad, e, g.cell a, b.gr g⟩⟩
theorem VRows.one {w : World} {A : Option Addr} {cap : Nat} {l : List Vx} (h : Vers w A l) (t : TypeId) : VRows (w.alloc (.cells #[.slice A l.length cap] t)) (some ⟨w.heap.size, 0, none⟩) [⟨A, cap, l⟩] := by
  refine ⟨by simp, fun i hi => ⟨_, rfl, ?_, ?_⟩⟩
  · obtain rfl : i = 0 := by simpa using hi
    have hn := World.alloc_heap_new w (.cells #[.slice A l.length cap] t)
    have e : (⟨w.heap.size, 0, none⟩ : Addr).add 0 = ⟨w.heap.size, 0, none⟩ := by unfold Addr.add; rw [if_pos rfl]
    rw [e]
    simp only [World.cell?, hn]
    rfl
  · obtain rfl : i = 0 := by simpa using hi
    exact h.gr ((Gr.rfl' w).al _)

set_option maxRecDepth 100000 in
theorem vGreat_any (A : Option Addr) (cap : Nat) (rs : List VRow) (w : World) (h : VRows w A rs) :
    Calls Try.prog 18 #[.slice A rs.length cap] w fun r w' => ((r = .returned (.bool false) ∧ ∀ x ∈ rs, x.l.length ≤ 70) ∨ r = .returned (.bool true)) ∧ Gr w w' := by
  have H := Lib.hid h; clear h
  have hm := H.out.1
  have HG0 := Lib.hid (Gr.rfl' w)
  go_enter Try.func18, Try.ntmps18
  go_wp2
  go_loopw [3] (fun i wr => ∃ k : Nat, k ≤ rs.length ∧ i = .int .i64 k ∧ Hid (∀ j (h : j < rs.length), j < k → rs[j].l.length ≤ 70) ∧ Hid (Gr w wr)) (fun i _ => rs.length - (intOf i).toNat)
  case atStart => exact ⟨0, Nat.zero_le _, rfl, Lib.hid (fun j h hj => by omega), HG0⟩
  case round =>
    clear HG0
    obtain ⟨k, hk, rfl, HK, HG⟩ := hrel
    by_cases hlt : k < rs.length
    · have hki : (k : Int) < rs.length := by omega
      obtain ⟨ad, rfl, hc, hv⟩ := (H.out.gr HG.out).2 k hlt
      have HV := Lib.hid hv
      have hvl := hv.1
      by_cases h70 : 70 < rs[k].l.length
      · obtain ⟨x, hx⟩ : ∃ x, rs[k] = x := ⟨_, rfl⟩
        rw [hx] at hc h70 hvl
        obtain ⟨Ax, cx, lx⟩ := x
        dsimp only at hc h70 hvl
        have h70i : (70 : Int) < lx.length := by omega
        clear hx hv HV
        go_wp2
        go_ret
        exact ⟨.inr rfl, HG.out⟩
      · have HK' : Hid (∀ j (h : j < rs.length), j < k + 1 → rs[j].l.length ≤ 70) := Lib.hid (fun j h hj => by
          by_cases e : j = k
          · subst e; omega
          · exact HK.out j h (by omega))
        obtain ⟨x, hx⟩ : ∃ x, rs[k] = x := ⟨_, rfl⟩
        rw [hx] at hc h70 hvl HV
        obtain ⟨Ax, cx, lx⟩ := x
        dsimp only at hc h70 hvl HV
        have h70i : ¬ (70 : Int) < lx.length := by omega
        clear hx hv HK
        go_wp2
        go_loopw [4, 5] (fun n i wi => ∃ (q : Nat) (v : Int), q ≤ lx.length ∧ n = .int .i64 v ∧ i = .int .i64 q ∧ Hid (Gr wr wi)) (fun _ i _ => lx.length - (intOf i).toNat)
        case atStart => exact ⟨0, 0, Nat.zero_le _, rfl, rfl, Lib.hid (Gr.rfl' _)⟩
        case round =>
          obtain ⟨q, v, hq, rfl, rfl, HI⟩ := hrel
          have hci := HI.out.cell hc
          by_cases hlq : q < lx.length
          · have hqi : (q : Int) < lx.length := by omega
            obtain ⟨bd, rfl, hvx, hcx⟩ := (HV.out.gr HI.out).2 q hlq
            obtain ⟨_, d1, d2, d3, d4⟩ := vat_of hcx
            have hpl := hvx.1.1
            have hts := hvx.2
            clear hcx hvx
            go_wp2
            all_goals first
              | (go_ret; exact ⟨.inr rfl, HG.out.tr HI.out⟩)
              | exact ⟨⟨q + 1, _, by omega, rfl, by go_num, HI⟩, by simp [intOf]; omega⟩
          · have hqi : ¬ (q : Int) < lx.length := by omega
            go_wp2
            go_roundw
            case rel => exact ⟨k + 1, by omega, by go_num, HK', Lib.hid (HG.out.tr HI.out)⟩
            case measure => simp [intOf]; omega
    · have hki : ¬ (k : Int) < rs.length := by omega
      go_wp2
      go_ret
      refine ⟨.inl ⟨rfl, fun x hx => ?_⟩, HG.out⟩
      obtain ⟨j, hj, rfl⟩ := List.getElem_of_mem hx
      exact HK.out j hj (by omega)
end Go.Proofs.Ytfobnemocodomaa
