/- matrix: what a matrix is in memory; Peers, there, slices.Clone, Row, may. -/
import Derived.Test.YtpaogcighlfelaaMatP
set_option linter.unusedVariables false
set_option linter.unusedSimpArgs false
set_option maxHeartbeats 4000000
namespace Go.Proofs.Ytpaogcighlfelaa
open Go.RowKit

structure MatI (W : World) (mb rb : Nat) (rs : Rws) : Prop where
  box : W.heap[mb]? = some (.cells #[.slice (some ⟨rb, 0, none⟩) rs.length rs.length] 53 (0, 0))
  row : ∃ cs : Array Value, W.heap[rb]? = some (.cells cs 28 (0, 0)) ∧ cs.size = rs.length ∧ ∀ i (h : i < rs.length), ∃ A c, cs[i]? = some (.slice A rs[i].length c) ∧ rs[i].length ≤ c ∧ Dots W A rs[i]
  ok : AllOk rs
  pos : 1 ≤ rs.length
  le : rs.length ≤ 64
theorem MatI.gr {W W' : World} {mb rb : Nat} {rs : Rws} (h : MatI W mb rb rs) (g : Gr W W') : MatI W' mb rb rs := by
  obtain ⟨cs, h1, h2, h3⟩ := h.row
  refine ⟨(g.block mb (Array.getElem?_eq_some_iff.1 h.box).1).trans h.box, ⟨cs, (g.block rb (Array.getElem?_eq_some_iff.1 h1).1).trans h1, h2, fun i hi => ?_⟩, h.ok, h.pos, h.le⟩
  obtain ⟨A, c, k1, k2, k3⟩ := h3 i hi
  exact ⟨A, c, k1, k2, k3.gr g⟩
theorem MatI.cell {W : World} {mb rb : Nat} {rs : Rws} (h : MatI W mb rb rs) : W.cell? ⟨mb, 0, none⟩ = some (.slice (some ⟨rb, 0, none⟩) rs.length rs.length) := by
  simp only [World.cell?, h.box]; rfl
theorem MatI.at {W : World} {mb rb : Nat} {rs : Rws} (h : MatI W mb rb rs) (i : Nat) (hi : i < rs.length) : ∃ A c, W.cell? ⟨rb, i, none⟩ = some (.slice A rs[i].length c) ∧ rs[i].length ≤ c ∧ Dots W A rs[i] := by
  obtain ⟨cs, h1, h2, h3⟩ := h.row
  obtain ⟨A, c, k1, k2, k3⟩ := h3 i hi
  exact ⟨A, c, by simp only [World.cell?, h1]; exact k1, k2, k3⟩
theorem MatI.free {W : World} {mb rb : Nat} {rs : Rws} (h : MatI W mb rb rs) (i : Nat) : W.frozen? ⟨rb, i, none⟩ = false := by
  obtain ⟨cs, h1, h2, h3⟩ := h.row
  simp [World.frozen?, h1]
theorem Peers_any (mb rb : Nat) (rs : Rws) (w : World) (h : MatI w mb rb rs) : Calls Try.prog 15 #[.pointer (some ⟨mb, 0, none⟩)] w fun e w' => e = .returned (.int .i64 rs.length) ∧ w' = w := by
  have hc := h.cell
  clear h
  go_enter Try.func15, Try.ntmps15
  go_wp2
  go_ret
  exact ⟨rfl, rfl⟩
theorem Peers_nil (w : World) : Calls Try.prog 15 #[.pointer none] w fun e w' => e = .returned (.int .i64 0) ∧ w' = w := by
  go_enter Try.func15, Try.ntmps15
  go_wp2
  go_ret
  exact ⟨rfl, rfl⟩
theorem there_any (mb rb : Nat) (rs : Rws) (p : Int) (w : World) (h : MatI w mb rb rs) : Calls Try.prog 27 #[.pointer (some ⟨mb, 0, none⟩), .int .i64 p] w fun e w' => e = .returned (.bool (thereB rs.length p)) ∧ w' = w := by
  have HP := Lib.hid (Peers_any mb rb rs w h)
  clear h
  obtain ⟨n, hn⟩ : ∃ n, rs.length = n := ⟨_, rfl⟩
  rw [hn] at HP ⊢
  clear hn
  by_cases h0 : 0 ≤ p
  · by_cases h1 : p < (n : Int)
    · have HV : Hid (thereB n p = true) := Lib.hid (by unfold thereB; simp [h0, h1])
      go_enter Try.func27, Try.ntmps27
      go_wp2_with fail
      refine (HP.out).mono ?_
      rintro e w1 ⟨rfl, rfl⟩
      go_wp2
      go_ret
      rw [HV.out]
      exact ⟨rfl, rfl⟩
    · have HV : Hid (thereB n p = false) := Lib.hid (by unfold thereB; simp [h0, h1])
      have hdf : decide (p < (n : Int)) = false := decide_eq_false h1
      go_enter Try.func27, Try.ntmps27
      go_wp2_with fail
      refine (HP.out).mono ?_
      rintro e w1 ⟨rfl, rfl⟩
      go_wp2
      go_ret
      rw [HV.out]
      exact ⟨rfl, rfl⟩
  · have HV : Hid (thereB n p = false) := Lib.hid (by unfold thereB; simp [h0])
    go_enter Try.func27, Try.ntmps27
    go_wp2
    go_ret
    rw [HV.out]
    exact ⟨rfl, rfl⟩
theorem there_nil (p : Int) (w : World) : Calls Try.prog 27 #[.pointer none, .int .i64 p] w fun e w' => e = .returned (.bool false) ∧ w' = w := by
  have HP := Lib.hid (Peers_nil w)
  by_cases h0 : 0 ≤ p
  · have h1 : ¬ p < 0 := by omega
    have hdf : decide (p < 0) = false := decide_eq_false h1
    go_enter Try.func27, Try.ntmps27
    go_wp2_with fail
    refine (HP.out).mono ?_
    rintro e w1 ⟨rfl, rfl⟩
    go_wp2
    go_ret
    exact ⟨rfl, rfl⟩
  · go_enter Try.func27, Try.ntmps27
    go_wp2
    go_ret
    exact ⟨rfl, rfl⟩
theorem OwnDots.fresh (w : World) : OwnDots (w.alloc (.cells #[] 41)) w.heap.size (.slice (some ⟨w.heap.size, 0, none⟩) 0 0) [] :=
  ⟨by simp [dotCells], Or.inr ⟨w.heap.size, 0, #[], rfl, Nat.le_refl _, World.alloc_heap_new _ _, by simp, by simp [maxLen], by simp, by simp [dotCells]⟩⟩
theorem Dots.cells {w : World} {ad : Addr} {l : List Dot} (h : Dots w (some ad) l) : ∀ (j : Nat) (u : Value), (dotCells l)[j]? = some u → w.cell? (ad.add j) = some u := by
  intro j u hj
  have hlt := (List.getElem?_eq_some_iff.1 hj).1
  rw [dotCells_length] at hlt
  have hi : j / 2 < l.length := by omega
  obtain ⟨ad', e, h1, h2⟩ := h.2 (j / 2) hi
  cases e
  obtain ⟨k1, k2⟩ := dotCells_at l (j / 2) hi
  rcases Nat.mod_two_eq_zero_or_one j with e | e
  · have e2 : j / 2 * 2 = j := by omega
    rw [e2] at h1 k1
    rw [k1] at hj
    rw [h1, hj]
  · have e2 : j / 2 * 2 + 1 = j := by omega
    rw [e2] at k2
    rw [k2] at hj
    have e3 : (⟨(ad.add (j / 2 * 2)).block, (ad.add (j / 2 * 2)).off + 1, none⟩ : Addr) = ad.add j := by
      unfold Addr.add
      rw [if_neg (by omega : ¬ j = 0)]
      by_cases z : j / 2 * 2 = 0
      · rw [if_pos z]
        have : j = 1 := by omega
        subst this; rfl
      · rw [if_neg z]
        show (⟨ad.block, ad.off + j / 2 * 2 + 1, none⟩ : Addr) = ⟨ad.block, ad.off + j, none⟩
        rw [show ad.off + j / 2 * 2 + 1 = ad.off + j by omega]
    rw [e3] at h2
    rw [h2, hj]
theorem dotCells_one (l : List Dot) : ∀ u ∈ dotCells l, u.oneCell' = true := by
  intro u hu
  unfold dotCells at hu
  rw [List.mem_flatMap] at hu
  obtain ⟨d, _, hu⟩ := hu
  simp at hu
  rcases hu with rfl | rfl <;> rfl
theorem Clone_any (A : Option Addr) (c : Nat) (l : List Dot) (w : World) (h : Dots w A l) (hl : l.length ≤ 100000) :
    Calls Try.prog 28 #[.slice A l.length c] w fun e w' => ∃ v, e = .returned v ∧ OwnDots w' w.heap.size v l ∧ Gr w w' := by
  have hu28 := Try.underlying28
  cases A with
  | none =>
    have hl0 : l = [] := by
      cases l with
      | nil => rfl
      | cons d r => obtain ⟨ad, e, _⟩ := h.2 0 (by simp); cases e
    subst hl0
    have hrun : ∀ w, (binOp .eql 28 (.slice none 0 c) (.slice none 0 0)).run Try.prog w = .ok (.bool true) w := fun w => Lib.run_eql_slice_nil w _ _ none 0 c 0 0 hu28
    clear h
    go_enter Try.func28, Try.ntmps28
    go_wp2
    go_ret
    exact ⟨_, rfl, OwnDots.nil _ _, Gr.rfl' _⟩
  | some ad =>
    have HD := Lib.hid (h.gr ((Gr.rfl' w).al (.cells #[] 41))).cells
    obtain ⟨i0, hi, hz0, hz1, hz2⟩ := info_parts infoDot
    have HO := Lib.hid (OwnDots.fresh w)
    have hrun : ∀ w, (binOp .eql 28 (.slice (some ad) l.length c) (.slice none 0 0)).run Try.prog w = .ok (.bool false) w := fun w => Lib.run_eql_slice_nil w _ _ (some ad) l.length c 0 0 hu28
    clear h
    go_enter Try.func28, Try.ntmps28
    go_wp2_with (at_builtin; go_loud (refine wpList_append_own _ rfl _ _ 28 rfl w.heap.size 41 i0 (.agg #[.int .i64 0, .int .i64 0]) 2 16 Try.underlying28 hi hz0 hz1 hz2 rfl (by decide) _ 0 [] rfl HO.out ad l.length c (dotCells l) rfl (dotCells_length l) HD.out (dotCells_one l) (by simp only [maxLen]; omega) (by omega) (by simp) ?_); intro v' w2 hown' hgrow _)
    go_ret
    replace hgrow : (w.alloc (.cells #[] 41)).grownBy w2 (some w.heap.size) := hgrow
    refine ⟨_, rfl, ?_, ((Gr.rfl' w).al _).grown hgrow (by simp) (fun k hk => Nat.le_of_eq (Option.some.inj hk))⟩
    unfold OwnDots
    simpa using hown'
theorem Row_any (mb rb : Nat) (rs : Rws) (i : Nat) (hi : i < rs.length) (w : World) (h : MatI w mb rb rs) :
    Calls Try.prog 12 #[.pointer (some ⟨mb, 0, none⟩), .int .i64 i] w fun e w' => ∃ v, e = .returned v ∧ OwnDots w' w.heap.size v rs[i] ∧ Gr w w' := by
  have HT := Lib.hid (there_any mb rb rs i w h)
  rw [show thereB rs.length (i : Int) = true by rw [thereB_iff]; omega] at HT
  obtain ⟨A, c, hc, _, hd⟩ := h.at i hi
  have HC := Lib.hid (Clone_any A c rs[i] w hd (by have := (h.ok _ (List.getElem_mem hi)).len; omega))
  have hb := h.cell
  obtain ⟨n, hn⟩ : ∃ n, rs.length = n := ⟨_, rfl⟩
  have hi2 : (i : Int) < (n : Int) := by omega
  have hi3 : i < n := by omega
  rw [hn] at hb
  obtain ⟨l, hl⟩ : ∃ l, rs[i] = l := ⟨_, rfl⟩
  rw [hl] at HC hc ⊢
  clear h hd hn hl
  go_enter Try.func12, Try.ntmps12
  go_wp2_with fail
  refine (HT.out).mono ?_
  rintro e w1 ⟨rfl, rfl⟩
  go_wp2_with fail
  refine (HC.out).mono ?_
  rintro e w2 ⟨v, rfl, ho, hg⟩
  go_wp2
  go_ret
  exact ⟨_, rfl, ho, hg⟩
theorem Row_nil (p : Int) (w : World) : Calls Try.prog 12 #[.pointer none, .int .i64 p] w fun e w' => e = .returned (.slice none 0 0) ∧ Gr w w' := by
  have HT := Lib.hid (there_nil p w)
  go_enter Try.func12, Try.ntmps12
  go_wp2_with fail
  refine (HT.out).mono ?_
  rintro e w1 ⟨rfl, rfl⟩
  go_wp2
  go_ret
  exact ⟨rfl, Gr.rfl' _⟩
theorem may_any (mb rb : Nat) (rs : Rws) (p : Int) (A : Option Addr) (c : Nat) (v : List Dot) (w : World) (h : MatI w mb rb rs) (hv : Dots w A v) :
    Calls Try.prog 23 #[.pointer (some ⟨mb, 0, none⟩), .int .i64 p, .slice A v.length c] w fun e w' => e = .returned (.int .i64 (mayV rs.length p v)) ∧ Gr w w' := by
  have HT := Lib.hid (fun w2 (g : Gr w w2) q => there_any mb rb rs q w2 (h.gr g))
  have HC := Lib.hid (Check_any A c v w hv)
  have HG := Lib.hid (Gr.rfl' w)
  obtain ⟨n, hn⟩ : ∃ n, rs.length = n := ⟨_, rfl⟩
  rw [hn] at HT ⊢
  by_cases ht : thereB n p = true
  · have HT1 := Lib.hid (HT.out w (Gr.rfl' w) p)
    rw [ht] at HT1
    by_cases hc : chk v = 0
    · rw [hc] at HC
      have hok := (chk_ok v).1 hc
      by_cases hl : v.length = 0
      · have hv0 : v = [] := by simpa using hl
        have HV : Hid (mayV n p v = 0) := Lib.hid (by unfold mayV; rw [if_pos ht, if_pos hc, hv0]; rfl)
        rw [hl] at HC ⊢
        clear h hv hn hc hok hl hv0 HT ht
        go_enter Try.func23, Try.ntmps23
        go_wp2_with fail
        refine (HT1.out).mono ?_
        rintro e w1 ⟨rfl, rfl⟩
        go_wp2_with fail
        refine (HC.out).mono ?_
        rintro e w2 ⟨rfl, hg⟩
        replace HG := Lib.hid (HG.out.tr hg)
        clear hg
        go_wp2
        go_ret
        rw [HV.out]
        exact ⟨rfl, HG.out⟩
      · obtain ⟨m, hm⟩ : ∃ m, v.length = m + 1 := ⟨v.length - 1, by omega⟩
        have hfar := farB_last (n := n) hok hm
        obtain ⟨ad, rfl, hc1, hc2⟩ := hv.2 m (by omega)
        have hlen := hok.len
        obtain ⟨q, hq⟩ : ∃ q, (v[m]'(by omega)).1 = q := ⟨_, rfl⟩
        rw [hq] at hc1 hfar
        have HV : Hid (mayV n p v = if thereB n q then 0 else 11) := Lib.hid (by unfold mayV; rw [if_pos ht, if_pos hc, hfar]; cases thereB n q <;> rfl)
        rw [hm] at HC ⊢
        have hm64 : m ≤ 64 := by omega
        obtain ⟨b, hb⟩ : ∃ b, thereB n q = b := ⟨_, rfl⟩
        rw [hb] at HV
        have HT2 := Lib.hid (fun w2 (g : Gr w w2) => HT.out w2 g q)
        rw [hb] at HT2
        have HCL : Hid (∀ w2, Gr w w2 → w2.cell? (ad.add (m * 2)) = some (.int .i64 q)) := Lib.hid (fun w2 g => g.cell hc1)
        clear h hv hn hc hok hl HT ht hm hfar hc1 hc2 hlen hq hb
        go_enter Try.func23, Try.ntmps23
        go_wp2_with fail
        refine (HT1.out).mono ?_
        rintro e w1 ⟨rfl, rfl⟩
        go_wp2_with fail
        refine (HC.out).mono ?_
        rintro e w2 ⟨rfl, hg⟩
        replace HG := Lib.hid (HG.out.tr hg)
        clear hg
        have hcl := HCL.out _ HG.out
        go_wp2_with fail
        refine (HT2.out _ HG.out).mono ?_
        rintro e w3 ⟨rfl, rfl⟩
        cases b with
        | true =>
          go_wp2
          go_ret
          rw [HV.out]
          exact ⟨rfl, HG.out⟩
        | false =>
          go_wp2
          go_ret
          rw [HV.out]
          exact ⟨rfl, HG.out⟩
    · have HV : Hid (mayV n p v = chk v) := Lib.hid (by unfold mayV; rw [if_pos ht, if_neg hc])
      obtain ⟨x, hx⟩ : ∃ x, chk v = x := ⟨_, rfl⟩
      rw [hx] at HC HV hc
      clear h hv hn HT ht hx
      go_enter Try.func23, Try.ntmps23
      go_wp2_with fail
      refine (HT1.out).mono ?_
      rintro e w1 ⟨rfl, rfl⟩
      go_wp2_with fail
      refine (HC.out).mono ?_
      rintro e w2 ⟨rfl, hg⟩
      replace HG := Lib.hid (HG.out.tr hg)
      clear hg
      go_wp2
      go_ret
      rw [HV.out]
      exact ⟨rfl, HG.out⟩
  · have HT1 := Lib.hid (HT.out w (Gr.rfl' w) p)
    have htf : thereB n p = false := by simpa using ht
    rw [htf] at HT1
    have HV : Hid (mayV n p v = 11) := Lib.hid (by unfold mayV; rw [if_neg ht])
    clear h hv hn HT ht htf HC
    go_enter Try.func23, Try.ntmps23
    go_wp2_with fail
    refine (HT1.out).mono ?_
    rintro e w1 ⟨rfl, rfl⟩
    go_wp2
    go_ret
    rw [HV.out]
    exact ⟨rfl, HG.out⟩
end Go.Proofs.Ytpaogcighlfelaa
