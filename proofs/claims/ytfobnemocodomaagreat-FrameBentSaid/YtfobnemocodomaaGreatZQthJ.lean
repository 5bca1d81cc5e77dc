/- hearsayref04: Pieces. -/
import Derived.Test.YtfobnemocodomaaGreatZQthI
import Derived.Lib.SmallJoins
set_option linter.unusedVariables false
set_option linter.unusedSimpArgs false
set_option maxHeartbeats 4000000
namespace Go.Proofs.YtfobnemocodomaaGreat.Pt
open Go.RowKit

theorem OwnT.one (w : World) (p : List UInt8) : OwnT (w.alloc (.cells #[.string (bs p)] 9)) w.heap.size (.slice (some ⟨w.heap.size, 0, none⟩) 1 1) [p] :=
  ⟨w.heap.size, 1, #[.string (bs p)], (0, 0), rfl, Nat.le_refl _, World.alloc_heap_new _ _, by simp, by unfold maxLen; omega, by simp, fun j hj => by omega, fun j hj => by
    have : j = 0 := by simp at hj; omega
    subst this; rfl⟩
theorem cellS (w : World) (t : TypeId) (p : List UInt8) : (w.alloc (.cells #[.string (bs p)] t)).cell? ⟨w.heap.size, 0, none⟩ = some (.string (bs p)) := by
  have hn := World.alloc_heap_new w (.cells #[.string (bs p)] t)
  simp only [World.cell?, hn]
  rfl
/-- the last text turned -/
theorem OwnT.setLast {w : World} {B g cap : Nat} {l : List (List UInt8)} (h : OwnT w B (.slice (some ⟨g, 0, none⟩) l.length cap) l) (hl : l ≠ []) (p : List UInt8) :
    OwnT (w.setCell ⟨g, l.length - 1, none⟩ (.string (bs p))) B (.slice (some ⟨g, 0, none⟩) l.length cap) (l.dropLast ++ [p]) := by
  obtain ⟨g', c', cur, fr, hv, hb, hg, h1, h2, h3, h4, h5⟩ := h
  simp only [Value.slice.injEq, Option.some.injEq, Addr.mk.injEq] at hv
  obtain ⟨⟨rfl, _⟩, _, rfl⟩ := hv
  have hlen : 0 < l.length := List.length_pos_iff.2 hl
  have hln : (l.dropLast ++ [p]).length = l.length := by simp; omega
  refine ⟨g, cap, cur.setIfInBounds (l.length - 1) (.string (bs p)), fr, by rw [hln], hb, heap_set_same hg _, by omega, h2, by simpa using h3, h4, fun j hj => ?_⟩
  rw [Array.getElem?_setIfInBounds]
  by_cases e : l.length - 1 = j
  · subst e
    rw [if_pos rfl, if_pos (by omega)]
    simp
  · have hj' : j < l.length - 1 := by omega
    rw [if_neg e, h5 j (by omega), List.getElem_append_left (by simp; omega), List.getElem_dropLast]
theorem pieces_take (l : List UInt8) (k : Nat) (h : k < l.length) : pieces (l.take (k + 1)) = pushL (pieces (l.take k)) (gbt l k) := by
  rw [List.take_succ_eq_append_getElem h, pieces_snoc, gbt_at h]
theorem Pieces_any (l : List UInt8) (w : World) (hl : l.length ≤ 4096) :
    Calls Tryz.prog 112 #[.string (bs l)] w fun r w' => (∃ v, r = .returned v ∧ OwnT w' w.heap.size v (pieces l)) ∧ Gr w w' := by
  obtain ⟨s, hs⟩ : ∃ s, bs l = s := ⟨_, rfl⟩
  have hsz : s.size = l.length := by rw [← hs]; rfl
  have hat : ∀ k (h : k < s.size), s[k] = gbt l k := fun k h => by
    have h2 : k < l.length := by omega
    rw [gbt_at h2]
    subst hs
    rfl
  have HSL : Hid (s.data.toList = l) := by rw [← hs]; exact Lib.hid rfl
  have HAT := Lib.hid hat
  have HSZ := Lib.hid hsz
  have HLL := Lib.hid hl
  have hs4 : s.size ≤ 4096 := by omega
  rw [hs]
  clear hat hsz hl hs
  have HO0 : Hid (OwnT (w.alloc (.cells #[.string ⟨#[]⟩] 9)) w.heap.size (.slice (some ⟨w.heap.size, 0, none⟩) 1 1) (pieces (l.take 0))) := Lib.hid (OwnT.one w [])
  have HG0 : Hid (Gr w (w.alloc (.cells #[.string ⟨#[]⟩] 9))) := Lib.hid ((Gr.rfl' _).al _)
  go_enter Tryz.func112, Tryz.ntmps112
  go_wp2
  go_loopw [3, 4] (fun v i wr => ∃ k : Nat, k ≤ s.size ∧ i = .int .i64 k ∧ Hid (OwnT wr w.heap.size v (pieces (l.take k))) ∧ Hid (Gr w wr)) (fun _ i _ => s.size - (intOf i).toNat)
  case atStart => exact ⟨0, Nat.zero_le _, rfl, HO0, HG0⟩
  case round =>
    clear HO0 HG0
    obtain ⟨k, hk, rfl, HO, HG⟩ := hrel
    obtain ⟨A, cp, rfl⟩ := HO.out.shape
    by_cases hlt : k < s.size
    · have hki : (k : Int) < (s.size : Int) := by omega
      have hgk : s[k] = gbt l k := HAT.out k hlt
      have hpt := pieces_take l k (by have := HSZ.out; omega)
      obtain ⟨c, hc⟩ : ∃ c, gbt l k = c := ⟨_, rfl⟩
      rw [hc] at hgk hpt
      have HPT := Lib.hid hpt
      have hpl : (pieces (l.take k)).length ≤ 4097 := by have h1 := pieces_len_le (l.take k); have h2 := HLL.out; rw [List.length_take] at h1; omega
      have hp1 := pieces_pos (l.take k)
      have hpn := pieces_ne (l.take k)
      obtain ⟨q, hq⟩ : ∃ q, pieces (l.take k) = q := ⟨_, rfl⟩
      rw [hq] at HO HPT hpl hp1 hpn ⊢
      by_cases h47 : c = 47
      · subst h47
        have HPT2 : Hid (pieces (l.take (k + 1)) = q ++ [[]]) := Lib.hid (by rw [HPT.out]; rfl)
        have HLm : Hid ((q.length + 1) * 16 ≤ 140737488355328) := Lib.hid (by omega)
        have HB8 : Hid (w.heap.size ≤ (wr.alloc (.cells #[.string ⟨#[]⟩] 9)).heap.size) := Lib.hid (by rw [World.size_alloc]; exact Nat.le_succ_of_le HG.out.size)
        clear hpt hc hq HPT hpn
        go_wp2_with (at_builtin; go_loud (refine appendT rfl _ _ rfl w.heap.size _ q [] rfl (HO.out.alloc _) ⟨wr.heap.size, 0, none⟩ rfl (cellS _ _ []) HLm.out HB8.out ?_; intro v8 w8 hown8 hgrow8))
        have HG8 := Lib.hid ((HG.out.al _).grown hgrow8 (fun k hk => HO.out.blk hk))
        have HO8 : Hid (OwnT w8 w.heap.size v8 (pieces (l.take (k + 1)))) := by rw [HPT2.out]; exact Lib.hid hown8
        clear hown8 hgrow8 HB8 HLm
        go_wp2
        go_roundw
        case rel => exact ⟨k + 1, by omega, by go_num, HO8, HG8⟩
        case measure => simp [intOf]; omega
      · have hci : ((c.toNat : Int) == 47) = false := by
          have : c.toNat ≠ 47 := fun e => h47 (UInt8.toNat_inj.1 e)
          simp; omega
        have hci2 : ¬ (c.toNat : Int) = 47 := by simpa using hci
        obtain ⟨g, rfl, hgB, _, hcp, hcm, hcl⟩ := HO.out.cell
        obtain ⟨m, hm⟩ : ∃ m, q.length = m + 1 := ⟨q.length - 1, by omega⟩
        have hcell := hcl m (by omega)
        obtain ⟨p, hp⟩ : ∃ p, q[m] = p := ⟨_, rfl⟩
        rw [hp] at hcell
        have hpd : pieces (l.take (k + 1)) = q.dropLast ++ [p ++ [c]] := by
          rw [HPT.out]
          unfold pushL
          rw [if_neg h47]
          congr 2
          rw [List.getLastD_eq_getLast?, List.getLast?_eq_getElem?, hm]
          rw [Nat.add_sub_cancel, List.getElem?_eq_getElem (by omega), hp]
          rfl
        have hset := HO.out.setLast hpn (p ++ [c])
        rw [← hpd, hm, Nat.add_sub_cancel] at hset
        have HST := Lib.hid hset
        have hss : bs p ++ s.extract k (k + 1) = bs (p ++ [c]) := by
          have h1 : (bs p ++ s.extract k (k + 1)).data.toList = p ++ [c] := by
            have hkl : k < l.length := by have := HSZ.out; omega
            rw [Go.Joins.data_append, Lib.extract_data, HSL.out, bs_list, List.drop_eq_getElem_cons hkl, Nat.add_sub_cancel_left, ← gbt_at hkl, hc]
            rfl
          rw [← bs_of (bs p ++ s.extract k (k + 1)), h1]
        have HSS := Lib.hid hss
        have hps : p.length ≤ 4096 := by
          have h1 := pieces_mem_len (l.take k) p (by rw [hq, ← hp]; exact List.getElem_mem _)
          have h2 := HLL.out
          rw [List.length_take] at h1; omega
        have hcsz : (bs p).size ≤ 4096 := hps
        obtain ⟨sl, hsl⟩ : ∃ sl, bs p = sl := ⟨_, rfl⟩
        rw [hsl] at hcell HSS hcsz
        have HFZ : Hid (∀ w', Gr wr w' → w'.frozen? ⟨g, m, none⟩ = false) := Lib.hid (fun w' gw => by
          obtain ⟨g', c', cur, fr, hv, hb, hg, h1, h2, h3, h4, h5⟩ := HO.out.gr gw
          simp only [Value.slice.injEq, Option.some.injEq, Addr.mk.injEq] at hv
          obtain ⟨⟨rfl, _⟩, _, rfl⟩ := hv
          have := h4 m (by omega)
          simp only [World.frozen?, hg]
          simp only [Bool.and_eq_false_iff, decide_eq_false_iff_not]
          omega)
        have hm4 : m ≤ 4096 := by omega
        rw [hm]
        have hgk2 := hgk
        clear hpt hc hq HPT hpn hpl hp1 hset hss hps hsl hpd hcl hp hm
        have hwm : IntKind.i64.wrap (m : Int) = (m : Int) := by rw [IntKind.wrap_i64]; omega
        have hwk : IntKind.i64.wrap ((k : Int) + 1) = (k : Int) + 1 := by rw [IntKind.wrap_i64]; omega
        have hr0 : (0 : Int) ≤ (m : Int) := by omega
        have hr1 : (m : Int) < (m : Int) + 1 := by omega
        have hr : (0 : Int) ≤ (m : Int) ∧ (m : Int) < (m : Int) + 1 := ⟨hr0, hr1⟩
        have hx1 : (0 : Int) ≤ (k : Int) + 1 ∧ (k : Int) + 1 ≤ (s.size : Int) := by omega
        have hx2 : (k : Int) ≤ (k : Int) + 1 := by omega
        have hx3 : (s.extract k (k + 1)).size = 1 := by rw [ByteArray.size_extract]; omega
        have hx4 : sl.size + 1 ≤ 9223372036854775807 := by omega
        have hx5 : ¬ 9223372036854775807 < sl.size + 1 := by omega
        have hSS : Gr wr wr.drew := (Gr.rfl' _).dr
        go_wp2
        refine region_T 13 (fun w' => Gr wr w') (by kernel_rfl) ?_
        refine anyT_take (i := 0) (v := ?_) (some 19) rfl rfl (by kernel_rfl) (fun _ _ _ h => h) (Or.inl ⟨by rfl, ?_⟩) hSS ?_
        rotate_left
        · intro w' hSw; go_simp; (try with_reducible rfl)
        simp only [Act.put, List.setIfInBounds_toArray, List.set_cons_zero, List.set_cons_succ]
        refine anyT_take (i := 1) (v := ?_) (some 20) rfl rfl (by kernel_rfl) (fun _ _ _ h => h) (Or.inl ⟨by rfl, ?_⟩) hSS ?_
        rotate_left
        · intro w' hSw; go_simp; (try with_reducible rfl)
        simp only [Act.put, List.setIfInBounds_toArray, List.set_cons_zero, List.set_cons_succ]
        refine anyT_take (i := 2) (v := ?_) (some 21) rfl rfl (by kernel_rfl) (fun _ _ _ h => h) (Or.inl ⟨by rfl, ?_⟩) hSS ?_
        rotate_left
        · intro w' hSw; go_simp; (try with_reducible rfl)
        simp only [Act.put, List.setIfInBounds_toArray, List.set_cons_zero, List.set_cons_succ]
        refine anyT_take (i := 3) (v := ?_) (some 22) rfl rfl (by kernel_rfl) (fun _ _ _ h => h) (Or.inl ⟨by rfl, ?_⟩) hSS ?_
        rotate_left
        · intro w' hSw; go_simp; (try with_reducible rfl)
        simp only [Act.put, List.setIfInBounds_toArray, List.set_cons_zero, List.set_cons_succ]
        try rw [hwm]
        refine anyT_take (i := 4) (v := ?_) (some 23) rfl rfl (by kernel_rfl) (fun _ _ _ h => h) (Or.inl ⟨by rfl, ?_⟩) hSS ?_
        rotate_left
        · intro w' hSw; go_simp; (try with_reducible rfl)
        simp only [Act.put, List.setIfInBounds_toArray, List.set_cons_zero, List.set_cons_succ]
        refine anyT_take (i := 5) (v := ?_) (some 24) rfl rfl (by kernel_rfl) (fun _ _ _ h => h) (Or.inl ⟨by rfl, ?_⟩) hSS ?_
        rotate_left
        · intro w' hSw; have c5 := hSw.cell hcell; go_simp; (try with_reducible rfl)
        simp only [Act.put, List.setIfInBounds_toArray, List.set_cons_zero, List.set_cons_succ]
        refine anyT_take (i := 6) (v := ?_) (some 25) rfl rfl (by kernel_rfl) (fun _ _ _ h => h) (Or.inl ⟨by rfl, ?_⟩) hSS ?_
        rotate_left
        · intro w' hSw; go_simp; (try with_reducible rfl)
        simp only [Act.put, List.setIfInBounds_toArray, List.set_cons_zero, List.set_cons_succ]
        refine anyT_take (i := 7) (v := ?_) (some 26) rfl rfl (by kernel_rfl) (fun _ _ _ h => h) (Or.inl ⟨by rfl, ?_⟩) hSS ?_
        rotate_left
        · intro w' hSw; go_simp; (try with_reducible rfl)
        simp only [Act.put, List.setIfInBounds_toArray, List.set_cons_zero, List.set_cons_succ]
        refine anyT_take (i := 8) (v := ?_) (some 27) rfl rfl (by kernel_rfl) (fun _ _ _ h => h) (Or.inl ⟨by rfl, ?_⟩) hSS ?_
        rotate_left
        · intro w' hSw; go_simp; (try with_reducible rfl)
        simp only [Act.put, List.setIfInBounds_toArray, List.set_cons_zero, List.set_cons_succ]
        refine anyT_take (i := 9) (v := ?_) (some 28) rfl rfl (by kernel_rfl) (fun _ _ _ h => h) (Or.inl ⟨by rfl, ?_⟩) hSS ?_
        rotate_left
        · intro w' hSw; go_simp; (try with_reducible rfl)
        simp only [Act.put, List.setIfInBounds_toArray, List.set_cons_zero, List.set_cons_succ]
        try rw [hwk]
        refine anyT_take (i := 10) (v := ?_) (some 29) rfl rfl (by kernel_rfl) (fun _ _ _ h => h) (Or.inl ⟨by rfl, ?_⟩) hSS ?_
        rotate_left
        · intro w' hSw; go_simp; (try with_reducible rfl)
        simp only [Act.put, List.setIfInBounds_toArray, List.set_cons_zero, List.set_cons_succ]
        refine anyT_take (i := 11) (v := ?_) (some 30) rfl rfl (by kernel_rfl) (fun _ _ _ h => h) (Or.inl ⟨by rfl, ?_⟩) hSS ?_
        rotate_left
        · intro w' hSw; go_simp; (try with_reducible rfl)
        simp only [Act.put, List.setIfInBounds_toArray, List.set_cons_zero, List.set_cons_succ]
        refine anyT_take (i := 12) (v := ?_) (some 31) rfl rfl (by kernel_rfl) (fun _ _ _ h => h) (Or.inl ⟨by rfl, ?_⟩) hSS ?_
        rotate_left
        · intro w' hSw; go_simp; (try with_reducible rfl)
        simp only [Act.put, List.setIfInBounds_toArray, List.set_cons_zero, List.set_cons_succ]
        rw [HSS.out]
        have c13 : wr.drew.cell? ⟨g, m, none⟩ = some (.string sl) := hcell
        have f13 : wr.drew.frozen? ⟨g, m, none⟩ = false := HFZ.out _ hSS
        have HGB := Lib.hid hgB
        clear hx1 hx2 hx3 hx4 hx5 hr hr0 hr1 hwk
        refine anyT_one (i := 13) (by kernel_rfl) rfl rfl ?_
        unfold Oper.wp
        go_simp
        refine anyT_done (by kernel_rfl) ?_ 0
        have HO9 := Lib.hid (HST.out.gr ((Gr.rfl' _).dr))
        have HG9 := Lib.hid ((HG.out.set (p := ⟨g, m, none⟩) HGB.out (.string (bs (p ++ [c])))).dr)
        clear c13 f13 hcell HST HG HO HSS
        go_wp2
        go_roundw
        case rel => exact ⟨k + 1, by omega, by go_num, HO9, HG9⟩
        case measure => simp [intOf]; omega
    · have hkn : k = s.size := by omega
      subst hkn
      have hki : ¬ (s.size : Int) < (s.size : Int) := by omega
      have hall : l.take s.size = l := by rw [HSZ.out]; exact List.take_length
      have HL := Lib.hid hall
      clear hall
      go_wp2
      go_ret
      refine ⟨⟨_, rfl, ?_⟩, HG.out⟩
      have h := HO.out
      rw [HL.out] at h
      show OwnT wr w.heap.size (.slice A (pieces (l.take s.size)).length cp) (pieces l)
      rw [HL.out]
      exact h
end Go.Proofs.YtfobnemocodomaaGreat.Pt
