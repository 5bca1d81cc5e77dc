/- node.Seen. -/
import Derived.Test.YtfobnemocodomaaKidE
import Derived.Test.YtfobnemocodomaaRegT
set_option linter.unusedVariables false
set_option linter.unusedSimpArgs false
set_option maxHeartbeats 2000000
namespace Go.Proofs.Ytfobnemocodomaa
open Go.RowKit Go.Great

theorem Gr.kcells {a w : World} (h : Gr a w) {b : Nat} (hb : a.heap.size ≤ b) (o : Nat) (vs : List Value) : Gr a (w.setCells b o vs) :=
  ⟨(rg_os vs o w).1.trans h.os, (rg_os vs o w).2.1.trans h.tape, (rg_os vs o w).2.2.trans h.output, by rw [rg_size]; exact h.size, fun k hk => (rg_other (by omega) vs o w).trans (h.block k hk)⟩
theorem OwnV.shp2 {W : World} {B : Nat} {v : Value} {l : List Vx} (h : OwnV W B v l) : ∃ A n c, v = .slice A n c ∧ n = l.length ∧ True := by
  rcases h with ⟨rfl, rfl⟩ | ⟨g, _, hog⟩
  · exact ⟨none, 0, 0, rfl, rfl, trivial⟩
  · obtain ⟨c, h, _⟩ := hog.shape; exact ⟨_, _, c, h, rfl, trivial⟩
theorem asA3 (g : Nat) (W : World) : (asAddr (.pointer (some ⟨g, 0, none⟩))).run Try.prog W = .ok ⟨g, 0, none⟩ W := rfl
set_option maxRecDepth 100000 in
theorem nSeen_any (A B : Option Addr) (c d : Nat) (a : List Vx) (b : List Kx) (w : World) (h1 : Vers w A a) (h2 : Kids w B b) (ha : a.length ≤ 1000) (hb : b.length ≤ 1000) :
    Calls Try.prog 24 #[.agg #[.slice A a.length c, .slice B b.length d]] w fun r w' => (∃ A' c' B' d', r = .returned (.agg #[.slice A' (liveL a).length c', .slice B' b.length d']) ∧ Vers w' A' (liveL a) ∧ Kids w' B' b) ∧ Gr w w' := by
  have H1 := Lib.hid h1
  have H2 := Lib.hid h2
  clear h1 h2
  have hal := live_len a
  have hg1 : Gr w ((w.alloc (.cells #[.slice A a.length c, .slice B b.length d] 31)).alloc (.cells #[.slice none 0 0, .slice none 0 0] 31)) := ((Gr.rfl' w).al _).al _
  have hn2 := World.alloc_heap_new (w.alloc (.cells #[.slice A a.length c, .slice B b.length d] 31)) (.cells #[.slice none 0 0, .slice none 0 0] 31)
  have hn1 := World.alloc_heap_new w (.cells #[.slice A a.length c, .slice B b.length d] 31)
  have hsz : (w.alloc (.cells #[.slice A a.length c, .slice B b.length d] 31)).heap.size = w.heap.size + 1 := by simp
  rw [hsz] at hn2
  have hn1' := (((Gr.rfl' (w.alloc (.cells #[.slice A a.length c, .slice B b.length d] 31))).al (.cells #[.slice none 0 0, .slice none 0 0] 31)).block w.heap.size (by rw [hsz]; omega)).trans hn1
  have N1 := Lib.hid hn1'
  have N2 := Lib.hid hn2
  have G1 := Lib.hid hg1
  clear hn1 hn2 hn1' hg1 hsz
  go_enter Try.func24, Try.ntmps24
  go_upto_region 1 with (fail)
  obtain ⟨W, hW⟩ : ∃ W, (w.alloc (.cells #[.slice A a.length c, .slice B b.length d] 31)).alloc (.cells #[.slice none 0 0, .slice none 0 0] 31) = W := ⟨_, rfl⟩
  rw [hW] at N1 N2 G1 ⊢
  clear hW
  have hc0 : W.cell? ⟨w.heap.size, 0, none⟩ = some (.slice A a.length c) := by simp only [World.cell?, N1.out]; rfl
  have hc1 : W.cell? ⟨w.heap.size, 1, none⟩ = some (.slice B b.length d) := by simp only [World.cell?, N1.out]; rfl
  have hSS : Gr W W.drew := (Gr.rfl' _).dr
  refine region_T 7 (fun w' => Gr W w') (by kernel_rfl) ?_
  refine anyT_take (i := 0) (v := ?_) (some 3) rfl rfl (by kernel_rfl) (fun _ _ _ h => h) (Or.inl ⟨by rfl, ?_⟩) hSS ?_
  rotate_left
  · intro w' hSw; go_simp; (try with_reducible rfl)
  simp only [Act.put, List.setIfInBounds_toArray, List.set_cons_zero, List.set_cons_succ]
  refine anyT_take (i := 1) (v := ?_) (some 4) rfl rfl (by kernel_rfl) (fun _ _ _ h => h) (Or.inl ⟨by rfl, ?_⟩) hSS ?_
  rotate_left
  · intro w' hSw; have c1 := hSw.cell hc0; go_simp; (try with_reducible rfl)
  simp only [Act.put, List.setIfInBounds_toArray, List.set_cons_zero, List.set_cons_succ]
  refine anyT_take (i := 3) (v := ?_) (some 6) rfl rfl (by kernel_rfl) (fun _ _ _ h => h) (Or.inl ⟨by rfl, ?_⟩) hSS ?_
  rotate_left
  · intro w' hSw; go_simp; (try with_reducible rfl)
  simp only [Act.put, List.setIfInBounds_toArray, List.set_cons_zero, List.set_cons_succ]
  refine anyT_take (i := 4) (v := ?_) (some 7) rfl rfl (by kernel_rfl) (fun _ _ _ h => h) (Or.inl ⟨by rfl, ?_⟩) hSS ?_
  rotate_left
  · intro w' hSw; have c4 := hSw.cell hc1; go_simp; (try with_reducible rfl)
  simp only [Act.put, List.setIfInBounds_toArray, List.set_cons_zero, List.set_cons_succ]
  refine anyT_call (i := 2) (some 5) 48 #[.slice A a.length c] (by kernel_rfl) rfl rfl rfl (by kernel_rfl) ?_
  refine (vLive1_any A c a _ (H1.out.gr (G1.out.tr hSS)) (by omega)).mono ?_
  rintro e wc ⟨⟨u, rfl, ho⟩, hgc⟩
  have hB : w.heap.size + 2 ≤ W.drew.heap.size := by have h := (Array.getElem?_eq_some_iff.1 N2.out).1; exact h
  obtain ⟨A', n', c', rfl, hnl, hab⟩ := ho.shp2
  subst hnl
  replace hSS := hSS.tr hgc
  refine ⟨_, rfl, fun _ => hSS, ?_⟩
  simp only [Act.put, List.setIfInBounds_toArray, List.set_cons_zero, List.set_cons_succ]
  refine anyT_call (i := 5) (some 8) 76 #[.slice B b.length d] (by kernel_rfl) rfl rfl rfl (by kernel_rfl) ?_
  refine (kClone_any B d b _ (H2.out.gr (G1.out.tr hSS)) (by omega)).mono ?_
  rintro e wd ⟨⟨B', d', rfl, _, hkb, hk⟩, hgd⟩
  have hB2 : w.heap.size + 2 ≤ wc.heap.size := Nat.le_trans hB hgc.size
  replace hSS := hSS.tr hgd
  have HV := Lib.hid (ho.gr hgd)
  have HK := Lib.hid hk
  have HKB := Lib.hid (fun D hD => Nat.le_trans hB2 (hkb D hD))
  clear hk hkb ho hgc hgd
  refine ⟨_, rfl, fun _ => hSS, ?_⟩
  simp only [Act.put, List.setIfInBounds_toArray, List.set_cons_zero, List.set_cons_succ]
  refine anyT_take (i := 6) (v := ?_) (some 9) rfl rfl (by kernel_rfl) (fun _ _ _ h => h) (Or.inl ⟨by rfl, ?_⟩) hSS ?_
  rotate_left
  · intro w' hSw; go_simp; (try with_reducible rfl)
  simp only [Act.put, List.setIfInBounds_toArray, List.set_cons_zero, List.set_cons_succ]
  have hN2 := (hSS.block _ (Array.getElem?_eq_some_iff.1 N2.out).1).trans N2.out
  obtain ⟨cs', k1, k2, _, k4, _⟩ := rg_same [.slice A' (liveL a).length c', .slice B' b.length d'] 0 wd _ hN2 (by simp)
  have hcs : cs' = #[.slice A' (liveL a).length c', .slice B' b.length d'] := by
    apply Array.ext'
    apply List.ext_getElem?
    intro q
    have hq2 : cs'.size = 2 := by rw [k2]; rfl
    by_cases hq : q < 2
    · have := k4 q (by simpa using hq)
      rw [Nat.zero_add] at this
      simpa using this
    · rw [List.getElem?_eq_none (by rw [Array.length_toList, hq2]; omega), List.getElem?_eq_none (by simp; omega)]
  rw [hcs] at k1
  have K1 := Lib.hid k1
  have GF := Lib.hid (Gr.kcells (G1.out.tr hSS) (b := w.heap.size + 1) (by omega) 0 [.slice A' (liveL a).length c', .slice B' b.length d'])
  have HK2 := Lib.hid (HK.out.other (W' := wd.setCells (w.heap.size + 1) 0 [.slice A' (liveL a).length c', .slice B' b.length d']) (fun D hD => rg_other (by have := HKB.out D hD; omega) _ _ _))
  have HV2 : Hid (Vers (wd.setCells (w.heap.size + 1) 0 [.slice A' (liveL a).length c', .slice B' b.length d']) A' (liveL a)) := Lib.hid (by
    have ho2 : OwnV (wd.setCells (w.heap.size + 1) 0 [.slice A' (liveL a).length c', .slice B' b.length d']) W.drew.heap.size (.slice A' (liveL a).length c') (liveL a) := by
      rcases HV.out with h | ⟨g, hg, h⟩
      · exact Or.inl h
      · exact Or.inr ⟨g, hg, h.same (rg_other (by omega) _ _ _)⟩
    obtain ⟨A2, c2, e2, _, hv2⟩ := ho2.vers (fun x hx => ((H1.out.gr GF.out).oks x (List.mem_filter.1 hx).1))
    cases e2
    exact hv2)
  refine anyT_store 31 (.tmp 2) (.tmp 9) (by kernel_rfl) (by kernel_rfl) rfl rfl rfl rfl (w.heap.size + 1) 0 #[.slice A' (liveL a).length c', .slice B' b.length d'] rfl rfl (fun q hq => ?_) (by kernel_rfl) (by simp [Value.oneCell']) ?_
  · simp only [World.cell?, World.frozen?, hN2]
    have hq' : q < 2 := hq
    rcases (by omega : q = 0 ∨ q = 1) with rfl | rfl <;> simp
  go_wp2
  refine bodyPost_ret (v := .agg #[.slice A' (liveL a).length c', .slice B' b.length d']) ?_ rfl ?_
  · simp [results, Try.results24, Act.put, asA3]
    refine run_loadVar_row _ _ 31 31 _ (0, 0) _ K1.out Try.underlying31 rfl (by kernel_rfl)
  · exact ⟨⟨A', c', B', d', rfl, HV2.out, HK2.out⟩, GF.out⟩
end Go.Proofs.Ytfobnemocodomaa
