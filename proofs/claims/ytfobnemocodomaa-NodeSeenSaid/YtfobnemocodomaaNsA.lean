/- hearsaylaw14.NodeSeen. -/
import Derived.Test.YtfobnemocodomaaKidJ
import Derived.Test.YtfobnemocodomaaKidC
import Derived.Test.YtfobnemocodomaaRegU
set_option linter.unusedVariables false
set_option linter.unusedSimpArgs false
set_option maxHeartbeats 2000000
namespace Go.Proofs.Ytfobnemocodomaa
open Go.RowKit Go.Great

/-- a node, boxed -/
def NX (b : Nat) (A : Option Addr) (n c : Nat) (B : Option Addr) (m d : Nat) (w : World) : Prop := w.heap[b]? = some (.cells #[.slice A n c, .slice B m d] 31 (0, 0))
section
variable {b n c m d : Nat} {A B : Option Addr} {w w' : World}
theorem NX.gr (h : NX b A n c B m d w) (g : Gr w w') : NX b A n c B m d w' := (g.block b (Array.getElem?_eq_some_iff.1 h).1).trans h
theorem NX.c0 (h : NX b A n c B m d w) : w.cell? ⟨b, 0, none⟩ = some (.slice A n c) := by unfold NX at h; simp only [World.cell?, h]; rfl
theorem NX.c1 (h : NX b A n c B m d w) : w.cell? ⟨b, 1, none⟩ = some (.slice B m d) := by unfold NX at h; simp only [World.cell?, h]; rfl
theorem NX.lt (h : NX b A n c B m d w) : b < w.heap.size := (Array.getElem?_eq_some_iff.1 h).1
end
theorem N2_info : (Try.prog.info? 31).map (fun i => (i.zero, i.size)) = some (some (.agg #[.slice none 0 0, .slice none 0 0]), 2) := by kernel_rfl
theorem allocN {ops : Array Oper} {rest : List Oper} {o : Oper} {a : Act} {w : World} {Q : Exit → Act → World → Prop} (hg : o.guard = none) (ho : o.op = .alloc 31)
    (h : wpList Try.prog ops Q rest (a.put o.dst (.pointer (some ⟨w.heap.size, 0, none⟩))) (w.alloc (.cells #[.slice none 0 0, .slice none 0 0] 31))) : wpList Try.prog ops Q (o :: rest) a w := by
  refine wpList_allocTo hg o.dst rfl _ (.cells #[.slice none 0 0, .slice none 0 0] 31) ?_ h
  have hz := (zero_of_info N2_info).1
  unfold execOp
  simp [ho, Instr.alloc, hz, Value.cells, go_sem]
theorem storeN {ops : Array Oper} {rest : List Oper} {o : Oper} {a : Act} {w : World} {Q : Exit → Act → World → Prop} (A : Option Addr) (n c : Nat) (B : Option Addr) (m d : Nat) (hg : o.guard = none) (x y : Operand) (ho : o.op = .store 31 x y) (hd : o.dst = none)
    (hx : a.eval x = .pointer (some ⟨w.heap.size, 0, none⟩)) (hy : a.eval y = .agg #[.slice A n c, .slice B m d])
    (h : ∀ wt : World, NX w.heap.size A n c B m d wt → Gr w wt → wpList Try.prog ops Q rest a wt) : wpList Try.prog ops Q (o :: rest) a (w.alloc (.cells #[.slice none 0 0, .slice none 0 0] 31)) := by
  refine wpList_store_row hg 31 x y ho w.heap.size #[.slice A n c, .slice B m d] hx hy 31 #[.slice none 0 0, .slice none 0 0] (World.alloc_heap_new w _) (by kernel_rfl) (by rfl) (by simp [Value.oneCell']) ?_
  rw [World.setRow_alloc_new, hd]
  exact h _ (World.alloc_heap_new _ _) ((Gr.rfl' w).al _)
theorem execN {o : Oper} {ev : Operand → Value} {w : World} (ho : o.op = .alloc 31) : (execOp ev o).run Try.prog w = .ok (.value (.pointer (some ⟨w.heap.size, 0, none⟩))) (w.alloc (.cells #[.slice none 0 0, .slice none 0 0] 31)) := by
  have hz := (zero_of_info N2_info).1
  unfold execOp
  simp [ho, Instr.alloc, hz, Value.cells, go_sem]
theorem NX.new (w : World) : NX w.heap.size none 0 0 none 0 0 (w.alloc (.cells #[.slice none 0 0, .slice none 0 0] 31)) := World.alloc_heap_new w _
theorem vsames_refl : ∀ l : List Vx, vsames l l = true
  | [] => rfl
  | x :: r => by unfold vsames; rw [vsames_refl r]; simp [vsame]
theorem nx_store {W : World} {b : Nat} {A0 A B0 B : Option Addr} {n0 c0 m0 d0 n c m d : Nat} (h : NX b A0 n0 c0 B0 m0 d0 W) : NX b A n c B m d (W.setCells b 0 [.slice A n c, .slice B m d]) := by
  obtain ⟨cs', k1, k2, _, k4, _⟩ := rg_same [.slice A n c, .slice B m d] 0 W _ h (by simp)
  have hcs : cs' = #[.slice A n c, .slice B m d] := by
    apply Array.ext'
    apply List.ext_getElem?
    intro q
    have hq2 : cs'.size = 2 := by rw [k2]; rfl
    by_cases hq : q < 2
    · have := k4 q (by simpa using hq)
      rw [Nat.zero_add] at this
      simpa using this
    · rw [List.getElem?_eq_none (by rw [Array.length_toList, hq2]; omega), List.getElem?_eq_none (by simp; omega)]
  rw [hcs] at k1
  exact k1
theorem nx_there {W : World} {b : Nat} {A B : Option Addr} {n c m d : Nat} (h : NX b A n c B m d W) : W.there b 0 2 := fun q hq => by
  unfold NX at h
  simp only [World.cell?, World.frozen?, h]
  rcases (by omega : q = 0 ∨ q = 1) with rfl | rfl <;> simp
theorem OwnV.set {W : World} {B b : Nat} {v : Value} {l : List Vx} (h : OwnV W B v l) (hb : b < B) (o : Nat) (vs : List Value) : OwnV (W.setCells b o vs) B v l := by
  rcases h with h | ⟨g, hg, h⟩
  · exact Or.inl h
  · exact Or.inr ⟨g, hg, h.same (rg_other (by omega) _ _ _)⟩
theorem OwnV.set' {W : World} {B b : Nat} {v : Value} {l : List Vx} (h : OwnV W B v l) (hb : W.heap.size ≤ b) (W' : World) (g : Gr W W') (o : Nat) (vs : List Value) : OwnV (W'.setCells b o vs) B v l := by
  rcases h with h | ⟨g', hg, h⟩
  · exact Or.inl h
  · exact Or.inr ⟨g', hg, (h.gr g).same (rg_other (by have := h.lt; omega) _ _ _)⟩

set_option maxRecDepth 100000 in
theorem NodeSeen_any (A1 A2 B1 B2 : Option Addr) (c1 c2 d1 d2 : Nat) (a1 a2 : List Vx) (k1 k2 : List Kx) (w : World) (h1 : Vers w A1 a1) (h2 : Vers w A2 a2) (h3 : Kids w B1 k1) (h4 : Kids w B2 k2) :
    Calls Try.prog 4 #[.agg #[.slice A1 a1.length c1, .slice B1 k1.length d1], .agg #[.slice A2 a2.length c2, .slice B2 k2.length d2]] w fun r w' => r = .returned (.bool true) ∧ Gr w w' := by
  have H1 := Lib.hid h1
  have H2 := Lib.hid h2
  have H3 := Lib.hid h3
  have H4 := Lib.hid h4
  clear h1 h2 h3 h4
  have hg1 : Gr w ((w.alloc (.cells #[.slice A1 a1.length c1, .slice B1 k1.length d1] 31)).alloc (.cells #[.slice A2 a2.length c2, .slice B2 k2.length d2] 31)) := ((Gr.rfl' w).al _).al _
  have hn2 := World.alloc_heap_new (w.alloc (.cells #[.slice A1 a1.length c1, .slice B1 k1.length d1] 31)) (.cells #[.slice A2 a2.length c2, .slice B2 k2.length d2] 31)
  have hn1 := World.alloc_heap_new w (.cells #[.slice A1 a1.length c1, .slice B1 k1.length d1] 31)
  have hsz : (w.alloc (.cells #[.slice A1 a1.length c1, .slice B1 k1.length d1] 31)).heap.size = w.heap.size + 1 := by simp
  rw [hsz] at hn2
  have hn1' := (((Gr.rfl' (w.alloc (.cells #[.slice A1 a1.length c1, .slice B1 k1.length d1] 31))).al (.cells #[.slice A2 a2.length c2, .slice B2 k2.length d2] 31)).block w.heap.size (by rw [hsz]; omega)).trans hn1
  have N1 : Hid (NX w.heap.size A1 a1.length c1 B1 k1.length d1 _) := Lib.hid hn1'
  have N2 : Hid (NX (w.heap.size + 1) A2 a2.length c2 B2 k2.length d2 _) := Lib.hid hn2
  have G1 := Lib.hid hg1
  clear hn1 hn2 hn1' hg1 hsz
  go_enter Try.func4, Try.ntmps4
  go_upto_region 1 with (fail)
  obtain ⟨W, hW⟩ : ∃ W, (w.alloc (.cells #[.slice A1 a1.length c1, .slice B1 k1.length d1] 31)).alloc (.cells #[.slice A2 a2.length c2, .slice B2 k2.length d2] 31) = W := ⟨_, rfl⟩
  rw [hW] at N1 N2 G1 ⊢
  clear hW
  have l2 : w.heap.size + 1 < W.heap.size := N2.out.lt
  go_wp2_with (first
    | refine wpList_load_row rfl 31 (.tmp 2) rfl w.heap.size rfl 31 #[.slice A1 a1.length c1, .slice B1 k1.length d1] (0, 0) _ N1.out Try.underlying31 rfl (by kernel_rfl) ?_)
  refine (nGreat_any A1 B1 c1 d1 a1 k1 W (H1.out.gr G1.out) (H3.out.gr G1.out)).mono ?_
  rintro r w1 ⟨⟨rfl, q1, q2⟩ | rfl, g1⟩
  · have M2 := Lib.hid (N2.out.gr g1)
    have F1 := Lib.hid (G1.out.tr g1)
    have N1b := Lib.hid (N1.out.gr g1)
    have e0 := M2.out.c0
    have e1 := M2.out.c1
    go_wp2_with fail
    clear e0 e1
    refine (nGreat_any A2 B2 c2 d2 a2 k2 w1 (H2.out.gr F1.out) (H4.out.gr F1.out)).mono ?_
    rintro r w2 ⟨⟨rfl, q3, q4⟩ | rfl, g2⟩
    · have P1 := Lib.hid (N1b.out.gr g2)
      have P2 := Lib.hid (M2.out.gr g2)
      have F2 := Lib.hid (F1.out.tr g2)
      clear N1 N2 G1 N1b M2 F1 g1 g2
      go_wp2_with (first
        | refine wpList_load_row rfl 31 (.tmp 2) rfl w.heap.size rfl 31 #[.slice A1 a1.length c1, .slice B1 k1.length d1] (0, 0) _ P1.out Try.underlying31 rfl (by kernel_rfl) ?_)
      refine (nSeen_any A1 B1 c1 d1 a1 k1 w2 (H1.out.gr F2.out) (H3.out.gr F2.out) (by omega) (by omega)).mono ?_
      rintro r w3 ⟨⟨A', c', B', d', rfl, hv3, hk3⟩, g3⟩
      have P1b := Lib.hid (P1.out.gr g3)
      have P2b := Lib.hid (P2.out.gr g3)
      have F3 := Lib.hid (F2.out.tr g3)
      have HV := Lib.hid hv3
      have HK := Lib.hid hk3
      clear P1 P2 F2 g3 hv3 hk3
      go_upto_region 4 with (first
        | refine allocN rfl rfl ?_
        | (refine storeN A' (liveL a1).length c' B' k1.length d' rfl (.tmp 5) _ rfl rfl rfl rfl ?_; intro w4 hx4 hg4; obtain ⟨gX, hgX⟩ : ∃ g, w3.heap.size = g := ⟨_, rfl⟩; rw [hgX] at hx4 ⊢; have X4 := Lib.hid hx4; have G4 := Lib.hid hg4; clear hx4 hg4))
      simp only [Act.put, List.setIfInBounds_toArray, List.set_cons_zero, List.set_cons_succ]
      go_cut [6] from 16 to 51 (fun s6 wx => ∃ (bx : Nat) (Ax : Option Addr) (cx : Nat), s6 = .pointer (some ⟨bx, 0, none⟩) ∧ Hid (NX bx Ax (liveL a1).length cx B1 k1.length d1 wx) ∧ Hid (Vers wx Ax (liveL a1)) ∧ Hid (Gr w4 wx))
      case first =>
        have e0 : Hid (w4.cell? ⟨w.heap.size, 0, none⟩ = some (.slice A1 a1.length c1)) := Lib.hid (P1b.out.gr G4.out).c0
        have e1 : Hid (w4.cell? ⟨w.heap.size, 1, none⟩ = some (.slice B1 k1.length d1)) := Lib.hid (P1b.out.gr G4.out).c1
        have hSS : Gr w4 w4.drew := (Gr.rfl' _).dr
        refine region_T 7 (fun w' => Gr w4 w') (by kernel_rfl) ?_
        refine anyT_take (i := 0) (v := ?_) (some 16) rfl rfl (by kernel_rfl) (fun _ _ _ h => h) (Or.inl ⟨by rfl, ?_⟩) hSS ?_
        rotate_left
        · intro w' hSw; go_simp; (try with_reducible rfl)
        simp only [Act.put, List.setIfInBounds_toArray, List.set_cons_zero, List.set_cons_succ]
        refine anyT_take (i := 1) (v := ?_) (some 17) rfl rfl (by kernel_rfl) (fun _ _ _ h => h) (Or.inl ⟨by rfl, ?_⟩) hSS ?_
        rotate_left
        · intro w' hSw; have q := hSw.cell e0.out; go_simp; (try with_reducible rfl)
        simp only [Act.put, List.setIfInBounds_toArray, List.set_cons_zero, List.set_cons_succ]
        refine anyT_take (i := 3) (v := ?_) (some 19) rfl rfl (by kernel_rfl) (fun _ _ _ h => h) (Or.inl ⟨by rfl, ?_⟩) hSS ?_
        rotate_left
        · intro w' hSw; go_simp; (try with_reducible rfl)
        simp only [Act.put, List.setIfInBounds_toArray, List.set_cons_zero, List.set_cons_succ]
        refine anyT_take (i := 4) (v := ?_) (some 20) rfl rfl (by kernel_rfl) (fun _ _ _ h => h) (Or.inl ⟨by rfl, ?_⟩) hSS ?_
        rotate_left
        · intro w' hSw; have q := hSw.cell e1.out; go_simp; (try with_reducible rfl)
        simp only [Act.put, List.setIfInBounds_toArray, List.set_cons_zero, List.set_cons_succ]
        refine anyT_two (i := 2) (j := 6) (by kernel_rfl) ?_ ?_
        · refine wpOp_call (some 18) 25 #[.slice A1 a1.length c1] rfl (by kernel_rfl) rfl (by kernel_rfl) ?_
          refine (vLive2_any A1 c1 a1 _ (H1.out.gr ((F3.out.tr G4.out).tr hSS)) (by omega)).mono ?_
          rintro e wc ⟨⟨u, rfl, ho⟩, hgc⟩
          obtain ⟨Ax, nx, cx, rfl, hnl, hab⟩ := ho.shp2
          subst hnl
          replace hSS := hSS.tr hgc
          refine ⟨_, rfl, fun _ => hSS, ?_⟩
          simp only [Act.put, List.setIfInBounds_toArray, List.set_cons_zero, List.set_cons_succ]
          refine anyT_take (i := 5) (v := ?_) (some 21) rfl rfl (by kernel_rfl) (fun _ _ _ h => h) (Or.inl ⟨by rfl, ?_⟩) hSS ?_
          rotate_left
          · intro w' hSw; go_simp; (try with_reducible rfl)
          simp only [Act.put, List.setIfInBounds_toArray, List.set_cons_zero, List.set_cons_succ]
          have hga : Gr wc (wc.alloc (.cells #[.slice none 0 0, .slice none 0 0] 31)) := (Gr.rfl' wc).al _
          refine anyT_its (i := 6) (by kernel_rfl) ?_
          refine wpOp_val (some 6) (.pointer (some ⟨wc.heap.size, 0, none⟩)) rfl (by kernel_rfl) rfl (execN rfl) ⟨fun _ => hSS.tr hga, ?_⟩
          simp only [Act.put, List.setIfInBounds_toArray, List.set_cons_zero, List.set_cons_succ]
          have hnw := NX.new wc
          have hov := ho.set' (Nat.le_refl _) _ hga 0 [.slice Ax (liveL a1).length cx, .slice B1 k1.length d1]
          have hfin := (hSS.tr hga).kcells (b := wc.heap.size) hSS.size 0 [.slice Ax (liveL a1).length cx, .slice B1 k1.length d1]
          refine anyT_store 31 (.tmp 6) (.tmp 21) (by kernel_rfl) (by kernel_rfl) rfl rfl rfl rfl wc.heap.size 0 #[.slice Ax (liveL a1).length cx, .slice B1 k1.length d1] rfl rfl (nx_there hnw) (by kernel_rfl) (by simp [Value.oneCell']) ?_
          have hnx := nx_store (A := Ax) (n := (liveL a1).length) (c := cx) (B := B1) (m := k1.length) (d := d1) hnw
          obtain ⟨A2', c2', e2, _, hv2⟩ := hov.vers (fun x hx => ((H1.out.gr ((F3.out.tr G4.out).tr hfin)).oks x (List.mem_filter.1 hx).1))
          cases e2
          have HV2 := Lib.hid hv2
          have HNX := Lib.hid hnx
          have HF := Lib.hid hfin
          clear hv2 hnx hfin hov hnw hga ho hSS hgc
          generalize (wc.alloc (.cells #[.slice none 0 0, .slice none 0 0] 31)).setCells wc.heap.size 0 [.slice Ax (liveL a1).length cx, .slice B1 k1.length d1] = wf at HV2 HNX HF ⊢
          obtain ⟨gB, hgB⟩ : ∃ g, wc.heap.size = g := ⟨_, rfl⟩
          rw [hgB] at HNX ⊢
          go_wp2
          go_meet
          exact ⟨gB, _, _, rfl, HNX, HV2, HF⟩
        · have hga : Gr w4.drew (w4.drew.alloc (.cells #[.slice none 0 0, .slice none 0 0] 31)) := (Gr.rfl' w4.drew).al _
          have hlb : w4.drew.heap.size < (w4.drew.alloc (.cells #[.slice none 0 0, .slice none 0 0] 31)).heap.size := by simp
          have hnw := NX.new w4.drew
          have hsB := hSS.size
          refine wpOp_val (some 6) (.pointer (some ⟨w4.drew.heap.size, 0, none⟩)) rfl (by kernel_rfl) rfl (execN rfl) ⟨fun _ => hSS.tr hga, ?_⟩
          replace hSS := hSS.tr hga
          obtain ⟨gB, hgB⟩ : ∃ g, w4.drew.heap.size = g := ⟨_, rfl⟩
          rw [hgB] at hnw hlb hsB ⊢
          generalize w4.drew.alloc (.cells #[.slice none 0 0, .slice none 0 0] 31) = wd at hSS hga hnw hlb ⊢
          simp only [Act.put, List.setIfInBounds_toArray, List.set_cons_zero, List.set_cons_succ]
          refine anyT_its (i := 2) (by kernel_rfl) ?_
          refine wpOp_call (some 18) 25 #[.slice A1 a1.length c1] rfl (by kernel_rfl) rfl (by kernel_rfl) ?_
          refine (vLive2_any A1 c1 a1 _ (H1.out.gr ((F3.out.tr G4.out).tr hSS)) (by omega)).mono ?_
          rintro e wc ⟨⟨u, rfl, ho⟩, hgc⟩
          obtain ⟨Ax, nx, cx, rfl, hnl, hab⟩ := ho.shp2
          subst hnl
          replace hSS := hSS.tr hgc
          replace hnw := hnw.gr hgc
          refine ⟨_, rfl, fun _ => hSS, ?_⟩
          simp only [Act.put, List.setIfInBounds_toArray, List.set_cons_zero, List.set_cons_succ]
          refine anyT_take (i := 5) (v := ?_) (some 21) rfl rfl (by kernel_rfl) (fun _ _ _ h => h) (Or.inl ⟨by rfl, ?_⟩) hSS ?_
          rotate_left
          · intro w' hSw; go_simp; (try with_reducible rfl)
          simp only [Act.put, List.setIfInBounds_toArray, List.set_cons_zero, List.set_cons_succ]
          have hov := ho.set hlb 0 [.slice Ax (liveL a1).length cx, .slice B1 k1.length d1]
          have hfin := hSS.kcells (b := gB) hsB 0 [.slice Ax (liveL a1).length cx, .slice B1 k1.length d1]
          refine anyT_store 31 (.tmp 6) (.tmp 21) (by kernel_rfl) (by kernel_rfl) rfl rfl rfl rfl gB 0 #[.slice Ax (liveL a1).length cx, .slice B1 k1.length d1] rfl rfl (nx_there hnw) (by kernel_rfl) (by simp [Value.oneCell']) ?_
          have hnx := nx_store (A := Ax) (n := (liveL a1).length) (c := cx) (B := B1) (m := k1.length) (d := d1) hnw
          obtain ⟨A2', c2', e2, _, hv2⟩ := hov.vers (fun x hx => ((H1.out.gr ((F3.out.tr G4.out).tr hfin)).oks x (List.mem_filter.1 hx).1))
          cases e2
          have HV2 := Lib.hid hv2
          have HNX := Lib.hid hnx
          have HF := Lib.hid hfin
          clear hv2 hnx hfin hov hnw hga ho hSS hgc hlb hsB hgB
          generalize wc.setCells gB 0 [.slice Ax (liveL a1).length cx, .slice B1 k1.length d1] = wf at HV2 HNX HF ⊢
          go_wp2
          go_meet
          exact ⟨gB, _, _, rfl, HNX, HV2, HF⟩
      case rest =>
        obtain ⟨bx, Ax, cx, rfl, HX, HVX, HGX⟩ := hcut
        have S1 := Lib.hid (nSame2_any A' Ax B' B1 c' cx d' d1 (liveL a1) (liveL a1) k1 k1)
        have hss : (vsames (liveL a1) (liveL a1) && decide (k1 = k1)) = true := by rw [vsames_refl]; simp
        rw [hss] at S1
        obtain ⟨vs, hvs⟩ : ∃ v, (vsames a1 a2 && decide (k1 = k2)) = v := ⟨_, rfl⟩
        have S2 := Lib.hid (nSame_any A1 A2 B1 B2 c1 c2 d1 d2 a1 a2 k1 k2)
        have S3 := Lib.hid (nSame2_any A1 A2 B1 B2 c1 c2 d1 d2 a1 a2 k1 k2)
        rw [hvs] at S2 S3
        have S4 := Lib.hid (nEmpty_any A1 B1 c1 d1 a1 k1)
        have HF := Lib.hid ((F3.out.tr G4.out).tr HGX.out)
        have HV' := Lib.hid ((HV.out.gr G4.out).gr HGX.out)
        have HK' := Lib.hid ((HK.out.gr G4.out).gr HGX.out)
        have x1 := Lib.hid ((P1b.out.gr G4.out).gr HGX.out)
        have x2 := Lib.hid ((P2b.out.gr G4.out).gr HGX.out)
        have x3 := Lib.hid (X4.out.gr HGX.out)
        have GD : Gr wc wc.drew := (Gr.rfl' _).dr
        clear hvs hss P1b P2b X4 G4 HGX F3 HV HK
        obtain ⟨z1, hz1⟩ : ∃ z, ((a1.length : Int) == 0) = z := ⟨_, rfl⟩
        obtain ⟨z2, hz2⟩ : ∃ z, ((k1.length : Int) == 0) = z := ⟨_, rfl⟩
        rw [hz1, hz2] at S4
        go_upto_region 5 with (fail)
        cases z1
        · skip
          have xk0 := Lib.hid x1.out.c0
          have xk1 := Lib.hid x1.out.c1
          have yk0 := Lib.hid x2.out.c0
          have yk1 := Lib.hid x2.out.c1
          have zk0 := Lib.hid x3.out.c0
          have zk1 := Lib.hid x3.out.c1
          have vk0 := Lib.hid HX.out.c0
          have vk1 := Lib.hid HX.out.c1
          have hSS := GD
          refine region_T 30 (fun w' => Gr wc w') (by kernel_rfl) ?_
          refine anyT_take (i := 0) (v := ?_) (some 22) rfl rfl (by kernel_rfl) (fun _ _ _ h => h) (Or.inl ⟨by rfl, ?_⟩) hSS ?_
          rotate_left
          · intro w' hSw; have q0 := hSw.cell zk0.out; have q1 := hSw.cell zk1.out; go_simp; (try with_reducible rfl)
          simp only [Act.put, List.setIfInBounds_toArray, List.set_cons_zero, List.set_cons_succ]
          refine anyT_take (i := 1) (v := ?_) (some 23) rfl rfl (by kernel_rfl) (fun _ _ _ h => h) (Or.inl ⟨by rfl, ?_⟩) hSS ?_
          rotate_left
          · intro w' hSw; have q0 := hSw.cell vk0.out; have q1 := hSw.cell vk1.out; go_simp; (try with_reducible rfl)
          simp only [Act.put, List.setIfInBounds_toArray, List.set_cons_zero, List.set_cons_succ]
          refine anyT_callG (i := 2) (some 24) 26 #[.agg #[.slice A' (liveL a1).length c', .slice B' k1.length d'], .agg #[.slice Ax (liveL a1).length cx, .slice B1 k1.length d1]] (by kernel_rfl) rfl (by kernel_rfl) rfl (by kernel_rfl) ?_
          refine (S1.out _ (HV'.out.gr hSS) (HVX.out.gr hSS) (HK'.out.gr hSS) (H3.out.gr (HF.out.tr hSS))).mono ?_
          rintro e wd ⟨rfl, hgd⟩
          replace hSS := hSS.tr hgd
          refine ⟨_, rfl, fun _ => hSS, ?_⟩
          simp only [Act.put, List.setIfInBounds_toArray, List.set_cons_zero, List.set_cons_succ]
          clear hgd
          refine anyT_take (i := 3) (v := ?_) (some 25) rfl rfl (by kernel_rfl) (fun _ _ _ h => h) (Or.inl ⟨by rfl, ?_⟩) hSS ?_
          rotate_left
          · intro w' hSw; go_simp; (try with_reducible rfl)
          simp only [Act.put, List.setIfInBounds_toArray, List.set_cons_zero, List.set_cons_succ]
          refine anyT_take (i := 4) (v := ?_) (some 26) rfl rfl (by kernel_rfl) (fun _ _ _ h => h) (Or.inl ⟨by rfl, ?_⟩) hSS ?_
          rotate_left
          · intro w' hSw; have q0 := hSw.cell xk0.out; have q1 := hSw.cell xk1.out; go_simp; (try with_reducible rfl)
          simp only [Act.put, List.setIfInBounds_toArray, List.set_cons_zero, List.set_cons_succ]
          refine anyT_take (i := 5) (v := ?_) (some 27) rfl rfl (by kernel_rfl) (fun _ _ _ h => h) (Or.inl ⟨by rfl, ?_⟩) hSS ?_
          rotate_left
          · intro w' hSw; have q0 := hSw.cell yk0.out; have q1 := hSw.cell yk1.out; go_simp; (try with_reducible rfl)
          simp only [Act.put, List.setIfInBounds_toArray, List.set_cons_zero, List.set_cons_succ]
          refine anyT_take (i := 7) (v := ?_) (some 29) rfl rfl (by kernel_rfl) (fun _ _ _ h => h) (Or.inl ⟨by rfl, ?_⟩) hSS ?_
          rotate_left
          · intro w' hSw; have q0 := hSw.cell xk0.out; have q1 := hSw.cell xk1.out; go_simp; (try with_reducible rfl)
          simp only [Act.put, List.setIfInBounds_toArray, List.set_cons_zero, List.set_cons_succ]
          refine anyT_take (i := 8) (v := ?_) (some 30) rfl rfl (by kernel_rfl) (fun _ _ _ h => h) (Or.inl ⟨by rfl, ?_⟩) hSS ?_
          rotate_left
          · intro w' hSw; have q0 := hSw.cell yk0.out; have q1 := hSw.cell yk1.out; go_simp; (try with_reducible rfl)
          simp only [Act.put, List.setIfInBounds_toArray, List.set_cons_zero, List.set_cons_succ]
          refine anyT_callG (i := 6) (some 28) 27 #[.agg #[.slice A1 a1.length c1, .slice B1 k1.length d1], .agg #[.slice A2 a2.length c2, .slice B2 k2.length d2]] (by kernel_rfl) rfl (by kernel_rfl) rfl (by kernel_rfl) ?_
          refine (S2.out _ (H1.out.gr (HF.out.tr hSS)) (H2.out.gr (HF.out.tr hSS)) (H3.out.gr (HF.out.tr hSS)) (H4.out.gr (HF.out.tr hSS))).mono ?_
          rintro e wd ⟨rfl, hgd⟩
          replace hSS := hSS.tr hgd
          refine ⟨_, rfl, fun _ => hSS, ?_⟩
          simp only [Act.put, List.setIfInBounds_toArray, List.set_cons_zero, List.set_cons_succ]
          clear hgd
          refine anyT_callG (i := 9) (some 31) 26 #[.agg #[.slice A1 a1.length c1, .slice B1 k1.length d1], .agg #[.slice A2 a2.length c2, .slice B2 k2.length d2]] (by kernel_rfl) rfl (by kernel_rfl) rfl (by kernel_rfl) ?_
          refine (S3.out _ (H1.out.gr (HF.out.tr hSS)) (H2.out.gr (HF.out.tr hSS)) (H3.out.gr (HF.out.tr hSS)) (H4.out.gr (HF.out.tr hSS))).mono ?_
          rintro e wd ⟨rfl, hgd⟩
          replace hSS := hSS.tr hgd
          refine ⟨_, rfl, fun _ => hSS, ?_⟩
          simp only [Act.put, List.setIfInBounds_toArray, List.set_cons_zero, List.set_cons_succ]
          clear hgd
          have hsf : (vs == vs) = true := by simp
          refine anyT_take (i := 10) (v := ?_) (some 32) rfl rfl (by kernel_rfl) (fun _ _ _ h => h) (Or.inl ⟨by rfl, ?_⟩) hSS ?_
          rotate_left
          · intro w' hSw; go_simp; (try with_reducible rfl)
          simp only [Act.put, List.setIfInBounds_toArray, List.set_cons_zero, List.set_cons_succ]
          refine anyT_take (i := 11) (v := ?_) (some 33) rfl rfl (by kernel_rfl) (fun _ _ _ h => h) (Or.inl ⟨by rfl, ?_⟩) hSS ?_
          rotate_left
          · intro w' hSw; go_simp; (try with_reducible rfl)
          simp only [Act.put, List.setIfInBounds_toArray, List.set_cons_zero, List.set_cons_succ]
          refine anyT_take (i := 12) (v := ?_) (some 34) rfl rfl (by kernel_rfl) (fun _ _ _ h => h) (Or.inl ⟨by rfl, ?_⟩) hSS ?_
          rotate_left
          · intro w' hSw; go_simp; (try with_reducible rfl)
          simp only [Act.put, List.setIfInBounds_toArray, List.set_cons_zero, List.set_cons_succ]
          refine anyT_take (i := 13) (v := ?_) (some 35) rfl rfl (by kernel_rfl) (fun _ _ _ h => h) (Or.inl ⟨by rfl, ?_⟩) hSS ?_
          rotate_left
          · intro w' hSw; have q0 := hSw.cell xk0.out; have q1 := hSw.cell xk1.out; go_simp; (try with_reducible rfl)
          simp only [Act.put, List.setIfInBounds_toArray, List.set_cons_zero, List.set_cons_succ]
          refine anyT_take (i := 15) (v := ?_) (some 37) rfl rfl (by kernel_rfl) (fun _ _ _ h => h) (Or.inl ⟨by rfl, ?_⟩) hSS ?_
          rotate_left
          · intro w' hSw; go_simp; (try with_reducible rfl)
          simp only [Act.put, List.setIfInBounds_toArray, List.set_cons_zero, List.set_cons_succ]
          refine anyT_take (i := 16) (v := ?_) (some 38) rfl rfl (by kernel_rfl) (fun _ _ _ h => h) (Or.inl ⟨by rfl, ?_⟩) hSS ?_
          rotate_left
          · intro w' hSw; have q0 := hSw.cell xk0.out; go_simp; (try with_reducible rfl)
          simp only [Act.put, List.setIfInBounds_toArray, List.set_cons_zero, List.set_cons_succ]
          refine anyT_take (i := 17) (v := ?_) (some 39) rfl rfl (by kernel_rfl) (fun _ _ _ h => h) (Or.inl ⟨by rfl, ?_⟩) hSS ?_
          rotate_left
          · intro w' hSw; go_simp; (try with_reducible rfl)
          simp only [Act.put, List.setIfInBounds_toArray, List.set_cons_zero, List.set_cons_succ]
          refine anyT_take (i := 18) (v := ?_) (some 40) rfl rfl (by kernel_rfl) (fun _ _ _ h => h) (Or.inl ⟨by rfl, ?_⟩) hSS ?_
          rotate_left
          · intro w' hSw; go_simp; (try with_reducible rfl)
          simp only [Act.put, List.setIfInBounds_toArray, List.set_cons_zero, List.set_cons_succ]
          refine anyT_callG (i := 14) (some 36) 28 #[.agg #[.slice A1 a1.length c1, .slice B1 k1.length d1]] (by kernel_rfl) rfl (by kernel_rfl) rfl (by kernel_rfl) ?_
          refine (S4.out _).mono ?_
          rintro e wd ⟨rfl, hgd⟩
          replace hSS := hSS.tr hgd
          refine ⟨_, rfl, fun _ => hSS, ?_⟩
          simp only [Act.put, List.setIfInBounds_toArray, List.set_cons_zero, List.set_cons_succ]
          clear hgd
          refine anyT_take (i := 19) (v := ?_) (some 41) rfl rfl (by kernel_rfl) (fun _ _ _ h => h) (Or.inl ⟨by rfl, ?_⟩) hSS ?_
          rotate_left
          · intro w' hSw; go_simp; (try with_reducible rfl)
          simp only [Act.put, List.setIfInBounds_toArray, List.set_cons_zero, List.set_cons_succ]
          refine anyT_take (i := 20) (v := undef) (some 42) rfl rfl (by kernel_rfl) (fun _ _ _ h => h) (Or.inr ⟨by rfl, rfl⟩) hSS ?_
          simp only [Act.put, List.setIfInBounds_toArray, List.set_cons_zero, List.set_cons_succ]
          refine anyT_take (i := 21) (v := undef) (some 43) rfl rfl (by kernel_rfl) (fun _ _ _ h => h) (Or.inr ⟨by rfl, rfl⟩) hSS ?_
          simp only [Act.put, List.setIfInBounds_toArray, List.set_cons_zero, List.set_cons_succ]
          refine anyT_take (i := 22) (v := undef) (some 44) rfl rfl (by kernel_rfl) (fun _ _ _ h => h) (Or.inr ⟨by rfl, rfl⟩) hSS ?_
          simp only [Act.put, List.setIfInBounds_toArray, List.set_cons_zero, List.set_cons_succ]
          refine anyT_take (i := 23) (v := undef) (some 45) rfl rfl (by kernel_rfl) (fun _ _ _ h => h) (Or.inr ⟨by rfl, rfl⟩) hSS ?_
          simp only [Act.put, List.setIfInBounds_toArray, List.set_cons_zero, List.set_cons_succ]
          refine anyT_take (i := 24) (v := ?_) (some 46) rfl rfl (by kernel_rfl) (fun _ _ _ h => h) (Or.inl ⟨by rfl, ?_⟩) hSS ?_
          rotate_left
          · intro w' hSw; go_simp; (try with_reducible rfl)
          simp only [Act.put, List.setIfInBounds_toArray, List.set_cons_zero, List.set_cons_succ]
          refine anyT_take (i := 25) (v := ?_) (some 47) rfl rfl (by kernel_rfl) (fun _ _ _ h => h) (Or.inl ⟨by rfl, ?_⟩) hSS ?_
          rotate_left
          · intro w' hSw; go_simp; (try with_reducible rfl)
          simp only [Act.put, List.setIfInBounds_toArray, List.set_cons_zero, List.set_cons_succ]
          refine anyT_take (i := 26) (v := ?_) (some 48) rfl rfl (by kernel_rfl) (fun _ _ _ h => h) (Or.inl ⟨by rfl, ?_⟩) hSS ?_
          rotate_left
          · intro w' hSw; go_simp; (try with_reducible rfl)
          simp only [Act.put, List.setIfInBounds_toArray, List.set_cons_zero, List.set_cons_succ]
          refine anyT_take (i := 27) (v := ?_) (some 49) rfl rfl (by kernel_rfl) (fun _ _ _ h => h) (Or.inl ⟨by rfl, ?_⟩) hSS ?_
          rotate_left
          · intro w' hSw; go_simp; (try with_reducible rfl)
          simp only [Act.put, List.setIfInBounds_toArray, List.set_cons_zero, List.set_cons_succ]
          refine anyT_callG (i := 28) (some 50) 23 #[] (by kernel_rfl) rfl (by kernel_rfl) rfl (by kernel_rfl) ?_
          refine (nAwake_any _).mono ?_
          rintro e wd ⟨rfl, hgd⟩
          replace hSS := hSS.tr hgd
          refine ⟨_, rfl, fun _ => hSS, ?_⟩
          simp only [Act.put, List.setIfInBounds_toArray, List.set_cons_zero, List.set_cons_succ]
          clear hgd
          refine anyT_take (i := 29) (v := ?_) (some 51) rfl rfl (by kernel_rfl) (fun _ _ _ h => h) (Or.inl ⟨by rfl, ?_⟩) hSS ?_
          rotate_left
          · intro w' hSw; go_simp; (try with_reducible rfl)
          simp only [Act.put, List.setIfInBounds_toArray, List.set_cons_zero, List.set_cons_succ]
          refine anyT_last (some 4) (.bool true) (by kernel_rfl) (by kernel_rfl) rfl (by kernel_rfl) rfl (by kernel_rfl) ?_
          simp only [Act.put, List.setIfInBounds_toArray, List.set_cons_zero, List.set_cons_succ]
          replace GD := hSS
          go_wp2
          go_ret
          exact ⟨rfl, HF.out.tr GD⟩
        · cases z2
          · skip
            first | go_region_held3 (fun w' => w'.cell? ⟨w.heap.size, 0, none⟩ = some (.slice A1 a1.length c1) ∧ w'.cell? ⟨w.heap.size, 1, none⟩ = some (.slice B1 k1.length d1) ∧ w'.cell? ⟨w.heap.size + 1, 0, none⟩ = some (.slice A2 a2.length c2) ∧ w'.cell? ⟨w.heap.size + 1, 1, none⟩ = some (.slice B2 k2.length d2) ∧ w'.cell? ⟨gX, 0, none⟩ = some (.slice A' (liveL a1).length c') ∧ w'.cell? ⟨gX, 1, none⟩ = some (.slice B' k1.length d') ∧ w'.cell? ⟨bx, 0, none⟩ = some (.slice Ax (liveL a1).length cx) ∧ w'.cell? ⟨bx, 1, none⟩ = some (.slice B1 k1.length d1)) (exact (have y1 := x1.out.gr GD; have y2 := x2.out.gr GD; have y3 := x3.out.gr GD; have y4 := HX.out.gr GD; ⟨y1.c0, y1.c1, y2.c0, y2.c1, y3.c0, y3.c1, y4.c0, y4.c1⟩)) (first
              | (go_at_call 26; refine (S1.out _ (HV'.out.gr GD) (HVX.out.gr GD) (HK'.out.gr GD) (H3.out.gr (HF.out.tr GD))).mono ?_; rintro r wd ⟨rfl, hgd⟩; replace GD := GD.tr hgd; clear hgd S1)
              | (go_at_call 27; refine (S2.out _ (H1.out.gr (HF.out.tr GD)) (H2.out.gr (HF.out.tr GD)) (H3.out.gr (HF.out.tr GD)) (H4.out.gr (HF.out.tr GD))).mono ?_; rintro r wd ⟨rfl, hgd⟩; replace GD := GD.tr hgd; clear hgd S2)
              | (go_at_call 26; refine (S3.out _ (H1.out.gr (HF.out.tr GD)) (H2.out.gr (HF.out.tr GD)) (H3.out.gr (HF.out.tr GD)) (H4.out.gr (HF.out.tr GD))).mono ?_; rintro r wd ⟨rfl, hgd⟩; replace GD := GD.tr hgd; clear hgd S3)
              | (go_at_call 28; refine (S4.out _).mono ?_; rintro r wd ⟨rfl, hgd⟩; replace GD := GD.tr hgd; clear hgd S4)
              | (go_at_call 23; refine (nAwake_any _).mono ?_; rintro r wd ⟨rfl, hgd⟩; replace GD := GD.tr hgd; clear hgd)) | fail "held5"
            go_wp2
            go_ret
            exact ⟨rfl, HF.out.tr GD⟩
          · skip
            first | go_region_held3 (fun w' => w'.cell? ⟨w.heap.size, 0, none⟩ = some (.slice A1 a1.length c1) ∧ w'.cell? ⟨w.heap.size, 1, none⟩ = some (.slice B1 k1.length d1) ∧ w'.cell? ⟨w.heap.size + 1, 0, none⟩ = some (.slice A2 a2.length c2) ∧ w'.cell? ⟨w.heap.size + 1, 1, none⟩ = some (.slice B2 k2.length d2) ∧ w'.cell? ⟨gX, 0, none⟩ = some (.slice A' (liveL a1).length c') ∧ w'.cell? ⟨gX, 1, none⟩ = some (.slice B' k1.length d') ∧ w'.cell? ⟨bx, 0, none⟩ = some (.slice Ax (liveL a1).length cx) ∧ w'.cell? ⟨bx, 1, none⟩ = some (.slice B1 k1.length d1)) (exact (have y1 := x1.out.gr GD; have y2 := x2.out.gr GD; have y3 := x3.out.gr GD; have y4 := HX.out.gr GD; ⟨y1.c0, y1.c1, y2.c0, y2.c1, y3.c0, y3.c1, y4.c0, y4.c1⟩)) (first
              | (go_at_call 26; refine (S1.out _ (HV'.out.gr GD) (HVX.out.gr GD) (HK'.out.gr GD) (H3.out.gr (HF.out.tr GD))).mono ?_; rintro r wd ⟨rfl, hgd⟩; replace GD := GD.tr hgd; clear hgd S1)
              | (go_at_call 27; refine (S2.out _ (H1.out.gr (HF.out.tr GD)) (H2.out.gr (HF.out.tr GD)) (H3.out.gr (HF.out.tr GD)) (H4.out.gr (HF.out.tr GD))).mono ?_; rintro r wd ⟨rfl, hgd⟩; replace GD := GD.tr hgd; clear hgd S2)
              | (go_at_call 26; refine (S3.out _ (H1.out.gr (HF.out.tr GD)) (H2.out.gr (HF.out.tr GD)) (H3.out.gr (HF.out.tr GD)) (H4.out.gr (HF.out.tr GD))).mono ?_; rintro r wd ⟨rfl, hgd⟩; replace GD := GD.tr hgd; clear hgd S3)
              | (go_at_call 28; refine (S4.out _).mono ?_; rintro r wd ⟨rfl, hgd⟩; replace GD := GD.tr hgd; clear hgd S4)
              | (go_at_call 23; refine (nAwake_any _).mono ?_; rintro r wd ⟨rfl, hgd⟩; replace GD := GD.tr hgd; clear hgd)) | fail "held5"
            go_wp2
            go_ret
            exact ⟨rfl, HF.out.tr GD⟩
    · go_wp2_with fail
      refine (nAwake_any _).mono ?_
      rintro r w3 ⟨rfl, g3⟩
      go_wp2
      go_ret
      exact ⟨rfl, (F1.out.tr g2).tr g3⟩
  · go_wp2_with fail
    refine (nAwake_any _).mono ?_
    rintro r w3 ⟨rfl, g3⟩
    go_wp2
    go_ret
    exact ⟨rfl, (G1.out.tr g1).tr g3⟩
end Go.Proofs.Ytfobnemocodomaa
