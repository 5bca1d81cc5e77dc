/- message's taker, method by method. -/
import Derived.Test.YtfobnemocodomaaGreatZMrA
import Derived.Test.YtfobnemocodomaaGreatZBr
set_option linter.unusedVariables false
set_option linter.unusedSimpArgs false
set_option maxHeartbeats 4000000
namespace Go.Proofs.YtfobnemocodomaaGreat
open Go.RowKit Go.Shelf Go.Great

theorem dgM_szM (S : ByteArray) (e : Int) : (dgM S e).2.1.size ≤ S.size := by
  unfold dgM
  split
  · exact Nat.le_refl _
  · split
    · exact Nat.le_refl _
    · exact cutB_szR _ _
/-- a reader in block b, a message in the making in block g -/
structure TK (t : TypeId) (w0 : World) (b B g : Nat) (x : Mx) (s : Rst) (w : World) : Prop where
  rd : Sr t b s.1 s.2 w
  sz : s.1.size ≤ 9223372036854775807
  ms : MRd w B g x
  hb : b < B
  hg : g < B
  ne : g ≠ b
  B : B ≤ w.heap.size
  gr : Gr w0 w
  b0 : w0.heap.size ≤ b
  g0 : w0.heap.size ≤ g
theorem TK.take {t : TypeId} {w0 w w' : World} {b B g : Nat} {x : Mx} {s s' : Rst} (h : TK t w0 b B g x s w) (hs : Sr t b s'.1 s'.2 w') (hz : s'.1.size ≤ s.1.size) (m : Rm b w w') : TK t w0 b B g x s' w' :=
  ⟨hs, Nat.le_trans hz h.sz, h.ms.rm m h.hb h.ne, h.hb, h.hg, h.ne, Nat.le_trans h.B m.size, m.below h.gr h.b0, h.b0, h.g0⟩
theorem TK.more {t : TypeId} {w0 w w' : World} {b B g : Nat} {x : Mx} {s : Rst} (h : TK t w0 b B g x s w) (k : Gr w w') : TK t w0 b B g x s w' :=
  ⟨(k.block b (Array.getElem?_eq_some_iff.1 h.rd).1).trans h.rd, h.sz, h.ms.gr k, h.hb, h.hg, h.ne, Nat.le_trans h.B k.size, h.gr.tr k, h.b0, h.g0⟩
theorem TK.turn {t : TypeId} {w0 w w' : World} {b B g : Nat} {x y : Mx} {s : Rst} (h : TK t w0 b B g x s w) (m : Rm g w w') (hy : MRd w' B g y) : TK t w0 b B g y s w' :=
  ⟨(m.keep b (Array.getElem?_eq_some_iff.1 h.rd).1 (Ne.symm h.ne)).trans h.rd, h.sz, hy, h.hb, h.hg, h.ne, Nat.le_trans h.B m.size, m.below h.gr h.g0, h.b0, h.g0⟩
theorem set1 (x : Mx) (n : Int) : x.cells.setIfInBounds 1 (.int .i64 n) = ({ x with F := n } : Mx).cells := by
  have hz : ({ x with F := n } : Mx).list = x.list.set 1 (.int .i64 n) := by unfold Mx.list; rfl
  unfold Mx.cells; rw [hz]; simp
theorem set2 (x : Mx) (n : Int) : x.cells.setIfInBounds 2 (.int .i64 n) = ({ x with To := n } : Mx).cells := by
  have hz : ({ x with To := n } : Mx).list = x.list.set 2 (.int .i64 n) := by unfold Mx.list; rfl
  unfold Mx.cells; rw [hz]; simp
theorem set3 (x : Mx) (n : Int) : x.cells.setIfInBounds 3 (.int .i64 n) = ({ x with Sd := n } : Mx).cells := by
  have hz : ({ x with Sd := n } : Mx).list = x.list.set 3 (.int .i64 n) := by unfold Mx.list; rfl
  unfold Mx.cells; rw [hz]; simp
section
variable {t : TypeId} {w0 w : World} {b B g : Nat} {x : Mx} {s : Rst}
theorem TK.setF (h : TK t w0 b B g x s w) (n : Int) : TK t w0 b B g { x with F := n } s (w.setCell ⟨g, 1, none⟩ (.int .i64 n)) :=
  h.turn (rm_set g 1 _ w) (h.ms.turn (rm_set g 1 _ w) h.hg (set_field h.ms.lies (set1 x n)) h.ms.dig h.ms.pa h.ms.tx rfl rfl rfl rfl rfl rfl)
theorem TK.setTo (h : TK t w0 b B g x s w) (n : Int) : TK t w0 b B g { x with To := n } s (w.setCell ⟨g, 2, none⟩ (.int .i64 n)) :=
  h.turn (rm_set g 2 _ w) (h.ms.turn (rm_set g 2 _ w) h.hg (set_field h.ms.lies (set2 x n)) h.ms.dig h.ms.pa h.ms.tx rfl rfl rfl rfl rfl rfl)
theorem TK.setSd (h : TK t w0 b B g x s w) (n : Int) : TK t w0 b B g { x with Sd := n } s (w.setCell ⟨g, 3, none⟩ (.int .i64 n)) :=
  h.turn (rm_set g 3 _ w) (h.ms.turn (rm_set g 3 _ w) h.hg (set_field h.ms.lies (set3 x n)) h.ms.dig h.ms.pa h.ms.tx rfl rfl rfl rfl rfl rfl)
theorem TK.setTn (h : TK t w0 b B g x s w) (n : Bool) : TK t w0 b B g { x with Tn := n } s (w.setCell ⟨g, 4, none⟩ (.bool n)) :=
  h.turn (rm_set g 4 _ w) (h.ms.turn (rm_set g 4 _ w) h.hg (set_field h.ms.lies (set4 x n)) h.ms.dig h.ms.pa h.ms.tx rfl rfl rfl rfl rfl rfl)
theorem TK.setPa (h : TK t w0 b B g x s w) (p : ByteArray) (hp : p.size ≤ 9223372036854775807) : TK t w0 b B g { x with Pa := p } s (w.setCell ⟨g, 5, none⟩ (.string p)) :=
  h.turn (rm_set g 5 _ w) (h.ms.turn (rm_set g 5 _ w) h.hg (set_field h.ms.lies (set5 x p)) h.ms.dig hp h.ms.tx rfl rfl rfl rfl rfl rfl)
theorem TK.setTx (h : TK t w0 b B g x s w) (p : ByteArray) (hp : p.size ≤ 9223372036854775807) : TK t w0 b B g { x with Tx := p } s (w.setCell ⟨g, 40, none⟩ (.string p)) :=
  h.turn (rm_set g 40 _ w) (h.ms.turn (rm_set g 40 _ w) h.hg (set_field h.ms.lies (set40 x h.ms.dig p)) h.ms.dig h.ms.pa hp rfl rfl rfl rfl rfl rfl)
theorem rm_cells (g o : Nat) (vs : List Value) (w : World) : Rm g w (w.setCells g o vs) := ⟨(rg_os _ _ _).1, (rg_os _ _ _).2.1, (rg_os _ _ _).2.2, by rw [rg_size]; exact Nat.le_refl _, fun k _ hk => rg_other hk _ _ _⟩
theorem TK.setR (h : TK t w0 b B g x s w) (D : List UInt8) (hD : D.length = 32) : TK t w0 b B g { x with R := D } s (w.setCells g 6 (digC D).toList) :=
  h.turn (rm_cells g 6 _ w) (h.ms.turn (rm_cells g 6 _ w) h.hg (set6 h.ms.lies h.ms.dig D hD) hD h.ms.pa h.ms.tx rfl rfl rfl rfl rfl rfl)
theorem TK.there (h : TK t w0 b B g x s w) (D : List UInt8) (hD : D.length = 32) : w.there g 6 (digC D).size := fun q hq => by
  have hq' : q < 32 := by rw [digC_size, hD] at hq; exact hq
  have hsz : 6 + q < x.cells.size := by rw [Mx.size x h.ms.dig]; omega
  have hb := h.ms.lies
  refine ⟨?_, by simp [World.frozen?, hb]⟩
  simp only [World.cell?, hb]
  rw [Array.getElem?_eq_getElem hsz]; rfl
theorem TK.setC (h : TK t w0 b B g x s w) {A : Option Addr} {l : List Dot} {c : Nat} (hd : Dots w A l) (hc : l.length ≤ c) (hn : ∀ D, A = some D → B ≤ D.block) (hr : x.rA = none) : TK t w0 b B g { x with cA := A, cl := l, cc := c } s (w.setCell ⟨g, 38, none⟩ (.slice A l.length c)) :=
  h.turn (rm_set g 38 _ w) ⟨set_field h.ms.lies (set38 x h.ms.dig A l c), h.ms.dig, h.ms.pa, h.ms.tx, hd.rmR (rm_set g 38 _ w) (fun D hD => by have := hn D hD; have := h.hg; omega), hc, hn, h.ms.rows.rm (rm_set g 38 _ w) h.hg, fun D hD => by have e : x.rA = some D := hD; rw [hr] at e; cases e⟩
/-- one row more, in the message -/
theorem TK.push (h : TK t w0 b B g x s w) {d : DRow} (hd : Dots w d.A d.l) (hdc : d.l.length ≤ d.cap) (hdn : ∀ D, d.A = some D → B ≤ D.block) (hoff : ∀ D, x.rA = some D → OfD D.block d) (hl : x.rs.length ≤ 1000000) (ty : TypeId) :
    ∃ (c : Option Addr × Nat) (w3 : World), (Builtin.append_ #[35, 35] ty #[.slice x.rA x.rs.length x.rc, .slice (some ⟨w.heap.size, 0, none⟩) 1 1]).run Tryz.prog (w.alloc (.cells #[rowVal d] 34)) = .ok (.slice c.1 (x.rs ++ [d]).length c.2) w3 ∧
      (w3.cell? ⟨g, 39, none⟩ = some (.slice x.rA x.rs.length x.rc) ∧ w3.frozen? ⟨g, 39, none⟩ = false) ∧
      TK t w0 b B g { x with rA := c.1, rs := x.rs ++ [d], rc := c.2 } s (w3.setCell ⟨g, 39, none⟩ (.slice c.1 (x.rs ++ [d]).length c.2)) ∧
      ∀ (k : Nat) (cs : Array Value) (T : TypeId), w.heap[k]? = some (.cells cs T (0, 0)) → T ≠ 34 → w3.heap[k]? = some (.cells cs T (0, 0)) := by
  have hga : Gr w (w.alloc (.cells #[rowVal d] 34)) := (Gr.rfl' w).al _
  obtain ⟨c, w3, g0, hr, hw, hgr, hg0, g', hc', hg'⟩ := h.ms.rows.push hd hdc hdn (fun g2 c0 e => hoff _ (Value.slice.inj e).1) h.B hl ty
  have hbk : ∀ k, k < w.heap.size → some k ≠ g0 → w3.heap[k]? = w.heap[k]? := fun k hk hn => (hgr.block k (by have := hga.size; omega) hn).trans (hga.block k hk)
  have hgb : some g ≠ g0 := fun e => by have := (hg0 g e.symm).1; have := h.hg; omega
  have hbb : some b ≠ g0 := fun e => by have := (hg0 b e.symm).1; have := h.hb; omega
  have hgl := (Array.getElem?_eq_some_iff.1 h.ms.lies).1
  have hbl := (Array.getElem?_eq_some_iff.1 h.rd).1
  have hM3 : MAt w3 g x := (hbk g hgl hgb).trans h.ms.lies
  have hsz3 : w.heap.size ≤ w3.heap.size := Nat.le_trans hga.size hgr.size
  have hx3 : Dots w3 x.cA x.cl := (h.ms.ctx.gr hga).gwR hgr (fun hp D hD e => by
    obtain ⟨_, _, _, c0, e0⟩ := hg0 D.block e.symm
    have e1 : x.rA = some ⟨D.block, 0, none⟩ := (Value.slice.inj e0).1
    exact h.ms.off _ e1 hp D hD rfl)
  have hG3 : Gr w0 w3 := by
    have h1 : Gr w0 (w.alloc (.cells #[rowVal d] 34)) := h.gr.tr hga
    exact ⟨hgr.os.trans h1.os, hgr.tape.trans h1.tape, hgr.output.trans h1.output, Nat.le_trans h1.size hgr.size, fun k hk => (hgr.block k (by have := h1.size; omega) (fun e => by have := (hg0 k e.symm).1; have := h.b0; have := h.hb; omega)).trans (h1.block k hk)⟩
  refine ⟨c, w3, hr, ⟨(mxAt hM3 h.ms.dig).c39, mat_frz hM3 39⟩, ?_, ?_⟩
  · have hm : Rm g w3 (w3.setCell ⟨g, 39, none⟩ (.slice c.1 (x.rs ++ [d]).length c.2)) := rm_set g 39 _ w3
    refine ⟨(hm.keep b (by omega) (Ne.symm h.ne)).trans ((hbk b hbl hbb).trans h.rd), h.sz, ⟨set_field hM3 (set39 x h.ms.dig c.1 (x.rs ++ [d]) c.2), h.ms.dig, h.ms.pa, h.ms.tx, hx3.rmR hm (fun D hD => by have := h.ms.cnew D hD; have := h.hg; omega), h.ms.cc, h.ms.cnew, hw.rm hm h.hg, fun D hD => ?_⟩, h.hb, h.hg, h.ne, Nat.le_trans h.B (Nat.le_trans hsz3 hm.size), hm.below hG3 h.g0, h.b0, h.g0⟩
    have hD' : c.1 = some D := hD
    rw [hc'] at hD'
    cases hD'
    rcases hg' with e | e
    · obtain ⟨_, _, _, c0, e0⟩ := hg0 g' e
      have e1 : x.rA = some ⟨g', 0, none⟩ := (Value.slice.inj e0).1
      exact h.ms.off _ e1
    · exact OfD.ofNew (d := ⟨x.cA, x.cc, x.cl⟩) h.ms.ctx e
  · intro k cs T hk hT
    refine (hbk k (Array.getElem?_eq_some_iff.1 hk).1 (fun e => ?_)).trans hk
    obtain ⟨_, _, ⟨cs2, h2⟩, _⟩ := hg0 k e.symm
    rw [hk] at h2
    cases h2
    exact hT rfl
end
theorem tRoot (a : Option Addr) : Ifc 73 (.agg #[.pointer a]) (.agg #[.pointer a]) "hearsay/message.root" 171 := ⟨fun _ => by kernel_rfl, fun _ => by kernel_rfl, fun _ _ => by kernel_rfl⟩
theorem tCtx (a : Option Addr) : Ifc 73 (.agg #[.pointer a]) (.agg #[.pointer a]) "hearsay/message.ctx" 169 := ⟨fun _ => by kernel_rfl, fun _ => by kernel_rfl, fun _ _ => by kernel_rfl⟩
theorem tRows (a : Option Addr) : Ifc 73 (.agg #[.pointer a]) (.agg #[.pointer a]) "hearsay/message.rows" 172 := ⟨fun _ => by kernel_rfl, fun _ => by kernel_rfl, fun _ _ => by kernel_rfl⟩
theorem tPath (a : Option Addr) : Ifc 73 (.agg #[.pointer a]) (.agg #[.pointer a]) "hearsay/message.path" 170 := ⟨fun _ => by kernel_rfl, fun _ => by kernel_rfl, fun _ _ => by kernel_rfl⟩
theorem tText (a : Option Addr) : Ifc 73 (.agg #[.pointer a]) (.agg #[.pointer a]) "hearsay/message.text" 173 := ⟨fun _ => by kernel_rfl, fun _ => by kernel_rfl, fun _ _ => by kernel_rfl⟩
theorem tTurn (a : Option Addr) : Ifc 73 (.agg #[.pointer a]) (.agg #[.pointer a]) "hearsay/message.turn" 174 := ⟨fun _ => by kernel_rfl, fun _ => by kernel_rfl, fun _ _ => by kernel_rfl⟩
section
variable {w0 w : World} {b B g : Nat} {x : Mx} {s : Rst}
set_option maxRecDepth 100000 in
theorem tkRoot_any (h : TK 109 w0 b B g x s w) :
    Calls Tryz.prog 171 #[.agg #[.pointer (some ⟨b, 0, none⟩)], .pointer (some ⟨g, 6, none⟩)] w fun r w' => r = .returned (.tuple #[]) ∧ TK 109 w0 b B g { x with R := (dgM s.1 s.2).1 } (dgM s.1 s.2).2 w' := by
  have hg1 : Gr w (w.alloc (.cells #[.pointer (some ⟨b, 0, none⟩)] 73)) := (Gr.rfl' w).al _
  have HT := Lib.hid (h.more hg1)
  have HP := World.alloc_heap_new w (.cells #[.pointer (some ⟨b, 0, none⟩)] 73)
  have cp : (w.alloc (.cells #[.pointer (some ⟨b, 0, none⟩)] 73)).cell? ⟨w.heap.size, 0, none⟩ = some (.pointer (some ⟨b, 0, none⟩)) := by
    simp only [World.cell?, HP]; rfl
  clear h HP hg1
  generalize hW1 : w.alloc (.cells #[.pointer (some ⟨b, 0, none⟩)] 73) = W1 at HT cp
  have HD := Lib.hid (dDigest_any b s.1 s.2 W1 HT.out.rd HT.out.sz)
  have HDL := Lib.hid (dgM_len s.1 s.2)
  have HSZ := Lib.hid (dgM_szM s.1 s.2)
  obtain ⟨D, s', hd⟩ : ∃ D s', dgM s.1 s.2 = (D, s') := ⟨_, _, rfl⟩
  simp only [hd] at HD HDL HSZ ⊢
  clear hd
  go_enter Tryz.func171, Tryz.ntmps171
  go_wp2_with fail
  refine (HD.out).mono ?_
  rintro r w2 ⟨rfl, h2, m2⟩
  have HT2 := Lib.hid (HT.out.take (s' := s') h2 HSZ.out m2)
  clear h2 m2 HD HT cp hW1
  go_wp2_with (first
    | ((with_reducible refine at_st 33 (.tmp 8) (.tmp 7) ?_); refine wpList_store_mid rfl 33 _ _ rfl g 6 (digC D) rfl rfl (HT2.out.there D HDL.out) (by rw [digC_size, HDL.out]; exact sizeDig) (digC_one D) ?_))
  go_end0
  exact ⟨rfl, HT2.out.setR D HDL.out⟩
set_option maxRecDepth 100000 in
theorem tkPath_any (h : TK 109 w0 b B g x s w) :
    Calls Tryz.prog 170 #[.agg #[.pointer (some ⟨b, 0, none⟩)], .pointer (some ⟨g, 5, none⟩)] w fun r w' => r = .returned (.tuple #[]) ∧ TK 109 w0 b B g { x with Pa := (txtM 51 s.1 s.2).1 } (txtM 51 s.1 s.2).2 w' := by
  have hg1 : Gr w (w.alloc (.cells #[.pointer (some ⟨b, 0, none⟩)] 73)) := (Gr.rfl' w).al _
  have HT := Lib.hid (h.more hg1)
  have HP := World.alloc_heap_new w (.cells #[.pointer (some ⟨b, 0, none⟩)] 73)
  have cp : (w.alloc (.cells #[.pointer (some ⟨b, 0, none⟩)] 73)).cell? ⟨w.heap.size, 0, none⟩ = some (.pointer (some ⟨b, 0, none⟩)) := by
    simp only [World.cell?, HP]; rfl
  clear h HP hg1
  generalize hW1 : w.alloc (.cells #[.pointer (some ⟨b, 0, none⟩)] 73) = W1 at HT cp
  have HD := Lib.hid (dText_any b 51 s.1 s.2 W1 HT.out.rd HT.out.sz)
  have HTS := Lib.hid (Nat.le_trans (txtM_tszR 51 s.1 s.2) HT.out.sz)
  have HSZ := Lib.hid (txtM_szR 51 s.1 s.2)
  obtain ⟨p, s', hd⟩ : ∃ p s', txtM 51 s.1 s.2 = (p, s') := ⟨_, _, rfl⟩
  simp only [hd] at HD HTS HSZ ⊢
  clear hd
  go_enter Tryz.func170, Tryz.ntmps170
  go_wp2_with fail
  refine (HD.out).mono ?_
  rintro r w2 ⟨rfl, h2, m2⟩
  have HT2 := Lib.hid (HT.out.take (s' := s') h2 HSZ.out m2)
  have HA := mxAt HT2.out.ms.lies HT2.out.ms.dig
  clear h2 m2 HD HT cp hW1
  have c5 := HA.c5
  have f5 := mat_frz HT2.out.ms.lies 5
  clear HA
  go_wp2
  go_end0
  exact ⟨rfl, HT2.out.setPa p HTS.out⟩
set_option maxRecDepth 100000 in
theorem tkText_any (h : TK 109 w0 b B g x s w) :
    Calls Tryz.prog 173 #[.agg #[.pointer (some ⟨b, 0, none⟩)], .pointer (some ⟨g, 40, none⟩)] w fun r w' => r = .returned (.tuple #[]) ∧ TK 109 w0 b B g { x with Tx := (txtM 65536 s.1 s.2).1 } (txtM 65536 s.1 s.2).2 w' := by
  have hg1 : Gr w (w.alloc (.cells #[.pointer (some ⟨b, 0, none⟩)] 73)) := (Gr.rfl' w).al _
  have HT := Lib.hid (h.more hg1)
  have HP := World.alloc_heap_new w (.cells #[.pointer (some ⟨b, 0, none⟩)] 73)
  have cp : (w.alloc (.cells #[.pointer (some ⟨b, 0, none⟩)] 73)).cell? ⟨w.heap.size, 0, none⟩ = some (.pointer (some ⟨b, 0, none⟩)) := by
    simp only [World.cell?, HP]; rfl
  clear h HP hg1
  generalize hW1 : w.alloc (.cells #[.pointer (some ⟨b, 0, none⟩)] 73) = W1 at HT cp
  have HD := Lib.hid (dText_any b 65536 s.1 s.2 W1 HT.out.rd HT.out.sz)
  have HTS := Lib.hid (Nat.le_trans (txtM_tszR 65536 s.1 s.2) HT.out.sz)
  have HSZ := Lib.hid (txtM_szR 65536 s.1 s.2)
  obtain ⟨p, s', hd⟩ : ∃ p s', txtM 65536 s.1 s.2 = (p, s') := ⟨_, _, rfl⟩
  simp only [hd] at HD HTS HSZ ⊢
  clear hd
  go_enter Tryz.func173, Tryz.ntmps173
  go_wp2_with fail
  refine (HD.out).mono ?_
  rintro r w2 ⟨rfl, h2, m2⟩
  have HT2 := Lib.hid (HT.out.take (s' := s') h2 HSZ.out m2)
  have HA := mxAt HT2.out.ms.lies HT2.out.ms.dig
  clear h2 m2 HD HT cp hW1
  have c40 := HA.c40
  have f40 := mat_frz HT2.out.ms.lies 40
  clear HA
  go_wp2
  go_end0
  exact ⟨rfl, HT2.out.setTx p HTS.out⟩
set_option maxRecDepth 100000 in
theorem tkTurn_any (h : TK 109 w0 b B g x s w) :
    Calls Tryz.prog 174 #[.agg #[.pointer (some ⟨b, 0, none⟩)], .pointer (some ⟨g, 4, none⟩)] w fun r w' => r = .returned (.tuple #[]) ∧ TK 109 w0 b B g { x with Tn := (flgM s.1 s.2).1 } (flgM s.1 s.2).2 w' := by
  have hg1 : Gr w (w.alloc (.cells #[.pointer (some ⟨b, 0, none⟩)] 73)) := (Gr.rfl' w).al _
  have HT := Lib.hid (h.more hg1)
  have HP := World.alloc_heap_new w (.cells #[.pointer (some ⟨b, 0, none⟩)] 73)
  have cp : (w.alloc (.cells #[.pointer (some ⟨b, 0, none⟩)] 73)).cell? ⟨w.heap.size, 0, none⟩ = some (.pointer (some ⟨b, 0, none⟩)) := by
    simp only [World.cell?, HP]; rfl
  clear h HP hg1
  generalize hW1 : w.alloc (.cells #[.pointer (some ⟨b, 0, none⟩)] 73) = W1 at HT cp
  have HD := Lib.hid (dFlag_any b s.1 s.2 W1 HT.out.rd HT.out.sz)
  have HSZ := Lib.hid (flgM_szR s.1 s.2)
  obtain ⟨p, s', hd⟩ : ∃ p s', flgM s.1 s.2 = (p, s') := ⟨_, _, rfl⟩
  simp only [hd] at HD HSZ ⊢
  clear hd
  go_enter Tryz.func174, Tryz.ntmps174
  go_wp2_with fail
  refine (HD.out).mono ?_
  rintro r w2 ⟨rfl, h2, m2⟩
  have HT2 := Lib.hid (HT.out.take (s' := s') h2 HSZ.out m2)
  have HA := mxAt HT2.out.ms.lies HT2.out.ms.dig
  clear h2 m2 HD HT cp hW1
  have c4 := HA.c4
  have f4 := mat_frz HT2.out.ms.lies 4
  clear HA
  go_wp2
  go_end0
  exact ⟨rfl, HT2.out.setTn p⟩
set_option maxRecDepth 100000 in
theorem tkCtx_any (h : TK 109 w0 b B g x s w) (hr : x.rA = none) :
    Calls Tryz.prog 169 #[.agg #[.pointer (some ⟨b, 0, none⟩)], .pointer (some ⟨g, 38, none⟩)] w fun r w' => r = .returned (.tuple #[]) ∧ ∃ A c, TK 109 w0 b B g { x with cA := A, cl := (vecM s).1, cc := c } (vecM s).2 w' := by
  have HRN := Lib.hid hr
  clear hr
  have hg1 : Gr w (w.alloc (.cells #[.pointer (some ⟨b, 0, none⟩)] 73)) := (Gr.rfl' w).al _
  have HT := Lib.hid (h.more hg1)
  have HP := World.alloc_heap_new w (.cells #[.pointer (some ⟨b, 0, none⟩)] 73)
  have cp : (w.alloc (.cells #[.pointer (some ⟨b, 0, none⟩)] 73)).cell? ⟨w.heap.size, 0, none⟩ = some (.pointer (some ⟨b, 0, none⟩)) := by
    simp only [World.cell?, HP]; rfl
  clear h HP hg1
  generalize hW1 : w.alloc (.cells #[.pointer (some ⟨b, 0, none⟩)] 73) = W1 at HT cp
  have HD := Lib.hid (TakeVec_any b s.1 s.2 W1 HT.out.rd HT.out.sz)
  have HSZ := Lib.hid (vecM_sz s)
  have hse : (s.1, s.2) = s := rfl
  obtain ⟨l, s', hd⟩ : ∃ l s', vecM s = (l, s') := ⟨_, _, rfl⟩
  simp only [hd, hse] at HD HSZ ⊢
  clear hd hse
  go_enter Tryz.func169, Tryz.ntmps169
  go_wp2_with fail
  refine (HD.out).mono ?_
  rintro r w2 ⟨⟨v, rfl, ho⟩, h2, m2⟩
  obtain ⟨A, c, rfl, k1, k2, k3⟩ := ho.newD
  have HT2 := Lib.hid (HT.out.take (s' := s') h2 HSZ.out m2)
  have HK := Lib.hid (And.intro k1 (And.intro k2 (fun D hD => Nat.le_trans HT.out.B (k3 D hD))))
  have HA := mxAt HT2.out.ms.lies HT2.out.ms.dig
  have c38 := HA.c38
  have f38 := mat_frz HT2.out.ms.lies 38
  clear HA h2 m2 HD HT cp hW1 ho k1 k2 k3
  go_wp2
  go_end0
  exact ⟨rfl, A, c, HT2.out.setC HK.out.2.1 HK.out.1 HK.out.2.2 HRN.out⟩
end
end Go.Proofs.YtfobnemocodomaaGreat
