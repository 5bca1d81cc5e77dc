/- What readers see: the program's Winner. -/
import Derived.Test.YtfobnemocodomaaSynD
import Derived.Test.YtfobnemocodomaaSibD
set_option linter.unusedVariables false
set_option linter.unusedSimpArgs false
set_option maxHeartbeats 2000000
namespace Go.Proofs.Ytfobnemocodomaa
open Go.RowKit Go.Great

/-- the block g alone is turned -/
structure Sg (g : Nat) (w wt : World) : Prop where
  os : wt.os = w.os
  tape : wt.tape = w.tape
  output : wt.output = w.output
  size : wt.heap.size = w.heap.size
  keep : ∀ k, k ≠ g → wt.heap[k]? = w.heap[k]?
theorem Sg.gr {g : Nat} {w0 w wt : World} (h : Sg g w wt) (k : Gr w0 w) (hg : w0.heap.size ≤ g) : Gr w0 wt :=
  ⟨h.os.trans k.os, h.tape.trans k.tape, h.output.trans k.output, by rw [h.size]; exact k.size, fun j hj => (h.keep j (by omega)).trans (k.block j hj)⟩
theorem setRow_sg (w : World) (g : Nat) (cs : Array Value) : Sg g w (w.setRow g cs) :=
  ⟨rfl, rfl, rfl, by simp [World.setRow], fun k hk => by simp [World.setRow, Array.getElem?_modify, Ne.symm hk]⟩
theorem setRow_at {w : World} {g : Nat} {old cs : Array Value} {t : TypeId} {fr : Nat × Nat} (h : w.heap[g]? = some (.cells old t fr)) : (w.setRow g cs).heap[g]? = some (.cells cs t fr) := by
  simp [World.setRow, Array.getElem?_modify, h]
theorem storeW {ops : Array Oper} {rest : List Oper} {o : Oper} {a : Act} {w : World} {Q : Exit → Act → World → Prop} (c c0 : Vx) (g : Nat) (hg : o.guard = none) (x y : Operand) (ho : o.op = .store 49 x y) (hd : o.dst = none)
    (hx : a.eval x = .pointer (some ⟨g, 0, none⟩)) (hy : a.eval y = .agg c.cells) (h0 : w.heap[g]? = some (.cells c0.cells 49 (0, 0)))
    (h : ∀ wt : World, wt.heap[g]? = some (.cells c.cells 49 (0, 0)) → Sg g w wt → wpList Try.prog ops Q rest a wt) : wpList Try.prog ops Q (o :: rest) a w := by
  refine wpList_store_row hg 49 x y ho g c.cells hx hy 49 c0.cells h0 (by kernel_rfl) (by rfl) (vOne c) ?_
  rw [hd]
  exact h _ (setRow_at h0) (setRow_sg w g _)
def Zx : Vx := ⟨0, 0, none, [], 0, false, ⟨#[]⟩⟩
theorem Zx_cells : Zx.cells = Z5 := rfl
theorem buildZ {ops : Array Oper} {rest : List Oper} {o : Oper} {a : Act} {w : World} {Q : Exit → Act → World → Prop} (hg : o.guard = none) (ho : o.op = .build 49 #[])
    (h : wpList Try.prog ops Q rest (a.put o.dst (.agg Zx.cells)) w) : wpList Try.prog ops Q (o :: rest) a w :=
  wpList_buildTo hg 49 #[] ho o.dst rfl Zx.cells (by kernel_rfl) h
theorem Vers.tail {w : World} {ad : Addr} {c : Nat} {x : Vx} {r : List Vx} (h : Vers w (some ad) (x :: r)) (hc : (x :: r).length ≤ c) : Vers w (some (if c = 1 then ad else ad.add 5)) r := by
  refine ⟨by have := h.1; simp at this; omega, fun i hi => ?_⟩
  obtain ⟨ad', e, a, b⟩ := h.2 (i + 1) (by simpa using hi)
  cases e
  have hc1 : c ≠ 1 := by simp at hc; omega
  rw [if_neg hc1]
  have hadd : (ad.add 5).add (i * 5) = ad.add ((i + 1) * 5) := by
    unfold Addr.add
    by_cases h0 : i = 0
    · subst h0; simp
    · rw [if_neg (by omega), if_neg (by omega), if_neg (by omega)]
      simp only [Addr.mk.injEq, true_and, and_true]
      omega
  exact ⟨_, rfl, by simpa using a, by rw [hadd]; simpa using b⟩
theorem cut_addr5 (c : Nat) (ad : Addr) : (if c = 1 then some ad else some ⟨ad.block, ad.off + 5, none⟩) = some (if c = 1 then ad else ad.add 5) := by
  by_cases h : c = 1
  · simp [h]
  · simp [h, Addr.add]
theorem Vers.other {W W' : World} {A : Option Addr} {l : List Vx} (h : Vers W A l) (ho : vsOk W' l) (hA : ∀ D, A = some D → W'.heap[D.block]? = W.heap[D.block]?) : Vers W' A l :=
  ⟨h.1, fun i hi => by
    obtain ⟨ad, e, a, b⟩ := h.2 i hi
    refine ⟨ad, e, ho _ (List.getElem_mem hi), fun j v hj => ?_⟩
    have hb := b j v hj
    have hk := hA ad e
    have e1 : ((ad.add (i * 5)).add j).block = ad.block := by rw [add_block', add_block']
    rw [← hb]
    exact cell_addr' _ (by rw [e1]; exact hk)⟩
where
  add_block' (a : Addr) (j : Nat) : (a.add j).block = a.block := by unfold Addr.add; split <;> rfl
  cell_addr' {W W' : World} (D : Addr) (h : W'.heap[D.block]? = W.heap[D.block]?) : W'.cell? D = W.cell? D := by simp only [World.cell?, h]
/-- the best of some -/
def bestP (b : Vx) (l : List Vx) : Vx := l.foldl (fun b v => if winsV v b = true then v else b) b
theorem bestP_take {b : Vx} {l : List Vx} {k : Nat} (h : k < l.length) : bestP b (l.take (k + 1)) = if winsV l[k] (bestP b (l.take k)) = true then l[k] else bestP b (l.take k) := by
  unfold bestP
  rw [List.take_succ_eq_append_getElem h, List.foldl_append]; rfl
def winL (l : List Vx) : Option Vx := match liveL l with | [] => none | b :: r => some (bestP b r)
def winT (o : Option Vx) : Value := match o with | none => .tuple #[.agg Zx.cells, .bool false] | some x => .tuple #[.agg x.cells, .bool true]
theorem OwnV.blk {W : World} {B : Nat} {v : Value} {x : Vx} {r : List Vx} (h : OwnV W B v (x :: r)) : ∃ g c, B ≤ g ∧ v = .slice (some ⟨g, 0, none⟩) (x :: r).length c ∧ (x :: r).length ≤ c ∧ g < W.heap.size := by
  rcases h with ⟨_, h⟩ | ⟨g, hg, h⟩
  · cases h
  · obtain ⟨c, hv, hc, _⟩ := h.shape
    exact ⟨g, c, hg, hv, hc, h.lt⟩
set_option maxRecDepth 100000 in
theorem winner1_any (A : Option Addr) (cap : Nat) (l : List Vx) (w : World) (h : Vers w A l) (hlb : l.length ≤ 1000000) :
    Calls Try.prog 45 #[.slice A l.length cap] w fun r w' => r = .returned (winT (winL l)) ∧ Gr w w' := by
  have H := Lib.hid h; clear h
  have hga : Gr w (w.alloc (.cells Zx.cells 49)) := (Gr.rfl' w).al _
  have hn := World.alloc_heap_new w (.cells Zx.cells 49)
  have hsz : (w.alloc (.cells Zx.cells 49)).heap.size = w.heap.size + 1 := by simp
  have HN := Lib.hid hn
  have HG := Lib.hid hga
  have hll := live_len l
  have HL := Lib.hid (vLive1_any A cap l _ (H.out.gr hga) (by omega))
  clear hn hga
  go_enter Try.func45, Try.ntmps45
  go_upto_region 1 with (first | refine allocV rfl rfl ?_)
  rw [← Zx_cells]
  obtain ⟨W, hW⟩ : ∃ W, w.alloc (.cells Zx.cells 49) = W := ⟨_, rfl⟩
  rw [hW] at HN HG HL hsz ⊢
  clear hW
  go_wp2_with fail
  refine (HL.out).mono ?_
  rintro r w1 ⟨⟨v, rfl, ho⟩, hg1⟩
  have N1 := Lib.hid ((hg1.block _ (Array.getElem?_eq_some_iff.1 HN.out).1).trans HN.out)
  have G1 := Lib.hid (HG.out.tr hg1)
  have hs1 := hg1.size
  cases hlv : liveL l with
  | nil =>
    rw [hlv] at ho
    obtain ⟨A1, c1, rfl, _, _⟩ := ho.vers (by intro x hx; cases hx)
    have HW : Hid (winL l = none) := Lib.hid (by unfold winL; rw [hlv])
    clear ho hlv hg1 HL HN
    go_wp2_with (first
      | refine buildZ rfl rfl ?_
      | (refine storeW Zx Zx w.heap.size rfl (.tmp 2) _ rfl rfl rfl rfl N1.out ?_; intro w2 hx2 hs2; have HX2 := Lib.hid hx2; have G2 := Lib.hid (hs2.gr G1.out (Nat.le_refl _)); clear hx2 hs2))
    obtain ⟨c0, c1, c2, c3, c4⟩ := bcells HX2.out
    refine bodyPost_ret (v := .tuple #[.agg Zx.cells, .bool false]) (by simp [results, Try.results45, go_sem, c0, c1, c2, c3, c4]; rfl) rfl ?_
    rw [HW.out]
    exact ⟨rfl, G2.out⟩
  | cons b r =>
    rw [hlv] at ho hll
    have hoks : vsOk w1 (b :: r) := fun x hx => (H.out.gr G1.out).oks x (List.mem_filter.1 (show x ∈ liveL l by rw [hlv]; exact hx)).1
    have HSUB : Hid (∀ x ∈ b :: r, x ∈ l) := Lib.hid (fun x hx => (List.mem_filter.1 (show x ∈ liveL l by rw [hlv]; exact hx)).1)
    obtain ⟨A1, c1, e1, _, hv⟩ := ho.vers hoks
    obtain ⟨gl, cl, hgB, rfl, hcl, hglt⟩ := ho.blk
    cases e1
    have HW : Hid (winL l = some (bestP b r)) := Lib.hid (by unfold winL; rw [hlv])
    have hv0 := hv.2 0 (by simp)
    obtain ⟨ad0, e0, _, hc0⟩ := hv0
    cases e0
    have HC0 : Hid (∀ j v, b.cells.toList[j]? = some v → w1.cell? ((⟨gl, 0, none⟩ : Addr).add j) = some v) := Lib.hid fun j v hj => by
      have := hc0 j v (by simpa using hj)
      rw [Nat.zero_mul, Addr.add_zero'] at this
      exact this
    have HT := Lib.hid (hv.tail hcl)
    have hlen : ((r.length : Int) + 1 == 0) = false := by simp; omega
    clear ho hlv hg1 HL HN hoks hv hc0 hlen
    have hln : (((b :: r).length : Int) == 0) = false := by simp; omega
    obtain ⟨n, hnn⟩ : ∃ n, (b :: r).length = n := ⟨_, rfl⟩
    have hrn : r.length + 1 = n := by rw [← hnn]; simp
    rw [hnn] at hln hcl hll ⊢
    clear hnn
    have hn0 : (0 : Int) < n := by omega
    have hn1 : (1 : Int) ≤ n := by omega
    have hcn : (n : Int) ≤ c1 := by omega
    have hcn1 : (1 : Int) ≤ c1 := by omega
    go_upto_region 5 with (first
      | refine ld_at rfl 49 (.tmp 15) rfl _ rfl b.cells.toList _ HC0.out Try.underlying49 rfl (by kernel_rfl) ?_
      | refine allocV rfl rfl ?_
      | (refine storeV b rfl (.tmp 5) _ rfl rfl rfl rfl ?_; intro W2 hx2 hg2; obtain ⟨gb, hgb⟩ : ∃ g, w1.heap.size = g := ⟨_, rfl⟩; rw [hgb] at hx2 hglt ⊢; have HX2 := Lib.hid hx2; have G2 := Lib.hid hg2; clear hx2 hg2))
    obtain ⟨ad, had⟩ : ∃ ad, (⟨gl, 0, none⟩ : Addr) = ad := ⟨_, rfl⟩
    have hadb : ad.block = gl := by rw [← had]
    rw [had] at HT
    simp only [had]
    clear had HC0
    obtain ⟨adT, hadT⟩ : ∃ a, (if c1 = 1 then ad else ad.add 5) = a := ⟨_, rfl⟩
    have hadTb : adT.block = gl := by rw [← hadT]; split <;> simp [Addr.add, hadb]
    rw [hadT] at HT
    have HADT := Lib.hid hadT
    have HB := Lib.hid hadTb
    clear hadT hadTb hadb
    simp only [Act.put, List.setIfInBounds_toArray, List.set_cons_zero, List.set_cons_succ]
    go_cut [18, 19, 20] from 17 to 29 (fun s18 s19 s20 wx => s18 = .slice (some adT) r.length (c1 - 1) ∧ s19 = .int .i64 r.length ∧ s20 = .int .i64 0 ∧ wx = W2)
    case first =>
      have hr1 : n - 1 = r.length := by omega
      by_cases hc : c1 = 1
      · have hX : ad = adT := by have := HADT.out; rw [if_pos hc] at this; exact this
        have HX := Lib.hid hX
        clear hX
        subst hc
        go_wp2
        go_meet
        simp [hr1, HX.out]
      · have hX : ad.add 5 = adT := by have := HADT.out; rw [if_neg hc] at this; exact this
        have hX2 : adT = ⟨ad.block, ad.off + 5, none⟩ := by rw [← hX]; rfl
        have HX := Lib.hid hX2
        clear hX hX2
        go_wp2
        go_meet
        simp [hr1, HX.out]
    case rest =>
      obtain ⟨rfl, rfl, rfl, hwc⟩ := hcut
      have hwc := hwc.symm
      subst hwc
      have HR := Lib.hid hrn
      have HNE : Hid (w.heap.size ≠ gb ∧ gl ≠ gb ∧ w.heap.size < gb) := Lib.hid (by omega)
      have HS0 : Hid (w.heap.size ≤ gb) := Lib.hid (by omega)
      have HX0 : Hid (W2.heap[gb]? = some (.cells (bestP b (r.take 0)).cells 49 (0, 0))) := HX2
      have HZ0 := Lib.hid ((G2.out.block _ (Array.getElem?_eq_some_iff.1 N1.out).1).trans N1.out)
      have HL0 : Hid (W2.heap[gl]? = w1.heap[gl]?) := Lib.hid (G2.out.block gl (by omega))
      have HG0 := Lib.hid (G1.out.tr G2.out)
      have HLT : Hid (gl < w1.heap.size) := Lib.hid (by omega)
      have hrl : r.length ≤ 1000000 := by omega
      clear hrn hln hn0 hn1 hcn hcn1 hll hcl hglt hgb hs1 hsz hgB HADT
      go_wp2
      go_loopw [20] (fun i wr => ∃ k : Nat, k ≤ r.length ∧ i = .int .i64 k ∧ Hid (wr.heap[gb]? = some (.cells (bestP b (r.take k)).cells 49 (0, 0))) ∧ Hid (wr.heap[w.heap.size]? = some (.cells Zx.cells 49 (0, 0))) ∧ Hid (wr.heap[gl]? = w1.heap[gl]?) ∧ Hid (Gr w wr)) (fun i _ => r.length - (intOf i).toNat)
      case atStart => exact ⟨0, Nat.zero_le _, rfl, HX0, HZ0, HL0, HG0⟩
      case round =>
        clear HX0 HZ0 HL0 HG0 HX2 G2 N1
        obtain ⟨k, hk, rfl, HXk, HZ, HLk, HGk⟩ := hrel
        by_cases hlt : k < r.length
        · have hki : (k : Int) < r.length := by omega
          have hvr : Vers wr (some adT) r := HT.out.other (fun x hx => (H.out.gr HGk.out).oks x (HSUB.out x (List.mem_cons_of_mem _ hx))) (fun D hD => by cases hD; rw [HB.out]; exact HLk.out)
          obtain ⟨ad2, e2, hvx, hcx⟩ := hvr.2 k hlt
          cases e2
          have hst := bestP_take (b := b) hlt
          obtain ⟨x, hx⟩ : ∃ x, r[k] = x := ⟨_, rfl⟩
          rw [hx] at hcx hst
          obtain ⟨bk, hbk⟩ : ∃ y, bestP b (r.take k) = y := ⟨_, rfl⟩
          rw [hbk] at hst HXk
          have HST := Lib.hid hst
          have HCX : Hid (∀ j v, x.cells.toList[j]? = some v → wr.cell? ((adT.add (k * 5)).add j) = some v) := Lib.hid fun j v hj => hcx j v (by simpa using hj)
          clear hvr hvx hcx hst hx hbk
          go_upto_region 8 with (first
            | refine ld_at rfl 49 (.tmp 22) rfl _ rfl x.cells.toList _ HCX.out Try.underlying49 rfl (by kernel_rfl) ?_
            | refine allocV rfl rfl ?_
            | (refine storeV x rfl (.tmp 7) _ rfl rfl rfl rfl ?_; intro W3 hx3 hg3; obtain ⟨gc, hgc⟩ : ∃ g, wr.heap.size = g := ⟨_, rfl⟩; rw [hgc] at hx3 ⊢; have HX3 := Lib.hid hx3; have G3 := Lib.hid hg3; clear hx3 hg3))
          have HXb := Lib.hid ((G3.out.block _ (Array.getElem?_eq_some_iff.1 HXk.out).1).trans HXk.out)
          have hglt2 := (Array.getElem?_eq_some_iff.1 HXk.out).1
          have HCB : Hid (gc ≠ gb) := Lib.hid (by omega)
          clear hgc hglt2
          go_wp2_with (first
            | refine wpList_load_row rfl 49 (.tmp 7) rfl gc rfl 49 x.cells (0, 0) _ HX3.out Try.underlying49 rfl (by kernel_rfl) ?_
            | refine wpList_load_row rfl 49 (.tmp 5) rfl gb rfl 49 bk.cells (0, 0) _ HXb.out Try.underlying49 rfl (by kernel_rfl) ?_)
          refine (wins1_any x bk W3).mono ?_
          rintro e w4 ⟨rfl, hg4⟩
          have HX4 := Lib.hid ((hg4.block _ (Array.getElem?_eq_some_iff.1 HX3.out).1).trans HX3.out)
          have HXb4 := Lib.hid ((hg4.block _ (Array.getElem?_eq_some_iff.1 HXb.out).1).trans HXb.out)
          have G4 := Lib.hid (G3.out.tr hg4)
          have HZ4 := Lib.hid ((G4.out.block _ (Array.getElem?_eq_some_iff.1 HZ.out).1).trans HZ.out)
          have HL4 : Hid (w4.heap[gl]? = w1.heap[gl]?) := Lib.hid ((G4.out.block gl (by have a := HGk.out.size; have h2 := HLk.out; have h3 := HLT.out; rw [Array.getElem?_eq_getElem h3] at h2; exact (Array.getElem?_eq_some_iff.1 h2).1)).trans HLk.out)
          clear HX3 HXb G3 hg4 HZ HLk HXk HCX
          by_cases hw : winsV x bk = true
          · rw [if_pos hw] at HST
            rw [hw]
            clear hw
            go_wp2_with (first
              | refine wpList_load_row rfl 49 (.tmp 7) rfl gc rfl 49 x.cells (0, 0) _ HX4.out Try.underlying49 rfl (by kernel_rfl) ?_
              | (refine storeW x bk gb rfl (.tmp 5) _ rfl rfl rfl rfl HXb4.out ?_; intro w5 hx5 hs5; have HX5 := Lib.hid hx5; have S5 := Lib.hid hs5; clear hx5 hs5))
            go_roundw
            case rel => exact ⟨k + 1, by omega, by go_num, Lib.hid (by rw [HST.out]; exact HX5.out), Lib.hid ((S5.out.keep _ HNE.out.1).trans HZ4.out), Lib.hid ((S5.out.keep _ HNE.out.2.1).trans HL4.out), Lib.hid (S5.out.gr (HGk.out.tr G4.out) HS0.out)⟩
            case measure => simp [intOf]; omega
          · rw [if_neg hw] at HST
            have hw : winsV x bk = false := by simpa using hw
            rw [hw]
            clear hw
            go_wp2
            go_roundw
            case rel => exact ⟨k + 1, by omega, by go_num, Lib.hid (by rw [HST.out]; exact HXb4.out), HZ4, HL4, Lib.hid (HGk.out.tr G4.out)⟩
            case measure => simp [intOf]; omega
        · have hkk : k = r.length := by omega
          subst hkk
          rw [List.take_length] at HXk
          obtain ⟨bk, hbk⟩ : ∃ y, bestP b r = y := ⟨_, rfl⟩
          rw [hbk] at HXk HW
          clear hbk
          go_wp2_with (first
            | refine wpList_load_row rfl 49 (.tmp 5) rfl gb rfl 49 bk.cells (0, 0) _ HXk.out Try.underlying49 rfl (by kernel_rfl) ?_
            | (refine storeW bk Zx w.heap.size rfl (.tmp 2) _ rfl rfl rfl rfl HZ.out ?_; intro w5 hx5 hs5; have HX5 := Lib.hid hx5; have G5 := Lib.hid (hs5.gr HGk.out (Nat.le_refl _)); clear hx5 hs5))
          obtain ⟨c0, c1, c2, c3, c4⟩ := bcells HX5.out
          refine bodyPost_ret (v := .tuple #[.agg bk.cells, .bool true]) (by simp [results, Try.results45, go_sem, c0, c1, c2, c3, c4]; rfl) rfl ?_
          rw [HW.out]
          exact ⟨rfl, G5.out⟩
end Go.Proofs.Ytfobnemocodomaa
