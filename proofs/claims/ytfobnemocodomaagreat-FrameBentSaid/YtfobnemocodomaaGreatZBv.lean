/- record: putVersion, list of versions, PutLeaf, Leaf. -/
import Derived.Test.YtfobnemocodomaaGreatZBo
import Derived.Test.YtfobnemocodomaaGreatZBl
import Derived.Test.YtfobnemocodomaaGreatZBe
import Derived.Test.YtfobnemocodomaaGreatZBf
set_option linter.unusedVariables false
set_option linter.unusedSimpArgs false
set_option maxHeartbeats 1000000
namespace Go.Proofs.YtfobnemocodomaaGreat
open Go.RowKit Go.Shelf Go.Great

abbrev Ws := List UInt8 × Int
def wflag (f : Bool) (s : Ws) : Ws := wput true [if f then 1 else 0] s
def wtext (t : ByteArray) (s : Ws) : Ws := wput (decide (t.size ≤ 65536)) ((putS t.size).data.toList ++ t.data.toList) s
def ver1 (x : Vx) (s : Ws) : Ws := wtext x.T (wflag x.D (vput x.pl (wnum x.C (wnum x.P s))))
def versW (l : List Vx) (s : Ws) : Ws := l.foldl (fun s x => ver1 x s) s
/-- what a leaf put comes to -/
def lput (l : List Vx) (s : Ws) : Ws := if leafChk l ≠ 0 then wfail (leafChk l) s else versW l (wnum l.length s)
theorem wflag_len (f : Bool) (s : Ws) : (wflag f s).1.length ≤ s.1.length + 1 := wputL _ _ _ _ (fun _ => Nat.le_refl 1)
theorem wtext_len (t : ByteArray) (s : Ws) (n : Nat) (h : t.size ≤ n) : (wtext t s).1.length ≤ s.1.length + (5 + n) := wputL _ _ _ _ (fun _ => by
  have := putS_len t.size
  rw [List.length_append]
  have e : t.data.toList.length = t.size := by rw [Array.length_toList]; rfl
  omega)
theorem wfail_lenL' (f : Int) (s : Ws) : (wfail f s).1.length = s.1.length := by unfold wfail; split <;> rfl
theorem vput_len (l : List Dot) (s : Ws) : (vput l s).1.length ≤ s.1.length + 5 + 10 * l.length := by
  unfold vput
  split
  · have := wfail_lenL' (chk l) s; omega
  · have h := vnum_len l (wnum l.length s) l.length (Nat.le_refl _)
    rw [List.take_length] at h
    have := wnum_len l.length s
    omega
theorem okv_len {l : List Dot} (h : chk l = 0) : l.length ≤ 64 := by
  have hk := (chk_ok l).1 h
  have key : ∀ (m : List Dot) (lo : Int), m.Pairwise (fun a b => a.1 < b.1) → (∀ d ∈ m, lo ≤ d.1 ∧ d.1 < 64) → lo ≤ 64 → (m.length : Int) ≤ 64 - lo := by
    intro m
    induction m with
    | nil => intro lo _ _ h; simp; omega
    | cons x r ih =>
      intro lo hp hb hl
      have hx := hb x (by simp)
      have hp' := List.pairwise_cons.1 hp
      have := ih (x.1 + 1) hp'.2 (fun d hd => ⟨by have := hp'.1 d hd; omega, (hb d (List.mem_cons_of_mem _ hd)).2⟩) (by omega)
      simp only [List.length_cons]; omega
  have := key l 0 hk.2 (fun d hd => by have := hk.1 d hd; omega) (by omega)
  omega
theorem ver1_len {x : Vx} (h : verChk x = 0) (s : Ws) : (ver1 x s).1.length ≤ s.1.length + 800 := by
  have hp := ver_parts h
  have h1 := wnum_len x.P s
  have h2 := wnum_len x.C (wnum x.P s)
  have h3 := vput_len x.pl (wnum x.C (wnum x.P s))
  have h4 := wflag_len x.D (vput x.pl (wnum x.C (wnum x.P s)))
  have h5 := wtext_len x.T (wflag x.D (vput x.pl (wnum x.C (wnum x.P s)))) 48 hp.2.2.2.1
  have h6 := okv_len hp.2.1
  unfold ver1; omega
theorem versW_take {l : List Vx} {k : Nat} (h : k < l.length) (s : Ws) : versW (l.take (k + 1)) s = ver1 l[k] (versW (l.take k) s) := by
  rw [List.take_succ_eq_append_getElem h]
  simp only [versW, List.foldl_append, List.foldl_cons, List.foldl_nil]
set_option maxRecDepth 100000 in
theorem versW_len (l : List Vx) (hl : ∀ x ∈ l, verChk x = 0) (s : Ws) : ∀ k, k ≤ l.length → (versW (l.take k) s).1.length ≤ s.1.length + 800 * k
  | 0, _ => by simp [versW]
  | k + 1, h => by
    rw [versW_take (by omega)]
    have h1 := ver1_len (hl l[k] (List.getElem_mem _)) (versW (l.take k) s)
    have h3 := versW_len l hl s k (by omega)
    omega
theorem Wm.blk {B b k : Nat} {w w' : World} {o : Obj} (m : Wm B b w w') (h : w.heap[k]? = some o) (hk : k ≠ b) (hu : isU8 o = false) : w'.heap[k]? = some o := m.typ k o h hk hu
set_option maxRecDepth 100000 in
theorem vx_cell {W : World} {g : Nat} {x : Vx} (h : W.heap[g]? = some (.cells x.cells 114 (0, 0))) :
    W.cell? ⟨g, 0, none⟩ = some (.int .i64 x.P) ∧ W.cell? ⟨g, 1, none⟩ = some (.int .i64 x.C) ∧ W.cell? ⟨g, 2, none⟩ = some (.slice x.A x.pl.length x.pc) ∧ W.cell? ⟨g, 3, none⟩ = some (.bool x.D) ∧ W.cell? ⟨g, 4, none⟩ = some (.string x.T) := by
  have k : ∀ (j : Nat) (v : Value), x.cells[j]? = some v → W.cell? ⟨g, j, none⟩ = some v := fun j v hj => by simp only [World.cell?, h]; exact hj
  exact ⟨k 0 _ rfl, k 1 _ rfl, k 2 _ rfl, k 3 _ rfl, k 4 _ rfl⟩
set_option maxRecDepth 100000 in
theorem putVersion_any (B b : Nat) (s : Ws) (x : Vx) (w0 w : World) (hx : VxOk w0 x) (hv : verChk x = 0) (hg0 : Gr w0 w) (hB : w0.heap.size ≤ B) (h : Wr B b s.1 s.2 w) (hlen : s.1.length + 100000 ≤ 140737488355328) :
    Calls Tryz.prog 99 #[.pointer (some ⟨b, 0, none⟩), .agg x.cells] w fun r w' => r = .returned (.tuple #[]) ∧ Wr B b (ver1 x s).1 (ver1 x s).2 w' ∧ Wm B b w w' := by
  have hbl := h.lt
  have hg := Lib.hid ((Gr.rfl' w).al (.cells x.cells 114))
  have HH := Lib.hid (h.gr hg.out); clear h
  have HB := Lib.hid (World.alloc_heap_new w (.cells x.cells 114))
  have hp := ver_parts hv
  have h1 := wnum_len x.P s
  have h2 := wnum_len x.C (wnum x.P s)
  have h3 := vput_len x.pl (wnum x.C (wnum x.P s))
  have h4 := wflag_len x.D (vput x.pl (wnum x.C (wnum x.P s)))
  have h6 := okv_len hp.2.1
  have HX := Lib.hid hx
  clear hp hx
  have hne : w.heap.size ≠ b := by omega
  obtain ⟨e0, e1, _, _, _⟩ := vx_cell HB.out
  go_enter Tryz.func99, Tryz.ntmps99
  go_wp2_with fail
  refine (putDot_any B b s.1 s.2 x.P x.C _ HH.out (by omega)).mono ?_
  rintro r w1 ⟨rfl, k1, m1⟩
  have K1 : Hid (Wr B b (wnum x.C (wnum x.P s)).1 (wnum x.C (wnum x.P s)).2 w1) := k1
  have HB1 := Lib.hid (m1.blk HB.out hne (by rfl))
  have M1 := Lib.hid (((Wm.refl B b w).gr hg.out).trans m1)
  obtain ⟨_, _, e2, _, _⟩ := vx_cell HB1.out
  clear k1 m1
  go_wp2_with fail
  refine (PutVec_any B b _ _ x.A x.pc x.pl w0 _ HX.out.1 (M1.out.below hg0 hB) hB K1.out (by omega)).mono ?_
  rintro r w2 ⟨rfl, k2, m2⟩
  have K2 : Hid (Wr B b (vput x.pl (wnum x.C (wnum x.P s))).1 (vput x.pl (wnum x.C (wnum x.P s))).2 w2) := k2
  have HB2 := Lib.hid (m2.blk HB1.out hne (by rfl))
  have M2 := Lib.hid (M1.out.trans m2)
  obtain ⟨_, _, _, e3, _⟩ := vx_cell HB2.out
  clear k2 m2
  go_wp2_with fail
  refine (wFlag_any B b _ _ x.D _ K2.out (by omega)).mono ?_
  rintro r w3 ⟨rfl, k3, m3⟩
  have K3 : Hid (Wr B b (wflag x.D (vput x.pl (wnum x.C (wnum x.P s)))).1 (wflag x.D (vput x.pl (wnum x.C (wnum x.P s)))).2 w3) := k3
  have HB3 := Lib.hid (m3.blk HB2.out hne (by rfl))
  have M3 := Lib.hid (M2.out.trans m3)
  obtain ⟨_, _, _, _, e4⟩ := vx_cell HB3.out
  clear k3 m3
  go_wp2_with fail
  refine (wText_any B b _ _ x.T _ K3.out (by omega)).mono ?_
  rintro r w4 ⟨rfl, k4, m4⟩
  go_wp2
  go_end0
  exact ⟨rfl, k4, M3.out.trans m4⟩
set_option maxRecDepth 100000 in
theorem PutLeaf1_any (B b : Nat) (s : Ws) (x : Vx) (g : Nat) (w0 w : World) (hx : VxOk w0 x) (hv : verChk x = 0) (hg0 : Gr w0 w) (hB : w0.heap.size ≤ B) (h : Wr B b s.1 s.2 w) (hc : w.cell? ⟨g, 0, none⟩ = some (.pointer (some ⟨b, 0, none⟩))) (hlen : s.1.length + 100000 ≤ 140737488355328) :
    Calls Tryz.prog 98 #[.agg x.cells, .pointer (some ⟨g, 0, none⟩)] w fun r w' => r = .returned (.tuple #[]) ∧ Wr B b (ver1 x s).1 (ver1 x s).2 w' ∧ Wm B b w w' := by
  have hg := Lib.hid ((Gr.rfl' w).al (.cells x.cells 114))
  have HC := Lib.hid (putVersion_any B b s x w0 _ hx hv (hg0.tr hg.out) hB (h.gr hg.out) hlen)
  have hc' := hg.out.cell hc
  have HN := Lib.hid (World.alloc_heap_new w (.cells x.cells 114))
  clear h hx hc
  go_enter Tryz.func98, Tryz.ntmps98
  go_wp2_with (refine wpList_load_row rfl 114 (.tmp 2) rfl w.heap.size rfl 114 x.cells (0, 0) _ HN.out Tryz.underlying114 rfl (by kernel_rfl) ?_)
  refine (HC.out).mono ?_
  rintro r w1 ⟨rfl, h1, m1⟩
  go_wp2
  go_end0
  exact ⟨rfl, h1, ((Wm.refl _ _ _).gr hg.out).trans m1⟩
set_option maxRecDepth 100000 in
theorem listV_any (B b : Nat) (s : Ws) (g : Nat) (A : Option Addr) (cap : Nat) (l : List Vx) (w0 w : World) (hD : Vers w0 A l) (hl : ∀ x ∈ l, verChk x = 0) (hll : l.length ≤ 64) (hg0 : Gr w0 w) (hB : w0.heap.size ≤ B) (h : Wr B b s.1 s.2 w)
    (hc : w.heap[g]? = some (.cells #[.pointer (some ⟨b, 0, none⟩)] 77 (0, 0))) (hgb : g ≠ b) (hlen : s.1.length + 200000 ≤ 140737488355328) :
    Calls Tryz.prog 97 #[.pointer (some ⟨b, 0, none⟩), .slice A l.length cap, .func (.func 98) #[] #[.pointer (some ⟨g, 0, none⟩)]] w fun r w' =>
      r = .returned (.tuple #[]) ∧ Wr B b (versW l (wnum l.length s)).1 (versW l (wnum l.length s)).2 w' ∧ Wm B b w w' := by
  have HH := Lib.hid h; clear h
  have HD := Lib.hid hD; clear hD
  have HC := Lib.hid hc; clear hc
  have h1l := wnum_len l.length s
  have HV := Lib.hid (versW_len l hl (wnum l.length s))
  have HL := Lib.hid hl; clear hl
  go_enter Tryz.func97, Tryz.ntmps97
  go_wp2_with fail
  refine (wNumber_any B b s.1 s.2 l.length _ HH.out (by omega)).mono ?_
  rintro r w1 ⟨rfl, h1, m1⟩
  have H1 : Hid (Wr B b (wnum l.length s).1 (wnum l.length s).2 w1) := h1
  have M1 := Lib.hid m1
  clear h1 m1
  go_wp2
  go_loopw [14] (fun i wr => ∃ k : Nat, k ≤ l.length ∧ i = .int .i64 k ∧ Hid (Wr B b (versW (l.take k) (wnum l.length s)).1 (versW (l.take k) (wnum l.length s)).2 wr) ∧ Hid (Wm B b w wr)) (fun i _ => l.length - (intOf i).toNat)
  case atStart => exact ⟨0, Nat.zero_le _, rfl, H1, M1⟩
  case round =>
    obtain ⟨k, hk, rfl, HW, HM⟩ := hrel
    clear H1 M1
    by_cases hlt : k < l.length
    · have hki : (k : Int) < l.length := by omega
      obtain ⟨ad, rfl, hvx, hcx⟩ := (HD.out.gr (HM.out.below hg0 hB)).2 k hlt
      obtain ⟨ad2, e2, hv0, _⟩ := HD.out.2 k hlt
      cases e2
      have hvk := HV.out k hk
      have hst := versW_take hlt (wnum l.length s)
      have hcv := HL.out l[k] (List.getElem_mem hlt)
      obtain ⟨x, hx⟩ : ∃ x, l[k] = x := ⟨_, rfl⟩
      rw [hx] at hvx hcx hst hcv hv0
      have HST := Lib.hid hst
      have HV0 := Lib.hid hv0
      have HCX : Hid (∀ j v, x.cells.toList[j]? = some v → wr.cell? ((ad.add (k * 5)).add j) = some v) := Lib.hid fun j v hj => hcx j v (by simpa using hj)
      have hgc := HM.out.blk HC.out hgb (by rfl)
      have HGC := Lib.hid hgc
      clear hvx hcx hst hx hv0 hgc
      go_upto_region 4 with (first
        | refine ld_at rfl 114 (.tmp 16) rfl _ rfl x.cells.toList _ HCX.out Tryz.underlying114 rfl (by kernel_rfl) ?_
        | refine allocV rfl rfl ?_
        | (refine storeV x rfl (.tmp 7) _ rfl rfl rfl rfl ?_; intro W1 hx1 hg1; obtain ⟨gX, hgX⟩ : ∃ g, wr.heap.size = g := ⟨_, rfl⟩; rw [hgX] at hx1 ⊢; have HX1 := Lib.hid hx1; have G1 := Lib.hid hg1; clear hx1 hg1 hgX))
      have hcw : W1.cell? ⟨g, 0, none⟩ = some (.pointer (some ⟨b, 0, none⟩)) := by
        have hb := (G1.out.block _ (Array.getElem?_eq_some_iff.1 HGC.out).1).trans HGC.out
        simp [World.cell?, hb]
      have HP := Lib.hid (PutLeaf1_any B b _ x g w0 W1 HV0.out hcv ((HM.out.below hg0 hB).tr G1.out) hB (HW.out.gr G1.out) hcw (by omega))
      clear hcw
      go_wp2_with (first | refine wpList_load_row rfl 114 (.tmp 7) rfl gX rfl 114 x.cells (0, 0) _ HX1.out Tryz.underlying114 rfl (by kernel_rfl) ?_)
      refine (HP.out).mono ?_
      rintro r w2 ⟨rfl, h2, m2⟩
      have H2 : Hid (Wr B b (versW (l.take (k + 1)) (wnum l.length s)).1 (versW (l.take (k + 1)) (wnum l.length s)).2 w2) := by show Wr _ _ _ _ _; rw [HST.out]; exact h2
      have M2 := Lib.hid ((HM.out.gr G1.out).trans m2)
      clear h2 m2
      go_wp2
      go_roundw
      case rel => exact ⟨k + 1, by omega, by go_num, H2, M2⟩
      case measure => simp [intOf]; omega
    · have hkk : k = l.length := by omega
      subst hkk
      rw [List.take_length] at HW
      go_wp2
      go_end0
      exact ⟨rfl, HW.out, HM.out⟩
set_option maxRecDepth 100000 in
theorem PutLeaf_any (B b : Nat) (s : Ws) (A : Option Addr) (cap : Nat) (l : List Vx) (w0 w : World) (hD : Vers w0 A l) (hg0 : Gr w0 w) (hB : w0.heap.size ≤ B) (h : Wr B b s.1 s.2 w) (hlen : s.1.length + 200000 ≤ 140737488355328) :
    Calls Tryz.prog 61 #[.pointer (some ⟨b, 0, none⟩), .slice A l.length cap] w fun r w' =>
      r = .returned (.tuple #[]) ∧ Wr B b (lput l s).1 (lput l s).2 w' ∧ Wm B b w w' := by
  have hbl := h.lt
  have hga := Lib.hid ((Gr.rfl' w).al (.cells #[.pointer (some ⟨b, 0, none⟩)] 77))
  have HH := Lib.hid (h.gr hga.out); clear h
  have HD := Lib.hid hD; clear hD
  have HC := Lib.hid (World.alloc_heap_new w (.cells #[.pointer (some ⟨b, 0, none⟩)] 77))
  by_cases hch : leafChk l = 0
  · have hX : Hid (lput l s = versW l (wnum l.length s)) := by show _ = _; unfold lput; rw [if_neg (by simpa using hch)]
    have hz := (leaf_zero l).1 hch
    have hz1 := hz.1
    have hz2 := ups_len l 0 hz.2.1 (fun x hx => by have := (ver_parts (hz1 x hx)).1; omega) (by omega)
    clear hz
    go_enter Tryz.func61, Tryz.ntmps61
    go_wp2_with fail
    refine (sLeaf_any A cap l _ (HD.out.gr (hg0.tr hga.out))).mono ?_
    rintro r w1 ⟨rfl, hg1⟩
    rw [hch]
    have HC1 := Lib.hid ((hg1.block _ (Array.getElem?_eq_some_iff.1 HC.out).1).trans HC.out)
    have c1 : w1.cell? ⟨w.heap.size, 0, none⟩ = some (.pointer (some ⟨b, 0, none⟩)) := by simp [World.cell?, HC1.out]
    go_wp2_with fail
    refine (listV_any B b s w.heap.size A cap l w0 _ HD.out hz1 (by omega) ((hg0.tr hga.out).tr hg1) hB (HH.out.gr hg1) HC1.out (by omega) hlen).mono ?_
    rintro r w2 ⟨rfl, h2, m2⟩
    go_wp2
    go_end0
    rw [hX.out]
    exact ⟨rfl, h2, ((Wm.refl _ _ _).gr (hga.out.tr hg1)).trans m2⟩
  · have hX : Hid (lput l s = wfail (leafChk l) s) := by show _ = _; unfold lput; rw [if_pos hch]
    have hcb : (leafChk l != 0) = true := by simpa using hch
    go_enter Tryz.func61, Tryz.ntmps61
    go_wp2_with fail
    refine (sLeaf_any A cap l _ (HD.out.gr (hg0.tr hga.out))).mono ?_
    rintro r w1 ⟨rfl, hg1⟩
    have HC1 := Lib.hid ((hg1.block _ (Array.getElem?_eq_some_iff.1 HC.out).1).trans HC.out)
    have c1 : w1.cell? ⟨w.heap.size, 0, none⟩ = some (.pointer (some ⟨b, 0, none⟩)) := by simp [World.cell?, HC1.out]
    go_wp2_with fail
    refine (wFail_any B b s.1 s.2 (leafChk l) _ (HH.out.gr hg1)).mono ?_
    rintro r w2 ⟨rfl, h2, m2⟩
    go_wp2
    refine bodyPost_ret (results_none rfl _ _ _) rfl ?_
    rw [hX.out]
    exact ⟨rfl, h2, ((Wm.refl _ _ _).gr (hga.out.tr hg1)).trans m2⟩
end Go.Proofs.YtfobnemocodomaaGreat
