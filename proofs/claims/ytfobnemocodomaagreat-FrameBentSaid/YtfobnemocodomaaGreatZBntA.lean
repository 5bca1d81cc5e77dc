/- hearsaylaw13.FrameBent. -/
import Derived.Test.YtfobnemocodomaaGreatZBntP
import Derived.Test.YtfobnemocodomaaGreatZFrmH
import Derived.Test.YtfobnemocodomaaGreatZMrS
import Derived.Laws.IdiomStrings
set_option linter.unusedVariables false
set_option linter.unusedSimpArgs false
set_option maxHeartbeats 4000000
namespace Go.Proofs.YtfobnemocodomaaGreat
open Go.RowKit Go.Shelf Go.Great

def BRow (W : World) (g : Nat) (l : List UInt8) : Prop := ∃ cs lo hi, W.heap[g]? = some (.cells cs 5 (lo, hi)) ∧ l.length ≤ cs.size ∧ l.length ≤ lo ∧ ∀ j (h : j < l.length), cs[j]? = some (.int .u8 (l[j].toNat : Int))
theorem BRow.cell {W : World} {g : Nat} {l : List UInt8} (h : BRow W g l) (j : Nat) (hj : j < l.length) : W.cell? ⟨g, j, none⟩ = some (.int .u8 (l[j].toNat : Int)) ∧ W.frozen? ⟨g, j, none⟩ = false := by
  obtain ⟨cs, lo, hi, h1, h2, h3, h4⟩ := h
  refine ⟨by simp only [World.cell?, h1]; exact h4 j hj, ?_⟩
  simp only [World.frozen?, h1]
  have : ¬ lo ≤ j := by omega
  simp [this]
theorem BRow.gr {W W' : World} {g : Nat} {l : List UInt8} (h : BRow W g l) (k : Gr W W') : BRow W' g l := by
  obtain ⟨cs, lo, hi, h1, r⟩ := h
  exact ⟨cs, lo, hi, (k.block g (Array.getElem?_eq_some_iff.1 h1).1).trans h1, r⟩
theorem BRow.set {W : World} {g : Nat} {l : List UInt8} (h : BRow W g l) (j : Nat) (x : UInt8) : BRow (W.setCell ⟨g, j, none⟩ (.int .u8 (x.toNat : Int))) g (l.set j x) := by
  obtain ⟨cs, lo, hi, h1, h2, h3, h4⟩ := h
  refine ⟨cs.setIfInBounds j (.int .u8 (x.toNat : Int)), lo, hi, heap_set_sameW (o := j) h1 _, by simpa using h2, by simpa using h3, fun i hi => ?_⟩
  have hi' : i < l.length := by simpa using hi
  rw [List.getElem_set]
  by_cases e : j = i
  · subst e
    rw [if_pos rfl, Array.getElem?_setIfInBounds_self_of_lt (by omega)]
  · rw [if_neg e, Array.getElem?_setIfInBounds_ne e]
    exact h4 i hi'
/-- a row turned at f by k bytes -/
def bk (l : List UInt8) (f : Nat) (d : List UInt8) (k : Nat) : List UInt8 := l.mapIdx fun j x => if f ≤ j ∧ j < f + k then xorB x (d.getD (j - f) 0) else x
theorem bk_len (l : List UInt8) (f : Nat) (d : List UInt8) (k : Nat) : (bk l f d k).length = l.length := by simp [bk]
theorem bk_zero (l : List UInt8) (f : Nat) (d : List UInt8) : bk l f d 0 = l := by
  unfold bk
  apply List.ext_getElem?
  intro j
  rw [List.getElem?_mapIdx]
  cases l[j]? with
  | none => rfl
  | some x => simp; intro h1 h2; omega
theorem bk_succ (l : List UInt8) (f : Nat) (d : List UInt8) (k : Nat) (h : f + k < l.length) : bk l f d (k + 1) = (bk l f d k).set (f + k) (xorB l[f + k] (d.getD k 0)) := by
  apply List.ext_getElem?
  intro j
  unfold bk
  rw [List.getElem?_set, List.getElem?_mapIdx, List.getElem?_mapIdx]
  by_cases e : f + k = j
  · subst e
    simp [h]
  · rw [if_neg e]
    cases l[j]? with
    | none => rfl
    | some x =>
      simp only [Option.map_some]
      congr 1
      by_cases c : f ≤ j ∧ j < f + k
      · rw [if_pos c, if_pos (by omega)]
      · rw [if_neg c, if_neg (by omega)]
theorem bk_at (l : List UInt8) (f : Nat) (d : List UInt8) (k : Nat) (h : f + k < l.length) : (bk l f d k)[f + k]'(by rw [bk_len]; exact h) = l[f + k] := by
  unfold bk
  rw [List.getElem_mapIdx, if_neg (by omega)]
theorem bk_four (l : List UInt8) (f : Nat) (d : List UInt8) (h : f + 4 ≤ l.length) (hd : d.length = 4) : bk l f d 4 = bend l f d := by
  apply List.ext_getElem?
  intro j
  unfold bk bend
  rw [List.getElem?_mapIdx]
  by_cases c1 : j < f
  · rw [List.getElem?_append_left (by rw [List.length_take]; omega), List.getElem?_take_of_lt c1]
    cases l[j]? with
    | none => rfl
    | some x => simp only [Option.map_some]; rw [if_neg (by omega)]
  · rw [List.getElem?_append_right (by rw [List.length_take]; omega), List.length_take, show j - min f l.length = j - f by omega]
    have k4 : (List.zipWith xorB ((l.drop f).take 4) d).length = 4 := by rw [List.length_zipWith, List.length_take, List.length_drop, hd]; omega
    by_cases c2 : j < f + 4
    · rw [List.getElem?_append_left (by rw [k4]; omega), List.getElem?_zipWith, List.getElem?_take_of_lt (by omega), List.getElem?_drop, show f + (j - f) = j by omega, List.getElem?_eq_getElem (show j < l.length by omega), List.getElem?_eq_getElem (show j - f < d.length by omega)]
      simp only [Option.map_some]
      rw [if_pos (by omega), List.getD_eq_getElem?_getD, List.getElem?_eq_getElem (show j - f < d.length by omega)]
      rfl
    · rw [List.getElem?_append_right (by rw [k4]; omega), k4, List.getElem?_drop, show f + 4 + (j - f - 4) = j by omega]
      cases l[j]? with
      | none => rfl
      | some x => simp only [Option.map_some]; rw [if_neg (by omega)]
theorem n_xor8 (a b : UInt8) : bits .xor .u8 (a.toNat : Int) (b.toNat : Int) = ((xorB a b).toNat : Int) := by
  show IntKind.u8.wrap ((BitVec.ofInt 8 (a.toNat : Int) ^^^ BitVec.ofInt 8 (b.toNat : Int)).toNat : Int) = _
  unfold xorB
  rw [BitVec.ofInt_natCast, BitVec.ofInt_natCast, BitVec.toNat_xor, BitVec.toNat_ofNat, BitVec.toNat_ofNat, Nat.mod_eq_of_lt a.toNat_lt, Nat.mod_eq_of_lt b.toNat_lt, UInt8.toNat_xor, IntKind.wrap_u8]
  have : a.toNat ^^^ b.toNat < 256 := Nat.xor_lt_two_pow (n := 8) a.toNat_lt b.toNat_lt
  omega
theorem BRow.conv (w : World) (s : ByteArray) (cap : Nat) : BRow (w.drew.alloc (.cells (bytesRow s cap) 5 ((bytesRow s cap).size, (bytesRow s cap).size + 1))) w.heap.size s.data.toList := by
  have hz : s.data.toList.length ≤ (bytesRow s cap).size := by unfold bytesRow; simp
  refine ⟨bytesRow s cap, _, _, World.alloc_heap_new w.drew _, hz, hz, fun j hj => ?_⟩
  have hj' : j < s.data.size := by simpa using hj
  rw [bytesRow_at s cap j hj']
  simp
theorem b4_get {m k : Nat} (hk : k < 4) : ((((b4 m).getD k 0).toNat : Nat) : Int) = (m : Int) / 2 ^ (8 * k) % 256 := by
  have e : ∀ n : Nat, n < 256 → (((UInt8.ofNat n).toNat : Nat) : Int) = (n : Int) := fun n h => by rw [UInt8.toNat_ofNat_of_lt' (by exact h)]
  have c : k = 0 ∨ k = 1 ∨ k = 2 ∨ k = 3 := by omega
  rcases c with rfl | rfl | rfl | rfl
  · show (((UInt8.ofNat (m % 256)).toNat : Nat) : Int) = _
    rw [e _ (by omega)]; omega
  · show (((UInt8.ofNat (m / 256 % 256)).toNat : Nat) : Int) = _
    rw [e _ (by omega)]; omega
  · show (((UInt8.ofNat (m / 65536 % 256)).toNat : Nat) : Int) = _
    rw [e _ (by omega)]; omega
  · show (((UInt8.ofNat (m / 16777216 % 256)).toNat : Nat) : Int) = _
    rw [e _ (by omega)]; omega
theorem encM_min {x : Mx} (h : mChk x = 0) : 4 ≤ (encM x).length := by
  have g := mgood_of h
  have k : ∀ n : Int, 0 ≤ n ∧ n ≤ 1073741824 → 1 ≤ (putL n).length := fun n hn => by
    have := (putS_yes (n := n) (by simpa [numOk] using hn)).2
    rw [Lib.size_eq] at this
    exact this
  have h1 := k x.K (by have := g.k; omega)
  have h2 := k x.F (by have := g.f; omega)
  have h3 := k x.To (by have := g.t; omega)
  have h4 := k x.Sd (by have := g.s; omega)
  unfold encM
  simp only [List.length_append]
  omega
set_option maxRecDepth 100000 in
theorem FrameBent_any (x : Mx) (at_ : Int) (m : Nat) (w : World) (hx : MxOk w x) (hP : Pt.Mx w) (hm : m < 4294967296) :
    Calls Tryz.prog 8 #[.agg x.cells, .int .i64 at_, .int .u32 m] w fun r w' => r = .returned (.bool true) ∧ Gr w w' := by
  have HG : Hid (Gr w (w.alloc (.cells x.cells 37))) := Lib.hid ((Gr.rfl' w).al _)
  have HX := Lib.hid (World.alloc_heap_new w (.cells x.cells 37))
  have HXO := Lib.hid (hx.gr HG.out)
  have HP := Lib.hid (hP.gr HG.out)
  have HXD := Lib.hid hx.dig
  clear hx hP
  generalize hW : w.alloc (.cells x.cells 37) = W at HG HX HXO HP
  have HC40 : Hid (∀ W', Gr W W' → W'.cell? ⟨w.heap.size, 40, none⟩ = some (.string x.Tx)) := Lib.hid (fun W' g => (mxAt (mat_gr HX.out g) HXD.out).c40)
  go_enter Tryz.func8, Tryz.ntmps8
  go_wp2_with (first
    | refine loadM x HXO.out.dig rfl (.tmp 3) rfl w.heap.size rfl HX.out ?_)
  refine (mGreat_any x W HXO.out).mono ?_
  rintro e w1 ⟨⟨rfl, hrs, hcl, htx, hps, h70⟩ | rfl, g1⟩; rotate_left
  · go_wp2_with fail
    refine (fAwake_any _).mono ?_
    rintro r wd ⟨rfl, gd⟩
    go_wp2
    go_ret
    exact ⟨rfl, HG.out.tr (g1.tr gd)⟩
  have HS : Hid (MSmall x) := Lib.hid ⟨hrs, hcl, htx, hps, h70⟩
  have HX1 := Lib.hid (mat_gr HX.out g1)
  have HXO1 := Lib.hid (HXO.out.gr g1)
  have HP1 := Lib.hid (HP.out.gr g1)
  have HG1 := Lib.hid (HG.out.tr g1)
  have c40 := HC40.out _ g1
  clear hrs hcl htx hps h70 g1 HX HXO HP HG hW HC40
  by_cases hb2 : 2000 < x.Tx.size
  · have hb2i : (2000 : Int) < x.Tx.size := by omega
    go_wp2_with fail
    refine (fAwake_any _).mono ?_
    rintro r wd ⟨rfl, gd⟩
    go_wp2
    go_ret
    exact ⟨rfl, HG1.out.tr gd⟩
  have hb2i : ¬ (2000 : Int) < x.Tx.size := by omega
  have HBY := Lib.hid (fSeal_any x w1 HXO1.out HP1.out HS.out)
  by_cases hc : mChk x = 0; rotate_left
  · have he : ¬ (mFrame x).2 = 0 := fun h => hc (mBytes_e.1 (by rw [← frame_e]; exact h))
    obtain ⟨t, ht⟩ : ∃ t : ByteArray, (mFrame x).1 = t := ⟨_, rfl⟩
    obtain ⟨e, hee⟩ : ∃ e, (mFrame x).2 = e := ⟨_, rfl⟩
    simp only [ht, hee] at HBY
    rw [hee] at he
    have heb : (e != 0) = true := by simpa using he
    clear ht hee he hc
    go_wp2_with (first
      | refine loadM x HXO1.out.dig rfl (.tmp 3) rfl w.heap.size rfl HX1.out ?_)
    refine (HBY.out).mono ?_
    rintro r w2 ⟨rfl, g2⟩
    go_wp2_with fail
    refine (fAwake_any _).mono ?_
    rintro r wd ⟨rfl, gd⟩
    go_wp2
    go_ret
    exact ⟨rfl, HG1.out.tr (g2.tr gd)⟩
  have HFO := Lib.hid (frame_ok hc)
  have hes : (mFrame x).2 = 0 := by rw [HFO.out]
  obtain ⟨s0, hs0⟩ : ∃ s0, hsV ++ putS (bsq (encM x)).size ++ bsq (encM x) = s0 := ⟨_, rfl⟩
  have hsz : 12 ≤ (sealV s0).size ∧ (sealV s0).size ≤ 131072 := by
    rw [← hs0, seal_size, ByteArray.size_append, ByteArray.size_append, bsq_size]
    have h1 := encM_len hc HXD.out
    have h2 := putS_sz ((encM x).length : Nat)
    have h3 := putS_yes (n := ((encM x).length : Nat)) (by simp [numOk]; omega)
    have h4 := encM_min hc
    show 12 ≤ 3 + _ + _ + 4 ∧ 3 + _ + _ + 4 ≤ _
    omega
  obtain ⟨t, ht⟩ : ∃ t : ByteArray, (mFrame x).1 = t := ⟨_, rfl⟩
  have hts : t = sealV s0 := by rw [← ht, HFO.out, ← hs0]
  rw [← hts] at hsz
  simp only [ht, hes] at HBY
  have HTS := Lib.hid hts
  have HCV : ∀ W : World, (convert 9 47 (.string t)).run Tryz.prog W = _ := fun W => run_bytes_of_string W 9 47 5 t Tryz.underlying9 Tryz.underlying47 Tryz.underlying5
  obtain ⟨hz1, hz2⟩ := hsz
  clear ht hts hes hs0 HFO hc
  go_wp2_with (first
    | refine loadM x HXO1.out.dig rfl (.tmp 3) rfl w.heap.size rfl HX1.out ?_)
  refine (HBY.out).mono ?_
  rintro r w2 ⟨rfl, g2⟩
  have HG2 := Lib.hid (HG1.out.tr g2)
  have HP2 := Lib.hid (HP1.out.gr g2)
  clear g2 HX1 HXO1 HP1 HG1 HBY c40
  go_upto_region 7 with (fail)
  clear HCV
  have HB0 : Hid (BRow (w2.alloc (.cells (bytesRow t (grownCap w2 t.size 0 5)) 5 ((bytesRow t (grownCap w2 t.size 0 5)).size, (bytesRow t (grownCap w2 t.size 0 5)).size + 1))).drew w2.heap.size t.data.toList) := Lib.hid (BRow.conv w2 t (grownCap w2 t.size 0 5))
  have HG3 : Hid (Gr w2 (w2.alloc (.cells (bytesRow t (grownCap w2 t.size 0 5)) 5 ((bytesRow t (grownCap w2 t.size 0 5)).size, (bytesRow t (grownCap w2 t.size 0 5)).size + 1))).drew) := Lib.hid (((Gr.rfl' w2).al _).dr)
  generalize (w2.alloc (.cells (bytesRow t (grownCap w2 t.size 0 5)) 5 ((bytesRow t (grownCap w2 t.size 0 5)).size, (bytesRow t (grownCap w2 t.size 0 5)).size + 1))).drew = w3 at HB0 HG3 ⊢
  generalize grownCap w2 t.size 0 5 = cp
  have HGB := Lib.hid (Nat.le_refl w2.heap.size)
  obtain ⟨g, hg⟩ : ∃ g, w2.heap.size = g := ⟨_, rfl⟩
  rw [hg] at HB0 ⊢
  have HGE := Lib.hid hg
  clear hg HGB
  obtain ⟨n, hn⟩ : ∃ n, t.size = n := ⟨_, rfl⟩
  have HN := Lib.hid hn
  rw [hn] at hz1 hz2 ⊢
  clear hn
  have hzi : ¬ (n : Int) < 12 := by omega
  have hzj : (12 : Int) ≤ n := by omega
  by_cases hm0 : m = 0
  · subst hm0
    go_wp2_with fail
    refine (fAwake_any _).mono ?_
    rintro r wd ⟨rfl, gd⟩
    go_wp2
    go_ret
    exact ⟨rfl, HG2.out.tr (HG3.out.tr gd)⟩
  have hmb : ((m : Int) == 0) = false := by simpa using hm0
  have HM0 := Lib.hid hm0
  clear hm0
  go_upto_region 10 with (fail)
  obtain ⟨f, hf1, hf2⟩ : ∃ f : Nat, wrap64 ((IntKind.u64.wrap at_).tmod ((n : Int) - 3)) = (f : Int) ∧ f + 4 ≤ n := by
    have h0 : 0 ≤ IntKind.u64.wrap at_ := by rw [IntKind.wrap_u64]; omega
    rw [Int.tmod_eq_emod_of_nonneg h0]
    have h1 := Int.emod_nonneg (IntKind.u64.wrap at_) (show (n : Int) - 3 ≠ 0 by omega)
    have h2 := Int.emod_lt_of_pos (IntKind.u64.wrap at_) (show (0 : Int) < (n : Int) - 3 by omega)
    generalize IntKind.u64.wrap at_ % ((n : Int) - 3) = q at h1 h2 ⊢
    refine ⟨q.toNat, ?_, by omega⟩
    have : wrap64 q = q := by unfold wrap64; omega
    omega
  simp only [hf1]
  clear hf1
  obtain ⟨L, hL⟩ : ∃ L, t.data.toList = L := ⟨_, rfl⟩
  have hLn : L.length = n := by rw [← hL, ← HN.out, Lib.size_eq]
  have HLT := Lib.hid hL
  have HLN := Lib.hid hLn
  rw [hL] at HB0
  clear hL hLn
  have HB1 : Hid (BRow w3 g (bk L f (b4 m) 0)) := Lib.hid (by rw [bk_zero]; exact HB0.out)
  have HGa := Lib.hid (HG2.out.tr HG3.out)
  clear HB0
  go_wp2
  go_loopw [11] (fun i wr => ∃ k : Nat, k ≤ 4 ∧ i = .int .i64 k ∧ Hid (BRow wr g (bk L f (b4 m) k)) ∧ Hid (Gr w2 wr)) (fun i _ => 4 - (intOf i).toNat)
  case atStart => exact ⟨0, by omega, rfl, HB1, HG3⟩
  case round =>
    clear HB1 HG3 HGa
    obtain ⟨k, hk, rfl, HB, HGR⟩ := hrel
    by_cases hlt : k < 4
    · have hkl : f + k < (bk L f (b4 m) k).length := by rw [bk_len, HLN.out]; omega
      obtain ⟨c1, z1⟩ := HB.out.cell (f + k) hkl
      rw [bk_at L f (b4 m) k (by rw [HLN.out]; omega)] at c1
      have hki : (k : Int) < 4 := by omega
      have e1 : wrap64 ((f : Int) + k) = ((f + k : Nat) : Int) := by unfold wrap64; omega
      have e2 : (0 : Int) ≤ ((f + k : Nat) : Int) := by omega
      have e3 : ((f + k : Nat) : Int) < n := by omega
      have e4 : ((f + k : Nat) : Int).toNat = f + k := by omega
      clear hkl
      go_wp2
      have hfl : f + k < L.length := by rw [HLN.out]; omega
      have HE : Hid (bits .xor .u8 (L[f + k].toNat : Int) ((m : Int) / 2 ^ (8 * k) % 256) = ((xorB L[f + k] ((b4 m).getD k 0)).toNat : Int)) := Lib.hid (by rw [← n_xor8, b4_get hlt])
      have HB' : Hid (BRow (wr.setCell ⟨g, f + k, none⟩ (.int .u8 (bits .xor .u8 (L[f + k].toNat : Int) ((m : Int) / 2 ^ (8 * k) % 256)))) g (bk L f (b4 m) (k + 1))) := Lib.hid (by rw [HE.out, bk_succ L f (b4 m) k (by rw [HLN.out]; omega)]; exact HB.out.set (f + k) _)
      have HGR' : Hid (Gr w2 (wr.setCell ⟨g, f + k, none⟩ (.int .u8 (bits .xor .u8 (L[f + k].toNat : Int) ((m : Int) / 2 ^ (8 * k) % 256))))) := Lib.hid (HGR.out.set (by rw [HGE.out]; exact Nat.le_refl _) _)
      clear HE
      go_roundw
      case rel => exact ⟨k + 1, by omega, by go_num, HB', HGR'⟩
      case measure => simp [intOf]; omega
    · have hkk : k = 4 := by omega
      subst hkk
      have hki : ¬ ((4 : Nat) : Int) < 4 := by omega
      have hb4 := bk_four L f (b4 m) (by rw [HLN.out]; omega) rfl
      have hbl := bend_len (l := L) (d := b4 m) (i := f) (by rw [HLN.out]; omega) rfl
      rw [hb4] at HB
      obtain ⟨M, hM⟩ : ∃ M, bend L f (b4 m) = M := ⟨_, rfl⟩
      rw [hM] at HB hbl
      rw [HLN.out] at hbl
      have HS2 : Hid ((unsV ⟨M.toArray⟩).2 = false) := Lib.hid (bent_seen s0 HTS.out (b4_len m) (b4_ne hm HM0.out) (by rw [HN.out]; exact hf2) (by rw [HLT.out, hM]))
      have hcv := run_convert_bytes_back (P := Tryz.prog) wr 47 9 5 ⟨g, 0, none⟩ cp M Tryz.underlying47 Tryz.underlying5 Tryz.underlying9 (fun j hj => by
        have e : ((⟨g, 0, none⟩ : Addr).add j) = ⟨g, j, none⟩ := by unfold Addr.add; split <;> simp_all
        rw [e]
        exact (HB.out.cell j hj).1)
      rw [hbl] at hcv
      have hs2 : (⟨M.toArray⟩ : ByteArray).size = n := by show M.toArray.size = n; rw [List.size_toArray, hbl]
      clear hb4 hM hbl HB
      obtain ⟨S2, hS2⟩ : ∃ S2 : ByteArray, (⟨M.toArray⟩ : ByteArray) = S2 := ⟨_, rfl⟩
      rw [hS2] at HS2 hcv hs2
      have HRD := Lib.hid (fOpen_any S2 wr (by omega) (HP2.out.gr HGR.out))
      have HO2 : Hid (openM S2 = (zMx, 9)) := Lib.hid (by unfold openM; rw [if_neg (by omega), if_pos HS2.out])
      clear hS2 hs2 HS2
      go_wp2_with fail
      refine (HRD.out).mono ?_
      rintro r w4 ⟨y1, e1, rfl, hm1, ho1, g4⟩
      rw [HO2.out] at hm1
      obtain rfl : e1 = 9 := congrArg Prod.snd hm1
      have HO1 := Lib.hid ho1
      have HG4 := Lib.hid (HG2.out.tr (HGR.out.tr g4))
      clear hm1 ho1 g4 HRD HO2 HGR HP2
      go_wp2_with (first
        | refine allocM rfl rfl ?_
        | (refine storeM y1 HO1.out.dig rfl (.tmp 12) _ rfl rfl rfl rfl ?_; intro w5 hx1 hg1; have HG5 := Lib.hid hg1; clear hx1 hg1))
      refine (fAwake_any _).mono ?_
      rintro r wd ⟨rfl, gd⟩
      go_wp2
      go_ret
      exact ⟨rfl, HG4.out.tr (HG5.out.tr gd)⟩
end Go.Proofs.YtfobnemocodomaaGreat
