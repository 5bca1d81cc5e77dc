/- matrix: Stable, Steady, Rows. -/
import Derived.Test.YtpaogcighlfelaaMatB
import Derived.Test.YtpaogcighlfelaaRowG
set_option linter.unusedVariables false
set_option linter.unusedSimpArgs false
set_option maxHeartbeats 4000000
namespace Go.Proofs.Ytpaogcighlfelaa
open Go.RowKit

theorem ownsRow_gr {w w' : World} {base : Nat} {e : TypeId} {size n : Nat} {v : Value} {xs : List Value} (h : w.ownsRow base e size v n xs) (g : Gr w w') : w'.ownsRow base e size v n xs := by
  obtain ⟨h1, h2⟩ := h
  refine ⟨h1, ?_⟩
  rcases h2 with h2 | ⟨b, cap, cur, rfl, hg, hh, r⟩
  · exact .inl h2
  · exact .inr ⟨b, cap, cur, rfl, hg, (g.block b (Array.getElem?_eq_some_iff.1 hh).1).trans hh, r⟩
theorem OwnDots.gr {w w' : World} {b : Nat} {v : Value} {l : List Dot} (h : OwnDots w b v l) (g : Gr w w') : OwnDots w' b v l := ownsRow_gr h g
theorem Gr.gb_of {w w' : World} (h : w.grownBy w' none) : Gr w w' := ⟨h.os, h.tape, h.output, h.size, fun k hk => h.block k hk (by simp)⟩
def foldTo (rs : Rws) (k : Nat) : List Dot := (rs.take k).foldl meetL (rs.getD 0 [])
theorem foldTo_zero (rs : Rws) (h : 0 < rs.length) : foldTo rs 0 = rs[0] := by
  unfold foldTo
  rw [List.getD_eq_getElem?_getD, List.getElem?_eq_getElem h]; rfl
theorem foldTo_succ (rs : Rws) (k : Nat) (h : k < rs.length) : foldTo rs (k + 1) = meetL (foldTo rs k) rs[k] := by
  unfold foldTo
  rw [List.take_succ_eq_append_getElem h, List.foldl_append]; rfl
theorem foldTo_all (rs : Rws) : foldTo rs rs.length = stableL rs := by unfold foldTo stableL; rw [List.take_length]
theorem foldTo_len {rs : Rws} (h : AllOk rs) (k : Nat) (hk : k ≤ rs.length) : (foldTo rs k).length ≤ 64 := (fold_meet h k hk).1.len
theorem Stable_any (mb rb : Nat) (rs : Rws) (w : World) (h : MatI w mb rb rs) :
    Calls Try.prog 10 #[.pointer (some ⟨mb, 0, none⟩)] w fun e w' => ∃ v, e = .returned v ∧ OwnDots w' w.heap.size v (stableL rs) ∧ Gr w w' := by
  have HM := Lib.hid h
  have HR := Lib.hid (Row_any mb rb rs 0 h.pos w h)
  rw [← foldTo_zero rs h.pos, show ((0 : Nat) : Int) = 0 from rfl] at HR
  have HP := Lib.hid (fun w2 (g : Gr w w2) => Peers_any mb rb rs w2 (h.gr g))
  have hle := h.le
  clear h
  go_enter Try.func10, Try.ntmps10
  go_wp2_with fail
  refine (HR.out).mono ?_
  rintro e w1 ⟨v0, rfl, ho, hg⟩
  have HO := Lib.hid ho
  have HG := Lib.hid hg
  clear ho hg HR
  go_wp2_with fail
  refine (HP.out _ HG.out).mono ?_
  rintro e w2 ⟨rfl, rfl⟩
  clear HP
  go_wp2
  go_loopw [3, 11] (fun v i wr => ∃ k : Nat, k ≤ rs.length ∧ i = .int .i64 k ∧ Hid (OwnDots wr w.heap.size v (foldTo rs k)) ∧ Hid (Gr w wr)) (fun _ i _ => rs.length - (intOf i).toNat)
  case atStart => exact ⟨0, Nat.zero_le _, rfl, HO, HG⟩
  case round =>
    obtain ⟨k, hk, rfl, HO, HG⟩ := hrel
    by_cases hlt : k < rs.length
    · have hki : (k : Int) < (rs.length : Int) := by omega
      have hm := HM.out.gr HG.out
      obtain ⟨A1, c1, rfl, hlc1, hd1⟩ := HO.out.dots
      obtain ⟨A2, c2, hc, hlc2, hd2⟩ := hm.at k hlt
      have hb := hm.cell
      have HMT := Lib.hid (Meet_any A1 A2 c1 c2 (foldTo rs k) rs[k] wr hd1 hd2 hlc1 hlc2)
      have hsu := foldTo_succ rs k hlt
      rw [← hsu] at HMT
      obtain ⟨l, hl⟩ : ∃ l, rs[k] = l := ⟨_, rfl⟩
      rw [hl] at hc HMT
      clear hm hd1 hd2 hsu hl hlc1 hlc2
      go_wp2_with fail
      refine (HMT.out).mono ?_
      rintro e w3 ⟨v3, rfl, ho, hg⟩
      have HO3 := Lib.hid (OwnDots.lower ho HG.out.size)
      have HG3 := Lib.hid (HG.out.tr hg)
      clear ho hg HMT HO hc hb
      go_wp2
      go_roundw
      case rel => exact ⟨k + 1, by omega, by go_num, HO3, HG3⟩
      case measure => simp [intOf]; omega
    · have hkn : k = rs.length := by omega
      subst hkn
      have hki : ¬ (rs.length : Int) < (rs.length : Int) := by omega
      rw [foldTo_all] at HO
      go_wp2
      go_ret
      exact ⟨_, rfl, HO.out, HG.out⟩
theorem Stable_nil (w : World) : Calls Try.prog 10 #[.pointer none] w fun e w' => e = .returned (.slice none 0 0) ∧ Gr w w' := by
  go_enter Try.func10, Try.ntmps10
  go_wp2
  go_ret
  exact ⟨rfl, Gr.rfl' _⟩
theorem Steady_of (m : Value) (l : List Dot) (p c : Int) (w : World) (HST : ∀ w2, Gr w w2 → Calls Try.prog 10 #[m] w2 fun e w' => ∃ v, e = .returned v ∧ OwnDots w' w2.heap.size v l ∧ Gr w2 w') :
    Calls Try.prog 21 #[m, .agg #[.int .i64 p, .int .i64 c]] w fun e w' => e = .returned (.bool (hasV l p c)) ∧ Gr w w' := by
  replace HST := Lib.hid HST
  have hg0 : Gr w (w.alloc (.cells #[.int .i64 p, .int .i64 c] 41)) := (Gr.rfl' w).al _
  have hn := World.alloc_heap_new w (.cells #[.int .i64 p, .int .i64 c] 41)
  have hf0 : (w.alloc (.cells #[.int .i64 p, .int .i64 c] 41)).cell? ⟨w.heap.size, 0, none⟩ = some (.int .i64 p) := by simp only [World.cell?, hn]; rfl
  have hf1 : (w.alloc (.cells #[.int .i64 p, .int .i64 c] 41)).cell? ⟨w.heap.size, 1, none⟩ = some (.int .i64 c) := by simp only [World.cell?, hn]; rfl
  have HW0 : Hid (w.alloc (.cells #[.int .i64 p, .int .i64 c] 41) = w.alloc (.cells #[.int .i64 p, .int .i64 c] 41)) := Lib.hid rfl
  generalize hw0 : w.alloc (.cells #[.int .i64 p, .int .i64 c] 41) = w0 at *
  replace HW0 := Lib.hid hw0
  clear hn hw0
  go_enter Try.func21, Try.ntmps21
  go_upto_region 1 with (fail)
  rw [show w.alloc (.cells #[.int .i64 p, .int .i64 c] 41) = w0 from HW0.out]
  go_region_held3 (fun w' => w'.cell? ⟨w.heap.size, 0, none⟩ = some (.int .i64 p) ∧ w'.cell? ⟨w.heap.size, 1, none⟩ = some (.int .i64 c)) (first | exact ⟨hf0, hf1⟩ | exact ⟨hg1.cell hf0, hg1.cell hf1⟩) (first
    | (go_at_call 10; refine (HST.out _ hg0.dr).mono ?_; rintro e w1 ⟨v, rfl, ho, hg1⟩; obtain ⟨A1, c1, rfl, hlc1, hd1⟩ := ho.dots; clear HST)
    | (go_at_call 32; refine (Has_any A1 c1 l p c _ hd1).mono ?_; rintro e w2 ⟨rfl, hg2⟩; replace hg1 := hg1.tr hg2))
  go_wp2
  go_ret
  exact ⟨rfl, hg0.tr ((Gr.rfl' _).dr.tr hg1)⟩
theorem Steady_any (mb rb : Nat) (rs : Rws) (p c : Int) (w : World) (h : MatI w mb rb rs) :
    Calls Try.prog 21 #[.pointer (some ⟨mb, 0, none⟩), .agg #[.int .i64 p, .int .i64 c]] w fun e w' => e = .returned (.bool (hasV (stableL rs) p c)) ∧ Gr w w' :=
  Steady_of _ _ p c w fun w2 g => Stable_any mb rb rs w2 (h.gr g)
theorem Steady_nil (p c : Int) (w : World) :
    Calls Try.prog 21 #[.pointer none, .agg #[.int .i64 p, .int .i64 c]] w fun e w' => e = .returned (.bool (hasV [] p c)) ∧ Gr w w' :=
  Steady_of _ _ p c w fun w2 g => (Stable_nil w2).mono (by rintro e w' ⟨rfl, hg⟩; exact ⟨_, rfl, OwnDots.nil _ _, hg⟩)
def DRow.val (d : DRow) : Value := .slice d.A d.l.length d.cap
/-- the dots lie in another block -/
def Off (g : Nat) (d : DRow) : Prop := ∀ ad, d.A = some ad → d.l ≠ [] → ad.block ≠ g
theorem Addr.add_block (a : Addr) (n : Nat) : (a.add n).block = a.block := by unfold Addr.add; split <;> rfl
theorem Dots.off {W W' : World} {g : Nat} {d : DRow} (h : Dots W d.A d.l) (ho : Off g d) (k : W.grownBy W' (some g)) : Dots W' d.A d.l :=
  ⟨h.1, fun i hi => by
    obtain ⟨ad, e, a, b⟩ := h.2 i hi
    have hne : ad.block ≠ g := ho ad e (by intro e0; rw [e0] at hi; simp at hi)
    refine ⟨ad, e, Gm.cell (rb := g) k (by rw [Addr.add_block]; exact hne) a, Gm.cell (rb := g) k (p := ⟨(ad.add (i * 2)).block, (ad.add (i * 2)).off + 1, none⟩) (by show (ad.add (i * 2)).block ≠ g; rw [Addr.add_block]; exact hne) b⟩⟩
theorem Off.new {W : World} {g : Nat} {d : DRow} (h : Dots W d.A d.l) (hg : W.heap.size ≤ g) : Off g d := fun ad e hl => by
  cases hd : d.l with
  | nil => exact absurd hd hl
  | cons x r =>
    obtain ⟨ad', e', a, _⟩ := h.2 0 (by rw [hd]; simp)
    rw [e] at e'; cases e'
    have := World.block_lt_of_cell? W _ a
    rw [Addr.add_block] at this
    omega
theorem Off.own {W : World} {B g c : Nat} {A : Option Addr} {l : List Dot} (h : OwnDots W B (.slice A l.length c) l) (hg : g < B) : Off g ⟨A, c, l⟩ := fun ad e hl => by
  simp only at e
  subst e
  have := (World.ownsRow.lt h ad.block rfl).1
  omega
/-- a row of rows, of one's own, its block known -/
def RowC (W : World) (B g : Nat) (v : Value) (ds : List DRow) : Prop := B ≤ g ∧ OwnG 28 1 W g v ds.length (ds.map DRow.val) ∧ ∀ d ∈ ds, d.l.length ≤ d.cap ∧ Dots W d.A d.l ∧ Off g d
theorem RowC.gr {w w' : World} {B g : Nat} {v : Value} {ds : List DRow} (h : RowC w B g v ds) (k : Gr w w') : RowC w' B g v ds := ⟨h.1, h.2.1.gr k, fun d hd => ⟨(h.2.2 d hd).1, (h.2.2 d hd).2.1.gr k, (h.2.2 d hd).2.2⟩⟩
theorem RowC.lower {w : World} {B B' g : Nat} {v : Value} {ds : List DRow} (h : RowC w B g v ds) (hb : B' ≤ B) : RowC w B' g v ds := ⟨Nat.le_trans hb h.1, h.2⟩
theorem RowC.gm {w w' : World} {B g mb rb : Nat} {v : Value} {ds : List DRow} {rs : Rws} (h : RowC w B g v ds) (m : MatI w mb rb rs) (k : Gm rb w w') (hb : rb < B) : RowC w' B g v ds :=
  ⟨h.1, h.2.1.by k (fun e => by have := Option.some.inj e; have := h.1; omega), fun d hd => ⟨(h.2.2 d hd).1, (h.2.2 d hd).2.1.gm m k, (h.2.2 d hd).2.2⟩⟩
theorem RowC.rows {w : World} {B g : Nat} {v : Value} {ds : List DRow} (h : RowC w B g v ds) : ∃ c, v = .slice (some ⟨g, 0, none⟩) ds.length c ∧ ds.length ≤ c ∧ DRows w (some ⟨g, 0, none⟩) ds := by
  obtain ⟨c, rfl, h1, h2⟩ := h.2.1.shape
  refine ⟨c, rfl, h1, by unfold maxLen at h2; omega, fun i hi => ⟨_, rfl, ?_, (h.2.2 _ (List.getElem_mem hi)).2.1⟩⟩
  have e : (⟨g, 0, none⟩ : Addr).add i = ⟨g, i, none⟩ := by unfold Addr.add; split <;> simp_all
  rw [e]
  exact (h.2.1.cell i ds[i].val (by simp [hi])).1
theorem RowC.add {w w' : World} {B g g' : Nat} {v v' : Value} {ds : List DRow} {d : DRow} (h : RowC w B g v ds) (hd : d.l.length ≤ d.cap) (hdd : Dots w d.A d.l) (hoff : Off g d)
    (ho : OwnG 28 1 w' g' v' (ds.length + 1) (ds.map DRow.val ++ [d.val])) (hg : g' = g ∨ w.heap.size ≤ g') (k : w.grownBy w' (some g)) (hB : B ≤ w.heap.size) : RowC w' B g' v' (ds ++ [d]) := by
  have hall : ∀ x ∈ ds ++ [d], x.l.length ≤ x.cap ∧ Dots w x.A x.l ∧ Off g x := by
    intro x hx
    rcases List.mem_append.1 hx with hx | hx
    · exact h.2.2 x hx
    · have : x = d := by simpa using hx
      subst this; exact ⟨hd, hdd, hoff⟩
  refine ⟨?_, by simpa using ho, fun x hx => ?_⟩
  · rcases hg with rfl | hg
    · exact h.1
    · omega
  · obtain ⟨k1, k2, k3⟩ := hall x hx
    refine ⟨k1, k2.off k3 k, ?_⟩
    rcases hg with rfl | hg
    · exact k3
    · exact Off.new k2 hg
theorem RowC.one {w w' : World} {B g' : Nat} {v' : Value} {d : DRow} (hd : d.l.length ≤ d.cap) (hdd : Dots w d.A d.l)
    (ho : OwnG 28 1 w' g' v' 1 [d.val]) (hg : w.heap.size ≤ g') (k : Gr w w') (hB : B ≤ w.heap.size) : RowC w' B g' v' [d] :=
  ⟨by omega, ho, fun x hx => by
    have : x = d := by simpa using hx
    subst this; exact ⟨hd, hdd.gr k, Off.new hdd hg⟩⟩
/-- nil, or a row of rows -/
def RowN (W : World) (B : Nat) (v : Value) (ds : List DRow) : Prop := (v = .slice none 0 0 ∧ ds = []) ∨ ∃ g, RowC W B g v ds
theorem RowN.rows {w : World} {B : Nat} {v : Value} {ds : List DRow} (h : RowN w B v ds) : ∃ A c, v = .slice A ds.length c ∧ ds.length ≤ c ∧ DRows w A ds := by
  rcases h with ⟨rfl, rfl⟩ | ⟨g, h⟩
  · exact ⟨none, 0, rfl, Nat.le_refl _, by simp, fun i hi => absurd hi (by simp)⟩
  · obtain ⟨c, e, h1, h2⟩ := h.rows; exact ⟨_, c, e, h1, h2⟩
theorem Rows_any (mb rb : Nat) (rs : Rws) (w : World) (h : MatI w mb rb rs) :
    Calls Try.prog 14 #[.pointer (some ⟨mb, 0, none⟩)] w fun e w' => (∃ v, e = .returned v ∧ ∃ ds, RowN w' w.heap.size v ds ∧ ds.map DRow.l = rs) ∧ Gr w w' := by
  have HM := Lib.hid h
  have HP := Lib.hid (Peers_any mb rb rs w h)
  have hle := h.le
  obtain ⟨i0, hi, hz0, hz1, hz2⟩ := info_parts infoRow
  clear h
  go_enter Try.func14, Try.ntmps14
  go_wp2_with fail
  refine (HP.out).mono ?_
  rintro e w2 ⟨rfl, rfl⟩
  clear HP
  go_wp2
  go_loopw [3, 7] (fun v i wr => ∃ (k : Nat) (ds : List DRow), k ≤ rs.length ∧ i = .int .i64 k ∧ ds.length = k ∧ Hid (ds.map DRow.l = rs.take k) ∧ Hid (RowN wr w2.heap.size v ds) ∧ Hid (Gr w2 wr)) (fun _ i _ => rs.length - (intOf i).toNat)
  case atStart => exact ⟨0, [], Nat.zero_le _, rfl, rfl, Lib.hid rfl, Lib.hid (Or.inl ⟨rfl, rfl⟩), Lib.hid (Gr.rfl' _)⟩
  case round =>
    obtain ⟨k, ds, hk, rfl, rfl, HE, HO, HG⟩ := hrel
    by_cases hlt : ds.length < rs.length
    · have hki : (ds.length : Int) < (rs.length : Int) := by omega
      have HR := Lib.hid (Row_any mb rb rs ds.length hlt wr (HM.out.gr HG.out))
      have HE2 : Hid (ds.map DRow.l ++ [rs[ds.length]] = rs.take (ds.length + 1)) := Lib.hid (by rw [HE.out, List.take_succ_eq_append_getElem hlt])
      obtain ⟨l, hl⟩ : ∃ l, rs[ds.length] = l := ⟨_, rfl⟩
      rw [hl] at HR HE2
      clear hl
      go_wp2_with fail
      refine (HR.out).mono ?_
      rintro e w3 ⟨v3, rfl, ho, hg⟩
      obtain ⟨A3, c3, rfl, hlc3, hd3⟩ := ho.dots
      have HD3 := Lib.hid hd3
      have HW3 := Lib.hid ho
      have HG3 := Lib.hid (HG.out.tr hg)
      have HRD := Lib.hid hg
      have hsz := HG3.out.size
      have HA : Hid (Gr w3 (w3.alloc (.cells #[.slice A3 l.length c3] 28))) := Lib.hid ((Gr.rfl' _).al _)
      have hsa : (w3.alloc (.cells #[.slice A3 l.length c3] 28)).heap.size = w3.heap.size + 1 := by simp
      have HSA := Lib.hid hsa
      clear ho hg HR HG hd3 hsa
      rcases HO.out with ⟨rfl, rfl⟩ | ⟨g, hrc⟩
      · go_wp2_with (at_builtin; go_loud (refine wp_appendN rfl _ _ 31 rfl 28 i0 (.slice none 0 0) 1 24 Try.underlying31 hi hz0 hz1 hz2 rfl (by decide) rfl ⟨_, 0, none⟩ 1 1 [.slice A3 l.length c3] rfl rfl (cells_new _ _ _) (by simp [Value.oneCell']) (by decide) (by decide) (by decide) ?_); intro v' w4 g' hown' hg' hgrow)
        have hg4 : Gr w2 w4 := (HG3.out.tr HA.out).tr (Gr.gb_of hgrow)
        have HO4 : Hid (RowN w4 w2.heap.size v' [⟨A3, c3, l⟩]) := Lib.hid (Or.inr ⟨g', RowC.one (d := ⟨A3, c3, l⟩) hlc3 (HD3.out.gr HA.out) hown' hg' (Gr.gb_of hgrow) (by have := HSA.out; omega)⟩)
        clear hown' hgrow hg'
        go_wp2
        go_roundw
        case rel => exact ⟨0 + 1, [⟨A3, c3, l⟩], by omega, by go_num, rfl, Lib.hid (by exact HE2.out), HO4, Lib.hid hg4⟩
        case measure => simp [intOf]; omega
      · have HRC := Lib.hid ((hrc.gr HRD.out).gr HA.out)
        have hglt := hrc.2.1.lt
        obtain ⟨cv, rfl, _, _⟩ := hrc.2.1.shape
        have HOF := Lib.hid (Off.own HW3.out hglt)
        have hB := hrc.1
        clear hrc
        go_wp2_with (at_builtin; go_loud (refine wp_appendG rfl _ _ 31 rfl 28 i0 (.slice none 0 0) 1 24 Try.underlying31 hi hz0 hz1 hz2 rfl (by decide) g _ _ _ rfl HRC.out.2.1 ⟨_, 0, none⟩ 1 1 [.slice A3 l.length c3] rfl rfl (cells_new _ _ _) (by simp [Value.oneCell']) (by simp only [maxLen]; omega) (by omega) ?_); intro v' w4 g' hown' hg' hgrow)
        have hg4 : Gr w2 w4 := (HG3.out.tr HA.out).grown hgrow (HG3.out.tr HA.out).size (fun j e => by have := Option.some.inj e; omega)
        have HO4 : Hid (RowN w4 w2.heap.size v' (ds ++ [⟨A3, c3, l⟩])) := Lib.hid (Or.inr ⟨g', RowC.add HRC.out (d := ⟨A3, c3, l⟩) hlc3 (HD3.out.gr HA.out) HOF.out hown' hg' hgrow (by have := HSA.out; omega)⟩)
        clear hown' hgrow hg'
        go_wp2
        go_roundw
        case rel => exact ⟨ds.length + 1, ds ++ [⟨A3, c3, l⟩], by omega, by go_num, by simp, Lib.hid (by rw [List.map_append]; exact HE2.out), HO4, Lib.hid hg4⟩
        case measure => simp [intOf]; omega
    · have hkn : ds.length = rs.length := by omega
      have hki : ¬ (ds.length : Int) < (rs.length : Int) := by omega
      have HKN := Lib.hid hkn
      clear hkn
      go_wp2
      go_ret
      exact ⟨⟨_, rfl, ds, HO.out, by rw [HE.out, HKN.out, List.take_length]⟩, HG.out⟩
theorem Rows_nil (w : World) :
    Calls Try.prog 14 #[.pointer none] w fun e w' => e = .returned (.slice none 0 0) ∧ Gr w w' := by
  have HP := Lib.hid (Peers_nil w)
  go_enter Try.func14, Try.ntmps14
  go_wp2_with fail
  refine (HP.out).mono ?_
  rintro e w2 ⟨rfl, rfl⟩
  clear HP
  go_wp2
  go_loopw [3, 7] (fun v i wr => v = .slice none 0 0 ∧ i = .int .i64 0 ∧ wr = w2) (fun _ i _ => 1 - (intOf i).toNat)
  case atStart => exact ⟨rfl, rfl, rfl⟩
  case round =>
    obtain ⟨rfl, rfl, rfl⟩ := hrel
    go_wp2
    go_ret
    exact ⟨rfl, Gr.rfl' _⟩
end Go.Proofs.Ytpaogcighlfelaa
