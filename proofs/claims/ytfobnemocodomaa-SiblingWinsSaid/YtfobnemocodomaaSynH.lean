/- A leaf, written over or deleted: the program's and the document's. -/
import Derived.Test.YtfobnemocodomaaSynG
import Derived.Test.YtfobnemocodomaaSynF
set_option linter.unusedVariables false
set_option linter.unusedSimpArgs false
set_option maxHeartbeats 2000000
namespace Go.Proofs.Ytfobnemocodomaa
open Go.RowKit Go.Great

/-- what comes of writing over a leaf -/
def OverR (l : List Vx) (p c : Int) (d : Bool) (t : ByteArray) (e : Int) (res : List Vx) : Prop :=
  (hasV (covL l) p c = true ∧ e = 8 ∧ res = []) ∨ (hasV (covL l) p c = false ∧ e = 0 ∧ ∃ A c', res = [⟨p, c, A, covL l, c', d, t⟩] ∧ (covL l).length ≤ c')
theorem OverR.same {l : List Vx} {p c : Int} {d : Bool} {t : ByteArray} {e e' : Int} {res res' : List Vx} (h : OverR l p c d t e res) (k : OverR l p c d t e' res') : e = e' ∧ vsames res res' = true := by
  rcases h with ⟨h1, rfl, rfl⟩ | ⟨h1, rfl, A, c1, rfl, _⟩ <;> rcases k with ⟨k1, rfl, rfl⟩ | ⟨k1, rfl, B, c2, rfl, _⟩
  · exact ⟨rfl, rfl⟩
  · rw [h1] at k1; cases k1
  · rw [h1] at k1; cases k1
  · exact ⟨rfl, by simp [vsames, vsame]⟩
/-- a row of one version, made -/
def Made1 (w : World) (A : Option Addr) (c : Nat) (res : List Vx) : Prop := Vers w A res ∧ res.length ≤ c ∧ ∀ x ∈ res, x.pl.length ≤ x.pc
theorem vers_one {w : World} (x : Vx) (h : VxOk w x) (hc : x.pl.length ≤ x.pc) : Made1 (w.alloc (.cells x.cells 49)) (some ⟨w.heap.size, 0, none⟩) 1 [x] := by
  have hg : Gr w (w.alloc (.cells x.cells 49)) := (Gr.rfl' w).al _
  refine ⟨⟨by simp, fun i hi => ⟨_, rfl, ?_, fun j v hj => ?_⟩⟩, by simp, fun y hy => by simp at hy; subst hy; exact hc⟩
  · obtain rfl : i = 0 := by simpa using hi
    exact h.gr hg
  · obtain rfl : i = 0 := by simpa using hi
    have := vNew w x j v (by simpa using hj)
    rw [Nat.zero_mul, Addr.add_zero']
    exact this
set_option maxRecDepth 100000 in
theorem over1_any (A : Option Addr) (cap : Nat) (l : List Vx) (P C : Int) (D : Bool) (T : ByteArray) (w : World) (h : Vers w A l) (hcp : ∀ x ∈ l, x.pl.length ≤ x.pc) (hT : T.size ≤ 9223372036854775807) :
    Calls Try.prog 102 #[.slice A l.length cap, .agg (⟨P, C, none, [], 0, D, T⟩ : Vx).cells] w fun r w' => (∃ e res B c, r = .returned (.tuple #[.slice B res.length c, .int .i64 e]) ∧ OverR l P C D T e res ∧ Made1 w' B c res) ∧ Gr w w' := by
  have H := Lib.hid h; clear h
  have hga : Gr w (w.alloc (.cells (⟨P, C, none, [], 0, D, T⟩ : Vx).cells 49)) := (Gr.rfl' w).al _
  have hn := World.alloc_heap_new w (.cells (⟨P, C, none, [], 0, D, T⟩ : Vx).cells 49)
  have HN := Lib.hid hn
  have HG := Lib.hid hga
  have HC := Lib.hid (cover1_any A cap l _ (H.out.gr hga) hcp)
  clear hn hga hcp
  go_enter Try.func102, Try.ntmps102
  go_upto_region 1 with (fail)
  obtain ⟨W, hW⟩ : ∃ W, w.alloc (.cells (⟨P, C, none, [], 0, D, T⟩ : Vx).cells 49) = W := ⟨_, rfl⟩
  rw [hW] at HN HG HC ⊢
  clear hW
  go_wp2_with fail
  refine (HC.out).mono ?_
  rintro r w1 ⟨⟨A', c', rfl, hc', hD, hfr⟩, hg1⟩
  have hn1 := (hg1.block _ (Array.getElem?_eq_some_iff.1 HN.out).1).trans HN.out
  have N1 := Lib.hid hn1
  have G1 := Lib.hid (HG.out.tr hg1)
  have hs1 : w.heap.size < w1.heap.size := (Array.getElem?_eq_some_iff.1 hn1).1
  obtain ⟨_, _, c2, _, _⟩ := bcells hn1
  have f2 : w1.frozen? ⟨w.heap.size, 2, none⟩ = false := by simp [World.frozen?, hn1]
  obtain ⟨ov, hov⟩ : ∃ o, covL l = o := ⟨_, rfl⟩
  have hset : (w1.setCell ⟨w.heap.size, 2, none⟩ (.slice A' ov.length c')).heap[w.heap.size]? = some (.cells (⟨P, C, A', ov, c', D, T⟩ : Vx).cells 49 (0, 0)) := by
    rw [rg_set_same hn1]; rfl
  have hgs : Gr w (w1.setCell ⟨w.heap.size, 2, none⟩ (.slice A' ov.length c')) := G1.out.set (Nat.le_refl _) _
  rw [hov] at hD hc' ⊢
  have hD2 : Dots (w1.setCell ⟨w.heap.size, 2, none⟩ (.slice A' ov.length c')) A' ov := by
    refine ⟨hD.1, fun i hi => ?_⟩
    obtain ⟨ad, rfl, k0, k1⟩ := hD.2 i hi
    have hb : ad.block ≠ w.heap.size := by have h1 := hfr ad rfl; have h2 := (Array.getElem?_eq_some_iff.1 HN.out).1; omega
    have key : ∀ (p : Addr) (v : Value), p.block = ad.block → w1.cell? p = some v → (w1.setCell ⟨w.heap.size, 2, none⟩ (.slice (some ad) ov.length c')).cell? p = some v := fun p v hp hv => by
      have e : (w1.setCell ⟨w.heap.size, 2, none⟩ (.slice (some ad) ov.length c')).heap[p.block]? = w1.heap[p.block]? := Below.heap_setCell _ _ _ _ (by rw [hp]; exact hb)
      rw [← hv]
      simp only [World.cell?, e]
    exact ⟨ad, rfl, key _ _ (by unfold Addr.add; split <;> rfl) k0, key _ _ (by show (ad.add (i * 2)).block = _; unfold Addr.add; split <;> rfl) k1⟩
  have HS := Lib.hid hset
  have HGS := Lib.hid hgs
  have HD2 := Lib.hid hD2
  have HOV := Lib.hid hov
  go_upto_region 2 with (fail)
  clear hn1 c2 f2 hset hgs hD2 hov hs1 hfr hD hg1
  generalize w1.setCell ⟨w.heap.size, 2, none⟩ (.slice A' ov.length c') = w2 at HS HGS HD2 ⊢
  obtain ⟨c0, c1, c2, _, _⟩ := bcells HS.out
  have hh := Has_any A' c' ov P C w2 HD2.out
  by_cases hb : hasV ov P C = true
  · rw [hb] at hh
    have HH := Lib.hid hh
    have HB := Lib.hid hb
    clear hh hb
    go_wp2_with fail
    refine (HH.out).mono ?_
    rintro r w3 ⟨rfl, g3⟩
    go_wp2
    go_ret2
    exact ⟨⟨8, [], none, 0, rfl, Or.inl ⟨by rw [HOV.out]; exact HB.out, rfl, rfl⟩, Vers.nil _ _, Nat.le_refl _, by simp⟩, HGS.out.tr g3⟩
  · have hb : hasV ov P C = false := by simpa using hb
    rw [hb] at hh
    have HH := Lib.hid hh
    have HB := Lib.hid hb
    clear hh hb
    go_wp2_with fail
    refine (HH.out).mono ?_
    rintro r w3 ⟨rfl, g3⟩
    have HS3 := Lib.hid ((g3.block _ (Array.getElem?_eq_some_iff.1 HS.out).1).trans HS.out)
    have G3 := Lib.hid (HGS.out.tr g3)
    have HM := Lib.hid (vers_one (w := w3) ⟨P, C, A', ov, c', D, T⟩ ⟨HD2.out.gr g3, hT⟩ hc')
    have HGA := Lib.hid ((Gr.rfl' w3).al (.cells (⟨P, C, A', ov, c', D, T⟩ : Vx).cells 49))
    clear g3 c0 c1 c2
    go_wp2_with (first
      | refine wpList_load_row rfl 49 (.tmp 3) rfl w.heap.size rfl 49 #[.int .i64 P, .int .i64 C, .slice A' ov.length c', .bool D, .string T] (0, 0) _ HS3.out Try.underlying49 rfl (by kernel_rfl) ?_)
    go_ret2
    exact ⟨⟨0, [⟨P, C, A', ov, c', D, T⟩], some ⟨w3.heap.size, 0, none⟩, 1, rfl, Or.inr ⟨by rw [HOV.out]; exact HB.out, rfl, A', c', by rw [HOV.out], by rw [HOV.out]; exact hc'⟩, HM.out⟩, G3.out.tr HGA.out⟩
set_option maxRecDepth 100000 in
theorem over2_any (A : Option Addr) (cap : Nat) (l : List Vx) (P C : Int) (D : Bool) (T : ByteArray) (w : World) (h : Vers w A l) (hT : T.size ≤ 9223372036854775807) :
    Calls Try.prog 103 #[.slice A l.length cap, .agg #[.int .i64 P, .int .i64 C], .bool D, .string T] w fun r w' => (∃ e res B c, r = .returned (.tuple #[.slice B res.length c, .int .i64 e]) ∧ OverR l P C D T e res ∧ Made1 w' B c res) ∧ Gr w w' := by
  have H := Lib.hid h; clear h
  have hga : Gr w (w.alloc (.cells #[.int .i64 P, .int .i64 C] 47)) := (Gr.rfl' w).al _
  have hn := World.alloc_heap_new w (.cells #[.int .i64 P, .int .i64 C] 47)
  have HN := Lib.hid hn
  have HG := Lib.hid hga
  have HC := Lib.hid (cover2_any A cap l _ (H.out.gr hga))
  clear hn hga
  go_enter Try.func103, Try.ntmps103
  go_upto_region 1 with (fail)
  obtain ⟨W, hW⟩ : ∃ W, w.alloc (.cells #[.int .i64 P, .int .i64 C] 47) = W := ⟨_, rfl⟩
  rw [hW] at HN HG HC ⊢
  clear hW
  go_wp2_with fail
  refine (HC.out).mono ?_
  rintro r w1 ⟨⟨A', c', rfl, hc', hD⟩, hg1⟩
  have hn1 := (hg1.block _ (Array.getElem?_eq_some_iff.1 HN.out).1).trans HN.out
  have G1 := Lib.hid (HG.out.tr hg1)
  have N1 := Lib.hid hn1
  have d0 : w1.cell? ⟨w.heap.size, 0, none⟩ = some (.int .i64 P) := by simp only [World.cell?, hn1]; rfl
  have d1 : w1.cell? ⟨w.heap.size, 1, none⟩ = some (.int .i64 C) := by simp only [World.cell?, hn1]; rfl
  obtain ⟨ov, hov⟩ : ∃ o, covL l = o := ⟨_, rfl⟩
  rw [hov] at hD hc' ⊢
  have HD := Lib.hid hD
  have HOV := Lib.hid hov
  have hh := refHas_any A' c' ov P C w1 hD
  clear hn1 hg1 hD hov
  by_cases hb : hasV ov P C = true
  · rw [hb] at hh
    have HH := Lib.hid hh
    have HB := Lib.hid hb
    clear hh hb
    go_wp2_with fail
    refine (HH.out).mono ?_
    rintro r w3 ⟨rfl, g3⟩
    go_wp2
    go_ret2
    exact ⟨⟨8, [], none, 0, rfl, Or.inl ⟨by rw [HOV.out]; exact HB.out, rfl, rfl⟩, Vers.nil _ _, Nat.le_refl _, by simp⟩, G1.out.tr g3⟩
  · have hb : hasV ov P C = false := by simpa using hb
    rw [hb] at hh
    have HH := Lib.hid hh
    have HB := Lib.hid hb
    clear hh hb
    go_wp2_with fail
    refine (HH.out).mono ?_
    rintro r w3 ⟨rfl, g3⟩
    have e0 := g3.cell d0
    have e1 := g3.cell d1
    have G3 := Lib.hid (G1.out.tr g3)
    have HM := Lib.hid (vers_one (w := w3) ⟨P, C, A', ov, c', D, T⟩ ⟨HD.out.gr g3, hT⟩ hc')
    have HGA := Lib.hid ((Gr.rfl' w3).al (.cells (⟨P, C, A', ov, c', D, T⟩ : Vx).cells 49))
    clear g3 d0 d1
    go_wp2
    go_ret2
    exact ⟨⟨0, [⟨P, C, A', ov, c', D, T⟩], some ⟨w3.heap.size, 0, none⟩, 1, rfl, Or.inr ⟨by rw [HOV.out]; exact HB.out, rfl, A', c', by rw [HOV.out], by rw [HOV.out]; exact hc'⟩, HM.out⟩, G3.out.tr HGA.out⟩
end Go.Proofs.Ytfobnemocodomaa
