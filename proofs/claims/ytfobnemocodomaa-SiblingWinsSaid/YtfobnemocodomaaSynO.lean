/- What a writer of one leaf sees: the laws' example. -/
import Derived.Test.YtfobnemocodomaaSynM
import Derived.Test.YtfobnemocodomaaSynN
set_option linter.unusedVariables false
set_option linter.unusedSimpArgs false
set_option maxHeartbeats 2000000
namespace Go.Proofs.Ytfobnemocodomaa
open Go.RowKit Go.Great

theorem wr_none {P C : Int} {T : ByteArray} {e : Int} {res : List Vx} {l : List Vx} (h : WrR l P C T e res) (hm : mayE l P C = 0) (ht : T.size ≤ 48) {k : List Dot} (hk : covL l = k) (hh : hasV k P C = false) :
    e = 0 ∧ ∃ A c, res = [⟨P, C, A, k, c, false, T⟩] := by
  rcases h with ⟨h1, _⟩ | ⟨_, h2, _⟩ | ⟨_, _, h3⟩
  · exact absurd hm h1
  · omega
  · rcases h3 with ⟨h4, _⟩ | ⟨_, h5, A, c, h6, _⟩
    · rw [hk, hh] at h4; cases h4
    · exact ⟨h5, A, c, by rw [h6, hk]⟩
set_option maxRecDepth 100000 in
theorem sAwake_any (w : World) :
    Calls Try.prog 36 #[] w fun e w' => e = .returned (.bool true) ∧ Gr w w' := by
  have HW0 := Lib.hid (write1_any none 0 [] 0 1 tX w (Vers.nil _ _) (by simp) (by decide))
  go_enter Try.func36, Try.ntmps36
  go_wp2_with fail
  refine (HW0.out).mono ?_
  rintro r w1 ⟨⟨e, res, B1, c1, rfl, h1, hm1⟩, g1⟩
  obtain ⟨rfl, A1, d1, rfl⟩ := wr_none h1 awk_may0 (by decide) awk_cov0 (by rfl)
  have M1 := Lib.hid hm1
  have G1 := Lib.hid g1
  clear h1 hm1 g1 HW0
  obtain ⟨l1, hl1⟩ : ∃ l, [(⟨0, 1, A1, [], d1, false, tX⟩ : Vx)] = l := ⟨_, rfl⟩
  have HL1 := Lib.hid hl1
  rw [hl1] at M1
  have hn1 : l1.length = 1 := by rw [← hl1]; rfl
  have hw2 := write1_any B1 c1 l1 1 1 tW w1 M1.out.1 M1.out.2.2 (by decide)
  rw [hn1] at hw2
  have HW2 := Lib.hid hw2
  have HN1 := Lib.hid hn1
  clear hw2 hn1 hl1
  go_wp2_with fail
  refine (HW2.out).mono ?_
  rintro r w2 ⟨⟨e, res, B2, c2, rfl, h2, hm2⟩, g2⟩
  obtain ⟨rfl, A2, d2, rfl⟩ := wr_none h2 (by rw [← HL1.out]; exact awk_may1 _ _) (by decide) (by rw [← HL1.out]; exact awk_cov1 _ _) awk_has1
  have M2 := Lib.hid hm2
  have G2 := Lib.hid g2
  clear h2 hm2 g2 HW2
  obtain ⟨l2, hl2⟩ : ∃ l, [(⟨1, 1, A2, [(0, 1)], d2, false, tW⟩ : Vx)] = l := ⟨_, rfl⟩
  have HL2 := Lib.hid hl2
  rw [hl2] at M2
  have hn2 : l2.length = 1 := by rw [← hl2]; rfl
  have HN2 := Lib.hid hn2
  have hw3 := write1_any B1 c1 l1 0 2 tY w2 (M1.out.1.gr G2.out) M1.out.2.2 (by decide)
  rw [HN1.out] at hw3
  have HW3 := Lib.hid hw3
  clear hw3 hl2 hn2
  go_wp2_with fail
  refine (HW3.out).mono ?_
  rintro r w3 ⟨⟨e, res, B3, c3, rfl, h3, hm3⟩, g3⟩
  obtain ⟨rfl, A3, d3, rfl⟩ := wr_none h3 (by rw [← HL1.out]; exact awk_may2 _ _) (by decide) (by rw [← HL1.out]; exact awk_cov1 _ _) awk_has2
  have M3 := Lib.hid hm3
  have G3 := Lib.hid g3
  clear h3 hm3 g3 HW3
  obtain ⟨l3, hl3⟩ : ∃ l, [(⟨0, 2, A3, [(0, 1)], d3, false, tY⟩ : Vx)] = l := ⟨_, rfl⟩
  have HL3 := Lib.hid hl3
  rw [hl3] at M3
  have hn3 : l3.length = 1 := by rw [← hl3]; rfl
  have HN3 := Lib.hid hn3
  have hs4 := sync1P_any stableC19 (by decide) B2 B3 c2 c3 l2 l3 w3 (M2.out.1.gr G3.out) M3.out.1 (by rw [HN2.out, hn3]; decide) M2.out.2.2 M3.out.2.2
  rw [HN2.out, hn3] at hs4
  have HS4 := Lib.hid hs4
  have HE4 : Hid (synL l2 l3 = [⟨0, 2, A3, [(0, 1)], d3, false, tY⟩, ⟨1, 1, A2, [(0, 1)], d2, false, tW⟩]) := Lib.hid (by rw [← HL2.out, ← hl3]; exact awk_syn2 _ _ _ _)
  clear hs4 hl3 hn3
  go_wp2_with fail
  refine (HS4.out).mono ?_
  rintro r w4 ⟨⟨B4, c4, rfl, hm4⟩, g4⟩
  clear HS4
  have G4 := Lib.hid g4
  have M4 := Lib.hid hm4
  clear hm4 g4
  obtain ⟨l4, hl4⟩ : ∃ l, synL l2 l3 = l := ⟨_, rfl⟩
  rw [hl4] at HE4 M4 ⊢
  have hn4 : l4.length = 2 := by rw [HE4.out]; rfl
  have hw5 := winner1_any B4 c4 l4 w4 M4.out.1 (by rw [hn4]; decide)
  rw [hn4] at hw5 ⊢
  have hx5 : winT (winL l4) = .tuple #[.agg (⟨0, 2, A3, [(0, 1)], d3, false, tY⟩ : Vx).cells, .bool true] := by rw [HE4.out, awk_win]; rfl
  rw [hx5] at hw5
  obtain ⟨x, hx⟩ : ∃ x, (⟨0, 2, A3, [(0, 1)], d3, false, tY⟩ : Vx) = x := ⟨_, rfl⟩
  have HXT : Hid (x.T = tY) := Lib.hid (by rw [← hx])
  rw [hx] at hw5
  have HW5 := Lib.hid hw5
  clear hw5 hx5 hn4 hl4 hx HE4
  go_wp2_with fail
  refine (HW5.out).mono ?_
  rintro r w5 ⟨rfl, g5⟩
  have G5 := Lib.hid g5
  clear g5 HW5
  have hs6 := fun (W : World) (g : Gr w5 W) => sync1P_any stableC19 (by decide) B1 B2 c1 c2 l1 l2 W (M1.out.1.gr (G2.out.tr (G3.out.tr (G4.out.tr (G5.out.tr g))))) (M2.out.1.gr (G3.out.tr (G4.out.tr (G5.out.tr g)))) (by rw [HN1.out, HN2.out]; decide) M1.out.2.2 M2.out.2.2
  have HE6 : Hid ((synL l1 l2).length = 1) := Lib.hid (by rw [← HL1.out, ← HL2.out]; rw [awk_syn1]; rfl)
  rw [HN1.out, HN2.out] at hs6
  simp only [HE6.out] at hs6
  have HS6 := Lib.hid hs6
  clear hs6
  go_wp2_with (first
    | refine allocV rfl rfl ?_
    | (refine storeV x rfl (.tmp 8) _ rfl rfl rfl rfl ?_; intro W6 hx6 hg6; have HX6 := Lib.hid hx6; have G6 := Lib.hid hg6; clear hx6 hg6))
  refine (HS6.out W6 G6.out).mono ?_
  rintro r w7 ⟨⟨B7, c7, rfl, _⟩, g7⟩
  obtain ⟨gX, hgX⟩ : ∃ g, w5.heap.size = g := ⟨_, rfl⟩
  rw [hgX] at HX6 ⊢
  have hx7 := (g7.block _ (Array.getElem?_eq_some_iff.1 HX6.out).1).trans HX6.out
  have d4 := (bcells hx7).2.2.2.2
  rw [HXT.out] at d4
  have GE := Lib.hid ((G1.out.tr (G2.out.tr (G3.out.tr (G4.out.tr (G5.out.tr G6.out))))).tr g7)
  clear hx7 g7 hgX HX6 HXT G6 HS6
  go_wp2
  go_ret
  exact ⟨rfl, GE.out⟩
end Go.Proofs.Ytfobnemocodomaa
