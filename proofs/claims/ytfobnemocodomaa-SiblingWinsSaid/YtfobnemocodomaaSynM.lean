/- The program's Sync: what two leaves come to. -/
import Derived.Test.YtfobnemocodomaaSynK
import Derived.Test.YtfobnemocodomaaSynL
import Derived.Test.YtfobnemocodomaaSrtS
import Derived.Test.YtfobnemocodomaaSynI
set_option linter.unusedVariables false
set_option linter.unusedSimpArgs false
set_option maxHeartbeats 2000000
namespace Go.Proofs.Ytfobnemocodomaa
open Go.RowKit Go.Great

theorem made_nil (w : World) : Made1 w none 0 [] := ⟨Vers.nil _ _, Nat.le_refl _, by simp⟩
theorem synL_of {a b : List Vx} (ha : leafChk a = 0) (hb : leafChk b = 0) : synL a b = syncOf (filS (a ++ b)) := by unfold synL; rw [if_pos ⟨ha, hb⟩]
theorem synL_nz {a b : List Vx} (h : ¬ (leafChk a = 0 ∧ leafChk b = 0)) : synL a b = [] := by unfold synL; rw [if_neg h]
theorem synL_in {a b : List Vx} {x : Vx} (h : x ∈ synL a b) : x ∈ a ++ b := by
  unfold synL at h
  by_cases hz : leafChk a = 0 ∧ leafChk b = 0
  · rw [if_pos hz] at h
    exact ((filS_mem _ _).1 ((syncOf_mem _ x).1 h).2.2.mem).1
  · rw [if_neg hz] at h; simp at h
theorem leaf_peers {a b : List Vx} (ha : leafChk a = 0) (hb : leafChk b = 0) : ∀ x ∈ filS (a ++ b), 0 ≤ x.P ∧ x.P < 64 := by
  intro x hx
  have hv : verChk x = 0 := by
    rcases List.mem_append.1 ((filS_mem _ _).1 hx).1 with k | k
    · exact ((leaf_zero a).1 ha).1 x k
    · exact ((leaf_zero b).1 hb).1 x k
  have := (ver_parts hv).1
  exact ⟨this.1, this.2.1⟩
theorem syncOf_nil : syncOf [] = [] := by
  unfold syncOf
  rw [List.filterMap_eq_nil_iff]
  intro p _; rfl
theorem cgo_len : ∀ (l : List Vx) (p : Vx), (cgo p l).length ≤ l.length
  | [], _ => by simp [cgo]
  | y :: r, p => by
    have := cgo_len r y
    unfold cgo
    split
    · simp only [List.length_cons]; omega
    · simp only [List.length_cons]; omega
theorem cmpV_len (l : List Vx) : (cmpV l).length ≤ l.length := by
  cases l with
  | nil => exact Nat.le_refl _
  | cons x r => have := cgo_len r x; simp only [cmpV, List.length_cons]; omega
theorem cell_new (W : World) (v : Value) (t : TypeId) : (W.alloc (.cells #[v] t)).cell? ⟨W.heap.size, 0, none⟩ = some v := by
  have hn := World.alloc_heap_new W (.cells #[v] t)
  simp only [World.cell?, hn]; rfl
set_option maxRecDepth 100000 in
theorem sync1P_any {N : Nat} (hst : StableC N) (hN1 : N ≤ 1000000) (A B : Option Addr) (ca cb : Nat) (a b : List Vx) (w : World) (ha : Vers w A a) (hb : Vers w B b) (hab : a.length + b.length ≤ N) (hca : ∀ x ∈ a, x.pl.length ≤ x.pc) (hcb : ∀ x ∈ b, x.pl.length ≤ x.pc) :
    Calls Try.prog 56 #[.slice A a.length ca, .slice B b.length cb] w fun r w' => (∃ v c, r = .returned (.slice v (synL a b).length c) ∧ Made1 w' v c (synL a b)) ∧ Gr w w' := by
  have HA := Lib.hid ha
  have HB := Lib.hid hb
  have HCA := Lib.hid hca
  have HCB := Lib.hid hcb
  have HAB := Lib.hid hab
  have SA := Lib.hid (sLeaf_any A ca a w ha)
  clear ha hb hca hcb hab
  by_cases hza : leafChk a = 0
  · rw [hza] at SA
    have SB : Hid (∀ W, Gr w W → Calls Try.prog 37 #[.slice B b.length cb] W fun r w' => r = .returned (.int .i64 (leafChk b)) ∧ Gr W w') := Lib.hid (fun W g => sLeaf_any B cb b W (HB.out.gr g))
    by_cases hzb : leafChk b = 0
    · rw [hzb] at SB
      have hs0 := synL_of hza hzb
      have hp0 := leaf_peers hza hzb
      obtain ⟨X, hX⟩ : ∃ X, a ++ b = X := ⟨_, rfl⟩
      rw [hX] at hs0 hp0
      have HXL : Hid (X.length = a.length + b.length) := Lib.hid (by rw [← hX, List.length_append])
      have HXE := Lib.hid hX
      have HS := Lib.hid hs0
      have HP := Lib.hid hp0
      clear hs0 hp0 hX
      clear hza hzb
      go_enter Try.func56, Try.ntmps56
      go_wp2_with fail
      refine (SA.out).mono ?_
      rintro r w1 ⟨rfl, g1⟩
      go_wp2_with fail
      refine (SB.out _ g1).mono ?_
      rintro r w2 ⟨rfl, g2⟩
      have G2 := Lib.hid (g1.tr g2)
      clear g1 g2 SA SB
      go_wp2_with fail
      have HTW := Lib.hid (VRows.two (ca := ca) (cb := cb) (HA.out.gr G2.out) (HB.out.gr G2.out) 22)
      obtain ⟨W1, hW1⟩ : ∃ W, w2.alloc (.cells #[.slice A a.length ca, .slice B b.length cb] 22) = W := ⟨_, rfl⟩
      have G3 : Hid (Gr w W1) := Lib.hid (by rw [← hW1]; exact G2.out.tr ((Gr.rfl' w2).al _))
      rw [hW1] at HTW ⊢
      clear hW1
      have HAL := Lib.hid ((allV_two A B ca cb a b).trans HXE.out)
      obtain ⟨rs, hrs⟩ : ∃ rs : List VRow, [(⟨A, ca, a⟩ : VRow), ⟨B, cb, b⟩] = rs := ⟨_, rfl⟩
      have HRL : Hid (rs.length = 2) := Lib.hid (by rw [← hrs]; rfl)
      have HLE : Hid ((allV rs).length ≤ 1000000) := Lib.hid (by rw [← hrs, HAL.out, HXL.out]; have := HAB.out; omega)
      have HR2 : Hid (rs[0]? = some ⟨A, ca, a⟩ ∧ rs[1]? = some ⟨B, cb, b⟩) := Lib.hid (by rw [← hrs]; exact ⟨rfl, rfl⟩)
      rw [hrs] at HTW HAL
      have hcc := vConcat_any (some ⟨w2.heap.size, 0, none⟩) 2 rs W1 HTW.out HLE.out
      rw [HRL.out, HAL.out] at hcc
      refine hcc.mono ?_
      rintro r w3 ⟨⟨v, rfl, hv⟩, g3⟩
      clear hcc
      have G4 := Lib.hid g3
      have HVV : Hid (∀ x ∈ rs, Vers W1 x.A x.l) := Lib.hid (fun x hx => by
        obtain ⟨i, hi, rfl⟩ := List.getElem_of_mem hx
        exact (HTW.out.2 i hi).choose_spec.2.2)
      clear g3
      have HXX : Hid (vsOk W1 X) := Lib.hid (fun x hx => by
        rw [← HXE.out] at hx
        rcases List.mem_append.1 hx with k | k
        · exact (HA.out.oks x k).gr G3.out
        · exact (HB.out.oks x k).gr G3.out)
      rcases hv with ⟨rfl, hnil⟩ | ⟨gl, hgl, hG⟩
      · have HE : Hid (synL a b = []) := Lib.hid (by rw [HS.out, hnil]; exact syncOf_nil)
        clear hnil
        go_wp2_with fail
        obtain ⟨s3, hs3⟩ : ∃ s, w3.heap.size = s := ⟨_, rfl⟩
        have HS3 := Lib.hid hs3
        have hvr := VRows.two (ca := ca) (cb := cb) (HA.out.gr (G3.out.tr G4.out)) (HB.out.gr (G3.out.tr G4.out)) 22
        rw [hs3, hrs] at hvr
        obtain ⟨W4, hW4⟩ : ∃ W, w3.alloc (.cells #[.slice A a.length ca, .slice B b.length cb] 22) = W := ⟨_, rfl⟩
        have g34 : Gr w3 W4 := by rw [← hW4]; exact (Gr.rfl' w3).al _
        have hs34 : s3 < W4.heap.size := by rw [← hW4, ← hs3]; simp
        rw [hs3, hW4]
        rw [hW4] at hvr
        clear hW4 hs3
        refine (covMk_any (some ⟨s3, 0, none⟩) 2 2 W4).mono ?_
        rintro r w5 ⟨rfl, hw5⟩
        have hc5 := cell_new W4 (.slice (some ⟨s3, 0, none⟩) 2 2) 79
        rw [← hw5] at hc5
        have g45 : Gr W4 w5 := by rw [hw5]; exact (Gr.rfl' W4).al _
        clear hw5
        obtain ⟨s4, hs4⟩ : ∃ s, W4.heap.size = s := ⟨_, rfl⟩
        rw [hs4] at hc5 hs34 ⊢
        have HS4 := Lib.hid hs34
        have HC5 := Lib.hid hc5
        have HVR := Lib.hid (hvr.gr g45)
        have G5 := Lib.hid (g34.tr g45)
        clear hc5 hvr g34 g45 hs34 hs4
        go_wp2_with fail
        refine (deleNil_any (some ⟨s3, 0, none⟩) 2 rs s4 w5 HVR.out (by rw [HRL.out]; exact HC5.out) HLE.out).mono ?_
        rintro r w6 ⟨rfl, g6⟩
        go_wp2_with fail
        refine (sortNil_any w6).mono ?_
        rintro r w7 ⟨rfl, rfl⟩
        go_wp2_with fail
        refine (compNil_any _).mono ?_
        rintro r w8 ⟨rfl, rfl⟩
        go_wp2
        go_ret
        rw [HE.out]
        exact ⟨⟨none, 0, rfl, made_nil _⟩, (G3.out.tr (G4.out.tr G5.out)).tr g6⟩
      · obtain ⟨cap, rfl, hc1, hc2⟩ := hG.shape
        have HGS : Hid (gl < w3.heap.size) := Lib.hid hG.lt
        have R3 : Hid (RS W1 gl X w3) := Lib.hid ⟨G4.out, hgl, cap, hG⟩
        have HCAP := Lib.hid hc1
        clear hG hgl hc1 hc2
        go_wp2_with fail
        obtain ⟨s3, hs3⟩ : ∃ s, w3.heap.size = s := ⟨_, rfl⟩
        have HS3 := Lib.hid hs3
        have hvr := VRows.two (ca := ca) (cb := cb) (HA.out.gr (G3.out.tr G4.out)) (HB.out.gr (G3.out.tr G4.out)) 22
        rw [hs3, hrs] at hvr
        obtain ⟨W4, hW4⟩ : ∃ W, w3.alloc (.cells #[.slice A a.length ca, .slice B b.length cb] 22) = W := ⟨_, rfl⟩
        have g34 : Gr w3 W4 := by rw [← hW4]; exact (Gr.rfl' w3).al _
        have hs34 : s3 < W4.heap.size := by rw [← hW4, ← hs3]; simp
        rw [hs3, hW4]
        rw [hW4] at hvr
        clear hW4 hs3
        refine (covMk_any (some ⟨s3, 0, none⟩) 2 2 W4).mono ?_
        rintro r w5 ⟨rfl, hw5⟩
        have hc5 := cell_new W4 (.slice (some ⟨s3, 0, none⟩) 2 2) 79
        rw [← hw5] at hc5
        have g45 : Gr W4 w5 := by rw [hw5]; exact (Gr.rfl' W4).al _
        clear hw5
        obtain ⟨s4, hs4⟩ : ∃ s, W4.heap.size = s := ⟨_, rfl⟩
        rw [hs4] at hc5 hs34 ⊢
        have HS4 := Lib.hid hs34
        have HC5 := Lib.hid hc5
        have HVR := Lib.hid (hvr.gr g45)
        have G5 := Lib.hid (g34.tr g45)
        clear hc5 hvr g34 g45 hs34 hs4
        go_wp2_with fail
        have hde := dele_any gl X.length cap X (some ⟨s3, 0, none⟩) 2 rs s4 W1 w5 ⟨R3.out.next G5.out, ⟨by have := HS3.out; have := HS4.out; have := HGS.out; omega, by rw [HRL.out]; omega, by rw [HRL.out]; exact HC5.out, fun i hi => by
            obtain ⟨ad, e1, e2, _⟩ := HVR.out.2 i hi
            cases e1
            exact ⟨_, rfl, by have := HS3.out; have := HGS.out; show s3 ≠ gl; omega, e2⟩, fun i hi => HVV.out _ (List.getElem_mem hi)⟩⟩ rfl HCAP.out (by rw [HXL.out]; have := HAB.out; omega) HLE.out HXX.out
        rw [HAL.out, ← fil_unc] at hde
        refine hde.mono ?_
        rintro r w6 ⟨rfl, hR6⟩
        clear hde
        have HFL : Hid ((filS X).length ≤ X.length) := Lib.hid (List.length_filter_le _ _)
        have R6 := Lib.hid hR6
        clear hR6
        go_wp2_with fail
        refine (sortRow_any hst gl _ cap (filS X) W1 w6 R6.out rfl (by have := HFL.out; rw [HXL.out] at this; have := HAB.out; omega)).mono ?_
        rintro r w7 ⟨rfl, R, hM, hR7⟩
        have HM := Lib.hid hM
        have R7 := Lib.hid hR7
        have HML := Lib.hid hM.len
        clear hM hR7 R6
        go_wp2_with fail
        refine (comp_any gl _ cap R W1 w7 R7.out HML.out (by have := HFL.out; have := HCAP.out; omega) (by have := HFL.out; rw [HXL.out] at this; have := HAB.out; omega)).mono ?_
        rintro r w8 ⟨rfl, hR8⟩
        have R8 := Lib.hid hR8
        clear hR8
        go_wp2
        go_ret
        have hsy := cmpV_sync HM.out HP.out
        have hS := HS.out
        rw [← hsy] at hS
        refine ⟨⟨some ⟨gl, 0, none⟩, cap, by rw [hS]; rfl, ?_, ?_, ?_⟩, G3.out.tr R8.out.gr⟩
        · rw [hS]
          exact R8.out.vers (fun x hx => (HXX.out x (by rw [← hS] at hx; rw [← HXE.out]; exact synL_in hx)).gr R8.out.gr) (by
            have h1 := synL_leaf a b
            have h2 := (leaf_zero _).1 h1
            have h3 := ups_len _ 0 h2.2.1 (fun x hx => by have := (ver_parts (h2.1 x hx)).1; omega) (by omega)
            rw [hS] at h3; omega)
        · have h1 : (synL a b).length ≤ (filS X).length := by
            rw [HS.out, ← hsy, ← HML.out]; exact cmpV_len R
          have := HFL.out; have := HCAP.out; omega
        · intro x hx
          rcases List.mem_append.1 (synL_in hx) with k | k
          · exact HCA.out x k
          · exact HCB.out x k
    · have hzz : (leafChk b != 0) = true := by simpa using hzb
      have HS := Lib.hid (synL_nz (a := a) (b := b) (fun h => hzb h.2))
      clear hza hzb
      go_enter Try.func56, Try.ntmps56
      go_wp2_with fail
      refine (SA.out).mono ?_
      rintro r w1 ⟨rfl, g1⟩
      go_wp2_with fail
      refine (SB.out _ g1).mono ?_
      rintro r w2 ⟨rfl, g2⟩
      go_wp2
      go_ret
      rw [HS.out]
      exact ⟨⟨none, 0, rfl, made_nil _⟩, g1.tr g2⟩
  · have hzz : (leafChk a != 0) = true := by simpa using hza
    have HS := Lib.hid (synL_nz (a := a) (b := b) (fun h => hza h.1))
    clear hza
    go_enter Try.func56, Try.ntmps56
    go_wp2_with fail
    refine (SA.out).mono ?_
    rintro r w1 ⟨rfl, g1⟩
    go_wp2
    go_ret
    rw [HS.out]
    exact ⟨⟨none, 0, rfl, made_nil _⟩, g1⟩
end Go.Proofs.Ytfobnemocodomaa
