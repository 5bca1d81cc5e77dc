/- hearsaylaw07.SiblingOrder: syncing does not hang on the order, nor on how often. -/
import Derived.Test.YtfobnemocodomaaZBm
import Derived.Test.YtfobnemocodomaaZBj
set_option linter.unusedVariables false
set_option linter.unusedSimpArgs false
set_option maxHeartbeats 2000000
namespace Go.Proofs.Ytfobnemocodomaa
open Go.RowKit Go.Great

theorem vsm_refl : ∀ l : List Vx, vsames l l = true
  | [] => rfl
  | x :: r => by unfold vsames; rw [vsm_refl r]; simp [vsame]
theorem syncW {lf : Nat → List Vx} {n : Nat → Int} {al : List Vx} (hL : Wld lf n al) {a b : List Vx} (ha : Lfl al a) (hb : Lfl al b) {A B : Option Addr} {ca cb : Nat} {w : World} (ma : Made1 w A ca a) (mb : Made1 w B cb b) :
    Calls Try.prog 56 #[.slice A a.length ca, .slice B b.length cb] w fun r w' => (∃ v c, r = .returned (.slice v (synL a b).length c) ∧ Made1 w' v c (synL a b)) ∧ Gr w w' :=
  sync1P_any stableC19 (by decide) A B ca cb a b w ma.1 mb.1 (by have := lfl_len hL ha; have := lfl_len hL hb; omega) ma.2.2 mb.2.2
theorem Made1.grW {w w' : World} {A : Option Addr} {c : Nat} {l : List Vx} (h : Made1 w A c l) (g : Gr w w') : Made1 w' A c l := ⟨h.1.gr g, h.2⟩
set_option maxRecDepth 100000 in
theorem SiblingOrder_any (A : Option Addr) (cap : Nat) (l : List Stp) (w : World) (h : Stps w A l) :
    Calls Try.prog 12 #[.slice A l.length cap] w fun r w' => r = .returned (.bool true) ∧ Gr w w' := by
  have HW := Lib.hid (world_any A cap l w h)
  clear h
  go_enter Try.func12, Try.ntmps12
  go_wp2_with fail
  refine (HW.out).mono ?_
  rintro r w1 ⟨⟨lf, n, al, As, cs, v, rfl, hL, hM, hal, B, c, rfl, hv⟩, g1⟩
  have HL := Lib.hid hL
  have HM := Lib.hid hM
  have G1 := Lib.hid g1
  have La := Lib.hid (hL.lfs 0 (by omega))
  have Lb := Lib.hid (hL.lfs 1 (by omega))
  have Lc := Lib.hid (hL.lfs 2 (by omega))
  have E1 := Lib.hid (syn_assoc hL.uni La.out Lb.out Lc.out)
  have E2 := Lib.hid (syn_turn hL.uni La.out Lb.out Lc.out)
  have E3 := Lib.hid (syn_again hL.uni La.out Lb.out Lc.out)
  have E4 := Lib.hid (syn_self hL.uni Lb.out)
  have Lab := Lib.hid (synL_lf hL.uni La.out Lb.out)
  have Lx := Lib.hid (synL_lf hL.uni Lab.out Lc.out)
  have Lbc := Lib.hid (synL_lf hL.uni Lb.out Lc.out)
  have Lcb := Lib.hid (synL_lf hL.uni Lc.out Lb.out)
  clear hL hM hv hal g1 HW
  go_upto_region 2 with (fail)
  obtain ⟨A0, hA0⟩ : ∃ A0, As 0 = A0 := ⟨_, rfl⟩
  obtain ⟨A1, hA1⟩ : ∃ A1, As 1 = A1 := ⟨_, rfl⟩
  obtain ⟨A2, hA2⟩ : ∃ A2, As 2 = A2 := ⟨_, rfl⟩
  obtain ⟨k0, hk0⟩ : ∃ k0, cs 0 = k0 := ⟨_, rfl⟩
  obtain ⟨k1, hk1⟩ : ∃ k1, cs 1 = k1 := ⟨_, rfl⟩
  obtain ⟨k2, hk2⟩ : ∃ k2, cs 2 = k2 := ⟨_, rfl⟩
  have M0 := Lib.hid (HM.out 0 (by omega))
  have M1 := Lib.hid (HM.out 1 (by omega))
  have M2 := Lib.hid (HM.out 2 (by omega))
  rw [hA0, hk0] at M0
  rw [hA1, hk1] at M1
  rw [hA2, hk2] at M2
  simp only [hA0, hA1, hA2, hk0, hk1, hk2]
  obtain ⟨a, ha⟩ : ∃ a, lf 0 = a := ⟨_, rfl⟩
  obtain ⟨b, hb⟩ : ∃ b, lf 1 = b := ⟨_, rfl⟩
  obtain ⟨d, hd⟩ : ∃ d, lf 2 = d := ⟨_, rfl⟩
  simp only [ha, hb, hd] at La Lb Lc E1 E2 E3 E4 Lab Lx Lbc Lcb M0 M1 M2 ⊢
  clear hA0 hA1 hA2 hk0 hk1 hk2 HM ha hb hd
  have hn := World.alloc_heap_new w1 (.cells #[.slice A0 a.length k0, .slice A1 b.length k1, .slice A2 d.length k2] 61)
  have hga : Gr w1 (w1.alloc (.cells #[.slice A0 a.length k0, .slice A1 b.length k1, .slice A2 d.length k2] 61)) := (Gr.rfl' w1).al _
  generalize w1.alloc (.cells #[.slice A0 a.length k0, .slice A1 b.length k1, .slice A2 d.length k2] 61) = W at hn hga ⊢
  have c0 : W.cell? ⟨w1.heap.size, 0, none⟩ = some (.slice A0 a.length k0) := by simp only [World.cell?, hn]; rfl
  have c1 : W.cell? ⟨w1.heap.size, 1, none⟩ = some (.slice A1 b.length k1) := by simp only [World.cell?, hn]; rfl
  have c2 : W.cell? ⟨w1.heap.size, 2, none⟩ = some (.slice A2 d.length k2) := by simp only [World.cell?, hn]; rfl
  clear hn
  refine wp_region_quiet_lit (by kernel_rfl) (by kernel_rfl) ?_
  repeat (first | go_big_quiet_step (fail) | quiet_step (fail))
  refine wpQuiet_nil ?_
  intro _ hw'
  obtain ⟨nq, hw''⟩ := hw'
  subst hw''
  have G2 : Hid (Gr w1 (W.drewN nq)) := Lib.hid (hga.drN nq)
  clear c0 c1 c2 hga
  generalize W.drewN nq = w2 at G2 ⊢
  replace M0 := Lib.hid (M0.out.grW G2.out)
  replace M1 := Lib.hid (M1.out.grW G2.out)
  replace M2 := Lib.hid (M2.out.grW G2.out)
  replace G2 := Lib.hid (G1.out.tr G2.out)
  clear G1
  go_wp2_with fail
  refine (syncW HL.out La.out Lb.out M0.out M1.out).mono ?_
  rintro r w3 ⟨⟨v3, c3, rfl, m3⟩, g3⟩
  have Mab := Lib.hid m3
  replace M0 := Lib.hid (M0.out.grW g3)
  replace M1 := Lib.hid (M1.out.grW g3)
  replace M2 := Lib.hid (M2.out.grW g3)
  replace G2 := Lib.hid (G2.out.tr g3)
  clear m3 g3
  go_wp2_with fail
  refine (syncW HL.out Lab.out Lc.out Mab.out M2.out).mono ?_
  rintro r w4 ⟨⟨v4, c4, rfl, m4⟩, g4⟩
  have Mx := Lib.hid m4
  replace M0 := Lib.hid (M0.out.grW g4)
  replace M1 := Lib.hid (M1.out.grW g4)
  replace M2 := Lib.hid (M2.out.grW g4)
  replace G2 := Lib.hid (G2.out.tr g4)
  clear m4 g4 Mab
  go_wp2_with fail
  refine (syncW HL.out Lb.out Lc.out M1.out M2.out).mono ?_
  rintro r w5 ⟨⟨v5, c5, rfl, m5⟩, g5⟩
  have Mbc := Lib.hid m5
  replace M0 := Lib.hid (M0.out.grW g5)
  replace M1 := Lib.hid (M1.out.grW g5)
  replace M2 := Lib.hid (M2.out.grW g5)
  replace Mx := Lib.hid (Mx.out.grW g5)
  replace G2 := Lib.hid (G2.out.tr g5)
  clear m5 g5
  go_wp2_with fail
  refine (syncW HL.out La.out Lbc.out M0.out Mbc.out).mono ?_
  rintro r w6 ⟨⟨v6, c6, rfl, m6⟩, g6⟩
  rw [← E1.out] at m6 ⊢
  have My := Lib.hid m6
  replace M0 := Lib.hid (M0.out.grW g6)
  replace M1 := Lib.hid (M1.out.grW g6)
  replace M2 := Lib.hid (M2.out.grW g6)
  replace Mx := Lib.hid (Mx.out.grW g6)
  replace G2 := Lib.hid (G2.out.tr g6)
  clear m6 g6 Mbc
  go_wp2_with fail
  refine (vSames1_any _ _ _ _ (synL (synL a b) d) (synL (synL a b) d) _ Mx.out.1 My.out.1).mono ?_
  rintro r w7 ⟨rfl, g7⟩
  rw [vsm_refl]
  replace M0 := Lib.hid (M0.out.grW g7)
  replace M1 := Lib.hid (M1.out.grW g7)
  replace M2 := Lib.hid (M2.out.grW g7)
  replace Mx := Lib.hid (Mx.out.grW g7)
  replace G2 := Lib.hid (G2.out.tr g7)
  clear g7
  go_wp2_with fail
  refine (syncW HL.out Lc.out Lb.out M2.out M1.out).mono ?_
  rintro r w8 ⟨⟨v8, c8, rfl, m8⟩, g8⟩
  have Mcb := Lib.hid m8
  replace M0 := Lib.hid (M0.out.grW g8)
  replace M1 := Lib.hid (M1.out.grW g8)
  replace M2 := Lib.hid (M2.out.grW g8)
  replace Mx := Lib.hid (Mx.out.grW g8)
  replace G2 := Lib.hid (G2.out.tr g8)
  clear m8 g8
  go_wp2_with fail
  refine (syncW HL.out Lcb.out La.out Mcb.out M0.out).mono ?_
  rintro r w9 ⟨⟨v9, c9, rfl, m9⟩, g9⟩
  rw [← E2.out] at m9 ⊢
  have Mz := Lib.hid m9
  replace M0 := Lib.hid (M0.out.grW g9)
  replace M1 := Lib.hid (M1.out.grW g9)
  replace M2 := Lib.hid (M2.out.grW g9)
  replace Mx := Lib.hid (Mx.out.grW g9)
  replace G2 := Lib.hid (G2.out.tr g9)
  clear m9 g9
  go_wp2_with fail
  refine (vSames1_any _ _ _ _ (synL (synL a b) d) (synL (synL a b) d) _ Mx.out.1 Mz.out.1).mono ?_
  rintro r w10 ⟨rfl, g10⟩
  rw [vsm_refl]
  replace M0 := Lib.hid (M0.out.grW g10)
  replace M1 := Lib.hid (M1.out.grW g10)
  replace M2 := Lib.hid (M2.out.grW g10)
  replace Mx := Lib.hid (Mx.out.grW g10)
  replace G2 := Lib.hid (G2.out.tr g10)
  clear g10
  go_wp2_with fail
  refine (syncW HL.out Lx.out La.out Mx.out M0.out).mono ?_
  rintro r w11 ⟨⟨v11, c11, rfl, m11⟩, g11⟩
  rw [E3.out] at m11 ⊢
  have Mu := Lib.hid m11
  replace M0 := Lib.hid (M0.out.grW g11)
  replace M1 := Lib.hid (M1.out.grW g11)
  replace M2 := Lib.hid (M2.out.grW g11)
  replace Mx := Lib.hid (Mx.out.grW g11)
  replace G2 := Lib.hid (G2.out.tr g11)
  clear m11 g11
  go_wp2_with fail
  refine (vSames1_any _ _ _ _ (synL (synL a b) d) (synL (synL a b) d) _ Mx.out.1 Mu.out.1).mono ?_
  rintro r w12 ⟨rfl, g12⟩
  rw [vsm_refl]
  replace M0 := Lib.hid (M0.out.grW g12)
  replace M1 := Lib.hid (M1.out.grW g12)
  replace M2 := Lib.hid (M2.out.grW g12)
  replace Mx := Lib.hid (Mx.out.grW g12)
  replace G2 := Lib.hid (G2.out.tr g12)
  clear g12
  go_wp2_with fail
  refine (syncW HL.out Lb.out Lb.out M1.out M1.out).mono ?_
  rintro r w13 ⟨⟨v13, c13, rfl, m13⟩, g13⟩
  rw [E4.out] at m13 ⊢
  have Mb := Lib.hid m13
  replace M0 := Lib.hid (M0.out.grW g13)
  replace M1 := Lib.hid (M1.out.grW g13)
  replace M2 := Lib.hid (M2.out.grW g13)
  replace Mx := Lib.hid (Mx.out.grW g13)
  replace G2 := Lib.hid (G2.out.tr g13)
  clear m13 g13
  go_wp2_with fail
  refine (vSames1_any _ _ _ _ b b _ Mb.out.1 M1.out.1).mono ?_
  rintro r w14 ⟨rfl, g14⟩
  rw [vsm_refl]
  replace M0 := Lib.hid (M0.out.grW g14)
  replace M1 := Lib.hid (M1.out.grW g14)
  replace M2 := Lib.hid (M2.out.grW g14)
  replace Mx := Lib.hid (Mx.out.grW g14)
  replace G2 := Lib.hid (G2.out.tr g14)
  clear g14
  go_wp2_with fail
  refine (sAwake_any _).mono ?_
  rintro r w15 ⟨rfl, g15⟩
  go_wp2
  go_ret
  exact ⟨rfl, G2.out.tr g15⟩
end Go.Proofs.Ytfobnemocodomaa
