/- hearsayref03: round. -/
import Derived.Test.YtkbomgjeoaophaaDoorShaJ
set_option linter.unusedVariables false
set_option linter.unusedSimpArgs false
set_option maxHeartbeats 4000000
namespace Go.Proofs.YtkbomgjeoaophaaDoor
open Go.RowKit Go.Great

theorem choose_or (e f g : W32) : e &&& f ||| ~~~e &&& g = chooseW e f g := by
  unfold chooseW
  ext i hi
  simp only [BitVec.getElem_or, BitVec.getElem_and, BitVec.getElem_xor, BitVec.getElem_not]
  cases e[i] <;> cases f[i] <;> cases g[i] <;> rfl
theorem major_or (a b c : W32) : a &&& b ||| a &&& c ||| b &&& c = majorW a b c := by
  unfold majorW
  ext i hi
  simp only [BitVec.getElem_or, BitVec.getElem_and, BitVec.getElem_xor]
  cases a[i] <;> cases b[i] <;> cases c[i] <;> rfl
theorem u_add5m (x y z u v : W32) : (((x.toNat : Int) + (y.toNat : Int) + (z.toNat : Int) + (u.toNat : Int)) % (4294967296 : Int) + (v.toNat : Int)) % (4294967296 : Int) = ((x + y + z + u + v).toNat : Int) := by
  rw [← u_add5]; omega
/-- the words moved on by one, n of them -/
def shf (l : List W32) : Nat → List W32
  | 0 => l
  | n + 1 => (shf l n).set (7 - n) (gw (shf l n) (6 - n))
theorem shf_len {l : List W32} (h : l.length = 8) : ∀ n, (shf l n).length = 8
  | 0 => h
  | n + 1 => by simp [shf, shf_len h n]
theorem shf_step {l : List W32} (h : l.length = 8) (k x : W32) : ((shf l 7).set 4 (addW (gw (shf l 7) 4) (oneW l k x))).set 0 (addW (oneW l k x) (twoW l)) = stepW l k x := by
  obtain ⟨a0, a1, a2, a3, a4, a5, a6, a7, rfl⟩ := list8 h
  rfl
theorem turn6 (x : W32) (w : World) : Calls Tryd.prog 19 #[.int .u32 x.toNat, .int .u64 6] w fun r w' => r = .returned (.int .u32 ((rotR x 6).toNat : Int)) ∧ w' = w := turn_any x 6 (by decide) (by decide) w
theorem turn11 (x : W32) (w : World) : Calls Tryd.prog 19 #[.int .u32 x.toNat, .int .u64 11] w fun r w' => r = .returned (.int .u32 ((rotR x 11).toNat : Int)) ∧ w' = w := turn_any x 11 (by decide) (by decide) w
theorem turn25 (x : W32) (w : World) : Calls Tryd.prog 19 #[.int .u32 x.toNat, .int .u64 25] w fun r w' => r = .returned (.int .u32 ((rotR x 25).toNat : Int)) ∧ w' = w := turn_any x 25 (by decide) (by decide) w
theorem turn2 (x : W32) (w : World) : Calls Tryd.prog 19 #[.int .u32 x.toNat, .int .u64 2] w fun r w' => r = .returned (.int .u32 ((rotR x 2).toNat : Int)) ∧ w' = w := turn_any x 2 (by decide) (by decide) w
theorem turn13 (x : W32) (w : World) : Calls Tryd.prog 19 #[.int .u32 x.toNat, .int .u64 13] w fun r w' => r = .returned (.int .u32 ((rotR x 13).toNat : Int)) ∧ w' = w := turn_any x 13 (by decide) (by decide) w
theorem turn22 (x : W32) (w : World) : Calls Tryd.prog 19 #[.int .u32 x.toNat, .int .u64 22] w fun r w' => r = .returned (.int .u32 ((rotR x 22).toNat : Int)) ∧ w' = w := turn_any x 22 (by decide) (by decide) w

set_option maxRecDepth 100000 in
theorem round_any (was ws : List W32) (hw : was.length = 8) (hws : ws.length = 64) (w : World) (hK : Keys w 0) : Calls Tryd.prog 20 #[.agg (wC was), .agg (wC ws)] w fun r w' => r = .returned (.agg (wC (adds (rnds was ws 64) was 8))) ∧ Gr w w' := by
  have HK := Lib.hid hK; clear hK
  obtain ⟨w1, e1⟩ : ∃ w1, w.alloc (.cells (wC was) 30) = w1 := ⟨_, rfl⟩
  obtain ⟨w2, e2⟩ : ∃ w2, w1.alloc (.cells (wC ws) 45) = w2 := ⟨_, rfl⟩
  obtain ⟨w3, e3⟩ : ∃ w3, w2.alloc (.cells (wC (Zw 8)) 30) = w3 := ⟨_, rfl⟩
  obtain ⟨w4, e4⟩ : ∃ w4, (w3.alloc (.cells (wC (Zw 8)) 30)).setRow w3.heap.size (wC was) = w4 := ⟨_, rfl⟩
  have z1 : w1.heap.size = w.heap.size + 1 := by rw [← e1, World.size_alloc]
  have z2 : w2.heap.size = w.heap.size + 2 := by rw [← e2, World.size_alloc, z1]
  have z3 : w3.heap.size = w.heap.size + 3 := by rw [← e3, World.size_alloc, z2]
  have g1 : Gr w w1 := by rw [← e1]; exact (Gr.rfl' _).al _
  have g2 : Gr w1 w2 := by rw [← e2]; exact (Gr.rfl' _).al _
  have g3 : Gr w2 w3 := by rw [← e3]; exact (Gr.rfl' _).al _
  have g4 : Gr w3 w4 := by rw [← e4]; exact ((Gr.rfl' _).al _).row (Nat.le_refl _) _
  have HN : Hid (Ws (w3.alloc (.cells (wC (Zw 8)) 30)) w3.heap.size 30 (Zw 8)) := Lib.hid (Ws.new w3 30 (Zw 8))
  have HW1 : Hid (Ws w1 w.heap.size 30 was) := by rw [← e1]; exact Lib.hid (Ws.new _ _ _)
  have HX4 : Hid (Ws w4 w1.heap.size 45 ws) := by
    have : Ws w2 w1.heap.size 45 ws := by rw [← e2]; exact Ws.new _ _ _
    exact Lib.hid ((this.gr g3).gr g4)
  have HR4 : Hid (Ws w4 w2.heap.size 30 (Zw 8)) := by
    have : Ws w3 w2.heap.size 30 (Zw 8) := by rw [← e3]; exact Ws.new _ _ _
    exact Lib.hid (this.gr g4)
  have HH4 : Hid (Ws w4 w3.heap.size 30 (rnds was ws 0)) := by
    rw [← e4]
    exact Lib.hid (HN.out.row was)
  have HW4 : Hid (Ws w4 w.heap.size 30 was) := Lib.hid (((HW1.out.gr g2).gr g3).gr g4)
  have HW3 : Hid (Ws w3 w.heap.size 30 was) := Lib.hid ((HW1.out.gr g2).gr g3)
  have HW3' : Hid (Ws (w3.alloc (.cells (wC (Zw 8)) 30)) w.heap.size 30 was) := Lib.hid (HW3.out.gr ((Gr.rfl' _).al _))
  have HG4 := Lib.hid (((g1.tr g2).tr g3).tr g4)
  have Z1 := Lib.hid z1
  have Z2 := Lib.hid z2
  have Z3 := Lib.hid z3
  clear z1 z2 z3
  clear g1 g2 g3 g4 HW1
  go_enter Tryd.func20, Tryd.ntmps20
  go_upto_region 2 with (first | rw [e1] | rw [e2] | rw [e3] | rw [e4] | (with_reducible refine at_ld 30 (.tmp 2) ?_; refine loadW 30 8 _ w.heap.size was rfl _ rfl rfl HW3.out rfl Tryd.underlying30 sz8 hw ?_) | (with_reducible refine at_st 30 (.tmp 5) (.tmp 11) ?_; refine storeWs 30 w3.heap.size 8 (Zw 8) was rfl _ _ rfl rfl rfl rfl HN.out sz8 rfl hw ?_) | refine allocZ 30 Zw_info8 rfl rfl ?_)
  clear e1 e2 e3 e4 HN HW3 HW3'
  go_wp2
  go_loopw [6] (fun i wr => ∃ k : Nat, k ≤ 64 ∧ i = .int .i64 k ∧ Hid (Ws wr w3.heap.size 30 (rnds was ws k)) ∧ Hid (Ws wr w2.heap.size 30 (Zw 8)) ∧ Hid (Ws wr w.heap.size 30 was) ∧ Hid (Ws wr w1.heap.size 45 ws) ∧ Hid (Gr w wr)) (fun i _ => 64 - (intOf i).toNat)
  case atStart => exact ⟨0, Nat.zero_le _, rfl, HH4, HR4, HW4, HX4, HG4⟩
  case round =>
    clear HH4 HR4 HW4 HX4 HG4
    obtain ⟨k, hk, rfl, HS, HR, HW, HX, HG⟩ := hrel
    have l8 := rnds_len hw ws k
    by_cases hlt : k < 64
    · have hki : (k : Int) < 64 := by omega
      obtain ⟨l, hl⟩ : ∃ l, rnds was ws k = l := ⟨_, rfl⟩
      have hl1 : rnds was ws (k + 1) = stepW l (gw keysW k) (gw ws k) := by rw [← hl]; rfl
      have HL1 := Lib.hid hl1
      rw [hl] at HS l8
      clear hl hl1
      have c0 : wr.cell? ⟨w3.heap.size, 0, none⟩ = some (.int .u32 ((gw l 0).toNat : Int)) := HS.out.cg (by omega)
      have c1 : wr.cell? ⟨w3.heap.size, 1, none⟩ = some (.int .u32 ((gw l 1).toNat : Int)) := HS.out.cg (by omega)
      have c2 : wr.cell? ⟨w3.heap.size, 2, none⟩ = some (.int .u32 ((gw l 2).toNat : Int)) := HS.out.cg (by omega)
      have c4 : wr.cell? ⟨w3.heap.size, 4, none⟩ = some (.int .u32 ((gw l 4).toNat : Int)) := HS.out.cg (by omega)
      have c5 : wr.cell? ⟨w3.heap.size, 5, none⟩ = some (.int .u32 ((gw l 5).toNat : Int)) := HS.out.cg (by omega)
      have c6 : wr.cell? ⟨w3.heap.size, 6, none⟩ = some (.int .u32 ((gw l 6).toNat : Int)) := HS.out.cg (by omega)
      have c7 : wr.cell? ⟨w3.heap.size, 7, none⟩ = some (.int .u32 ((gw l 7).toNat : Int)) := HS.out.cg (by omega)
      have ck : wr.cell? ⟨0, k, none⟩ = some (.int .u32 ((gw keysW k).toNat : Int)) := (HK.out.gr HG.out) k hlt
      have cx : wr.cell? ⟨w1.heap.size, k, none⟩ = some (.int .u32 ((gw ws k).toNat : Int)) := HX.out.cg (by omega)
      go_wp2
      refine wp_region_quiet_lit (by kernel_rfl) (by kernel_rfl) ?_
      repeat (first | go_big_quiet_step (first | (go_at_call_of 19 (6 : Int); exact Calls.quiet_of_same (turn6 _ _)) | (go_at_call_of 19 (11 : Int); exact Calls.quiet_of_same (turn11 _ _)) | (go_at_call_of 19 (25 : Int); exact Calls.quiet_of_same (turn25 _ _))) | quiet_step (first | (go_at_call_of 19 (6 : Int); exact Calls.quiet_of_same (turn6 _ _)) | (go_at_call_of 19 (11 : Int); exact Calls.quiet_of_same (turn11 _ _)) | (go_at_call_of 19 (25 : Int); exact Calls.quiet_of_same (turn25 _ _))))
      refine wpQuiet_nil ?_
      intro _ hw'
      obtain ⟨n1, hw''⟩ := hw'
      subst hw''
      simp only [u_xor, u_and, u_or, u_not, bigE_def, choose_or]
      rw [u_add5m (gw l 7) (bigE (gw l 4)) (chooseW (gw l 4) (gw l 5) (gw l 6)) (gw keysW k) (gw ws k), one_def]
      obtain ⟨o1, ho1⟩ : ∃ o1, oneW l (gw keysW k) (gw ws k) = o1 := ⟨_, rfl⟩
      rw [ho1]
      have HO1 := Lib.hid ho1
      clear ho1
      obtain ⟨wm, hwm⟩ : ∃ wm, wr.drewN n1 = wm := ⟨_, rfl⟩
      have HSm : Hid (Ws wm w3.heap.size 30 l) := by rw [← hwm]; exact HS
      have HRm : Hid (Ws wm w2.heap.size 30 (Zw 8)) := by rw [← hwm]; exact HR
      have HWm : Hid (Ws wm w.heap.size 30 was) := by rw [← hwm]; exact HW
      have HXm : Hid (Ws wm w1.heap.size 45 ws) := by rw [← hwm]; exact HX
      have HGm : Hid (Gr w wm) := by rw [← hwm]; exact Lib.hid (HG.out.drN _)
      rw [hwm]
      clear hwm HS HR HW HX HG c0 c1 c2 c4 c5 c6 c7 ck cx
      have c0 : wm.cell? ⟨w3.heap.size, 0, none⟩ = some (.int .u32 ((gw l 0).toNat : Int)) := HSm.out.cg (by omega)
      have c1 : wm.cell? ⟨w3.heap.size, 1, none⟩ = some (.int .u32 ((gw l 1).toNat : Int)) := HSm.out.cg (by omega)
      have c2 : wm.cell? ⟨w3.heap.size, 2, none⟩ = some (.int .u32 ((gw l 2).toNat : Int)) := HSm.out.cg (by omega)
      go_wp2
      refine wp_region_quiet_lit (by kernel_rfl) (by kernel_rfl) ?_
      repeat (first | go_big_quiet_step (first | (go_at_call_of 19 (2 : Int); exact Calls.quiet_of_same (turn2 _ _)) | (go_at_call_of 19 (13 : Int); exact Calls.quiet_of_same (turn13 _ _)) | (go_at_call_of 19 (22 : Int); exact Calls.quiet_of_same (turn22 _ _))) | quiet_step (first | (go_at_call_of 19 (2 : Int); exact Calls.quiet_of_same (turn2 _ _)) | (go_at_call_of 19 (13 : Int); exact Calls.quiet_of_same (turn13 _ _)) | (go_at_call_of 19 (22 : Int); exact Calls.quiet_of_same (turn22 _ _))))
      refine wpQuiet_nil ?_
      intro _ hw'
      obtain ⟨n2, hw''⟩ := hw'
      subst hw''
      simp only [u_xor, u_and, u_or, bigA_def, major_or]
      rw [u_addW (bigA (gw l 0)) (majorW (gw l 0) (gw l 1) (gw l 2)), two_def]
      obtain ⟨t2, ht2⟩ : ∃ t2, twoW l = t2 := ⟨_, rfl⟩
      rw [ht2]
      have HT2 := Lib.hid ht2
      clear ht2 c0 c1 c2
      have HS0 : Hid (Ws (wm.drewN n2) w3.heap.size 30 (shf l 0)) := HSm
      have HR0 : Hid (Ws (wm.drewN n2) w2.heap.size 30 (Zw 8)) := HRm
      have HW0 : Hid (Ws (wm.drewN n2) w.heap.size 30 was) := HWm
      have HX0 : Hid (Ws (wm.drewN n2) w1.heap.size 45 ws) := HXm
      have HG0 : Hid (Gr w (wm.drewN n2)) := Lib.hid (HGm.out.drN n2)
      clear HSm HRm HWm HXm HGm
      go_wp2
      go_loopw [9] (fun i wx => ∃ n : Nat, n ≤ 7 ∧ i = .int .i64 ((7 - n : Nat) : Int) ∧ Hid (Ws wx w3.heap.size 30 (shf l n)) ∧ Hid (Ws wx w2.heap.size 30 (Zw 8)) ∧ Hid (Ws wx w.heap.size 30 was) ∧ Hid (Ws wx w1.heap.size 45 ws) ∧ Hid (Gr w wx)) (fun i _ => (intOf i).toNat)
      case atStart => exact ⟨0, Nat.zero_le _, rfl, HS0, HR0, HW0, HX0, HG0⟩
      case round =>
        clear HS0 HR0 HW0 HX0 HG0
        obtain ⟨n, hn, rfl, HS, HR, HW, HX, HG⟩ := hrel
        have ls := shf_len l8 n
        by_cases hlt : n < 7
        · obtain ⟨m, hm⟩ : ∃ m : Nat, 7 - n = m + 1 := ⟨6 - n, by omega⟩
          have hm6 : 6 - n = m := by omega
          have hm7 : m < 7 := by omega
          rw [hm]
          have hs1 : shf l (n + 1) = (shf l n).set (m + 1) (gw (shf l n) m) := by show (shf l n).set (7 - n) (gw (shf l n) (6 - n)) = _; rw [hm, hm6]
          have HS1 := Lib.hid hs1
          have e1 : IntKind.i64.wrap (((m + 1 : Nat) : Int) - 1) = (m : Int) := by rw [show (((m + 1 : Nat) : Int) - 1) = (m : Int) by omega]; exact IntWalk.i64_in _ (by omega)
          have HM := Lib.hid hm
          clear hs1 hm hm6 e1
          have hmi : (m : Int) < 7 := by omega
          have q0 : wr.cell? ⟨w3.heap.size, m, none⟩ = some (.int .u32 ((gw (shf l n) m).toNat : Int)) := HS.out.cg (by omega)
          have q1 : wr.cell? ⟨w3.heap.size, m + 1, none⟩ = some (.int .u32 ((gw (shf l n) (m + 1)).toNat : Int)) := HS.out.cg (by omega)
          have f1 := HS.out.frz (m + 1)
          have H2 := Lib.hid (HS.out.set (m + 1) (gw (shf l n) m))
          go_upto_region 9 with fail
          rw [← HS1.out] at H2
          have hle3 : w.heap.size ≤ w3.heap.size := by have := Z3.out; omega
          have R2 : Hid (Ws (wr.setCell ⟨w3.heap.size, m + 1, none⟩ (.int .u32 ((gw (shf l n) m).toNat : Int))) w2.heap.size 30 (Zw 8)) := (heap_set_other (by have := Z3.out; have := Z2.out; omega) _).trans HR.out
          have W2 : Hid (Ws (wr.setCell ⟨w3.heap.size, m + 1, none⟩ (.int .u32 ((gw (shf l n) m).toNat : Int))) w.heap.size 30 was) := (heap_set_other (by have := Z3.out; omega) _).trans HW.out
          have X2 : Hid (Ws (wr.setCell ⟨w3.heap.size, m + 1, none⟩ (.int .u32 ((gw (shf l n) m).toNat : Int))) w1.heap.size 45 ws) := (heap_set_other (by have := Z3.out; have := Z1.out; omega) _).trans HX.out
          have G2 := Lib.hid (HG.out.set (p := ⟨w3.heap.size, m + 1, none⟩) hle3 (.int .u32 ((gw (shf l n) m).toNat : Int)))
          clear HS HR HW HX HG q0 q1 f1 HS1 hle3
          go_wp2
          go_roundw
          case rel => exact ⟨n + 1, by omega, by rw [show 7 - (n + 1) = m by have := HM.out; omega], H2, R2, W2, X2, G2⟩
          case measure => simp [intOf]
        · have hn7 : n = 7 := by omega
          subst hn7
          have q4 : wr.cell? ⟨w3.heap.size, 4, none⟩ = some (.int .u32 ((gw (shf l 7) 4).toNat : Int)) := HS.out.cg (by omega)
          have q0 : wr.cell? ⟨w3.heap.size, 0, none⟩ = some (.int .u32 ((gw (shf l 7) 0).toNat : Int)) := HS.out.cg (by omega)
          have f4 := HS.out.frz 4
          have f0 := HS.out.frz 0
          have H2 := (HS.out.set 4 (addW (gw (shf l 7) 4) o1)).set 0 (addW o1 t2)
          have hle3 : w.heap.size ≤ w3.heap.size := by have := Z3.out; omega
          have hst : ((shf l 7).set 4 (addW (gw (shf l 7) 4) o1)).set 0 (addW o1 t2) = rnds was ws (k + 1) := by
            rw [HL1.out, ← shf_step l8, HO1.out, HT2.out]
          rw [hst] at H2
          have R2 : Hid (Ws ((wr.setCell ⟨w3.heap.size, 4, none⟩ (.int .u32 ((addW (gw (shf l 7) 4) o1).toNat : Int))).setCell ⟨w3.heap.size, 0, none⟩ (.int .u32 ((addW o1 t2).toNat : Int))) w2.heap.size 30 (Zw 8)) := (heap_set_other (by have := Z3.out; have := Z2.out; omega) _).trans ((heap_set_other (by have := Z3.out; have := Z2.out; omega) _).trans HR.out)
          have W2 : Hid (Ws ((wr.setCell ⟨w3.heap.size, 4, none⟩ (.int .u32 ((addW (gw (shf l 7) 4) o1).toNat : Int))).setCell ⟨w3.heap.size, 0, none⟩ (.int .u32 ((addW o1 t2).toNat : Int))) w.heap.size 30 was) := (heap_set_other (by have := Z3.out; omega) _).trans ((heap_set_other (by have := Z3.out; omega) _).trans HW.out)
          have X2 : Hid (Ws ((wr.setCell ⟨w3.heap.size, 4, none⟩ (.int .u32 ((addW (gw (shf l 7) 4) o1).toNat : Int))).setCell ⟨w3.heap.size, 0, none⟩ (.int .u32 ((addW o1 t2).toNat : Int))) w1.heap.size 45 ws) := (heap_set_other (by have := Z3.out; have := Z1.out; omega) _).trans ((heap_set_other (by have := Z3.out; have := Z1.out; omega) _).trans HX.out)
          have G2 := Lib.hid ((HG.out.set (p := ⟨w3.heap.size, 4, none⟩) hle3 (.int .u32 ((addW (gw (shf l 7) 4) o1).toNat : Int))).set (p := ⟨w3.heap.size, 0, none⟩) hle3 (.int .u32 ((addW o1 t2).toNat : Int)))
          have H3 := Lib.hid H2
          clear H2 hst HS HR HW HX HG hle3 hlt ls
          go_upto_region 4 with fail
          rw [u_addW, u_addW]
          clear q4 q0 f4 f0
          go_wp2
          go_roundw
          case rel => exact ⟨k + 1, by omega, by go_num, H3, R2, W2, X2, G2⟩
          case measure => simp [intOf]; omega
    · have hki : ¬ (k : Int) < 64 := by omega
      have hkk : k = 64 := by omega
      subst hkk
      have HH := Lib.hid (show Ws wr w3.heap.size 30 (adds (rnds was ws 64) was 0) from HS.out)
      clear HS HX
      go_wp2
      go_loopw [10] (fun i wx => ∃ k : Nat, k ≤ 8 ∧ i = .int .i64 k ∧ Hid (Ws wx w3.heap.size 30 (adds (rnds was ws 64) was k)) ∧ Hid (Ws wx w2.heap.size 30 (Zw 8)) ∧ Hid (Ws wx w.heap.size 30 was) ∧ Hid (Gr w wx)) (fun i _ => 8 - (intOf i).toNat)
      case atStart => exact ⟨0, Nat.zero_le _, rfl, HH, HR, HW, HG⟩
      case round =>
        clear HH HR HW HG
        obtain ⟨k, hk, rfl, HS, HR, HW, HG⟩ := hrel
        have q3 := Z3.out
        have q2 := Z2.out
        by_cases hlt : k < 8
        · have hki : (k : Int) < 8 := by omega
          have la := adds_len (rnds_len hw ws 64) was k
          have c0 : wr.cell? ⟨w3.heap.size, k, none⟩ = some (.int .u32 ((gw (adds (rnds was ws 64) was k) k).toNat : Int)) := HS.out.cg (by omega)
          have c1 : wr.cell? ⟨w.heap.size, k, none⟩ = some (.int .u32 ((gw was k).toNat : Int)) := HW.out.cg (by omega)
          have f := HS.out.frz k
          have H2 := Lib.hid (HS.out.set k (addW (gw (adds (rnds was ws 64) was k) k) (gw was k)))
          have R2 : Hid (Ws (wr.setCell ⟨w3.heap.size, k, none⟩ (.int .u32 ((addW (gw (adds (rnds was ws 64) was k) k) (gw was k)).toNat : Int))) w2.heap.size 30 (Zw 8)) := (heap_set_other (by omega) _).trans HR.out
          have W2 : Hid (Ws (wr.setCell ⟨w3.heap.size, k, none⟩ (.int .u32 ((addW (gw (adds (rnds was ws 64) was k) k) (gw was k)).toNat : Int))) w.heap.size 30 was) := (heap_set_other (by omega) _).trans HW.out
          have G2 := Lib.hid ((HG.out.set (p := ⟨w3.heap.size, k, none⟩) (by show w.heap.size ≤ w3.heap.size; omega) (.int .u32 ((addW (gw (adds (rnds was ws 64) was k) k) (gw was k)).toNat : Int))).dr)
          clear q2 q3
          go_wp2
          go_region
          rw [u_addW]
          clear c0 c1 f HS HR HW HG
          go_wp2
          go_roundw
          case rel => exact ⟨k + 1, by omega, by go_num, H2, R2, W2, G2⟩
          case measure => simp [intOf]; omega
        · have hki : ¬ (k : Int) < 8 := by omega
          have hkk : k = 8 := by omega
          subst hkk
          have la := adds_len (rnds_len hw ws 64) was 8
          have hG1 := HG.out.row (g := w2.heap.size) (by omega) (wC (adds (rnds was ws 64) was 8))
          clear q2 q3
          go_wp2_with (first | (with_reducible refine at_ld 30 (.tmp 5) ?_; refine loadW 30 8 _ w3.heap.size (adds (rnds was ws 64) was 8) rfl _ rfl rfl HS.out rfl Tryd.underlying30 sz8 la ?_) | (with_reducible refine at_st 30 (.tmp 4) (.tmp 111) ?_; refine storeWs 30 w2.heap.size 8 (Zw 8) (adds (rnds was ws 64) was 8) rfl _ _ rfl rfl rfl rfl HR.out sz8 rfl la ?_))
          refine bodyPost_ret (v := .agg (wC (adds (rnds was ws 64) was 8))) ?_ rfl ⟨rfl, hG1⟩
          simp [results, Tryd.results20, Act.put]
          exact run_loadVar_row _ _ 30 30 _ (0, 0) _ (HR.out.row _) Tryd.underlying30 rfl (by rw [wC_size, la, sz8])
end Go.Proofs.YtkbomgjeoaophaaDoor
