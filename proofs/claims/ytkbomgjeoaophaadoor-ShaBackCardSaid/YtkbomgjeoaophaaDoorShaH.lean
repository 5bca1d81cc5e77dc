/- sha: Value. -/
import Derived.Test.YtkbomgjeoaophaaDoorShaP
set_option linter.unusedVariables false
set_option linter.unusedSimpArgs false
set_option maxHeartbeats 4000000
namespace Go.Proofs.YtkbomgjeoaophaaDoor
open Go.RowKit Go.Great

theorem cellU (w : World) (t : TypeId) (x : UInt8) (i : Int) (h : i = (x.toNat : Int)) : (w.alloc (.cells #[.int .u8 i] t)).cell? ⟨w.heap.size, 0, none⟩ = some (.int .u8 (x.toNat : Int)) := by
  subst h
  simp only [World.cell?, World.alloc_heap_new]; rfl
theorem OwnR.new (w : World) (B : Nat) (hB : B ≤ w.heap.size) : OwnR (w.alloc (.cells #[] 5)) B (.slice (some ⟨w.heap.size, 0, none⟩) 0 0) [] :=
  ⟨rfl, .inr ⟨w.heap.size, 0, #[], rfl, hB, World.alloc_heap_new _ _, by simp, by simp [maxLen], by simp, rfl⟩⟩
theorem Value_nil (w : World) : Calls Tryd.prog 12 #[.pointer none] w fun r w' => r = .returned (.agg (bC Zb)) ∧ Gr w w' := by
  obtain ⟨w1, e1⟩ : ∃ w1, w.alloc (.cells (bC Zb) 24) = w1 := ⟨_, rfl⟩
  obtain ⟨w2, e2⟩ : ∃ w2, w1.alloc (.cells (bC Zb) 24) = w2 := ⟨_, rfl⟩
  have g1 : Gr w w1 := by rw [← e1]; exact (Gr.rfl' _).al _
  have g2 : Gr w1 w2 := by rw [← e2]; exact (Gr.rfl' _).al _
  have H1 : Hid (Bs w2 w.heap.size 24 Zb) := by
    have : Bs w1 w.heap.size 24 Zb := by rw [← e1]; exact Bs.new _ _ _
    exact Lib.hid (this.gr g2)
  have H2 : Hid (Bs w2 w1.heap.size 24 Zb) := by rw [← e2]; exact Lib.hid (Bs.new _ _ _)
  have HG := Lib.hid ((g1.tr g2).row (g := w.heap.size) (Nat.le_refl _) (bC Zb))
  clear g1 g2
  go_enter Tryd.func12, Tryd.ntmps12
  go_wp2_with (first | rw [e1] | rw [e2] | refine allocD rfl rfl ?_ | (with_reducible refine at_ld 24 (.tmp 3) ?_; refine loadD w1.heap.size Zb rfl _ rfl rfl H2.out rfl ?_) | (with_reducible refine at_st 24 (.tmp 2) (.tmp 11) ?_; refine storeD w.heap.size Zb Zb rfl _ _ rfl rfl rfl rfl H1.out rfl rfl ?_))
  refine bodyPost_ret (v := .agg (bC Zb)) ?_ rfl ⟨rfl, HG.out⟩
  simp [results, Tryd.results12, Act.put]
  exact run_loadVar_row _ _ 24 24 _ (0, 0) _ (H1.out.row _) Tryd.underlying24 rfl (by kernel_rfl)

theorem lenB_val (N k : Nat) : ((N : Int) * 8 / 2 ^ (56 - 8 * k) % 256) = ((lenB (8 * N) k).toNat : Int) := by
  unfold lenB
  rw [UInt8.toNat_ofNat', Nat.mul_comm 8 N]
  generalize 56 - 8 * k = e
  have h1 : ((N * 8 / 2 ^ e : Nat) : Int) = (N : Int) * 8 / 2 ^ e := by
    rw [Int.natCast_ediv, Int.natCast_mul, Int.natCast_pow]; rfl
  rw [Int.natCast_emod, h1]
  rfl
theorem OwnR.le {w : World} {B : Nat} {A : Option Addr} {n cap : Nat} {l : List UInt8} (h : OwnR w B (.slice A n cap) l) : n = l.length ∧ n ≤ cap ∧ cap ≤ maxLen := h.b.lenle

theorem by24 (x : W32) : (x.toNat : Int) / (16777216 : Int) = ((UInt8.ofNat (x >>> 24).toNat).toNat : Int) := by
  rw [UInt8.toNat_ofNat', BitVec.toNat_ushiftRight, Nat.shiftRight_eq_div_pow]; have := x.isLt; omega
theorem by16 (x : W32) : (x.toNat : Int) / (65536 : Int) % (256 : Int) = ((UInt8.ofNat (x >>> 16).toNat).toNat : Int) := by
  rw [UInt8.toNat_ofNat', BitVec.toNat_ushiftRight, Nat.shiftRight_eq_div_pow]; omega
theorem by8 (x : W32) : (x.toNat : Int) / (256 : Int) % (256 : Int) = ((UInt8.ofNat (x >>> 8).toNat).toNat : Int) := by
  rw [UInt8.toNat_ofNat', BitVec.toNat_ushiftRight, Nat.shiftRight_eq_div_pow]; omega
theorem by0 (x : W32) : (x.toNat : Int) % (256 : Int) = ((UInt8.ofNat x.toNat).toNat : Int) := by
  rw [UInt8.toNat_ofNat']; omega

set_option maxRecDepth 100000 in
theorem Value_any (b : Nat) (bg : Bool) (h : List W32) (rest : List UInt8) (v : Value) (N : Nat) (B : Nat) (w : World) (hh : h.length = 8) (hK : Keys w 1) (hS : SumAt w b bg h v N) (hO : OwnB w B v rest) (hN : N ≤ 1152921504606846975)
    (hr : rest.length + 200 ≤ 140737488355328) :
    Calls Tryd.prog 12 #[.pointer (some ⟨b, 0, none⟩)] w fun r w' => r = .returned (.agg (bC (valV (effH bg h) rest N))) ∧ Gr w w' := by
  have HK := Lib.hid hK; clear hK
  have HS := Lib.hid hS; clear hS
  have HO := Lib.hid hO; clear hO
  obtain ⟨w1, e1⟩ : ∃ w1, w.alloc (.cells (bC Zb) 24) = w1 := ⟨_, rfl⟩
  obtain ⟨w2, e2⟩ : ∃ w2, w1.alloc (.cells (bC Zb) 24) = w2 := ⟨_, rfl⟩
  have z1 : w1.heap.size = w.heap.size + 1 := by rw [← e1, World.size_alloc]
  have z2 : w2.heap.size = w.heap.size + 2 := by rw [← e2, World.size_alloc, z1]
  have g1 : Gr w w1 := by rw [← e1]; exact (Gr.rfl' _).al _
  have g2 : Gr w1 w2 := by rw [← e2]; exact (Gr.rfl' _).al _
  have HR : Hid (Bs w2 w.heap.size 24 Zb) := by
    have : Bs w1 w.heap.size 24 Zb := by rw [← e1]; exact Bs.new _ _ _
    exact Lib.hid (this.gr g2)
  have HD : Hid (Bs w2 w1.heap.size 24 Zb) := by rw [← e2]; exact Lib.hid (Bs.new _ _ _)
  have HG2 := Lib.hid (g1.tr g2)
  have HS2 := Lib.hid (HS.out.gr HG2.out)
  have Z1 := Lib.hid z1
  have Z2 := Lib.hid z2
  clear z1 z2 g1 g2
  obtain ⟨w3, e3⟩ : ∃ w3, (w2.alloc (.cells (wC (Zw 8)) 30)).setRow w2.heap.size (wC h) = w3 := ⟨_, rfl⟩
  have HN3 : Hid (Ws (w2.alloc (.cells (wC (Zw 8)) 30)) w2.heap.size 30 (Zw 8)) := Lib.hid (Ws.new _ _ _)
  have g3 : Gr w2 w3 := by rw [← e3]; exact ((Gr.rfl' _).al _).row (Nat.le_refl _) _
  have HH3 : Hid (Ws w3 w2.heap.size 30 h) := by rw [← e3]; exact Lib.hid (HN3.out.row h)
  have HS3 := Lib.hid (HS2.out.gr g3)
  have HR3 := Lib.hid (HR.out.gr g3)
  have HD3 := Lib.hid (HD.out.gr g3)
  have HG3 := Lib.hid (HG2.out.tr g3)
  have HR8 : Hid (w2.rangeAt b 1 (wC h).toList) := Lib.hid (HS2.out.range hh)
  have hs8 : (Tryd.prog.info? 30).map (·.size) = some (wC h).toList.length := by rw [sz8]; simp [wC, hh]
  have k0 : w3.cell? ⟨b, 0, none⟩ = some (.bool bg) := HS3.out.at_ (j := 0) rfl
  have HS8 := Lib.hid hs8
  clear g3 hs8
  obtain ⟨hc, hce⟩ : ∃ hc, effH bg h = hc := ⟨_, rfl⟩
  rw [hce]
  have hcl : hc.length = 8 := by rw [← hce]; exact effH_len hh
  have HCE := Lib.hid hce
  clear hce
  go_enter Tryd.func12, Tryd.ntmps12
  go_upto_region 5 with (first | rw [e1] | rw [e2] | rw [e3] | refine allocD rfl rfl ?_ | refine allocZ 30 Zw_info8 rfl rfl ?_ | (with_reducible refine at_ld 30 (.tmp 14) ?_; refine wpList_load_mid rfl 30 _ rfl b 1 rfl (wC h).toList _ HR8.out Tryd.underlying30 rfl HS8.out ?_) | (with_reducible refine at_st 30 (.tmp 4) (.tmp 15) ?_; refine storeWs 30 w2.heap.size 8 (Zw 8) h rfl _ _ rfl rfl rfl rfl HN3.out sz8 rfl hh ?_))
  have HZ3 : Hid (w.heap.size + 2 < w3.heap.size) := by
    have h1 := HH3.out.lt
    have h2 := Z2.out
    exact Lib.hid (by omega)
  clear e1 e2 HN3 HR8 HS8 HS2 HR HD HG2 HS
  cases bg with
  | true =>
    clear e3
    go_upto_region 7 with fail
    obtain ⟨w4, hw4⟩ : ∃ w4, w3 = w4 := ⟨_, rfl⟩
    have e1 : h = hc := HCE.out
    have HS4 : Hid (SumAt w4 b true h v N) := by rw [← hw4]; exact HS3
    have HH4 : Hid (Ws w4 w2.heap.size 30 hc) := by rw [← hw4, ← e1]; exact HH3
    have HR4 : Hid (Bs w4 w.heap.size 24 Zb) := by rw [← hw4]; exact HR3
    have HD4 : Hid (Bs w4 w1.heap.size 24 Zb) := by rw [← hw4]; exact HD3
    have HG4 : Hid (Gr w w4) := by rw [← hw4]; exact HG3
    have HE := Lib.hid e1
    clear e1
    rw [hw4]
    clear hw4 HS3 HH3 HR3 HD3 HG3 k0
    have HLR := Lib.hid hr
    have HZ0 := Lib.hid (zer_lt rest.length)
    have hlz : rest.length ≤ 140737488355128 := by omega
    clear hr
    obtain ⟨w5, e5⟩ : ∃ w5, w4.alloc (.cells #[] 5) = w5 := ⟨_, rfl⟩
    have g5 : Gr w4 w5 := by rw [← e5]; exact (Gr.rfl' _).al _
    have HOr : Hid (OwnR w5 w4.heap.size (.slice (some ⟨w4.heap.size, 0, none⟩) 0 0) []) := by rw [← e5]; exact Lib.hid (OwnR.new _ _ (Nat.le_refl _))
    have HO5 := Lib.hid ((HO.out.gr HG4.out).gr g5)
    have HS5 := Lib.hid (HS4.out.gr g5)
    have c9 : w5.cell? ⟨b, 9, none⟩ = some v := HS5.out.at_ (j := 9) rfl
    have HB5 := Lib.hid g5.size
    have HL5 : Hid (([] : List UInt8).length + rest.length ≤ 140737488355328) := Lib.hid (by simp; omega)
    go_upto_region 8 with (first | rw [e5] | (at_builtin; refine appendA rfl _ _ rfl w4.heap.size _ _ v [] rest rfl HOr.out rfl HO5.out HL5.out HB5.out ?_; intro v6 w6 hown6 hgrow6))
    have HG6 : Hid (Gr w4 w6) := Lib.hid (g5.grown hgrow6 (fun k hk => HOr.out.blk hk))
    have HO6 : Hid (OwnR w6 w4.heap.size v6 (rest)) := Lib.hid hown6
    have HB6 : Hid (w4.heap.size ≤ w6.heap.size) := Lib.hid HG6.out.size
    have HLp : Hid (rest.length + 1 ≤ 140737488355328) := Lib.hid (by omega)
    have HB7 : Hid (w4.heap.size ≤ (w6.alloc (.cells #[.int .u8 128] 5)).heap.size) := Lib.hid (by rw [World.size_alloc]; exact Nat.le_succ_of_le HB6.out)
    clear hown6 hgrow6 HOr HO5 HS5 c9 HB5 HL5 g5 e5
    go_upto_block 1 with (at_builtin; refine append1 rfl _ _ rfl w4.heap.size v6 rest 128 rfl (HO6.out.alloc _) ⟨w6.heap.size, 0, none⟩ rfl (cellU _ _ _ _ rfl) HLp.out HB7.out ?_; intro v7 w7 hown7 hgrow7)
    have hG7 : Gr w4 w7 := (HG6.out.al _).grown hgrow7 (fun k hk => HO6.out.blk hk)
    have hO7 : OwnR w7 w4.heap.size v7 (padZ rest 0) := by rw [padZ_zero]; exact hown7
    have HG7 := Lib.hid hG7
    have HO7 := Lib.hid hO7
    clear hG7 hO7 hown7 hgrow7 HG6 HO6 HB6 HLp HB7
    go_loopg [5] (zer rest.length) (fun g v wr => ∃ k, k ≤ zer rest.length ∧ Hid (g = zer rest.length - k) ∧ Hid (OwnR wr w4.heap.size v (padZ rest k)) ∧ Hid (Gr w4 wr))
    case atStart => exact ⟨0, Nat.zero_le _, Lib.hid rfl, HO7, HG7⟩
    case round =>
      clear HG7 HO7
      obtain ⟨k, hk, HGK, HOk, HGk⟩ := hrel
      obtain ⟨Ak, ck, rfl⟩ := HOk.out.shape
      have HM := Lib.hid (padZ_len rest k)
      have hmb : (padZ rest k).length ≤ 140737488355300 := by have := HM.out; have := HZ0.out; omega
      have HLm : Hid ((padZ rest k).length + 1 ≤ 140737488355328) := Lib.hid (by omega)
      by_cases hlt : k < zer rest.length
      · have hmod := zer_more rest.length k hlt
        have ht : ((((padZ rest k).length : Int) % 64) != 56) = true := by have := HM.out; simp; omega
        have ht2 : ¬ (((padZ rest k).length : Int) % 64 = 56) := by have := HM.out; omega
        have HB8 : Hid (w4.heap.size ≤ (wr.alloc (.cells #[.int .u8 0] 5)).heap.size) := Lib.hid (by rw [World.size_alloc]; exact Nat.le_succ_of_le HGk.out.size)
        clear hmod
        go_wp2_with (at_builtin; refine append1 rfl _ _ rfl w4.heap.size _ (padZ rest k) 0 rfl (HOk.out.alloc _) ⟨wr.heap.size, 0, none⟩ rfl (cellU _ _ _ _ rfl) HLm.out HB8.out ?_; intro v8 w8 hown8 hgrow8)
        have HG8 := Lib.hid ((HGk.out.al _).grown hgrow8 (fun k hk => HOk.out.blk hk))
        have HO8 : Hid (OwnR w8 w4.heap.size v8 (padZ rest (k + 1))) := by rw [padZ_succ]; exact Lib.hid hown8
        clear hown8 hgrow8 ht ht2 HB8
        go_wp2
        go_roundg (zer rest.length - (k + 1))
        case measure => have := HGK.out; omega
        case rel => exact ⟨k + 1, by omega, Lib.hid rfl, HO8, HG8⟩
      · have hkz : k = zer rest.length := by omega
        subst hkz
        have ht : ((((padZ rest (zer rest.length)).length : Int) % 64) != 56) = false := by have := HM.out; have := zer_done rest.length; simp; omega
        have ht2 : ((padZ rest (zer rest.length)).length : Int) % 64 = 56 := by have := HM.out; have := zer_done rest.length; omega
        obtain ⟨l8, hl8⟩ : ∃ l8, padZ rest (zer rest.length) = l8 := ⟨_, rfl⟩
        rw [hl8] at HOk ht ht2 hmb HM ⊢
        have HL8 := Lib.hid hl8
        have hlb : l8.length ≤ 140737488355300 := hmb
        clear hl8 HLm hmb HGK hlt hk
        go_upto_region 11 with fail
        clear ht ht2
        have HO9 : Hid (OwnR wr w4.heap.size (.slice Ak l8.length ck) (l8 ++ tail8 (8 * N) 0)) := by simpa [tail8] using HOk
        clear HOk
        go_wp2
        go_loopw [5, 38] (fun v i wx => ∃ k : Nat, k ≤ 8 ∧ i = .int .i64 k ∧ Hid (OwnR wx w4.heap.size v (l8 ++ tail8 (8 * N) k)) ∧ Hid (Gr w4 wx)) (fun _ i _ => 8 - (intOf i).toNat)
        case atStart => exact ⟨0, Nat.zero_le _, rfl, HO9, HGk⟩
        case round =>
          clear HO9 HGk
          obtain ⟨k, hk, rfl, HOk, HGk⟩ := hrel
          obtain ⟨l9, hl9⟩ : ∃ l9, l8 ++ tail8 (8 * N) k = l9 := ⟨_, rfl⟩
          have HL9 := Lib.hid hl9
          rw [hl9] at HOk
          have hl9b : l9.length ≤ 140737488355308 := by rw [← hl9, List.length_append, tail8_len]; omega
          clear hl9
          obtain ⟨A9, c9, rfl⟩ := HOk.out.shape
          have hNi : (0 : Int) ≤ (N : Int) := by omega
          have hNj : (N : Int) ≤ 1152921504606846975 := by omega
          by_cases hlt : k < 8
          · have hki : (k : Int) < 8 := by omega
            have c10 : wr.cell? ⟨b, 10, none⟩ = some (.int .u64 N) := (HS4.out.gr HGk.out).at_ (j := 10) rfl
            have HLm : Hid (l9.length + 1 ≤ 140737488355328) := Lib.hid (by omega)
            have HB8 : Hid (w4.heap.size ≤ (wr.alloc (.cells #[.int .u8 ((N : Int) * 8 / 2 ^ (56 - 8 * k) % 256)] 5)).heap.size) := Lib.hid (by rw [World.size_alloc]; exact Nat.le_succ_of_le HGk.out.size)
            go_wp2_with (at_builtin; refine append1 rfl _ _ rfl w4.heap.size _ l9 (lenB (8 * N) k) rfl (HOk.out.alloc _) ⟨wr.heap.size, 0, none⟩ rfl (cellU _ _ _ _ (lenB_val N k)) HLm.out HB8.out ?_; intro v10 w10 hown10 hgrow10)
            have HG10 := Lib.hid ((HGk.out.al _).grown hgrow10 (fun k hk => HOk.out.blk hk))
            have HO10 : Hid (OwnR w10 w4.heap.size v10 (l8 ++ tail8 (8 * N) (k + 1))) := by rw [tail8_succ, ← List.append_assoc, HL9.out]; exact Lib.hid hown10
            clear hown10 hgrow10 HB8 HLm c10
            go_wp2
            go_roundw
            case rel => exact ⟨k + 1, by omega, by go_num, HO10, HG10⟩
            case measure => simp [intOf]; omega
          · have hk8 : k = 8 := by omega
            subst hk8
            have e10 : pad8 rest N = l9 := by rw [← HL9.out, ← HL8.out]; rfl
            have HE10 := Lib.hid e10
            have hl9m : l9.length % 64 = 0 := by rw [← e10]; exact pad8_mod _ _
            have HL9M := Lib.hid hl9m
            have hle9 := HOk.out.le.2.1
            clear e10 hl9m hNi hNj hlt
            go_upto_block 4 with fail
            have HT0 : Hid (Ws wr w2.heap.size 30 (blks hc l9 0)) := Lib.hid (HH4.out.gr HGk.out)
            have HO0 : Hid (OwnB wr w4.heap.size (.slice A9 l9.length c9) (l9.drop (64 * 0))) := Lib.hid HOk.out.b
            have HR0 := Lib.hid (HR4.out.gr HGk.out)
            have HD0 := Lib.hid (HD4.out.gr HGk.out)
            have HGG := Lib.hid (HG4.out.tr HGk.out)
            have HWB := Lib.hid HG4.out.size
            clear HGk HOk hle9
            go_wp2
            go_loopg [5] (l9.length / 64) (fun g v wx => ∃ k, Hid (g = l9.length / 64 - k) ∧ 64 * k ≤ l9.length ∧ Hid (Ws wx w2.heap.size 30 (blks hc l9 k)) ∧ Hid (OwnB wx w4.heap.size v (l9.drop (64 * k))) ∧ Hid (Bs wx w.heap.size 24 Zb) ∧ Hid (Bs wx w1.heap.size 24 Zb) ∧ Hid (Gr w wx))
            case atStart => exact ⟨0, Lib.hid rfl, by omega, HT0, HO0, HR0, HD0, HGG⟩
            case round =>
              clear HT0 HO0 HR0 HD0 HGG
              obtain ⟨k, HGK, hkl, HTk, HOk, HRk, HDk, HGk⟩ := hrel
              have hdl : (l9.drop (64 * k)).length = l9.length - 64 * k := List.length_drop
              obtain ⟨Lk, hLk⟩ : ∃ Lk, l9.drop (64 * k) = Lk := ⟨_, rfl⟩
              rw [hLk] at HOk hdl
              obtain ⟨Ak, ck, rfl⟩ := HOk.out.shape
              have hb1 : blks hc l9 (k + 1) = mixV (blks hc l9 k) (Lk.take 64) := by rw [← hLk]; rfl
              have hd1 : l9.drop (64 * (k + 1)) = Lk.drop 64 := by rw [← hLk, List.drop_drop]; rfl
              have hkl8 := blks_len hcl l9 k
              obtain ⟨hk, hhk⟩ : ∃ hk, blks hc l9 k = hk := ⟨_, rfl⟩
              have HSE := Lib.hid (show blks hc l9 k = hk from hhk)
              rw [hhk] at HTk hkl8 hb1
              have HB1 := Lib.hid hb1
              have HD1 := Lib.hid hd1
              have HDL := Lib.hid hdl
              have hlc : Lk.length ≤ ck := (HOk.out.lenle).2.1
              have hcm : ck ≤ maxLen := (HOk.out.lenle).2.2
              unfold maxLen at hcm
              have hmod : Lk.length = 0 ∨ 64 ≤ Lk.length := by have := HDL.out; have := HL9M.out; omega
              clear hb1 hd1 hLk hhk hdl
              by_cases hge : 64 ≤ Lk.length
              · have hgi : (0 : Int) < (Lk.length : Int) := by omega
                have hgi2 : (64 : Int) ≤ (Lk.length : Int) := by omega
                have hgc : (64 : Int) ≤ (ck : Int) := by omega
                obtain ⟨g, o, rfl, hBg⟩ := HOk.out.addr (by omega)
                have hblk : (Lk.take 64).length = 64 := by rw [List.length_take]; omega
                have HKY : Hid (∀ w', Gr wr w' → Keys w' 1) := Lib.hid (fun w' g' => HK.out.gr (HGk.out.tr g'))
                have hSS : Gr wr wr.drew := (Gr.rfl' _).dr
                have hu64 := Tryd.underlying51
                have hu8 := Tryd.underlying30
                have hs64 : (Tryd.prog.info? 51).map (·.size) = some (bC (Lk.take 64)).toList.length := by rw [sz64b]; simp [bC]; omega
                have hs8 : (Tryd.prog.info? 30).map (·.size) = some (wC hk).toList.length := by rw [sz8]; simp [wC, hkl8]
                have hAA : ∀ W, (Instr.arrayAt 51 (.slice (some ⟨g, o, none⟩) Lk.length ck)).run Tryd.prog W = .ok (.pointer (some ⟨g, o, none⟩)) W := fun W => run_arrayAt W 51 5 64 _ _ _ Tryd.underlying51 hge
                have hml := mixV_len hkl8 (Lk.take 64)
                obtain ⟨hm, hhm⟩ : ∃ hm, mixV hk (Lk.take 64) = hm := ⟨_, rfl⟩
                rw [hhm] at hml
                have hsm : (Tryd.prog.info? 30).map (·.size) = some (wC hm).size := by rw [sz8, wC_size, hml]
                have HMIX : Hid (∀ w', Gr wr w' → Calls Tryd.prog 22 #[.agg (wC hk), .agg (bC (Lk.take 64))] w' fun r w'' => r = .returned (.agg (wC hm)) ∧ Gr w' w'') := Lib.hid (fun w' g' => by
                  have := mix_any hk (Lk.take 64) hkl8 hblk w' (HKY.out _ g')
                  rw [hhm] at this
                  exact this)
                have HHM := Lib.hid hhm
                clear hhm
                go_wp2
                refine region_T 5 (fun w' => Gr wr w') (by kernel_rfl) ?_
                refine anyT_take (i := 0) (some 60) rfl rfl (by kernel_rfl) (fun _ _ _ h => h) (yieldsIf_load_mid (by rfl) _ _ rfl _ _ rfl (wC hk).toList _ (fun w' hSw => (HTk.out.gr hSw).range) hu8 rfl hs8) hSS ?_
                simp only [Act.put, List.setIfInBounds_toArray, List.set_cons_zero, List.set_cons_succ, Array.toArray_toList]
                refine anyT_take (i := 1) (v := ?_) (some 61) rfl rfl (by kernel_rfl) (fun _ _ _ h => h) (Or.inl ⟨by rfl, ?_⟩) hSS ?_
                rotate_left
                · intro w' hSw; go_simp; (try with_reducible rfl)
                simp only [Act.put, List.setIfInBounds_toArray, List.set_cons_zero, List.set_cons_succ]
                refine anyT_take (i := 2) (v := ?_) (some 62) rfl rfl (by kernel_rfl) (fun _ _ _ h => h) (Or.inl ⟨by rfl, ?_⟩) hSS ?_
                rotate_left
                · intro w' hSw; go_simp; (try with_reducible rfl)
                simp only [Act.put, List.setIfInBounds_toArray, List.set_cons_zero, List.set_cons_succ]
                refine anyT_take (i := 3) (some 63) rfl rfl (by kernel_rfl) (fun _ _ _ h => h) (yieldsIf_load_mid (by rfl) _ _ rfl _ _ rfl (bC (Lk.take 64)).toList _ (fun w' hSw => (HOk.out.gr hSw).range 64 hge) hu64 rfl hs64) hSS ?_
                simp only [Act.put, List.setIfInBounds_toArray, List.set_cons_zero, List.set_cons_succ, Array.toArray_toList]
                refine anyT_call (i := 4) (some 64) 22 #[.agg (wC hk), .agg (bC (Lk.take 64))] (by kernel_rfl) rfl rfl rfl (by kernel_rfl) ?_
                refine (HMIX.out _ hSS).mono ?_
                rintro r wc ⟨rfl, hgc⟩
                replace hSS := hSS.tr hgc
                refine ⟨_, rfl, fun _ => hSS, ?_⟩
                simp only [Act.put, List.setIfInBounds_toArray, List.set_cons_zero, List.set_cons_succ]
                have HTc := Lib.hid (HTk.out.gr hSS)
                have hth : wc.there w2.heap.size 0 (wC hm).size := by
                  have := HTc.out.there
                  rw [wC_size, hkl8] at this
                  rw [wC_size, hml]
                  exact this
                refine anyT_store 30 (.tmp 4) (.tmp 64) (by kernel_rfl) (by kernel_rfl) rfl rfl rfl rfl w2.heap.size 0 (wC hm) rfl rfl hth hsm (wC_one hm) ?_
                obtain ⟨ws, hws⟩ : ∃ ws, wc.setCells w2.heap.size 0 (wC hm).toList = ws := ⟨_, rfl⟩
                have HTs : Hid (Ws ws w2.heap.size 30 hm) := by rw [← hws]; exact Lib.hid (HTc.out.setAll (by rw [hml, hkl8]))
                have h2lt : w2.heap.size < w4.heap.size := HH4.out.lt
                have hOs : OwnB ws w4.heap.size (.slice (some ⟨g, o, none⟩) Lk.length ck) Lk := by
                  rw [← hws]
                  refine (HOk.out.gr hSS).kept (fun k hk => heap_setCells_other (fun e => ?_) _ _ _)
                  have : g = k := by simpa [Value.ownBlock] using hk
                  omega
                have z1 := Z1.out
                have z2 := Z2.out
                have HRs : Hid (Bs ws w.heap.size 24 Zb) := by
                  rw [← hws]
                  exact Lib.hid ((heap_setCells_other (by omega) _ _ _).trans (HRk.out.gr hSS))
                have HDs : Hid (Bs ws w1.heap.size 24 Zb) := by
                  rw [← hws]
                  exact Lib.hid ((heap_setCells_other (by omega) _ _ _).trans (HDk.out.gr hSS))
                have HGs : Hid (Gr w ws) := by rw [← hws]; exact Lib.hid ((HGk.out.tr hSS).cells (by omega) _ _)
                rw [hws]
                rw [← HHM.out, ← HB1.out] at HTs
                have HOs := Lib.hid hOs
                clear hOs hws HTc hth hSS hgc hAA hu64 hu8 hs64 hs8 hsm HMIX HKY z1 z2
                by_cases hcap : ck = 64
                · subst hcap
                  have e0 : Lk.length - 64 = 0 := by omega
                  have hOd := HOs.out.end_ 64 rfl hge
                  rw [← HD1.out, e0] at hOd
                  have HOd := Lib.hid hOd
                  clear hOd e0
                  go_wp2
                  go_roundg (l9.length / 64 - (k + 1))
                  case measure => have := HGK.out; have := HDL.out; omega
                  case rel => exact ⟨k + 1, Lib.hid rfl, by have := HDL.out; omega, HTs, HOd, HRs, HDs, HGs⟩
                · have hcap2 : 64 < ck := by omega
                  have hOd := HOs.out.drop 64 hge
                  rw [← HD1.out] at hOd
                  have HOd := Lib.hid hOd
                  clear hOd
                  go_wp2
                  go_roundg (l9.length / 64 - (k + 1))
                  case measure => have := HGK.out; have := HDL.out; omega
                  case rel => exact ⟨k + 1, Lib.hid rfl, by have := HDL.out; omega, HTs, HOd, HRs, HDs, HGs⟩
              · have hgi : ¬ (0 : Int) < (Lk.length : Int) := by omega
                have HEK : Hid (hk = blks hc (pad8 rest N) ((pad8 rest N).length / 64)) := by
                  rw [← HSE.out, HE10.out]
                  have : k = l9.length / 64 := by have := HDL.out; have := HL9M.out; omega
                  rw [← this]
                  exact Lib.hid rfl
                go_upto_region 19 with fail
                clear hgi hge hmod hcm hlc HOk HD1 HB1 HDL HSE HGK hkl
                obtain ⟨hf, hhf⟩ : ∃ hf, hk = hf := ⟨_, rfl⟩
                rw [hhf] at HTk hkl8 HEK
                clear hhf
                have HD0 : Hid (Bs wr w1.heap.size 24 (outs hf 0)) := HDk
                clear HDk
                go_wp2_with (first | refine loadW 30 8 _ w2.heap.size hf rfl _ rfl rfl HTk.out rfl Tryd.underlying30 sz8 hkl8 ?_)
                go_loopw [66] (fun i wx => ∃ k : Nat, k ≤ 8 ∧ i = .int .i64 k ∧ Hid (Bs wx w1.heap.size 24 (outs hf k)) ∧ Hid (Bs wx w.heap.size 24 Zb) ∧ Hid (Gr w wx)) (fun i _ => 8 - (intOf i).toNat)
                case atStart => exact ⟨0, Nat.zero_le _, rfl, HD0, HRk, HGk⟩
                case round =>
                  clear HD0 HRk HGk HTk
                  obtain ⟨k, hk, rfl, HDk, HRk, HGk⟩ := hrel
                  by_cases hlt : k < 8
                  · have hki : (k : Int) < 8 := by omega
                    have hix : ∀ W, (Instr.index 30 (.agg (wC hf)) (.int .i64 k)).run Tryd.prog W = .ok (.int .u32 ((gw hf k).toNat : Int)) W := idxW 30 8 Tryd.underlying30 hf hkl8 k hlt
                    have l32 := outs_len hf k
                    have q0 := HDk.out.cg (j := 4 * k) (by omega)
                    have q1 := HDk.out.cg (j := 4 * k + 1) (by omega)
                    have q2 := HDk.out.cg (j := 4 * k + 2) (by omega)
                    have q3 := HDk.out.cg (j := 4 * k + 3) (by omega)
                    have f0 := HDk.out.frz (4 * k)
                    have f1 := HDk.out.frz (4 * k + 1)
                    have f2 := HDk.out.frz (4 * k + 2)
                    have f3 := HDk.out.frz (4 * k + 3)
                    clear l32
                    go_upto_region 23 with fail
                    rw [by24, by16, by8, by0]
                    have HD2 := (((HDk.out.set (4 * k) (UInt8.ofNat (gw hf k >>> 24).toNat)).set (4 * k + 1) (UInt8.ofNat (gw hf k >>> 16).toNat)).set (4 * k + 2) (UInt8.ofNat (gw hf k >>> 8).toNat)).set (4 * k + 3) (UInt8.ofNat (gw hf k).toNat)
                    have hw1 : w.heap.size ≠ w1.heap.size := by have := Z1.out; omega
                    have hle1 : w.heap.size ≤ w1.heap.size := by have := Z1.out; omega
                    have HG2 := (((HGk.out.set (p := ⟨w1.heap.size, 4 * k, none⟩) hle1 (.int .u8 ((UInt8.ofNat (gw hf k >>> 24).toNat).toNat : Int))).set (p := ⟨w1.heap.size, 4 * k + 1, none⟩) hle1 (.int .u8 ((UInt8.ofNat (gw hf k >>> 16).toNat).toNat : Int))).set (p := ⟨w1.heap.size, 4 * k + 2, none⟩) hle1 (.int .u8 ((UInt8.ofNat (gw hf k >>> 8).toNat).toNat : Int))).set (p := ⟨w1.heap.size, 4 * k + 3, none⟩) hle1 (.int .u8 ((UInt8.ofNat (gw hf k).toNat).toNat : Int))
                    obtain ⟨wz, hwz⟩ : ∃ wz, (((wr.setCell ⟨w1.heap.size, 4 * k, none⟩ (.int .u8 ((UInt8.ofNat (gw hf k >>> 24).toNat).toNat : Int))).setCell ⟨w1.heap.size, 4 * k + 1, none⟩ (.int .u8 ((UInt8.ofNat (gw hf k >>> 16).toNat).toNat : Int))).setCell ⟨w1.heap.size, 4 * k + 2, none⟩ (.int .u8 ((UInt8.ofNat (gw hf k >>> 8).toNat).toNat : Int))).setCell ⟨w1.heap.size, 4 * k + 3, none⟩ (.int .u8 ((UInt8.ofNat (gw hf k).toNat).toNat : Int)) = wz := ⟨_, rfl⟩
                    have HRz : Hid (Bs wz w.heap.size 24 Zb) := by
                      rw [← hwz]
                      exact Lib.hid ((heap_set_other hw1 _).trans ((heap_set_other hw1 _).trans ((heap_set_other hw1 _).trans ((heap_set_other hw1 _).trans HRk.out))))
                    rw [hwz] at HD2 HG2 ⊢
                    have HDz : Hid (Bs wz w1.heap.size 24 (outs hf (k + 1))) := Lib.hid HD2
                    have HGz := Lib.hid HG2
                    clear HD2 HG2 hwz q0 q1 q2 q3 f0 f1 f2 f3 hix hw1 hle1 HDk HRk HGk
                    go_wp2
                    go_roundw
                    case rel => exact ⟨k + 1, by omega, by go_num, HDz, HRz, HGz⟩
                    case measure => simp [intOf]; omega
                  · have hk8 : k = 8 := by omega
                    subst hk8
                    have hl8' := outs_len hf 8
                    have hov : outs hf 8 = valV hc rest N := by rw [HEK.out]; rfl
                    rw [hov] at HDk hl8'
                    have HGx := Lib.hid (HGk.out.row (g := w.heap.size) (Nat.le_refl _) (bC (valV hc rest N)))
                    clear hov
                    go_wp2_with (first | refine loadD w1.heap.size (valV hc rest N) rfl _ rfl rfl HDk.out hl8' ?_ | (with_reducible refine at_st 24 (.tmp 2) (.tmp 97) ?_; refine storeD w.heap.size Zb (valV hc rest N) rfl _ _ rfl rfl rfl rfl HRk.out rfl hl8' ?_))
                    refine bodyPost_ret (v := .agg (bC (valV hc rest N))) ?_ rfl ⟨rfl, HGx.out⟩
                    simp [results, Tryd.results12, Act.put]
                    exact run_loadVar_row _ _ 24 24 _ (0, 0) _ (HRk.out.row _) Tryd.underlying24 rfl (by rw [bC_size, hl8', sz32])
  | false =>
    have e1 : startL = hc := HCE.out
    have HE := Lib.hid e1
    clear e3 e1
    go_upto_region 7 with (first | (go_at_call 21; refine (start_any _).mono ?_; rintro r w0 ⟨rfl, g0⟩; have HH0 := Lib.hid (HH3.out.gr g0)) | (with_reducible refine at_st 30 (.tmp 4) (.tmp 21) ?_; refine storeWs 30 w2.heap.size 8 h startL rfl _ _ rfl rfl rfl rfl HH0.out sz8 hh rfl ?_))
    obtain ⟨w4, hw4⟩ : ∃ w4, w0.setRow w2.heap.size (wC startL) = w4 := ⟨_, rfl⟩
    have z1 := Z1.out
    have z2 := Z2.out
    have HS4 : Hid (SumAt w4 b false h v N) := by
      have hb : b ≠ w2.heap.size := by
        intro e
        have h1 := HS3.out
        have h2 := HH3.out
        unfold SumAt at h1
        unfold Ws at h2
        rw [e, h2] at h1
        exact absurd (Obj.cells.inj (Option.some.inj h1)).2.1 (by decide)
      rw [← hw4]
      exact Lib.hid ((setRow_other _ _ _ _ hb).trans (HS3.out.gr g0))
    have HH4 : Hid (Ws w4 w2.heap.size 30 hc) := by rw [← hw4, ← HE.out]; exact Lib.hid (HH0.out.row startL)
    have HR4 : Hid (Bs w4 w.heap.size 24 Zb) := by rw [← hw4]; exact Lib.hid ((setRow_other _ _ _ _ (by omega)).trans (HR3.out.gr g0))
    have HD4 : Hid (Bs w4 w1.heap.size 24 Zb) := by rw [← hw4]; exact Lib.hid ((setRow_other _ _ _ _ (by omega)).trans (HD3.out.gr g0))
    have HG4 : Hid (Gr w w4) := by rw [← hw4]; exact Lib.hid ((HG3.out.tr g0).row (by omega) _)
    rw [hw4]
    clear hw4 HS3 HH3 HR3 HD3 HG3 k0 z1 z2 g0 HH0
    have HLR := Lib.hid hr
    have HZ0 := Lib.hid (zer_lt rest.length)
    have hlz : rest.length ≤ 140737488355128 := by omega
    clear hr
    obtain ⟨w5, e5⟩ : ∃ w5, w4.alloc (.cells #[] 5) = w5 := ⟨_, rfl⟩
    have g5 : Gr w4 w5 := by rw [← e5]; exact (Gr.rfl' _).al _
    have HOr : Hid (OwnR w5 w4.heap.size (.slice (some ⟨w4.heap.size, 0, none⟩) 0 0) []) := by rw [← e5]; exact Lib.hid (OwnR.new _ _ (Nat.le_refl _))
    have HO5 := Lib.hid ((HO.out.gr HG4.out).gr g5)
    have HS5 := Lib.hid (HS4.out.gr g5)
    have c9 : w5.cell? ⟨b, 9, none⟩ = some v := HS5.out.at_ (j := 9) rfl
    have HB5 := Lib.hid g5.size
    have HL5 : Hid (([] : List UInt8).length + rest.length ≤ 140737488355328) := Lib.hid (by simp; omega)
    go_upto_region 8 with (first | rw [e5] | (at_builtin; refine appendA rfl _ _ rfl w4.heap.size _ _ v [] rest rfl HOr.out rfl HO5.out HL5.out HB5.out ?_; intro v6 w6 hown6 hgrow6))
    have HG6 : Hid (Gr w4 w6) := Lib.hid (g5.grown hgrow6 (fun k hk => HOr.out.blk hk))
    have HO6 : Hid (OwnR w6 w4.heap.size v6 (rest)) := Lib.hid hown6
    have HB6 : Hid (w4.heap.size ≤ w6.heap.size) := Lib.hid HG6.out.size
    have HLp : Hid (rest.length + 1 ≤ 140737488355328) := Lib.hid (by omega)
    have HB7 : Hid (w4.heap.size ≤ (w6.alloc (.cells #[.int .u8 128] 5)).heap.size) := Lib.hid (by rw [World.size_alloc]; exact Nat.le_succ_of_le HB6.out)
    clear hown6 hgrow6 HOr HO5 HS5 c9 HB5 HL5 g5 e5
    go_upto_block 1 with (at_builtin; refine append1 rfl _ _ rfl w4.heap.size v6 rest 128 rfl (HO6.out.alloc _) ⟨w6.heap.size, 0, none⟩ rfl (cellU _ _ _ _ rfl) HLp.out HB7.out ?_; intro v7 w7 hown7 hgrow7)
    have hG7 : Gr w4 w7 := (HG6.out.al _).grown hgrow7 (fun k hk => HO6.out.blk hk)
    have hO7 : OwnR w7 w4.heap.size v7 (padZ rest 0) := by rw [padZ_zero]; exact hown7
    have HG7 := Lib.hid hG7
    have HO7 := Lib.hid hO7
    clear hG7 hO7 hown7 hgrow7 HG6 HO6 HB6 HLp HB7
    go_loopg [5] (zer rest.length) (fun g v wr => ∃ k, k ≤ zer rest.length ∧ Hid (g = zer rest.length - k) ∧ Hid (OwnR wr w4.heap.size v (padZ rest k)) ∧ Hid (Gr w4 wr))
    case atStart => exact ⟨0, Nat.zero_le _, Lib.hid rfl, HO7, HG7⟩
    case round =>
      clear HG7 HO7
      obtain ⟨k, hk, HGK, HOk, HGk⟩ := hrel
      obtain ⟨Ak, ck, rfl⟩ := HOk.out.shape
      have HM := Lib.hid (padZ_len rest k)
      have hmb : (padZ rest k).length ≤ 140737488355300 := by have := HM.out; have := HZ0.out; omega
      have HLm : Hid ((padZ rest k).length + 1 ≤ 140737488355328) := Lib.hid (by omega)
      by_cases hlt : k < zer rest.length
      · have hmod := zer_more rest.length k hlt
        have ht : ((((padZ rest k).length : Int) % 64) != 56) = true := by have := HM.out; simp; omega
        have ht2 : ¬ (((padZ rest k).length : Int) % 64 = 56) := by have := HM.out; omega
        have HB8 : Hid (w4.heap.size ≤ (wr.alloc (.cells #[.int .u8 0] 5)).heap.size) := Lib.hid (by rw [World.size_alloc]; exact Nat.le_succ_of_le HGk.out.size)
        clear hmod
        go_wp2_with (at_builtin; refine append1 rfl _ _ rfl w4.heap.size _ (padZ rest k) 0 rfl (HOk.out.alloc _) ⟨wr.heap.size, 0, none⟩ rfl (cellU _ _ _ _ rfl) HLm.out HB8.out ?_; intro v8 w8 hown8 hgrow8)
        have HG8 := Lib.hid ((HGk.out.al _).grown hgrow8 (fun k hk => HOk.out.blk hk))
        have HO8 : Hid (OwnR w8 w4.heap.size v8 (padZ rest (k + 1))) := by rw [padZ_succ]; exact Lib.hid hown8
        clear hown8 hgrow8 ht ht2 HB8
        go_wp2
        go_roundg (zer rest.length - (k + 1))
        case measure => have := HGK.out; omega
        case rel => exact ⟨k + 1, by omega, Lib.hid rfl, HO8, HG8⟩
      · have hkz : k = zer rest.length := by omega
        subst hkz
        have ht : ((((padZ rest (zer rest.length)).length : Int) % 64) != 56) = false := by have := HM.out; have := zer_done rest.length; simp; omega
        have ht2 : ((padZ rest (zer rest.length)).length : Int) % 64 = 56 := by have := HM.out; have := zer_done rest.length; omega
        obtain ⟨l8, hl8⟩ : ∃ l8, padZ rest (zer rest.length) = l8 := ⟨_, rfl⟩
        rw [hl8] at HOk ht ht2 hmb HM ⊢
        have HL8 := Lib.hid hl8
        have hlb : l8.length ≤ 140737488355300 := hmb
        clear hl8 HLm hmb HGK hlt hk
        go_upto_region 11 with fail
        clear ht ht2
        have HO9 : Hid (OwnR wr w4.heap.size (.slice Ak l8.length ck) (l8 ++ tail8 (8 * N) 0)) := by simpa [tail8] using HOk
        clear HOk
        go_wp2
        go_loopw [5, 38] (fun v i wx => ∃ k : Nat, k ≤ 8 ∧ i = .int .i64 k ∧ Hid (OwnR wx w4.heap.size v (l8 ++ tail8 (8 * N) k)) ∧ Hid (Gr w4 wx)) (fun _ i _ => 8 - (intOf i).toNat)
        case atStart => exact ⟨0, Nat.zero_le _, rfl, HO9, HGk⟩
        case round =>
          clear HO9 HGk
          obtain ⟨k, hk, rfl, HOk, HGk⟩ := hrel
          obtain ⟨l9, hl9⟩ : ∃ l9, l8 ++ tail8 (8 * N) k = l9 := ⟨_, rfl⟩
          have HL9 := Lib.hid hl9
          rw [hl9] at HOk
          have hl9b : l9.length ≤ 140737488355308 := by rw [← hl9, List.length_append, tail8_len]; omega
          clear hl9
          obtain ⟨A9, c9, rfl⟩ := HOk.out.shape
          have hNi : (0 : Int) ≤ (N : Int) := by omega
          have hNj : (N : Int) ≤ 1152921504606846975 := by omega
          by_cases hlt : k < 8
          · have hki : (k : Int) < 8 := by omega
            have c10 : wr.cell? ⟨b, 10, none⟩ = some (.int .u64 N) := (HS4.out.gr HGk.out).at_ (j := 10) rfl
            have HLm : Hid (l9.length + 1 ≤ 140737488355328) := Lib.hid (by omega)
            have HB8 : Hid (w4.heap.size ≤ (wr.alloc (.cells #[.int .u8 ((N : Int) * 8 / 2 ^ (56 - 8 * k) % 256)] 5)).heap.size) := Lib.hid (by rw [World.size_alloc]; exact Nat.le_succ_of_le HGk.out.size)
            go_wp2_with (at_builtin; refine append1 rfl _ _ rfl w4.heap.size _ l9 (lenB (8 * N) k) rfl (HOk.out.alloc _) ⟨wr.heap.size, 0, none⟩ rfl (cellU _ _ _ _ (lenB_val N k)) HLm.out HB8.out ?_; intro v10 w10 hown10 hgrow10)
            have HG10 := Lib.hid ((HGk.out.al _).grown hgrow10 (fun k hk => HOk.out.blk hk))
            have HO10 : Hid (OwnR w10 w4.heap.size v10 (l8 ++ tail8 (8 * N) (k + 1))) := by rw [tail8_succ, ← List.append_assoc, HL9.out]; exact Lib.hid hown10
            clear hown10 hgrow10 HB8 HLm c10
            go_wp2
            go_roundw
            case rel => exact ⟨k + 1, by omega, by go_num, HO10, HG10⟩
            case measure => simp [intOf]; omega
          · have hk8 : k = 8 := by omega
            subst hk8
            have e10 : pad8 rest N = l9 := by rw [← HL9.out, ← HL8.out]; rfl
            have HE10 := Lib.hid e10
            have hl9m : l9.length % 64 = 0 := by rw [← e10]; exact pad8_mod _ _
            have HL9M := Lib.hid hl9m
            have hle9 := HOk.out.le.2.1
            clear e10 hl9m hNi hNj hlt
            go_upto_block 4 with fail
            have HT0 : Hid (Ws wr w2.heap.size 30 (blks hc l9 0)) := Lib.hid (HH4.out.gr HGk.out)
            have HO0 : Hid (OwnB wr w4.heap.size (.slice A9 l9.length c9) (l9.drop (64 * 0))) := Lib.hid HOk.out.b
            have HR0 := Lib.hid (HR4.out.gr HGk.out)
            have HD0 := Lib.hid (HD4.out.gr HGk.out)
            have HGG := Lib.hid (HG4.out.tr HGk.out)
            have HWB := Lib.hid HG4.out.size
            clear HGk HOk hle9
            go_wp2
            go_loopg [5] (l9.length / 64) (fun g v wx => ∃ k, Hid (g = l9.length / 64 - k) ∧ 64 * k ≤ l9.length ∧ Hid (Ws wx w2.heap.size 30 (blks hc l9 k)) ∧ Hid (OwnB wx w4.heap.size v (l9.drop (64 * k))) ∧ Hid (Bs wx w.heap.size 24 Zb) ∧ Hid (Bs wx w1.heap.size 24 Zb) ∧ Hid (Gr w wx))
            case atStart => exact ⟨0, Lib.hid rfl, by omega, HT0, HO0, HR0, HD0, HGG⟩
            case round =>
              clear HT0 HO0 HR0 HD0 HGG
              obtain ⟨k, HGK, hkl, HTk, HOk, HRk, HDk, HGk⟩ := hrel
              have hdl : (l9.drop (64 * k)).length = l9.length - 64 * k := List.length_drop
              obtain ⟨Lk, hLk⟩ : ∃ Lk, l9.drop (64 * k) = Lk := ⟨_, rfl⟩
              rw [hLk] at HOk hdl
              obtain ⟨Ak, ck, rfl⟩ := HOk.out.shape
              have hb1 : blks hc l9 (k + 1) = mixV (blks hc l9 k) (Lk.take 64) := by rw [← hLk]; rfl
              have hd1 : l9.drop (64 * (k + 1)) = Lk.drop 64 := by rw [← hLk, List.drop_drop]; rfl
              have hkl8 := blks_len hcl l9 k
              obtain ⟨hk, hhk⟩ : ∃ hk, blks hc l9 k = hk := ⟨_, rfl⟩
              have HSE := Lib.hid (show blks hc l9 k = hk from hhk)
              rw [hhk] at HTk hkl8 hb1
              have HB1 := Lib.hid hb1
              have HD1 := Lib.hid hd1
              have HDL := Lib.hid hdl
              have hlc : Lk.length ≤ ck := (HOk.out.lenle).2.1
              have hcm : ck ≤ maxLen := (HOk.out.lenle).2.2
              unfold maxLen at hcm
              have hmod : Lk.length = 0 ∨ 64 ≤ Lk.length := by have := HDL.out; have := HL9M.out; omega
              clear hb1 hd1 hLk hhk hdl
              by_cases hge : 64 ≤ Lk.length
              · have hgi : (0 : Int) < (Lk.length : Int) := by omega
                have hgi2 : (64 : Int) ≤ (Lk.length : Int) := by omega
                have hgc : (64 : Int) ≤ (ck : Int) := by omega
                obtain ⟨g, o, rfl, hBg⟩ := HOk.out.addr (by omega)
                have hblk : (Lk.take 64).length = 64 := by rw [List.length_take]; omega
                have HKY : Hid (∀ w', Gr wr w' → Keys w' 1) := Lib.hid (fun w' g' => HK.out.gr (HGk.out.tr g'))
                have hSS : Gr wr wr.drew := (Gr.rfl' _).dr
                have hu64 := Tryd.underlying51
                have hu8 := Tryd.underlying30
                have hs64 : (Tryd.prog.info? 51).map (·.size) = some (bC (Lk.take 64)).toList.length := by rw [sz64b]; simp [bC]; omega
                have hs8 : (Tryd.prog.info? 30).map (·.size) = some (wC hk).toList.length := by rw [sz8]; simp [wC, hkl8]
                have hAA : ∀ W, (Instr.arrayAt 51 (.slice (some ⟨g, o, none⟩) Lk.length ck)).run Tryd.prog W = .ok (.pointer (some ⟨g, o, none⟩)) W := fun W => run_arrayAt W 51 5 64 _ _ _ Tryd.underlying51 hge
                have hml := mixV_len hkl8 (Lk.take 64)
                obtain ⟨hm, hhm⟩ : ∃ hm, mixV hk (Lk.take 64) = hm := ⟨_, rfl⟩
                rw [hhm] at hml
                have hsm : (Tryd.prog.info? 30).map (·.size) = some (wC hm).size := by rw [sz8, wC_size, hml]
                have HMIX : Hid (∀ w', Gr wr w' → Calls Tryd.prog 22 #[.agg (wC hk), .agg (bC (Lk.take 64))] w' fun r w'' => r = .returned (.agg (wC hm)) ∧ Gr w' w'') := Lib.hid (fun w' g' => by
                  have := mix_any hk (Lk.take 64) hkl8 hblk w' (HKY.out _ g')
                  rw [hhm] at this
                  exact this)
                have HHM := Lib.hid hhm
                clear hhm
                go_wp2
                refine region_T 5 (fun w' => Gr wr w') (by kernel_rfl) ?_
                refine anyT_take (i := 0) (some 60) rfl rfl (by kernel_rfl) (fun _ _ _ h => h) (yieldsIf_load_mid (by rfl) _ _ rfl _ _ rfl (wC hk).toList _ (fun w' hSw => (HTk.out.gr hSw).range) hu8 rfl hs8) hSS ?_
                simp only [Act.put, List.setIfInBounds_toArray, List.set_cons_zero, List.set_cons_succ, Array.toArray_toList]
                refine anyT_take (i := 1) (v := ?_) (some 61) rfl rfl (by kernel_rfl) (fun _ _ _ h => h) (Or.inl ⟨by rfl, ?_⟩) hSS ?_
                rotate_left
                · intro w' hSw; go_simp; (try with_reducible rfl)
                simp only [Act.put, List.setIfInBounds_toArray, List.set_cons_zero, List.set_cons_succ]
                refine anyT_take (i := 2) (v := ?_) (some 62) rfl rfl (by kernel_rfl) (fun _ _ _ h => h) (Or.inl ⟨by rfl, ?_⟩) hSS ?_
                rotate_left
                · intro w' hSw; go_simp; (try with_reducible rfl)
                simp only [Act.put, List.setIfInBounds_toArray, List.set_cons_zero, List.set_cons_succ]
                refine anyT_take (i := 3) (some 63) rfl rfl (by kernel_rfl) (fun _ _ _ h => h) (yieldsIf_load_mid (by rfl) _ _ rfl _ _ rfl (bC (Lk.take 64)).toList _ (fun w' hSw => (HOk.out.gr hSw).range 64 hge) hu64 rfl hs64) hSS ?_
                simp only [Act.put, List.setIfInBounds_toArray, List.set_cons_zero, List.set_cons_succ, Array.toArray_toList]
                refine anyT_call (i := 4) (some 64) 22 #[.agg (wC hk), .agg (bC (Lk.take 64))] (by kernel_rfl) rfl rfl rfl (by kernel_rfl) ?_
                refine (HMIX.out _ hSS).mono ?_
                rintro r wc ⟨rfl, hgc⟩
                replace hSS := hSS.tr hgc
                refine ⟨_, rfl, fun _ => hSS, ?_⟩
                simp only [Act.put, List.setIfInBounds_toArray, List.set_cons_zero, List.set_cons_succ]
                have HTc := Lib.hid (HTk.out.gr hSS)
                have hth : wc.there w2.heap.size 0 (wC hm).size := by
                  have := HTc.out.there
                  rw [wC_size, hkl8] at this
                  rw [wC_size, hml]
                  exact this
                refine anyT_store 30 (.tmp 4) (.tmp 64) (by kernel_rfl) (by kernel_rfl) rfl rfl rfl rfl w2.heap.size 0 (wC hm) rfl rfl hth hsm (wC_one hm) ?_
                obtain ⟨ws, hws⟩ : ∃ ws, wc.setCells w2.heap.size 0 (wC hm).toList = ws := ⟨_, rfl⟩
                have HTs : Hid (Ws ws w2.heap.size 30 hm) := by rw [← hws]; exact Lib.hid (HTc.out.setAll (by rw [hml, hkl8]))
                have h2lt : w2.heap.size < w4.heap.size := HH4.out.lt
                have hOs : OwnB ws w4.heap.size (.slice (some ⟨g, o, none⟩) Lk.length ck) Lk := by
                  rw [← hws]
                  refine (HOk.out.gr hSS).kept (fun k hk => heap_setCells_other (fun e => ?_) _ _ _)
                  have : g = k := by simpa [Value.ownBlock] using hk
                  omega
                have z1 := Z1.out
                have z2 := Z2.out
                have HRs : Hid (Bs ws w.heap.size 24 Zb) := by
                  rw [← hws]
                  exact Lib.hid ((heap_setCells_other (by omega) _ _ _).trans (HRk.out.gr hSS))
                have HDs : Hid (Bs ws w1.heap.size 24 Zb) := by
                  rw [← hws]
                  exact Lib.hid ((heap_setCells_other (by omega) _ _ _).trans (HDk.out.gr hSS))
                have HGs : Hid (Gr w ws) := by rw [← hws]; exact Lib.hid ((HGk.out.tr hSS).cells (by omega) _ _)
                rw [hws]
                rw [← HHM.out, ← HB1.out] at HTs
                have HOs := Lib.hid hOs
                clear hOs hws HTc hth hSS hgc hAA hu64 hu8 hs64 hs8 hsm HMIX HKY z1 z2
                by_cases hcap : ck = 64
                · subst hcap
                  have e0 : Lk.length - 64 = 0 := by omega
                  have hOd := HOs.out.end_ 64 rfl hge
                  rw [← HD1.out, e0] at hOd
                  have HOd := Lib.hid hOd
                  clear hOd e0
                  go_wp2
                  go_roundg (l9.length / 64 - (k + 1))
                  case measure => have := HGK.out; have := HDL.out; omega
                  case rel => exact ⟨k + 1, Lib.hid rfl, by have := HDL.out; omega, HTs, HOd, HRs, HDs, HGs⟩
                · have hcap2 : 64 < ck := by omega
                  have hOd := HOs.out.drop 64 hge
                  rw [← HD1.out] at hOd
                  have HOd := Lib.hid hOd
                  clear hOd
                  go_wp2
                  go_roundg (l9.length / 64 - (k + 1))
                  case measure => have := HGK.out; have := HDL.out; omega
                  case rel => exact ⟨k + 1, Lib.hid rfl, by have := HDL.out; omega, HTs, HOd, HRs, HDs, HGs⟩
              · have hgi : ¬ (0 : Int) < (Lk.length : Int) := by omega
                have HEK : Hid (hk = blks hc (pad8 rest N) ((pad8 rest N).length / 64)) := by
                  rw [← HSE.out, HE10.out]
                  have : k = l9.length / 64 := by have := HDL.out; have := HL9M.out; omega
                  rw [← this]
                  exact Lib.hid rfl
                go_upto_region 19 with fail
                clear hgi hge hmod hcm hlc HOk HD1 HB1 HDL HSE HGK hkl
                obtain ⟨hf, hhf⟩ : ∃ hf, hk = hf := ⟨_, rfl⟩
                rw [hhf] at HTk hkl8 HEK
                clear hhf
                have HD0 : Hid (Bs wr w1.heap.size 24 (outs hf 0)) := HDk
                clear HDk
                go_wp2_with (first | refine loadW 30 8 _ w2.heap.size hf rfl _ rfl rfl HTk.out rfl Tryd.underlying30 sz8 hkl8 ?_)
                go_loopw [66] (fun i wx => ∃ k : Nat, k ≤ 8 ∧ i = .int .i64 k ∧ Hid (Bs wx w1.heap.size 24 (outs hf k)) ∧ Hid (Bs wx w.heap.size 24 Zb) ∧ Hid (Gr w wx)) (fun i _ => 8 - (intOf i).toNat)
                case atStart => exact ⟨0, Nat.zero_le _, rfl, HD0, HRk, HGk⟩
                case round =>
                  clear HD0 HRk HGk HTk
                  obtain ⟨k, hk, rfl, HDk, HRk, HGk⟩ := hrel
                  by_cases hlt : k < 8
                  · have hki : (k : Int) < 8 := by omega
                    have hix : ∀ W, (Instr.index 30 (.agg (wC hf)) (.int .i64 k)).run Tryd.prog W = .ok (.int .u32 ((gw hf k).toNat : Int)) W := idxW 30 8 Tryd.underlying30 hf hkl8 k hlt
                    have l32 := outs_len hf k
                    have q0 := HDk.out.cg (j := 4 * k) (by omega)
                    have q1 := HDk.out.cg (j := 4 * k + 1) (by omega)
                    have q2 := HDk.out.cg (j := 4 * k + 2) (by omega)
                    have q3 := HDk.out.cg (j := 4 * k + 3) (by omega)
                    have f0 := HDk.out.frz (4 * k)
                    have f1 := HDk.out.frz (4 * k + 1)
                    have f2 := HDk.out.frz (4 * k + 2)
                    have f3 := HDk.out.frz (4 * k + 3)
                    clear l32
                    go_upto_region 23 with fail
                    rw [by24, by16, by8, by0]
                    have HD2 := (((HDk.out.set (4 * k) (UInt8.ofNat (gw hf k >>> 24).toNat)).set (4 * k + 1) (UInt8.ofNat (gw hf k >>> 16).toNat)).set (4 * k + 2) (UInt8.ofNat (gw hf k >>> 8).toNat)).set (4 * k + 3) (UInt8.ofNat (gw hf k).toNat)
                    have hw1 : w.heap.size ≠ w1.heap.size := by have := Z1.out; omega
                    have hle1 : w.heap.size ≤ w1.heap.size := by have := Z1.out; omega
                    have HG2 := (((HGk.out.set (p := ⟨w1.heap.size, 4 * k, none⟩) hle1 (.int .u8 ((UInt8.ofNat (gw hf k >>> 24).toNat).toNat : Int))).set (p := ⟨w1.heap.size, 4 * k + 1, none⟩) hle1 (.int .u8 ((UInt8.ofNat (gw hf k >>> 16).toNat).toNat : Int))).set (p := ⟨w1.heap.size, 4 * k + 2, none⟩) hle1 (.int .u8 ((UInt8.ofNat (gw hf k >>> 8).toNat).toNat : Int))).set (p := ⟨w1.heap.size, 4 * k + 3, none⟩) hle1 (.int .u8 ((UInt8.ofNat (gw hf k).toNat).toNat : Int))
                    obtain ⟨wz, hwz⟩ : ∃ wz, (((wr.setCell ⟨w1.heap.size, 4 * k, none⟩ (.int .u8 ((UInt8.ofNat (gw hf k >>> 24).toNat).toNat : Int))).setCell ⟨w1.heap.size, 4 * k + 1, none⟩ (.int .u8 ((UInt8.ofNat (gw hf k >>> 16).toNat).toNat : Int))).setCell ⟨w1.heap.size, 4 * k + 2, none⟩ (.int .u8 ((UInt8.ofNat (gw hf k >>> 8).toNat).toNat : Int))).setCell ⟨w1.heap.size, 4 * k + 3, none⟩ (.int .u8 ((UInt8.ofNat (gw hf k).toNat).toNat : Int)) = wz := ⟨_, rfl⟩
                    have HRz : Hid (Bs wz w.heap.size 24 Zb) := by
                      rw [← hwz]
                      exact Lib.hid ((heap_set_other hw1 _).trans ((heap_set_other hw1 _).trans ((heap_set_other hw1 _).trans ((heap_set_other hw1 _).trans HRk.out))))
                    rw [hwz] at HD2 HG2 ⊢
                    have HDz : Hid (Bs wz w1.heap.size 24 (outs hf (k + 1))) := Lib.hid HD2
                    have HGz := Lib.hid HG2
                    clear HD2 HG2 hwz q0 q1 q2 q3 f0 f1 f2 f3 hix hw1 hle1 HDk HRk HGk
                    go_wp2
                    go_roundw
                    case rel => exact ⟨k + 1, by omega, by go_num, HDz, HRz, HGz⟩
                    case measure => simp [intOf]; omega
                  · have hk8 : k = 8 := by omega
                    subst hk8
                    have hl8' := outs_len hf 8
                    have hov : outs hf 8 = valV hc rest N := by rw [HEK.out]; rfl
                    rw [hov] at HDk hl8'
                    have HGx := Lib.hid (HGk.out.row (g := w.heap.size) (Nat.le_refl _) (bC (valV hc rest N)))
                    clear hov
                    go_wp2_with (first | refine loadD w1.heap.size (valV hc rest N) rfl _ rfl rfl HDk.out hl8' ?_ | (with_reducible refine at_st 24 (.tmp 2) (.tmp 97) ?_; refine storeD w.heap.size Zb (valV hc rest N) rfl _ _ rfl rfl rfl rfl HRk.out rfl hl8' ?_))
                    refine bodyPost_ret (v := .agg (bC (valV hc rest N))) ?_ rfl ⟨rfl, HGx.out⟩
                    simp [results, Tryd.results12, Act.put]
                    exact run_loadVar_row _ _ 24 24 _ (0, 0) _ (HRk.out.row _) Tryd.underlying24 rfl (by rw [bC_size, hl8', sz32])
end Go.Proofs.YtkbomgjeoaophaaDoor
