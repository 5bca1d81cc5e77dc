/- hearsayref03: Unhex. -/
import Derived.Test.YtkbomgjeoaophaaDoorShaQ
set_option linter.unusedVariables false
set_option linter.unusedSimpArgs false
set_option maxHeartbeats 4000000
namespace Go.Proofs.YtkbomgjeoaophaaDoor
open Go.RowKit Go.Great

def rv (c : UInt8) : Nat → Int
  | 0 => -1
  | k + 1 => if hx k = c then (k : Int) else rv c k
theorem rv16F : ∀ n : Fin 256, rv (UInt8.ofNat n.val) 16 = (match hexV (UInt8.ofNat n.val) with | some v => (v : Int) | none => -1) := by decide +kernel
theorem rv16 (c : UInt8) : rv c 16 = (match hexV c with | some v => (v : Int) | none => -1) := by
  have h := rv16F ⟨c.toNat, c.toNat_lt⟩
  simpa using h
theorem rv_lo (c : UInt8) : ∀ k, k ≤ 16 → -1 ≤ rv c k ∧ rv c k < 16
  | 0, _ => by simp [rv]
  | k + 1, h => by
    have := rv_lo c k (by omega)
    unfold rv
    split <;> omega
theorem u_add16n (x : UInt8) (v : Nat) (hv : v < 16) : ((x.toNat : Int) * (16 : Int) % (256 : Int) + (v : Int)) = ((UInt8.ofNat (x.toNat * 16 + v)).toNat : Int) := by
  rw [UInt8.toNat_ofNat']; omega

set_option maxRecDepth 100000 in
theorem rUnhex_any (s : ByteArray) (w : World) (hs : s.size ≤ maxLen) : Calls Tryd.prog 16 #[.string s] w fun r w' => r = .returned (.tuple #[.agg (bC (unhexV s.data.toList).1), .int .i64 (unhexV s.data.toList).2]) ∧ Gr w w' := by
  unfold maxLen at hs
  obtain ⟨l, hl⟩ : ∃ l, s.data.toList = l := ⟨_, rfl⟩
  have hsz : s.size = l.length := by rw [← hl, ← Lib.size_eq]
  have hat : ∀ k (h : k < s.size), s[k] = gb l k := fun k h => by
    have h2 : k < l.length := by omega
    rw [← gb_at h2]
    subst hl
    rfl
  have HAT := Lib.hid hat
  have HSZ := Lib.hid hsz
  rw [hl]
  obtain ⟨w1, e1⟩ : ∃ w1, w.alloc (.cells (bC Zb) 24) = w1 := ⟨_, rfl⟩
  obtain ⟨w2, e2⟩ : ∃ w2, (w1.alloc (.cells (bC Zb) 24)).setRow w1.heap.size (bC Zb) = w2 := ⟨_, rfl⟩
  have g1 : Gr w w1 := by rw [← e1]; exact (Gr.rfl' _).al _
  have HN2 : Hid (Bs (w1.alloc (.cells (bC Zb) 24)) w1.heap.size 24 Zb) := Lib.hid (Bs.new _ _ _)
  have g2 : Gr w1 w2 := by rw [← e2]; exact ((Gr.rfl' _).al _).row (Nat.le_refl _) _
  have HR : Hid (Bs w2 w.heap.size 24 Zb) := by
    have : Bs w1 w.heap.size 24 Zb := by rw [← e1]; exact Bs.new _ _ _
    exact Lib.hid (this.gr g2)
  have HD : Hid (Bs w2 w1.heap.size 24 (unD l 0)) := by rw [← e2]; exact Lib.hid (HN2.out.row _)
  have HG := Lib.hid (g1.tr g2)
  have HZ : Hid (w1.heap.size = w.heap.size + 1) := by rw [← e1, World.size_alloc]; exact Lib.hid rfl
  clear g1 g2 hat hsz hl
  obtain ⟨n, hn⟩ : ∃ n, min s.size 64 = n := ⟨_, rfl⟩
  have hn1 : n ≤ s.size := by omega
  have hn2 : n ≤ 64 := by omega
  have HN := Lib.hid hn
  clear hn
  go_enter Tryd.func16, Tryd.ntmps16
  go_upto_block 0 with (first | rw [e1] | rw [e2] | refine buildD rfl rfl ?_ | (with_reducible refine at_st 24 (.tmp 4) (.tmp 8) ?_; refine storeD w1.heap.size Zb Zb rfl _ _ rfl rfl rfl rfl HN2.out rfl rfl ?_) | refine allocD rfl rfl ?_)
  clear e1 e2 HN2
  go_wp2
  go_loopw [5] (fun i wr => ∃ k : Nat, k ≤ n ∧ i = .int .i64 k ∧ Hid (∀ j, j < k → (hexV (gb l j)).isSome = true) ∧ Hid (Bs wr w1.heap.size 24 (unD l k)) ∧ Hid (Bs wr w.heap.size 24 Zb) ∧ Hid (Gr w wr)) (fun i _ => n - (intOf i).toNat)
  case atStart => exact ⟨0, Nat.zero_le _, rfl, Lib.hid (fun j hj => absurd hj (by omega)), HD, HR, HG⟩
  case round =>
    clear HD HR HG
    obtain ⟨k, hk, rfl, HA, HD, HR, HG⟩ := hrel
    have hl32 := unD_len l k
    by_cases hlt : k < n
    · have hk64 : (k : Int) < 64 := by omega
      have hks : k < s.size := by omega
      have hksi : (k : Int) < (s.size : Int) := by omega
      obtain ⟨c, hc⟩ : ∃ c, s[k] = c := ⟨_, rfl⟩
      have hcl : gb l k = c := by rw [← HAT.out k hks]; exact hc
      have hcb : (c.toNat : Int) < 256 := by have := c.toNat_lt; omega
      have HCL := Lib.hid hcl
      clear hcl
      obtain ⟨wo, rfl⟩ : ∃ wo : World, wo = wr := ⟨_, rfl⟩
      have HG0 : Hid (Gr wo wo) := Lib.hid (Gr.rfl' _)
      go_upto_block 2 with fail
      go_wp2
      go_loopw [6, 7] (fun v j wx => ∃ J : Nat, ∃ m : Nat, J ≤ 16 ∧ j = .int .i64 J ∧ v = .int .i64 (rv c J) ∧ wx = wo.drewN m) (fun _ j _ => 16 - (intOf j).toNat)
      case atStart => exact ⟨0, 0, Nat.zero_le _, rfl, rfl, rfl⟩
      case round =>
        obtain ⟨J, m, hJ, rfl, rfl, rfl⟩ := hrel
        have hrl := rv_lo c J hJ
        by_cases hJ16 : J < 16
        · have hJi : (J : Int) < 16 := by omega
          have hix : ∀ h, ((((⟨#[48, 49, 50, 51, 52, 53, 54, 55, 56, 57, 97, 98, 99, 100, 101, 102]⟩ : ByteArray)[J]'h).toNat : Nat) : Int) = ((hx J).toNat : Int) := fun h => hexAt' J hJ16 h
          by_cases hcj : hx J = c
          · have hrj : rv c (J + 1) = (J : Int) := by simp [rv, hcj]
            have hb : (((hx J).toNat : Int) == (c.toNat : Int)) = true := by rw [hcj]; simp
            have HRJ := Lib.hid hrj
            clear hrj hcj
            go_wp2
            go_quiet (fail)
            go_wp2
            go_roundw
            case rel => exact ⟨J + 1, m + nq, by omega, by go_num, by rw [HRJ.out], rfl⟩
            case measure => simp [intOf]; omega
          · have hrj : rv c (J + 1) = rv c J := by simp [rv, hcj]
            have hb : (((hx J).toNat : Int) == (c.toNat : Int)) = false := by
              simp only [beq_eq_false_iff_ne, ne_eq]
              intro e
              exact hcj (UInt8.toNat_inj.1 (by omega))
            have HRJ := Lib.hid hrj
            clear hrj hcj
            go_wp2
            go_quiet (fail)
            go_wp2
            go_roundw
            case rel => exact ⟨J + 1, m + nq, by omega, by go_num, by rw [HRJ.out], rfl⟩
            case measure => simp [intOf]; omega
        · have hJ : J = 16 := by omega
          subst hJ
          have h16 := rv16 c
          have HDm : Hid (Bs (wo.drewN m) w1.heap.size 24 (unD l k)) := HD
          have HRm : Hid (Bs (wo.drewN m) w.heap.size 24 Zb) := HR
          have HGm : Hid (Gr w (wo.drewN m)) := Lib.hid (HG.out.drN m)
          obtain ⟨wm, hwm⟩ : ∃ wm, wo.drewN m = wm := ⟨_, rfl⟩
          rw [hwm] at HDm HRm HGm
          rw [hwm]
          clear HD HR HG hwm HG0
          cases hv : hexV c with
          | none =>
            have hno : signsB l = false := signs_not l k (by rw [HCL.out]; exact hv) (by have := HSZ.out; omega) (by omega)
            have hval : unhexV l = (Zb, 7) := by unfold unhexV; rw [if_pos hno]
            have HV := Lib.hid hval
            rw [hv] at h16
            simp only at h16
            rw [h16]
            clear hno hval hv h16 hrl
            have HR := HRm
            have HG := HGm
            go_wp2_with (first | (with_reducible refine at_st 24 (.tmp 2) (.tmp 32) ?_; refine storeD w.heap.size Zb Zb rfl _ _ rfl rfl rfl rfl HR.out rfl (show Zb.length = 32 from rfl) ?_) | refine buildD rfl rfl ?_)
            have hlv := run_loadVar_row (P := Tryd.prog) _ _ 24 24 _ (0, 0) _ (HR.out.row Zb) Tryd.underlying24 rfl (by rw [bC_size, (show Zb.length = 32 from rfl), sz32])
            refine bodyPost_ret (v := .tuple #[.agg (bC Zb), .int .i64 7]) (by simp [results, Tryd.results16, Act.put]; exact res2 hlv) rfl ?_
            rw [HV.out]
            exact ⟨rfl, HG.out.row (g := w.heap.size) (Nat.le_refl _) _⟩
          | some v =>
            have hv16 := hexV_lt hv
            have hun : unD l (k + 1) = (unD l k).set (k / 2) (UInt8.ofNat ((gb (unD l k) (k / 2)).toNat * 16 + v)) := by
              show unS (unD l k) k ((hexV (gb l k)).getD 0) = _
              rw [HCL.out, hv]; rfl
            have HUN := Lib.hid hun
            have HA2 : Hid (∀ j, j < k + 1 → (hexV (gb l j)).isSome = true) := Lib.hid (fun j hj => by
              by_cases hjk : j = k
              · subst hjk; rw [HCL.out, hv]; rfl
              · exact HA.out j (by omega))
            rw [hv] at h16
            simp only at h16
            rw [h16]
            clear hun HCL hv HA h16 hrl hc hcb
            have q0 : wm.cell? ⟨w1.heap.size, k / 2, none⟩ = some (.int .u8 ((gb (unD l k) (k / 2)).toNat : Int)) := HDm.out.cg (by omega)
            have f0 := HDm.out.frz (k / 2)
            have b4 : (0 : Int) ≤ (k : Int) / 2 ∧ (k : Int) / 2 < 32 := by omega
            have hv0 : (0 : Int) ≤ (v : Int) ∧ (v : Int) < 16 := by omega
            have HD2 := Lib.hid (HDm.out.set (k / 2) (UInt8.ofNat ((gb (unD l k) (k / 2)).toNat * 16 + v)))
            rw [← HUN.out] at HD2
            obtain ⟨x, hx⟩ : ∃ x, gb (unD l k) (k / 2) = x := ⟨_, rfl⟩
            rw [hx] at q0 HD2
            have hx0 : (0 : Int) ≤ (x.toNat : Int) := by omega
            have hx1 : (x.toNat : Int) < 256 := by have := x.toNat_lt; omega
            clear hx HUN
            go_upto_region 4 with fail
            rw [u_add16n x v hv16]
            have HR2 : Hid (Bs (wm.setCell ⟨w1.heap.size, k / 2, none⟩ (.int .u8 ((UInt8.ofNat (x.toNat * 16 + v)).toNat : Int))) w.heap.size 24 Zb) := Lib.hid ((heap_set_other (by have := HZ.out; omega) _).trans HRm.out)
            have HG2 := Lib.hid (HGm.out.set (p := ⟨w1.heap.size, k / 2, none⟩) (by have := HZ.out; show w.heap.size ≤ w1.heap.size; omega) (.int .u8 ((UInt8.ofNat (x.toNat * 16 + v)).toNat : Int)))
            clear q0 f0 b4 HDm HRm HGm hx0 hx1
            go_wp2
            go_roundw
            case rel => exact ⟨k + 1, by omega, by go_num, HA2, HD2, HR2, HG2⟩
            case measure => simp [intOf]; omega
    · have hkn : k = n := by omega
      subst hkn
      have hsig : signsB l = true := signs_all l k (by have := HSZ.out; have := HN.out; omega) HA.out
      by_cases h1 : s.size < 64
      · have hval : unhexV l = (Zb, 5) := by unfold unhexV; rw [if_neg (by rw [hsig]; decide), if_pos (by have := HSZ.out; omega)]
        have HV := Lib.hid hval
        have hks : k = s.size := by have := HN.out; omega
        have hki : ¬ (k : Int) < (s.size : Int) := by omega
        have h1i : (s.size : Int) < 64 := by omega
        clear hval hsig hks
        go_wp2_with (first | (with_reducible refine at_st 24 (.tmp 2) (.tmp 47) ?_; refine storeD w.heap.size Zb Zb rfl _ _ rfl rfl rfl rfl HR.out rfl (show Zb.length = 32 from rfl) ?_) | refine buildD rfl rfl ?_)
        have hlv := run_loadVar_row (P := Tryd.prog) _ _ 24 24 _ (0, 0) _ (HR.out.row Zb) Tryd.underlying24 rfl (by rw [bC_size, (show Zb.length = 32 from rfl), sz32])
        refine bodyPost_ret (v := .tuple #[.agg (bC Zb), .int .i64 5]) (by simp [results, Tryd.results16, Act.put]; exact res2 hlv) rfl ?_
        rw [HV.out]
        exact ⟨rfl, HG.out.row (g := w.heap.size) (Nat.le_refl _) _⟩
      · have hk64 : k = 64 := by have := HN.out; omega
        have hki : ¬ (k : Int) < 64 := by omega
        have hki2 : (k : Int) ≤ (s.size : Int) := by omega
        by_cases h2 : 64 < s.size
        · have hval : unhexV l = (Zb, 6) := by unfold unhexV; rw [if_neg (by rw [hsig]; decide), if_neg (by have := HSZ.out; omega), if_pos (by have := HSZ.out; omega)]
          have HV := Lib.hid hval
          have h1i : ¬ (s.size : Int) < 64 := by omega
          have h2i : (64 : Int) < (s.size : Int) := by omega
          have hki3 : (k : Int) < (s.size : Int) := by omega
          clear hval hsig hk64
          go_wp2_with (first | (with_reducible refine at_st 24 (.tmp 2) (.tmp 51) ?_; refine storeD w.heap.size Zb Zb rfl _ _ rfl rfl rfl rfl HR.out rfl (show Zb.length = 32 from rfl) ?_) | refine buildD rfl rfl ?_)
          have hlv := run_loadVar_row (P := Tryd.prog) _ _ 24 24 _ (0, 0) _ (HR.out.row Zb) Tryd.underlying24 rfl (by rw [bC_size, (show Zb.length = 32 from rfl), sz32])
          refine bodyPost_ret (v := .tuple #[.agg (bC Zb), .int .i64 6]) (by simp [results, Tryd.results16, Act.put]; exact res2 hlv) rfl ?_
          rw [HV.out]
          exact ⟨rfl, HG.out.row (g := w.heap.size) (Nat.le_refl _) _⟩
        · have hval : unhexV l = (unD l k, 0) := by unfold unhexV; rw [if_neg (by rw [hsig]; decide), if_neg (by have := HSZ.out; omega), if_neg (by have := HSZ.out; omega), hk64]
          obtain ⟨D, hD⟩ : ∃ D, unD l k = D := ⟨_, rfl⟩
          rw [hD] at hval HD hl32
          have HV := Lib.hid hval
          have h1i : ¬ (s.size : Int) < 64 := by omega
          have h2i : ¬ (64 : Int) < (s.size : Int) := by omega
          have hki3 : ¬ (k : Int) < (s.size : Int) := by omega
          clear hval hsig hD hk64
          go_wp2_with (first | (with_reducible refine at_st 24 (.tmp 2) (.tmp 52) ?_; refine storeD w.heap.size Zb D rfl _ _ rfl rfl rfl rfl HR.out rfl hl32 ?_) | refine buildD rfl rfl ?_ | (with_reducible refine at_ld 24 (.tmp 4) ?_; refine loadD w1.heap.size D rfl _ rfl rfl HD.out hl32 ?_))
          have hlv := run_loadVar_row (P := Tryd.prog) _ _ 24 24 _ (0, 0) _ (HR.out.row D) Tryd.underlying24 rfl (by rw [bC_size, hl32, sz32])
          refine bodyPost_ret (v := .tuple #[.agg (bC D), .int .i64 0]) (by simp [results, Tryd.results16, Act.put]; exact res2 hlv) rfl ?_
          rw [HV.out]
          exact ⟨rfl, HG.out.row (g := w.heap.size) (Nat.le_refl _) _⟩
end Go.Proofs.YtkbomgjeoaophaaDoor
