/- matrix: Merge. -/
import Derived.Test.YtpaogcighlfelaaMatC
set_option linter.unusedVariables false
set_option linter.unusedSimpArgs false
set_option maxHeartbeats 4000000
namespace Go.Proofs.Ytpaogcighlfelaa
open Go.RowKit

def ls (ds : List DRow) : Rws := ds.map DRow.l
theorem ls_len (ds : List DRow) : (ls ds).length = ds.length := by simp [ls]
theorem ls_at (ds : List DRow) (k : Nat) (h : k < ds.length) : (ls ds).getD k [] = ds[k].l := by
  unfold ls; rw [List.getD_eq_getElem?_getD]; simp [h]
theorem ls_at' (ds : List DRow) (k : Nat) (h : k < (ls ds).length) : (ls ds)[k] = (ds[k]'(by rwa [ls_len] at h)).l := by simp [ls]
theorem DRows.gm {w w' : World} {mb rb : Nat} {rs : Rws} {A : Option Addr} {ds : List DRow} (h : DRows w A ds) (m : MatI w mb rb rs) (k : Gm rb w w') (hA : 0 < ds.length → ∀ ad, A = some ad → ad.block ≠ rb) : DRows w' A ds :=
  ⟨h.1, fun i hi => by
    obtain ⟨ad, e, a, b⟩ := h.2 i hi
    exact ⟨ad, e, k.cell (by rw [Addr.add_block]; exact hA (by omega) ad e) a, b.gm m k⟩⟩
theorem Merge_nil (A : Option Addr) (n c : Nat) (w : World) :
    Calls Try.prog 16 #[.pointer none, .slice A n c] w fun e w' => e = .returned (.int .i64 13) ∧ Gr w w' := by
  go_enter Try.func16, Try.ntmps16
  go_wp2
  go_ret
  exact ⟨rfl, Gr.rfl' _⟩
theorem Merge_any (mb rb : Nat) (rs : Rws) (A : Option Addr) (c : Nat) (ds : List DRow) (w : World) (h : MatI w mb rb rs) (hd : DRows w A ds) (hcap : ∀ d ∈ ds, d.l.length ≤ d.cap) (hA : 0 < ds.length → ∀ ad, A = some ad → ad.block ≠ rb) :
    Calls Try.prog 16 #[.pointer (some ⟨mb, 0, none⟩), .slice A ds.length c] w fun e w' => e = .returned (.int .i64 (mergeE rs (ls ds))) ∧ MatI w' mb rb (mergeR rs (ls ds)) ∧ Gm rb w w' := by
  have HM := Lib.hid h
  have HD := Lib.hid hd
  have HCAP := Lib.hid hcap
  have HAD := Lib.hid hA
  have HP := Lib.hid (fun w2 (g : MatI w2 mb rb rs) => Peers_any mb rb rs w2 g)
  have hle := h.le
  have hdm := hd.1
  clear h hd hcap hA
  by_cases hln : ds.length = rs.length
  · rw [hln]
    have HLN := Lib.hid hln
    clear hln hdm
    have HME : Hid (mergeE rs (ls ds) = mayAll rs.length 0 (ls ds)) := Lib.hid (by unfold mergeE; rw [if_pos (by rw [ls_len]; exact HLN.out)])
    go_enter Try.func16, Try.ntmps16
    go_wp2_with fail
    refine (HP.out _ HM.out).mono ?_
    rintro e w1 ⟨rfl, rfl⟩
    go_wp2_with fail
    refine (HP.out _ HM.out).mono ?_
    rintro e w1 ⟨rfl, rfl⟩
    go_wp2
    go_loopw [19] (fun i wr => ∃ k : Nat, k ≤ rs.length ∧ i = .int .i64 k ∧ Hid (∀ j (hj : j < (ls ds).length), j < k → mayV rs.length ((0 + j : Nat) : Int) (ls ds)[j] = 0) ∧ Hid (Gr w1 wr)) (fun i _ => rs.length - (intOf i).toNat)
    case atStart => exact ⟨0, Nat.zero_le _, rfl, Lib.hid (fun j _ hj => absurd hj (by omega)), Lib.hid (Gr.rfl' _)⟩
    case round =>
      obtain ⟨k, hk, rfl, HZ, HG⟩ := hrel
      by_cases hlt : k < rs.length
      · have hki : (k : Int) < (rs.length : Int) := by omega
        have hkd : k < ds.length := by have := HLN.out; omega
        obtain ⟨ad, rfl, hc, hdk⟩ := HD.out.2 k hkd
        replace hc := HG.out.cell hc
        have HMY := Lib.hid (may_any mb rb rs k ds[k].A ds[k].cap ds[k].l wr (HM.out.gr HG.out) (hdk.gr HG.out))
        have hkl : k < (ls ds).length := by rw [ls_len]; exact hkd
        have hlk : (ls ds)[k] = ds[k].l := ls_at' ds k hkl
        obtain ⟨d, hd⟩ : ∃ d, ds[k] = d := ⟨_, rfl⟩
        rw [hd] at hc HMY hlk
        obtain ⟨dA, dc, dl⟩ := d
        simp only at hc HMY hlk
        by_cases hm : mayV rs.length (k : Int) dl = 0
        · have HZ2 : Hid (∀ j (hj : j < (ls ds).length), j < k + 1 → mayV rs.length ((0 + j : Nat) : Int) (ls ds)[j] = 0) := Lib.hid (fun j hj hjk => by
            by_cases e : j = k
            · subst e; rw [hlk, Nat.zero_add]; exact hm
            · exact HZ.out j hj (by omega))
          rw [hm] at HMY
          clear hm hlk hd hdk HZ
          go_wp2_with fail
          refine (HMY.out).mono ?_
          rintro e w2 ⟨rfl, hg⟩
          have HG2 := Lib.hid (HG.out.tr hg)
          clear hg HMY
          go_wp2
          go_roundw
          case rel => exact ⟨k + 1, by omega, by go_num, HZ2, HG2⟩
          case measure => simp [intOf]; omega
        · have hme := mayAll_at rs.length (ls ds) 0 k hkl HZ.out (by rw [hlk, Nat.zero_add]; exact hm)
          rw [hlk, Nat.zero_add] at hme
          have HE : Hid (mergeE rs (ls ds) = mayV rs.length (k : Int) dl) := Lib.hid (by rw [HME.out]; exact hme)
          obtain ⟨x, hx⟩ : ∃ x, mayV rs.length (k : Int) dl = x := ⟨_, rfl⟩
          rw [hx] at HMY hm HE
          have HR : Hid (mergeR rs (ls ds) = rs) := Lib.hid (by unfold mergeR; rw [HE.out, if_neg hm])
          clear hme hlk hd hdk HZ hx
          go_wp2_with fail
          refine (HMY.out).mono ?_
          rintro e w2 ⟨rfl, hg⟩
          have HG2 := Lib.hid (HG.out.tr hg)
          clear hg HMY
          go_wp2
          go_ret
          rw [HE.out, HR.out]
          exact ⟨rfl, HM.out.gr HG2.out, HG2.out.gm rb⟩
      · have hkn : k = rs.length := by omega
        subst hkn
        have hki : ¬ (rs.length : Int) < (rs.length : Int) := by omega
        have hz := mayAll_zero rs.length (ls ds) 0 (fun j hj => HZ.out j hj (by rw [ls_len] at hj; have := HLN.out; omega))
        have HE : Hid (mergeE rs (ls ds) = 0) := Lib.hid (by rw [HME.out]; exact hz)
        have HR : Hid (mergeR rs (ls ds) = mergeTo rs (ls ds) rs.length) := Lib.hid (by unfold mergeR; rw [HE.out, if_pos rfl])
        have HOK := Lib.hid (mayAll_ok hz)
        have HM0 : Hid (MatI wr mb rb rs) := Lib.hid (HM.out.gr HG.out)
        have HP2 := Lib.hid (Peers_any mb rb rs wr HM0.out)
        have HD0 := Lib.hid (HD.out.gr HG.out)
        have HM1 : Hid (MatI wr mb rb (mergeTo rs (ls ds) 0)) := Lib.hid (by rw [mergeTo_zero]; exact HM0.out)
        have HGM := Lib.hid (HG.out.gm rb)
        clear hz HZ HP HM HD HG HME
        go_wp2_with fail
        refine (HP2.out).mono ?_
        rintro e w2 ⟨rfl, rfl⟩
        clear HP2
        go_wp2
        go_loopw [35] (fun i wr => ∃ k : Nat, k ≤ rs.length ∧ i = .int .i64 k ∧ Hid (MatI wr mb rb (mergeTo rs (ls ds) k)) ∧ Hid (DRows wr A ds) ∧ Hid (Gm rb w2 wr)) (fun i _ => rs.length - (intOf i).toNat)
        case atStart => exact ⟨0, Nat.zero_le _, rfl, HM1, HD0, Lib.hid (Gm.rfl' _ _)⟩
        case round =>
          clear HM1 HD0 HM0
          obtain ⟨k, hk, rfl, HM, HD, HG⟩ := hrel
          by_cases hlt : k < rs.length
          · have hki : (k : Int) < (rs.length : Int) := by omega
            have hkd : k < ds.length := by have := HLN.out; omega
            obtain ⟨ad, rfl, hc, hdk⟩ := HD.out.2 k hkd
            have hkm : k < (mergeTo rs (ls ds) k).length := by rw [mergeTo_length]; exact hlt
            obtain ⟨A2, c2, hc2, hlc2, hd2⟩ := HM.out.at k hkm
            have hrk : (mergeTo rs (ls ds) k)[k] = rs[k] := by rw [mergeTo_at]; simp
            have hsu := mergeTo_succ rs (ls ds) k hlt
            rw [ls_at ds k hkd] at hsu
            have hcb := HM.out.cell
            rw [mergeTo_length] at hcb
            have hcapk := HCAP.out _ (List.getElem_mem hkd)
            have hokk : Okv ds[k].l := by rw [← ls_at ds k hkd]; exact HOK.out.at k
            have hokr : Okv rs[k] := by rw [← hrk]; exact HM.out.ok _ (List.getElem_mem hkm)
            rw [hrk] at hc2 hlc2 hd2
            obtain ⟨d, hd⟩ : ∃ d, ds[k] = d := ⟨_, rfl⟩
            rw [hd] at hc hdk hsu hcapk hokk
            obtain ⟨dA, dc, dl⟩ := d
            simp only at hc hdk hsu hcapk hokk
            have HJ := Lib.hid (fun w2 (g : Gr wr w2) => Join_any A2 dA c2 dc rs[k] dl w2 (hd2.gr g) (hdk.gr g) hlc2 hcapk)
            have HS := Lib.hid (fun w2 (g : Gr wr w2) (A3 : Option Addr) (c3 : Nat) (hlc3 : (joinL rs[k] dl).length ≤ c3) (hd3 : Dots w2 A3 (joinL rs[k] dl)) => (HM.out.gr g).set hkm (join_spec hokr hokk).1 hlc3 hd3)
            rw [← hsu] at HS
            have HF := Lib.hid (fun w2 (g : Gr wr w2) => (HM.out.gr g).free k)
            obtain ⟨l, hl⟩ : ∃ l, rs[k] = l := ⟨_, rfl⟩
            rw [hl] at hc2 HJ HS
            have hSS : Gr wr wr.drew := (Gr.rfl' _).dr
            have HMR := Lib.hid HM.out
            have HDR := Lib.hid HD.out
            clear hd2 hdk hsu hokk hokr hrk hlc2 hcapk hl hd HD HM
            go_wp2
            refine region_T 18 (fun w' => Gr wr w') (by kernel_rfl) ?_
            refine anyT_take (i := 0) (v := ?_) (some 38) rfl rfl (by kernel_rfl) (fun _ _ _ h => h) (Or.inl ⟨by rfl, ?_⟩) hSS ?_
            rotate_left
            · intro w' hSw; go_simp; (try with_reducible rfl)
            simp only [Act.put, List.setIfInBounds_toArray, List.set_cons_zero, List.set_cons_succ]
            refine anyT_take (i := 1) (v := ?_) (some 39) rfl rfl (by kernel_rfl) (fun _ _ _ h => h) (Or.inl ⟨by rfl, ?_⟩) hSS ?_
            rotate_left
            · intro w' hSw; go_simp; (try with_reducible rfl)
            simp only [Act.put, List.setIfInBounds_toArray, List.set_cons_zero, List.set_cons_succ]
            refine anyT_take (i := 2) (v := ?_) (some 40) rfl rfl (by kernel_rfl) (fun _ _ _ h => h) (Or.inl ⟨by rfl, ?_⟩) hSS ?_
            rotate_left
            · intro w' hSw; go_simp; (try with_reducible rfl)
            simp only [Act.put, List.setIfInBounds_toArray, List.set_cons_zero, List.set_cons_succ]
            refine anyT_take (i := 3) (v := ?_) (some 41) rfl rfl (by kernel_rfl) (fun _ _ _ h => h) (Or.inl ⟨by rfl, ?_⟩) hSS ?_
            rotate_left
            · intro w' hSw; have c3 := hSw.cell hcb; go_simp; (try with_reducible rfl)
            simp only [Act.put, List.setIfInBounds_toArray, List.set_cons_zero, List.set_cons_succ]
            refine anyT_take (i := 4) (v := ?_) (some 42) rfl rfl (by kernel_rfl) (fun _ _ _ h => h) (Or.inl ⟨by rfl, ?_⟩) hSS ?_
            rotate_left
            · intro w' hSw; go_simp; (try with_reducible rfl)
            simp only [Act.put, List.setIfInBounds_toArray, List.set_cons_zero, List.set_cons_succ]
            refine anyT_take (i := 5) (v := ?_) (some 43) rfl rfl (by kernel_rfl) (fun _ _ _ h => h) (Or.inl ⟨by rfl, ?_⟩) hSS ?_
            rotate_left
            · intro w' hSw; go_simp; (try with_reducible rfl)
            simp only [Act.put, List.setIfInBounds_toArray, List.set_cons_zero, List.set_cons_succ]
            refine anyT_take (i := 6) (v := ?_) (some 44) rfl rfl (by kernel_rfl) (fun _ _ _ h => h) (Or.inl ⟨by rfl, ?_⟩) hSS ?_
            rotate_left
            · intro w' hSw; go_simp; (try with_reducible rfl)
            simp only [Act.put, List.setIfInBounds_toArray, List.set_cons_zero, List.set_cons_succ]
            refine anyT_take (i := 7) (v := ?_) (some 45) rfl rfl (by kernel_rfl) (fun _ _ _ h => h) (Or.inl ⟨by rfl, ?_⟩) hSS ?_
            rotate_left
            · intro w' hSw; go_simp; (try with_reducible rfl)
            simp only [Act.put, List.setIfInBounds_toArray, List.set_cons_zero, List.set_cons_succ]
            refine anyT_take (i := 8) (v := ?_) (some 46) rfl rfl (by kernel_rfl) (fun _ _ _ h => h) (Or.inl ⟨by rfl, ?_⟩) hSS ?_
            rotate_left
            · intro w' hSw; have c8 := hSw.cell hcb; go_simp; (try with_reducible rfl)
            simp only [Act.put, List.setIfInBounds_toArray, List.set_cons_zero, List.set_cons_succ]
            refine anyT_take (i := 9) (v := ?_) (some 47) rfl rfl (by kernel_rfl) (fun _ _ _ h => h) (Or.inl ⟨by rfl, ?_⟩) hSS ?_
            rotate_left
            · intro w' hSw; go_simp; (try with_reducible rfl)
            simp only [Act.put, List.setIfInBounds_toArray, List.set_cons_zero, List.set_cons_succ]
            refine anyT_take (i := 10) (v := ?_) (some 48) rfl rfl (by kernel_rfl) (fun _ _ _ h => h) (Or.inl ⟨by rfl, ?_⟩) hSS ?_
            rotate_left
            · intro w' hSw; go_simp; (try with_reducible rfl)
            simp only [Act.put, List.setIfInBounds_toArray, List.set_cons_zero, List.set_cons_succ]
            refine anyT_take (i := 11) (v := ?_) (some 49) rfl rfl (by kernel_rfl) (fun _ _ _ h => h) (Or.inl ⟨by rfl, ?_⟩) hSS ?_
            rotate_left
            · intro w' hSw; have c11 := hSw.cell hc2; go_simp; (try with_reducible rfl)
            simp only [Act.put, List.setIfInBounds_toArray, List.set_cons_zero, List.set_cons_succ]
            refine anyT_take (i := 12) (v := ?_) (some 50) rfl rfl (by kernel_rfl) (fun _ _ _ h => h) (Or.inl ⟨by rfl, ?_⟩) hSS ?_
            rotate_left
            · intro w' hSw; go_simp; (try with_reducible rfl)
            simp only [Act.put, List.setIfInBounds_toArray, List.set_cons_zero, List.set_cons_succ]
            refine anyT_take (i := 13) (v := ?_) (some 51) rfl rfl (by kernel_rfl) (fun _ _ _ h => h) (Or.inl ⟨by rfl, ?_⟩) hSS ?_
            rotate_left
            · intro w' hSw; go_simp; (try with_reducible rfl)
            simp only [Act.put, List.setIfInBounds_toArray, List.set_cons_zero, List.set_cons_succ]
            refine anyT_take (i := 14) (v := ?_) (some 52) rfl rfl (by kernel_rfl) (fun _ _ _ h => h) (Or.inl ⟨by rfl, ?_⟩) hSS ?_
            rotate_left
            · intro w' hSw; go_simp; (try with_reducible rfl)
            simp only [Act.put, List.setIfInBounds_toArray, List.set_cons_zero, List.set_cons_succ]
            refine anyT_take (i := 15) (v := ?_) (some 53) rfl rfl (by kernel_rfl) (fun _ _ _ h => h) (Or.inl ⟨by rfl, ?_⟩) hSS ?_
            rotate_left
            · intro w' hSw; have c15 := hSw.cell hc; go_simp; (try with_reducible rfl)
            simp only [Act.put, List.setIfInBounds_toArray, List.set_cons_zero, List.set_cons_succ]
            refine anyT_call (i := 16) (some 54) 24 #[.slice A2 l.length c2, .slice dA dl.length dc] (by kernel_rfl) rfl rfl rfl (by kernel_rfl) ?_
            refine (HJ.out _ hSS).mono ?_
            rintro e wc ⟨u, rfl, ho, hgc⟩
            replace hSS := hSS.tr hgc
            refine ⟨_, rfl, fun _ => hSS, ?_⟩
            simp only [Act.put, List.setIfInBounds_toArray, List.set_cons_zero, List.set_cons_succ]
            refine anyT_take (i := 17) (v := ?_) (some 55) rfl rfl (by kernel_rfl) (fun _ _ _ h => h) (Or.inl ⟨by rfl, ?_⟩) hSS ?_
            rotate_left
            · intro w' hSw; go_simp; (try with_reducible rfl)
            simp only [Act.put, List.setIfInBounds_toArray, List.set_cons_zero, List.set_cons_succ]
            obtain ⟨A3, c3, rfl, hlc3, hd3⟩ := ho.dots
            have hcr2 := hSS.cell hc2
            have hfr2 := HF.out _ hSS
            have HM3 := Lib.hid (HS.out _ hSS _ _ hlc3 hd3)
            have HG3 := Lib.hid ((hSS.gm rb).set (i := k) (.slice A3 (joinL l dl).length c3))
            have HD3 := Lib.hid (HDR.out.gm HMR.out HG3.out HAD.out)
            have HGA := Lib.hid (HG.out.tr HG3.out)
            clear HS HJ ho hd3 HMR HDR HG HG3
            refine anyT_one (i := 18) (by kernel_rfl) rfl rfl ?_
            unfold Oper.wp
            go_simp
            refine anyT_done (by kernel_rfl) ?_ 0
            clear hcr2 hfr2 hc2 hc hcb
            go_wp2
            go_roundw
            case rel => exact ⟨k + 1, by omega, by go_num, HM3, HD3, HGA⟩
            case measure => simp [intOf]; omega
          · have hkn : k = rs.length := by omega
            subst hkn
            have hki : ¬ (rs.length : Int) < (rs.length : Int) := by omega
            go_wp2
            go_ret
            rw [HE.out, HR.out]
            exact ⟨rfl, HM.out, HGM.out.tr HG.out⟩
  · have HE : Hid (mergeE rs (ls ds) = 2) := Lib.hid (by unfold mergeE; rw [if_neg (by rw [ls_len]; exact hln)])
    have HR : Hid (mergeR rs (ls ds) = rs) := Lib.hid (by unfold mergeR; rw [HE.out, if_neg (by decide)])
    have hni : ¬ (ds.length : Int) = (rs.length : Int) := by omega
    obtain ⟨n, hn⟩ : ∃ n, ds.length = n := ⟨_, rfl⟩
    obtain ⟨m, hm⟩ : ∃ m, rs.length = m := ⟨_, rfl⟩
    rw [hm] at HP hni hln
    rw [hn] at hni hln ⊢
    clear HD hn hm hdm
    go_enter Try.func16, Try.ntmps16
    go_wp2_with fail
    refine (HP.out _ HM.out).mono ?_
    rintro e w1 ⟨rfl, rfl⟩
    go_wp2
    go_ret
    rw [HE.out, HR.out]
    exact ⟨rfl, HM.out, Gm.rfl' _ _⟩
end Go.Proofs.Ytpaogcighlfelaa
