/- hearsayref04: Join; hearsaylaw04: PathsJoin. -/
import Derived.Test.YtehephlblnacgabDoorPthR
set_option linter.unusedVariables false
set_option linter.unusedSimpArgs false
set_option maxHeartbeats 4000000
namespace Go.Proofs.YtehephlblnacgabDoor
open Go.RowKit

theorem refJoin_any (A : Option Addr) (c : Nat) (ps : List (List UInt8)) (w : World) (hn : ps.length ≤ 9223372036854775807) (h : Tx w A ps) (hl : ∀ p ∈ ps, p.length ≤ 4096) :
    Calls Tryd.prog 18 #[.slice A ps.length c] w fun r w' => r = joinR ps ∧ Gr w w' := by
  have HT := Lib.hid h
  have HML := Lib.hid hl
  by_cases h0 : ps.length = 0
  · have HR := Lib.hid (joinR_no (ps := ps) (by unfold partsOk; simp [h0]))
    rw [h0]
    clear h hl hn h0
    go_enter Tryd.func18, Tryd.ntmps18
    go_wp2
    go_loopw [4, 5] (fun v i wr => v = .string ⟨#[]⟩ ∧ i = .int .i64 0 ∧ wr = w) (fun _ i _ => 1 - (intOf i).toNat)
    case atStart => exact ⟨rfl, rfl, rfl⟩
    case round =>
      obtain ⟨rfl, rfl, rfl⟩ := hrel
      go_wp2
      refine bodyPost_ret (v := .tuple #[.string ⟨#[]⟩, .int .i64 1]) (by simp [results, Tryd.results18, go_sem]) rfl ?_
      exact ⟨HR.out.symm, Gr.rfl' _⟩
  by_cases h4 : ps.length ≤ 4
  · have h4i : ¬ (4 : Int) < (ps.length : Int) := by omega
    have HPO : Hid (partsOk ps = ps.all nameV) := Lib.hid (by unfold partsOk; simp [h4, show 1 ≤ ps.length by omega])
    clear h hl
    go_enter Tryd.func18, Tryd.ntmps18
    go_wp2
    go_loopw [4, 5] (fun v i wr => ∃ (k : Nat) (s : ByteArray), k ≤ ps.length ∧ v = .string s ∧ i = .int .i64 k ∧ s.size ≤ 20000 ∧ Hid (s = bs (joinP (ps.take k))) ∧ Hid (∀ j (h : j < ps.length), j < k → nameV ps[j] = true) ∧ wr = w) (fun _ i _ => ps.length - (intOf i).toNat)
    case atStart => exact ⟨0, ⟨#[]⟩, Nat.zero_le _, rfl, rfl, by decide, Lib.hid rfl, Lib.hid (fun j _ hj => absurd hj (by omega)), rfl⟩
    case round =>
      obtain ⟨k, s, hk, rfl, rfl, hsz, HS, HA, rfl⟩ := hrel
      by_cases hlt : k < ps.length
      · have hki : (k : Int) < (ps.length : Int) := by omega
        obtain ⟨ad, rfl, hc⟩ := HT.out k hlt
        obtain ⟨p, hp⟩ : ∃ p, ps[k] = p := ⟨_, rfl⟩
        rw [hp] at hc
        have hpl : p.length ≤ 4096 := HML.out p (by rw [← hp]; exact List.getElem_mem hlt)
        have hpx : p.length ≤ maxLen := by unfold maxLen; omega
        cases hv : nameV p with
        | false =>
          have HR := Lib.hid (joinR_no (ps := ps) (by rw [HPO.out]; exact names_not ps k hlt (by rw [hp]; exact hv)))
          have HN := Lib.hid (refName_any p hpx)
          have HV := Lib.hid hv
          clear hv hp hpx hpl
          go_wp2_with fail
          refine (HN.out _).mono ?_
          rintro r w3 ⟨rfl, rfl⟩
          rw [HV.out]
          go_wp2
          refine bodyPost_ret (v := .tuple #[.string ⟨#[]⟩, .int .i64 1]) (by simp [results, Tryd.results18, go_sem]) rfl ?_
          exact ⟨HR.out.symm, Gr.rfl' _⟩
        | true =>
          have HA2 : Hid (∀ j (h : j < ps.length), j < k + 1 → nameV ps[j] = true) := Lib.hid (fun j h hj => by
            by_cases hjk : j = k
            · subst hjk; rw [hp]; exact hv
            · exact HA.out j h (by omega))
          have hp12 : p.length ≤ 12 := by
            unfold nameV at hv
            simp only [Bool.and_eq_true, decide_eq_true_eq] at hv
            omega
          have hall : ∀ q ∈ ps.take (k + 1), q.length ≤ 4096 := fun q hq => HML.out q (List.mem_of_mem_take hq)
          have hjl := joinP_len (ps.take (k + 1)) 4096 hall
          have hjl2 : (ps.take (k + 1)).length * (4096 + 1) ≤ 4 * 4097 := Nat.mul_le_mul (by rw [List.length_take]; omega) (Nat.le_refl _)
          have HN := Lib.hid (refName_any p hpx)
          have HV := Lib.hid hv
          have hbp : (bs p).size ≤ 4096 := hpl
          obtain ⟨t, ht⟩ : ∃ t, bs p = t := ⟨_, rfl⟩
          rw [ht] at hc HN hbp
          by_cases hk0 : k = 0
          · subst hk0
            have hst : s ++ t = bs (joinP (ps.take (0 + 1))) := by
              rw [HS.out, ← ht, bs_app, joinP_one hlt, hp]; rfl
            have hts : (s ++ t).size ≤ 20000 := by rw [hst, bs_size]; omega
            have HST := Lib.hid hst
            have hz : s.size + t.size ≤ 9223372036854775807 := by omega
            have e0 : ad.add 0 = ad := by unfold Addr.add; simp
            rw [e0] at hc
            clear hv hp hpx HA hall hjl hjl2 hst ht hpl hp12 e0
            go_wp2_with fail
            refine (HN.out _).mono ?_
            rintro r w3 ⟨rfl, rfl⟩
            rw [HV.out]
            go_wp2
            go_roundw
            case rel => exact ⟨0 + 1, _, by omega, rfl, by go_num, hts, HST, HA2, trivial⟩
            case measure => simp [intOf]; omega
          · have hki0 : (0 : Int) < (k : Int) := by omega
            have hst : s ++ ⟨#[47]⟩ ++ t = bs (joinP (ps.take (k + 1))) := by
              rw [HS.out, ← ht, joinP_take hlt (by omega), hp]
              show bs _ ++ bs [47] ++ bs p = _
              rw [bs_app, bs_app, List.append_assoc]; rfl
            have hts : (s ++ ⟨#[47]⟩ ++ t).size ≤ 20000 := by rw [hst, bs_size]; omega
            have HST := Lib.hid hst
            have hz1 : s.size + 1 ≤ 9223372036854775807 := by omega
            have hz : (s ++ ⟨#[47]⟩).size + t.size ≤ 9223372036854775807 := by
              rw [ByteArray.size_append]
              show s.size + 1 + t.size ≤ _
              omega
            clear hv hp hpx HA hall hjl hjl2 hst ht hpl hp12
            go_wp2_with fail
            refine (HN.out _).mono ?_
            rintro r w3 ⟨rfl, rfl⟩
            rw [HV.out]
            go_wp2
            go_roundw
            case rel => exact ⟨k + 1, _, by omega, rfl, by go_num, hts, HST, HA2, trivial⟩
            case measure => simp [intOf]; omega
      · have hkn : k = ps.length := by omega
        subst hkn
        have hki : ¬ (ps.length : Int) < (ps.length : Int) := by omega
        have hall : ps.all nameV = true := names_all ps (fun j hj => HA.out j hj hj)
        have HR := Lib.hid (joinR_yes (ps := ps) (by rw [HPO.out]; exact hall))
        have hse : s = bs (joinP ps) := by rw [HS.out, List.take_length]
        have hne := joinP_ne (ps := ps) (by omega) (HA.out 0 (by omega) (by omega))
        have n1 : ¬ s.toList = [] := by rw [Lib.toList_data, hse]; exact hne
        have n2 : s.toList.isEmpty = false := by rw [Lib.toList_data, hse, bs_list]; simp [hne]
        rw [← hse] at HR
        clear hall hse hne
        go_wp2
        refine bodyPost_ret (v := .tuple #[.string s, .int .i64 0]) (by simp [results, Tryd.results18, go_sem]) rfl ?_
        exact ⟨HR.out.symm, Gr.rfl' _⟩
  · have h4i : (4 : Int) < (ps.length : Int) := by omega
    have HR := Lib.hid (joinR_no (ps := ps) (by unfold partsOk; simp [h4]))
    have h0i : (0 : Int) < (ps.length : Int) := by omega
    obtain ⟨ad, rfl, hc⟩ := HT.out 0 (by omega)
    obtain ⟨p, hp⟩ : ∃ p, ps[0] = p := ⟨_, rfl⟩
    rw [hp] at hc
    have hpx : p.length ≤ maxLen := by have := HML.out p (by rw [← hp]; exact List.getElem_mem _); unfold maxLen; omega
    have HN := Lib.hid (refName_any p hpx)
    obtain ⟨q, hq⟩ : ∃ q, nameV p = q := ⟨_, rfl⟩
    rw [hq] at HN
    have e0 : ad.add 0 = ad := by unfold Addr.add; simp
    rw [e0] at hc
    clear hp hpx hq h hl
    go_enter Tryd.func18, Tryd.ntmps18
    go_wp2
    go_loopw [4, 5] (fun v i wr => v = .string ⟨#[]⟩ ∧ i = .int .i64 0 ∧ wr = w) (fun _ i _ => 1 - (intOf i).toNat)
    case atStart => exact ⟨rfl, rfl, rfl⟩
    case round =>
      obtain ⟨rfl, rfl, rfl⟩ := hrel
      go_wp2_with fail
      refine (HN.out _).mono ?_
      rintro r w3 ⟨rfl, rfl⟩
      cases q with
      | false =>
        go_wp2
        refine bodyPost_ret (v := .tuple #[.string ⟨#[]⟩, .int .i64 1]) (by simp [results, Tryd.results18, go_sem]) rfl ?_
        exact ⟨HR.out.symm, Gr.rfl' _⟩
      | true =>
        go_wp2
        refine bodyPost_ret (v := .tuple #[.string ⟨#[]⟩, .int .i64 1]) (by simp [results, Tryd.results18, go_sem]) rfl ?_
        exact ⟨HR.out.symm, Gr.rfl' _⟩
end Go.Proofs.YtehephlblnacgabDoor
