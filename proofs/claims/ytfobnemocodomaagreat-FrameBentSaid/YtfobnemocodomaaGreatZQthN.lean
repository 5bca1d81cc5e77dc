/- hearsayref04: Check, Parts, SameTexts. -/
import Derived.Test.YtfobnemocodomaaGreatZQthM
set_option linter.unusedVariables false
set_option linter.unusedSimpArgs false
set_option maxHeartbeats 4000000
namespace Go.Proofs.YtfobnemocodomaaGreat.Pt
open Go.RowKit

theorem refCheck_any (l : List UInt8) (w : World) (hl : l.length ≤ 4096) :
    Calls Tryz.prog 83 #[.string (bs l)] w fun r w' => r = .returned (.int .i64 (chkV l)) ∧ Gr w w' := by
  have HP := Lib.hid (fun w => Pieces_any l w hl)
  obtain ⟨s, hs⟩ : ∃ s, bs l = s := ⟨_, rfl⟩
  have hsz : s.size = l.length := by rw [← hs]; rfl
  rw [hs] at HP ⊢
  by_cases h1 : 51 < l.length
  · have hi : (51 : Int) < (s.size : Int) := by omega
    have HV : Hid (chkV l = 2) := Lib.hid (by unfold chkV; rw [if_pos h1])
    clear hs hsz hl h1 HP
    go_enter Tryz.func83, Tryz.ntmps83
    go_wp2
    go_ret
    rw [HV.out]
    exact ⟨rfl, Gr.rfl' _⟩
  have hi : ¬ (51 : Int) < (s.size : Int) := by omega
  obtain ⟨ps, hps⟩ : ∃ ps, pieces l = ps := ⟨_, rfl⟩
  have hml : ∀ p ∈ ps, p.length ≤ l.length := by rw [← hps]; exact pieces_mem_len l
  have hpl : ps.length ≤ l.length + 1 := by rw [← hps]; exact pieces_len_le l
  have hp0 : 1 ≤ ps.length := by rw [← hps]; exact pieces_pos l
  have HE : Hid (chkV l = if partsOk ps then 0 else 1) := Lib.hid (by unfold chkV; rw [if_neg h1]; unfold pathV; rw [hps]; simp [show l.length ≤ 51 by omega])
  have HML := Lib.hid hml
  have hps52 : ps.length ≤ 52 := by omega
  have hl51 : l.length ≤ 51 := by omega
  rw [hps] at HP
  clear hs hsz hl h1 hps hml hpl
  go_enter Tryz.func83, Tryz.ntmps83
  go_wp2_with fail
  refine (HP.out _).mono ?_
  rintro r w1 ⟨⟨v, rfl, ho⟩, hg⟩
  obtain ⟨A, c, rfl⟩ := ho.shape
  obtain ⟨g, rfl, _, _, _, _, hcl⟩ := ho.cell
  have HC := Lib.hid hcl
  have HG := Lib.hid hg
  clear hg ho hcl HP
  by_cases h4 : ps.length ≤ 4
  · have h4i : ¬ (4 : Int) < (ps.length : Int) := by omega
    go_wp2
    go_loopw [4] (fun i wr => ∃ k : Nat, k ≤ ps.length ∧ i = .int .i64 k ∧ Hid (∀ j (h : j < ps.length), j < k → nameV ps[j] = true) ∧ wr = w1) (fun i _ => ps.length - (intOf i).toNat)
    case atStart => exact ⟨0, Nat.zero_le _, rfl, Lib.hid (fun j _ hj => absurd hj (by omega)), rfl⟩
    case round =>
      obtain ⟨k, hk, rfl, HA, rfl⟩ := hrel
      by_cases hlt : k < ps.length
      · have hki : (k : Int) < (ps.length : Int) := by omega
        have hc := HC.out k hlt
        obtain ⟨p, hp⟩ : ∃ p, ps[k] = p := ⟨_, rfl⟩
        rw [hp] at hc
        have hpm : p.length ≤ l.length := HML.out p (by rw [← hp]; exact List.getElem_mem hlt)
        have hpx : p.length ≤ maxLen := by unfold maxLen; omega
        cases hv : nameV p with
        | false =>
          have hno := names_not ps k hlt (by rw [hp]; exact hv)
          have HR : Hid (chkV l = 1) := Lib.hid (by rw [HE.out]; unfold partsOk; rw [hno]; simp)
          have HN := Lib.hid (refName_any p hpx)
          have HV := Lib.hid hv
          clear hno hv hp hpx hpm
          go_wp2_with fail
          refine (HN.out _).mono ?_
          rintro r w3 ⟨rfl, rfl⟩
          rw [HV.out]
          go_wp2
          go_ret
          rw [HR.out]
          exact ⟨rfl, HG.out⟩
        | true =>
          have HA2 : Hid (∀ j (h : j < ps.length), j < k + 1 → nameV ps[j] = true) := Lib.hid (fun j h hj => by
            by_cases hjk : j = k
            · subst hjk; rw [hp]; exact hv
            · exact HA.out j h (by omega))
          have HN := Lib.hid (refName_any p hpx)
          have HV := Lib.hid hv
          clear hv hp hpx hpm HA
          go_wp2_with fail
          refine (HN.out _).mono ?_
          rintro r w3 ⟨rfl, rfl⟩
          rw [HV.out]
          go_wp2
          go_roundw
          case rel => exact ⟨k + 1, by omega, by go_num, HA2, trivial⟩
          case measure => simp [intOf]; omega
      · have hkn : k = ps.length := by omega
        subst hkn
        have hki : ¬ (ps.length : Int) < (ps.length : Int) := by omega
        have hall : ps.all nameV = true := names_all ps (fun j hj => HA.out j hj hj)
        have HR : Hid (chkV l = 0) := Lib.hid (by rw [HE.out]; unfold partsOk; rw [hall]; simp [hp0, h4])
        clear hall
        go_wp2
        go_ret
        rw [HR.out]
        exact ⟨rfl, HG.out⟩
  · have h4i : (4 : Int) < (ps.length : Int) := by omega
    have HR : Hid (chkV l = 1) := Lib.hid (by rw [HE.out]; unfold partsOk; simp [h4])
    have h0i : (0 : Int) < (ps.length : Int) := by omega
    have hc := HC.out 0 (by omega)
    obtain ⟨p, hp⟩ : ∃ p, ps[0] = p := ⟨_, rfl⟩
    rw [hp] at hc
    have hpm : p.length ≤ l.length := HML.out p (by rw [← hp]; exact List.getElem_mem _)
    have hpx : p.length ≤ maxLen := by unfold maxLen; omega
    have HN := Lib.hid (refName_any p hpx)
    obtain ⟨q, hq⟩ : ∃ q, nameV p = q := ⟨_, rfl⟩
    rw [hq] at HN
    clear hp hpx hpm hq
    go_wp2
    go_loopw [4] (fun i wr => i = .int .i64 0 ∧ wr = w1) (fun i _ => 1 - (intOf i).toNat)
    case atStart => exact ⟨rfl, rfl⟩
    case round =>
      obtain ⟨rfl, rfl⟩ := hrel
      go_wp2_with fail
      refine (HN.out _).mono ?_
      rintro r w3 ⟨rfl, rfl⟩
      cases q with
      | false =>
        go_wp2
        go_ret
        rw [HR.out]
        exact ⟨rfl, HG.out⟩
      | true =>
        go_wp2
        go_ret
        rw [HR.out]
        exact ⟨rfl, HG.out⟩
/-- what the reference's Parts hands back -/
def PartsT (w : World) (B : Nat) (v : Value) (l : List UInt8) : Prop := (pathV l = true ∧ OwnT w B v (pieces l)) ∨ (pathV l = false ∧ v = .slice none 0 0)
theorem same_upto {α : Type} [DecidableEq α] (xs ys : List α) (h : xs.length = ys.length) (e : ∀ j (hj : j < xs.length), xs[j] = ys[j]) : xs = ys := List.ext_getElem h (fun j h1 _ => e j h1)
end Go.Proofs.YtfobnemocodomaaGreat.Pt
