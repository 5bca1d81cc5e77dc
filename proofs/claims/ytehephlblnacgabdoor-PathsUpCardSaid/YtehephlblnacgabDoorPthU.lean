/- paths: Up, Last. -/
import Derived.Test.YtehephlblnacgabDoorPthS
set_option linter.unusedVariables false
set_option linter.unusedSimpArgs false
set_option maxHeartbeats 4000000
namespace Go.Proofs.YtehephlblnacgabDoor
open Go.RowKit

def upV (l : List UInt8) : List UInt8 := if pathV l then joinP (pieces l).dropLast else []
def lastV (l : List UInt8) : List UInt8 := if pathV l then (pieces l).getLastD [] else []
theorem pathV_parts {l : List UInt8} (h : pathV l = true) : l.length ≤ 51 ∧ 1 ≤ (pieces l).length ∧ (pieces l).length ≤ 4 ∧ ∀ p ∈ pieces l, nameV p = true := by
  unfold pathV partsOk at h
  simp only [Bool.and_eq_true, decide_eq_true_eq, List.all_eq_true] at h
  exact ⟨h.1, h.2.1.1, h.2.1.2, h.2.2⟩
theorem name_len {p : List UInt8} (h : nameV p = true) : 1 ≤ p.length ∧ p.length ≤ 12 := by
  unfold nameV at h
  simp only [Bool.and_eq_true, decide_eq_true_eq] at h
  exact h.1.1.1
/-- up and last make the path again -/
theorem up_last {l : List UInt8} (h : pathV l = true) : (upV l = [] ∧ lastV l = l) ∨ (upV l ≠ [] ∧ upV l ++ 47 :: lastV l = l) := by
  obtain ⟨_, h1, _, hn⟩ := pathV_parts h
  unfold upV lastV
  rw [h]
  simp only [if_true]
  have hj := join_pieces l
  generalize hps : pieces l = ps at *
  have hne : ps ≠ [] := by intro e; subst e; simp at h1
  have hs : ps.dropLast ++ [ps.getLastD []] = ps := by
    rw [List.getLastD_eq_getLast?, List.getLast?_eq_some_getLast hne]
    exact List.dropLast_concat_getLast hne
  by_cases hd : ps.dropLast = []
  · left
    rw [hd] at hs ⊢
    refine ⟨rfl, ?_⟩
    rw [← hj, ← hs]; simp [joinP, List.getLastD]
  · right
    have hp : 0 < ps.dropLast.length := List.length_pos_iff.2 hd
    refine ⟨joinP_ne hp (hn _ (List.dropLast_subset _ (List.getElem_mem hp))), ?_⟩
    have := joinP_snoc ps.dropLast (ps.getLastD []) hd
    rw [hs, hj] at this
    exact this.symm
theorem joinP_len2 : ∀ (ps : List (List UInt8)), ps ≠ [] → (∀ p ∈ ps, nameV p = true) → (joinP ps).length + 1 ≤ ps.length * 13
  | [], h, _ => absurd rfl h
  | [p], _, h => by have := name_len (h p (by simp)); simp [joinP]; omega
  | p :: q :: r, _, h => by
    have h1 := name_len (h p (by simp))
    have h2 := joinP_len2 (q :: r) (by simp) (fun x hx => h x (by simp [hx]))
    show (p ++ 47 :: joinP (q :: r)).length + 1 ≤ _
    rw [List.length_append, List.length_cons]
    have e : (p :: q :: r).length * 13 = (q :: r).length * 13 + 13 := by rw [List.length_cons, Nat.add_mul]
    rw [e]; omega
theorem parts_joined {ps : List (List UInt8)} (h : partsOk ps = true) : pieces (joinP ps) = ps ∧ pathV (joinP ps) = true := by
  have h0 := h
  unfold partsOk at h
  simp only [Bool.and_eq_true, decide_eq_true_eq, List.all_eq_true] at h
  have hne : ps ≠ [] := by intro e; subst e; simp at h
  have hp := pieces_join ps hne (fun p hp => name_noslash (h.2 p hp))
  refine ⟨hp, ?_⟩
  unfold pathV
  rw [hp, h0]
  have := joinP_len2 ps hne h.2
  simp; omega
theorem Up_any (l : List UInt8) (w : World) (hl : l.length < 4294967281) (hm : Mx w) :
    Calls Tryd.prog 6 #[.string (bs l)] w fun r w' => r = .returned (.string (bs (upV l))) ∧ Gr w w' := by
  have HP := Lib.hid (fun w hm => Parts_any l w hl hm)
  have HM := Lib.hid hm
  clear hm
  obtain ⟨s, hs⟩ : ∃ s, bs l = s := ⟨_, rfl⟩
  rw [hs] at HP ⊢
  clear hs hl
  go_enter Tryd.func6, Tryd.ntmps6
  go_wp2_with fail
  refine (HP.out _ HM.out).mono ?_
  rintro r w1 ⟨⟨v, rfl, hr⟩, hg⟩
  have HG := Lib.hid hg
  clear hg
  rcases hr with ⟨hv, g, rfl, ht⟩ | ⟨hv, rfl⟩
  · obtain ⟨_, h1, h4, hn⟩ := pathV_parts hv
    have HV : Hid (upV l = joinP (pieces l).dropLast) := Lib.hid (by unfold upV; rw [hv]; rfl)
    generalize hps : pieces l = ps at *
    obtain ⟨m, hpm⟩ : ∃ m, ps.length = m + 1 := ⟨ps.length - 1, by omega⟩
    have hdl : ps.dropLast.length = m := by rw [List.length_dropLast]; omega
    have htx : Tx w1 (some ⟨g, 0, none⟩) ps.dropLast := fun j hj => by
      obtain ⟨ad, e, hc⟩ := ht.tx j (by omega)
      exact ⟨ad, e, by rw [hc, List.getElem_dropLast]⟩
    have HJ := strJoin_any (some ⟨g, 0, none⟩) (m + 1) ps.dropLast w1 htx (by omega) (by omega) (fun p hp => by have := name_len (hn p (List.dropLast_subset _ hp)); omega)
    rw [hdl, ← HV.out] at HJ
    replace HJ := Lib.hid HJ
    rw [hpm]
    have hm4 : m ≤ 4 := by omega
    clear hv ht h1 h4 hn hps hpm hdl htx HV
    go_wp2_with fail
    refine (HJ.out).mono ?_
    rintro r w2 ⟨rfl, hg⟩
    replace HG := Lib.hid (HG.out.tr hg)
    clear hg HJ
    obtain ⟨t, ht⟩ : ∃ t, bs (upV l) = t := ⟨_, rfl⟩
    rw [ht]
    go_wp2
    go_ret
    exact ⟨(by rw [ht]; rfl), HG.out⟩
  · have HV : Hid (upV l = []) := Lib.hid (by unfold upV; rw [hv]; rfl)
    clear hv
    go_wp2
    go_ret
    rw [HV.out]
    exact ⟨rfl, HG.out⟩
theorem Last_any (l : List UInt8) (w : World) (hl : l.length < 4294967281) (hm : Mx w) :
    Calls Tryd.prog 8 #[.string (bs l)] w fun r w' => r = .returned (.string (bs (lastV l))) ∧ Gr w w' := by
  have HP := Lib.hid (fun w hm => Parts_any l w hl hm)
  have HM := Lib.hid hm
  clear hm
  obtain ⟨s, hs⟩ : ∃ s, bs l = s := ⟨_, rfl⟩
  rw [hs] at HP ⊢
  clear hs hl
  go_enter Tryd.func8, Tryd.ntmps8
  go_wp2_with fail
  refine (HP.out _ HM.out).mono ?_
  rintro r w1 ⟨⟨v, rfl, hr⟩, hg⟩
  have HG := Lib.hid hg
  clear hg
  rcases hr with ⟨hv, g, rfl, ht⟩ | ⟨hv, rfl⟩
  · obtain ⟨_, h1, h4, hn⟩ := pathV_parts hv
    have hlv : lastV l = (pieces l).getLastD [] := by unfold lastV; rw [hv]; rfl
    generalize hps : pieces l = ps at *
    obtain ⟨m, hpm⟩ : ∃ m, ps.length = m + 1 := ⟨ps.length - 1, by omega⟩
    have hc := ht m (by omega)
    have hlm : lastV l = ps[m] := by
      have e : ps[ps.length - 1]? = some ps[m] := by rw [show ps.length - 1 = m by omega]; exact List.getElem?_eq_getElem _
      rw [hlv, List.getLastD_eq_getLast?, List.getLast?_eq_getElem?, e]; rfl
    rw [← hlm] at hc
    rw [hpm]
    have hm4 : m ≤ 4 := by omega
    obtain ⟨t, ht⟩ : ∃ t, bs (lastV l) = t := ⟨_, rfl⟩
    rw [ht] at hc
    clear hv h1 h4 hn hps hpm hlm hlv
    go_wp2
    go_ret
    exact ⟨(by rw [ht]; rfl), HG.out⟩
  · have HV : Hid (lastV l = []) := Lib.hid (by unfold lastV; rw [hv]; rfl)
    clear hv
    go_wp2
    go_ret
    rw [HV.out]
    exact ⟨rfl, HG.out⟩
end Go.Proofs.YtehephlblnacgabDoor
