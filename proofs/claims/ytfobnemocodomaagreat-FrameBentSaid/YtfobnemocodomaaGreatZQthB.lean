/- paths: strings.Split as pieces; Parts, Check. -/
import Derived.Test.YtfobnemocodomaaGreatZQthA
import Derived.Test.YtfobnemocodomaaGreatShelf
import Derived.RangeFuncRecord
set_option linter.unusedVariables false
set_option linter.unusedSimpArgs false
set_option maxHeartbeats 4000000
namespace Go.Proofs.YtfobnemocodomaaGreat.Pt
open Go.RowKit

/-- internal/bytealg.MaxLen holds some int -/
def Mx (w : World) : Prop := ∃ m, w.cell? ⟨0, 0, none⟩ = some (.int .i64 m)
theorem Mx.gr {w w' : World} (h : Mx w) (g : Gr w w') : Mx w' := let ⟨m, hm⟩ := h; ⟨m, g.cell hm⟩
/-- texts in a row of their own -/
def Tb (w : World) (g : Nat) (xs : List (List UInt8)) : Prop := ∀ j (h : j < xs.length), w.cell? ⟨g, j, none⟩ = some (.string (bs xs[j]))
theorem Tb.gr {w w' : World} {g : Nat} {xs : List (List UInt8)} (h : Tb w g xs) (k : Gr w w') : Tb w' g xs := fun j hj => k.cell (h j hj)
theorem splitB_pieces (l : List UInt8) : Lib.splitB ⟨#[47]⟩ 0 (Lib.countB (bs l) ⟨#[47]⟩) (bs l) = (pieces l).map bs := by
  have h := Lib.splitB_data ⟨#[47]⟩ 0 (Lib.countB (bs l) ⟨#[47]⟩) (bs l)
  have h2 : Lib.splitK [47] 0 (Lib.count l [47]) l = pieces l := split_pieces l
  have h3 := congrArg (List.map bs) (h.trans h2)
  rw [List.map_map] at h3
  have : (bs ∘ fun s : ByteArray => s.data.toList) = id := by funext s; rfl
  rw [this, List.map_id] at h3
  exact h3
theorem Split_any (l : List UInt8) (w : World) (hl : l.length < 4294967281) (hm : Mx w) :
    Calls Tryz.prog 197 #[.string (bs l), .string ⟨#[47]⟩] w fun r w' =>
      (∃ g, r = .returned (.slice (some ⟨g, 0, none⟩) (pieces l).length (pieces l).length) ∧ Tb w' g (pieces l) ∧ w.heap.size ≤ g ∧ g < w'.heap.size) ∧ Gr w w' := by
  obtain ⟨m, hm⟩ := hm
  have hc : Lib.countB (bs l) ⟨#[47]⟩ + 1 = (pieces l).length := by rw [count_pieces]; rfl
  refine (Tryz.strings_Split (bs l) ⟨#[47]⟩ m w hl hm (by decide)).mono ?_
  rintro r w' ⟨rfl, rfl⟩
  rw [hc, splitB_pieces]
  refine ⟨⟨w.heap.size, rfl, ?_, Nat.le_refl _, by rw [World.size_alloc]; omega⟩, (Gr.rfl' _).al _⟩
  intro j hj
  have hn := World.alloc_heap_new w (.cells (((pieces l).map bs).map Value.string).toArray 9)
  simp only [World.cell?, hn]
  simp [hj]
/-- what Parts hands back -/
def PartsR (w : World) (v : Value) (l : List UInt8) : Prop :=
  (pathV l = true ∧ ∃ g, v = .slice (some ⟨g, 0, none⟩) (pieces l).length (pieces l).length ∧ Tb w g (pieces l)) ∨ (pathV l = false ∧ v = .slice none 0 0)
theorem names_not (ps : List (List UInt8)) (j : Nat) (hj : j < ps.length) (h : nameV ps[j] = false) : ps.all nameV = false := by
  cases hs : ps.all nameV with
  | false => rfl
  | true =>
    have := List.all_eq_true.1 hs _ (List.getElem_mem hj)
    rw [this] at h; cases h
theorem names_all (ps : List (List UInt8)) (h : ∀ j (hj : j < ps.length), nameV ps[j] = true) : ps.all nameV = true := by
  rw [List.all_eq_true]
  intro c hc
  obtain ⟨j, hj, rfl⟩ := List.mem_iff_getElem.1 hc
  exact h j hj
theorem pieces_len_le (l : List UInt8) : (pieces l).length ≤ l.length + 1 := by
  rw [count_pieces]
  have h := Lib.countB_le (⟨#[47]⟩ : ByteArray) (by decide) l.length (bs l) (by rw [bs_size]; exact Nat.le_refl _)
  have h2 : Lib.countB (bs l) ⟨#[47]⟩ = Lib.count l [47] := rfl
  rw [h2, bs_size] at h
  omega
theorem pieces_mem_len (l : List UInt8) : ∀ p ∈ pieces l, p.length ≤ l.length := by
  induction l with
  | nil => intro p hp; simp [pieces] at hp; subst hp; simp
  | cons c r ih =>
    by_cases hc : c = 47
    · subst hc
      rw [pieces_slash]
      intro p hp
      rcases List.mem_cons.1 hp with rfl | hp
      · simp
      · have := ih p hp; simp; omega
    · obtain ⟨q, qs, h⟩ := List.exists_cons_of_ne_nil (pieces_ne r)
      rw [pieces_cons hc h]
      rw [h] at ih
      intro p hp
      rcases List.mem_cons.1 hp with rfl | hp
      · have := ih q (by simp); simp; omega
      · have := ih p (by simp [hp]); simp; omega
theorem Parts_any (l : List UInt8) (w : World) (hl : l.length < 4294967281) (hm : Mx w) :
    Calls Tryz.prog 196 #[.string (bs l)] w fun r w' => (∃ v, r = .returned v ∧ PartsR w' v l) ∧ Gr w w' := by
  have HM := Lib.hid hm
  clear hm
  by_cases h1 : l.length ≤ 51
  · have hi : ¬ (51 : Int) < ((bs l).size : Int) := by rw [bs_size]; omega
    obtain ⟨s, hs⟩ : ∃ s, bs l = s := ⟨_, rfl⟩
    have HSP : Hid (∀ w, Mx w → Calls Tryz.prog 197 #[.string s, .string ⟨#[47]⟩] w fun r w' =>
      (∃ g, r = .returned (.slice (some ⟨g, 0, none⟩) (pieces l).length (pieces l).length) ∧ Tb w' g (pieces l) ∧ w.heap.size ≤ g ∧ g < w'.heap.size) ∧ Gr w w') := Lib.hid (fun w hm => by rw [← hs]; exact Split_any l w hl hm)
    rw [hs] at hi ⊢
    obtain ⟨ps, hps⟩ : ∃ ps, pieces l = ps := ⟨_, rfl⟩
    have hml : ∀ p ∈ ps, p.length ≤ l.length := by rw [← hps]; exact pieces_mem_len l
    have hpl : ps.length ≤ l.length + 1 := by rw [← hps]; exact pieces_len_le l
    have hp0 : 1 ≤ ps.length := by
      rw [← hps]
      have := pieces_ne l
      cases h : pieces l with
      | nil => exact absurd h this
      | cons _ _ => simp
    have hpv : pathV l = partsOk ps := by unfold pathV; rw [hps]; simp [h1]
    have HPV := Lib.hid hpv
    have HPS := Lib.hid hps
    rw [hps] at HSP
    have HML := Lib.hid hml
    have hps52 : ps.length ≤ 52 := by omega
    clear hpv hps hml hl hpl hs
    go_enter Tryz.func196, Tryz.ntmps196
    go_wp2_with fail
    refine (HSP.out _ HM.out).mono ?_
    rintro r w1 ⟨⟨g, rfl, ht, hg1, hg2⟩, hg⟩
    have HT := Lib.hid ht
    have HG := Lib.hid hg
    clear ht hg hg1 hg2
    by_cases h4 : ps.length ≤ 4
    · have h4i : ¬ (4 : Int) < (ps.length : Int) := by omega
      go_wp2
      go_loopw [16] (fun i wr => ∃ k : Nat, k ≤ ps.length ∧ i = .int .i64 k ∧ Hid (∀ j (h : j < ps.length), j < k → nameV ps[j] = true) ∧ wr = w1) (fun i _ => ps.length - (intOf i).toNat)
      case atStart => exact ⟨0, Nat.zero_le _, rfl, Lib.hid (fun j _ hj => absurd hj (by omega)), rfl⟩
      case round =>
        obtain ⟨k, hk, rfl, HA, rfl⟩ := hrel
        by_cases hlt : k < ps.length
        · have hki : (k : Int) < (ps.length : Int) := by omega
          have hc := HT.out k hlt
          obtain ⟨p, hp⟩ : ∃ p, ps[k] = p := ⟨_, rfl⟩
          rw [hp] at hc
          have hpm : p.length ≤ l.length := HML.out p (by rw [← hp]; exact List.getElem_mem hlt)
          have hpx : p.length ≤ maxLen := by unfold maxLen; omega
          cases hv : nameV p with
          | false =>
            have hno := names_not ps k hlt (by rw [hp]; exact hv)
            have hpv2 : pathV l = false := by rw [HPV.out]; unfold partsOk; rw [hno]; simp
            have HN := Lib.hid (Name_any p hpx)
            have HV := Lib.hid hv
            have HR := Lib.hid hpv2
            clear hno hv hpv2 hp hpx hpm
            go_wp2_with fail
            refine (HN.out _).mono ?_
            rintro r w3 ⟨rfl, rfl⟩
            rw [HV.out]
            go_wp2
            go_ret
            exact ⟨⟨_, rfl, Or.inr ⟨HR.out, rfl⟩⟩, HG.out⟩
          | true =>
            have HA2 : Hid (∀ j (h : j < ps.length), j < k + 1 → nameV ps[j] = true) := Lib.hid (fun j h hj => by
              by_cases hjk : j = k
              · subst hjk; rw [hp]; exact hv
              · exact HA.out j h (by omega))
            have HN := Lib.hid (Name_any p hpx)
            have HV := Lib.hid hv
            clear hv hp hpx hpm HA
            go_wp2_with fail
            refine (HN.out _).mono ?_
            rintro r w3 ⟨rfl, rfl⟩
            rw [HV.out]
            go_wp2
            go_roundw
            case rel => exact ⟨k + 1, by omega, by go_num, HA2, trivial⟩
            case measure => simp [intOf]; omega
        · have hkn : k = ps.length := by omega
          subst hkn
          have hki : ¬ (ps.length : Int) < (ps.length : Int) := by omega
          have hall : ps.all nameV = true := names_all ps (fun j hj => HA.out j hj hj)
          have hpv2 : pathV l = true := by rw [HPV.out]; unfold partsOk; rw [hall]; simp [hp0, h4]
          have HL := Lib.hid hpv2
          clear hall hpv2
          go_wp2
          go_ret
          refine ⟨⟨_, rfl, Or.inl ⟨HL.out, g, ?_, ?_⟩⟩, HG.out⟩
          · rw [HPS.out]; rfl
          · rw [HPS.out]; exact HT.out
    · have h4i : (4 : Int) < (ps.length : Int) := by omega
      have hpv2 : pathV l = false := by rw [HPV.out]; unfold partsOk; simp [h4]
      have HL := Lib.hid hpv2
      clear hpv2
      go_wp2
      go_ret
      exact ⟨⟨_, rfl, Or.inr ⟨HL.out, rfl⟩⟩, HG.out⟩
  · have hi : (51 : Int) < ((bs l).size : Int) := by rw [bs_size]; omega
    have hpv : pathV l = false := by unfold pathV; simp [h1]
    have HPV := Lib.hid hpv
    obtain ⟨s, hs⟩ : ∃ s, bs l = s := ⟨_, rfl⟩
    rw [hs] at hi ⊢
    clear hpv hs
    go_enter Tryz.func196, Tryz.ntmps196
    go_wp2
    go_ret
    exact ⟨⟨_, rfl, Or.inr ⟨HPV.out, rfl⟩⟩, Gr.rfl' _⟩
def chkV (l : List UInt8) : Int := if 51 < l.length then 2 else if pathV l then 0 else 1
theorem chkV_ok (l : List UInt8) : chkV l = 0 ↔ pathV l = true := by
  unfold chkV
  split
  · rename_i h
    have : pathV l = false := by unfold pathV; simp; omega
    simp [this]
  · cases pathV l <;> simp
theorem Check_any (l : List UInt8) (w : World) (hl : l.length < 4294967281) (hm : Mx w) :
    Calls Tryz.prog 195 #[.string (bs l)] w fun r w' => r = .returned (.int .i64 (chkV l)) ∧ Gr w w' := by
  have HP := Lib.hid (fun w hm => Parts_any l w hl hm)
  have HM := Lib.hid hm
  clear hm
  obtain ⟨s, hs⟩ : ∃ s, bs l = s := ⟨_, rfl⟩
  have hsz : s.size = l.length := by rw [← hs]; rfl
  rw [hs] at HP ⊢
  by_cases h1 : 51 < l.length
  · have hi : (51 : Int) < (s.size : Int) := by omega
    have HV : Hid (chkV l = 2) := Lib.hid (by unfold chkV; rw [if_pos h1])
    clear hs hsz hl h1
    go_enter Tryz.func195, Tryz.ntmps195
    go_wp2
    go_ret
    rw [HV.out]
    exact ⟨rfl, Gr.rfl' _⟩
  · have hi : ¬ (51 : Int) < (s.size : Int) := by omega
    have HE : Hid (chkV l = if pathV l then 0 else 1) := Lib.hid (by unfold chkV; rw [if_neg h1])
    clear hs hsz hl h1
    go_enter Tryz.func195, Tryz.ntmps195
    go_wp2_with fail
    refine (HP.out _ HM.out).mono ?_
    rintro r w1 ⟨⟨v, rfl, hr⟩, hg⟩
    have HG := Lib.hid hg
    clear hg
    rcases hr with ⟨hv, g, rfl, _⟩ | ⟨hv, rfl⟩
    · have hne : ¬ ((pieces l).length : Int) = 0 := by
        have := pieces_ne l
        cases h : pieces l with
        | nil => exact absurd h this
        | cons _ _ => simp only [List.length_cons]; omega
      obtain ⟨n, hn⟩ : ∃ n, (pieces l).length = n := ⟨_, rfl⟩
      rw [hn] at hne ⊢
      have hne2 : ¬ n = 0 := by omega
      have HV : Hid (chkV l = 0) := Lib.hid (by rw [HE.out, hv]; rfl)
      clear hv hn
      go_wp2
      go_ret
      rw [HV.out]
      exact ⟨rfl, HG.out⟩
    · have HV : Hid (chkV l = 1) := Lib.hid (by rw [HE.out, hv]; rfl)
      clear hv
      go_wp2
      go_ret
      rw [HV.out]
      exact ⟨rfl, HG.out⟩
end Go.Proofs.YtfobnemocodomaaGreat.Pt
