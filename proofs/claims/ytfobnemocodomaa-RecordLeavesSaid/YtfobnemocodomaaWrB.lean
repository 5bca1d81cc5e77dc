/- A coder.Writer: WriteString and String. -/
import Derived.Test.YtfobnemocodomaaWrA
set_option linter.unusedVariables false
set_option linter.unusedSimpArgs false
set_option maxHeartbeats 400000
namespace Go.Proofs.Ytfobnemocodomaa
open Go.RowKit Go.Shelf

theorem cc_any (B b : Nat) (l : List UInt8) (e : Int) (w : World) (h : Wr B b l e w) :
    Calls Try.prog 216 #[.pointer (some ⟨b, 0, none⟩)] w fun r w' => r = .returned (.tuple #[]) ∧ (∃ v, WrP (.pointer (some ⟨b, 0, none⟩)) v B b l e w') ∧ Wm B b w w' := by
  obtain ⟨p, v, h⟩ := h
  rcases h.hp with rfl | rfl
  · refine (cc_fresh b w h.cell0 h.shape (h.frz 0)).mono ?_
    rintro e w' ⟨rfl, rfl⟩
    exact ⟨rfl, ⟨v, h.hB, .inr rfl, heap_set_sameW h.hb _, own_setW h.own h.ne _ _, h.hn⟩, (Wm.refl _ _ _).setCell h.hB _ _⟩
  · refine (cc_used b w h.cell0).mono ?_
    rintro e w' ⟨rfl, rfl⟩
    exact ⟨rfl, ⟨v, h⟩, Wm.refl _ _ _⟩

set_option maxHeartbeats 2000000 in
set_option maxRecDepth 100000 in
theorem WS_any (B b : Nat) (l : List UInt8) (e : Int) (s : ByteArray) (w : World) (h : Wr B b l e w) (hlen : l.length + s.size ≤ 140737488355328) :
    Calls Try.prog 201 #[.pointer (some ⟨b, 0, none⟩), .string s] w fun r w' => r = .returned (.tuple #[.int .i64 s.size, .nilIface]) ∧ Wr B b (l ++ s.data.toList) e w' ∧ Wm B b w w' := by
  obtain ⟨i0, hi, hz0, hz1, hz2⟩ := info_parts infoByte
  have hBw : B ≤ w.heap.size := by
    have := h.lt
    obtain ⟨p, v, h⟩ := h
    have := h.hB; omega
  have HH := Lib.hid h; clear h
  go_enter Try.func201, Try.ntmps201
  go_wp2_with fail
  refine (cc_any B b l e _ HH.out).mono ?_
  rintro r w1 ⟨rfl, ⟨v, h1⟩, hm1⟩
  have c0 := h1.cell0
  have c1 := h1.cell1
  have hown := h1.own
  have hB1 : B ≤ w1.heap.size := Nat.le_trans hBw hm1.size
  have H1 := Lib.hid h1; clear h1
  have HM := Lib.hid hm1; clear hm1
  go_wp2_with (at_builtin; refine Lib.wpList_append_own_string _ rfl _ _ 129 9 rfl B 5 i0 Try.underlying129 Try.underlying9 hi hz0 hz1 hz2 _ _ _ rfl hown s rfl ?c3 ?c4 ?c5 ?_)
  case c3 => unfold maxLen; omega
  case c4 => omega
  case c5 => exact hB1
  intro v' w2 hown' hgrow hnil
  have hlt : b < w1.heap.size := (Array.getElem?_eq_some_iff.1 H1.out.hb).1
  have hb2 : w2.heap[b]? = some (.cells #[.pointer (some ⟨b, 0, none⟩), v, .int .i64 e] 133 (0, 0)) := by
    rw [hgrow.block b hlt (fun e => H1.out.ne e.symm)]
    exact H1.out.hb
  have d0 : w2.cell? ⟨b, 0, none⟩ = some (.pointer (some ⟨b, 0, none⟩)) := by simp [World.cell?, hb2]
  have d1 : w2.cell? ⟨b, 1, none⟩ = some v := by simp [World.cell?, hb2]
  have f1 : w2.frozen? ⟨b, 1, none⟩ = false := by simp [World.frozen?, hb2]
  obtain ⟨ao, n', cap, rfl⟩ : ∃ ao n' cap, v' = .slice ao n' cap := by
    rcases hown'.2 with ⟨hv, _⟩ | ⟨g, cap, cur, hv, _⟩
    · exact ⟨_, _, _, hv⟩
    · exact ⟨_, _, _, hv⟩
  have HB2 := Lib.hid hb2; clear hb2
  have HO := Lib.hid hown'; clear hown'
  have HG := Lib.hid hgrow; clear hgrow
  have HN := Lib.hid hnil; clear hnil
  go_wp2
  go_ret2
  have hne' : (Value.slice ao n' cap).ownBlock ≠ some b := by
    rcases HO.out.2 with ⟨hv, _⟩ | ⟨g, cap', cur, hv, _, hgb, _⟩
    · rw [hv]; simp [Value.ownBlock]
    · rw [hv]
      intro e
      obtain rfl : g = b := by simpa [Value.ownBlock] using e
      rw [HB2.out] at hgb
      cases hgb
  have hlen2 : (l ++ s.data.toList).length = l.length + s.size := by rw [List.length_append, ← Lib.size_eq]
  refine ⟨rfl, ⟨_, .slice ao n' cap, H1.out.hB, .inr rfl, heap_set_sameW HB2.out _, ?_, ?_⟩, ?_⟩
  · rw [hlen2, Lib.byteCells_append]
    exact own_setW HO.out hne' _ _
  · intro he
    have h1 := List.append_eq_nil_iff.1 he
    refine HN.out.2 ⟨H1.out.hn h1.1, ?_⟩
    exact ByteArray.ext (by simpa using h1.2)
  · exact (HM.out.grown hown HG.out).setCell H1.out.hB _ _

theorem Wm.drew {B b : Nat} {X Y : World} (h : Wm B b X Y) : Wm B b X Y.drew := ⟨h.os, h.tape, h.output, h.size, h.low, h.typ⟩
theorem Wm.freeze {B b g : Nat} {X Y : World} {cs : Array Value} {fr : Nat × Nat} (h : Wm B b X Y) (hg : Y.heap[g]? = some (.cells cs 5 fr)) (hB : B ≤ g) (n : Nat) : Wm B b X (Y.freeze ⟨g, 0, none⟩ n) := by
  have hb := Lib.below_freeze (B := B) (a := Y) (Below.refl B Y) (p := ⟨g, 0, none⟩) hB n
  have ho : ∀ k, k ≠ g → (Y.freeze ⟨g, 0, none⟩ n).heap[k]? = Y.heap[k]? := by
    intro k hk
    unfold World.freeze
    split
    · rfl
    · simp only [Array.getElem?_modify]
      rw [if_neg (by intro e; exact hk e.symm)]
  refine ⟨hb.os.trans h.os, hb.tape.trans h.tape, hb.output.trans h.output, Nat.le_trans h.size hb.size, fun k hk hlt => (hb.block k hk).trans (h.low k hk hlt), fun k o h1 h2 h3 => ?_⟩
  have h4 := h.typ k o h1 h2 h3
  by_cases hk : k = g
  · subst hk
    rw [hg] at h4
    cases h4
    simp [isU8] at h3
  · rw [ho k hk]; exact h4

theorem bstr_empty (W : World) (q : Option Addr) : (Builtin.unsafeString_ #[225, 3] 9 #[.pointer q, .int .i64 0]).run Try.prog W = .ok (.string .empty) W := Lib.run_unsafeString_none W _ _ _ q

set_option maxHeartbeats 2000000 in
set_option maxRecDepth 100000 in
theorem Str_any (B b : Nat) (l : List UInt8) (e : Int) (w : World) (h : Wr B b l e w) :
    Calls Try.prog 176 #[.pointer (some ⟨b, 0, none⟩)] w fun r w' => r = .returned (.string ⟨l.toArray⟩) ∧ Wm B b w w' := by
  obtain ⟨p, v, h⟩ := h
  cases l with
  | nil =>
    obtain rfl := h.hn rfl
    have hUS := bstr_empty
    have c1 : w.drew.cell? ⟨b, 1, none⟩ = some (.slice none 0 0) := h.cell1
    have hSD : (Builtin.unsafeSliceData_ #[129] 225 #[.slice none 0 0]).run Try.prog w.drew = .ok (.pointer none) w.drew := rfl
    clear h
    go_enter Try.func176, Try.ntmps176
    go_wp2
    go_region
    all_goals (go_wp2; go_ret; exact ⟨rfl, (Wm.refl _ _ _).drew⟩)
  | cons x r =>
    obtain ⟨l, hl⟩ : ∃ l, l = x :: r := ⟨_, rfl⟩
    rw [← hl] at h ⊢
    have h0 : l ≠ [] := by rw [hl]; simp
    clear hl
    have hl0 : l.length ≠ 0 := by simpa using h0
    obtain ⟨g, cap, cur, rfl, hbg, hg, hnc, hcm, hcs, htake⟩ : ∃ g cap cur, v = .slice (some ⟨g, 0, none⟩) l.length cap ∧ B ≤ g ∧ w.heap[g]? = some (.cells cur 5 (0, 0)) ∧ l.length ≤ cap ∧ cap ≤ maxLen ∧ cur.size = cap * 1 ∧ cur.toList.take (l.length * 1) = Lib.byteCells l := by
      rcases h.own.2 with ⟨_, hz⟩ | ⟨g, cap, cur, hv, r⟩
      · exact absurd hz hl0
      · exact ⟨g, cap, cur, hv, r⟩
    have c1 : w.drew.cell? ⟨b, 1, none⟩ = some (.slice (some ⟨g, 0, none⟩) l.length cap) := h.cell1
    have hSD : (Builtin.unsafeSliceData_ #[129] 225 #[.slice (some ⟨g, 0, none⟩) l.length cap]).run Try.prog w.drew = .ok (.pointer (some ⟨g, 0, none⟩)) w.drew :=
      Lib.run_unsafeSliceData_row _ _ _ _ _ _ (by omega)
    have hUS : (Builtin.unsafeString_ #[225, 3] 9 #[.pointer (some ⟨g, 0, none⟩), .int .i64 l.length]).run Try.prog w.drew = .ok (.string ⟨l.toArray⟩) (w.drew.freeze ⟨g, 0, none⟩ l.length) := by
      refine Lib.run_unsafeString_row w.drew 225 3 9 5 Try.underlying225 (by kernel_rfl) g cur.size (by have hg' : w.drew.heap[g]? = some (.cells cur 5 (0, 0)) := hg; simp [World.shape?, hg']) l h0 (by omega) (by unfold maxLen at hcm; omega) ?_
      intro j x hx
      have := h.own.cells (g := g) rfl j (.int .u8 x.toNat) (by simp [Lib.byteCells, hx])
      exact this
    have hW := Lib.hid ((Wm.refl B b w).drew.freeze (g := g) hg hbg l.length)
    clear h htake hcs hcm hnc h0 hl0 hg
    go_enter Try.func176, Try.ntmps176
    go_wp2
    go_region
    all_goals (go_wp2; go_ret; exact ⟨rfl, hW.out⟩)
end Go.Proofs.Ytfobnemocodomaa
