/- A coder.Writer: put, Number, Text, Flag, Digest, Fail, Done. -/
import Derived.Test.YtfobnemocodomaaWrB
set_option linter.unusedVariables false
set_option linter.unusedSimpArgs false
set_option maxHeartbeats 400000
namespace Go.Proofs.Ytfobnemocodomaa
open Go.RowKit Go.Shelf

/-- what putting comes to -/
def wput (is : Bool) (t : List UInt8) (s : List UInt8 × Int) : List UInt8 × Int := if s.2 ≠ 0 then s else if is then (s.1 ++ t, 0) else (s.1, 2)
def flatB (ss : List ByteArray) : List UInt8 := ss.flatMap fun s => s.data.toList
theorem flatB_take {ss : List ByteArray} {k : Nat} (h : k < ss.length) : flatB (ss.take (k + 1)) = flatB (ss.take k) ++ (ss[k]).data.toList := by
  rw [List.take_succ_eq_append_getElem h]
  simp only [flatB, List.flatMap_append, List.flatMap_cons, List.flatMap_nil, List.append_nil]
theorem flatB_len (ss : List ByteArray) (k : Nat) : (flatB (ss.take k)).length ≤ (flatB ss).length := by
  have : flatB ss = flatB (ss.take k) ++ flatB (ss.drop k) := by
    simp only [flatB, ← List.flatMap_append, List.take_append_drop]
  rw [this, List.length_append]; omega

/-- a row of texts -/
def Strs (w : World) (g : Nat) (ss : List ByteArray) : Prop := ∃ fr, w.heap[g]? = some (.cells (ss.map Value.string).toArray 9 fr)
theorem Strs.at {w : World} {g : Nat} {ss : List ByteArray} (h : Strs w g ss) (k : Nat) (hk : k < ss.length) : w.cell? ⟨g, k, none⟩ = some (.string ss[k]) := by
  obtain ⟨fr, h⟩ := h
  simp [World.cell?, h, List.getElem?_eq_getElem hk]
theorem Strs.wm {B b g : Nat} {ss : List ByteArray} {w w' : World} (h : Strs w g ss) (hne : g ≠ b) (m : Wm B b w w') : Strs w' g ss := by
  obtain ⟨fr, h⟩ := h
  exact ⟨fr, m.typ g _ h hne (by simp [isU8])⟩

set_option maxRecDepth 100000 in
theorem wPut_nil (is : Bool) (v : Value) (w : World) : Calls Try.prog 175 #[.pointer none, .bool is, v] w fun r w' => r = .returned (.tuple #[]) ∧ w' = w := by
  go_enter Try.func175, Try.ntmps175
  go_wp2
  go_end0
  exact ⟨rfl, rfl⟩

set_option maxRecDepth 100000 in
theorem wPut_any (B b : Nat) (l : List UInt8) (e : Int) (is : Bool) (g c : Nat) (ss : List ByteArray) (w : World) (h : Wr B b l e w) (hs : Strs w g ss) (hne : g ≠ b) (hss : ss.length ≤ 9223372036854775807) (hlen0 : is = true → l.length + (flatB ss).length ≤ 140737488355328) :
    Calls Try.prog 175 #[.pointer (some ⟨b, 0, none⟩), .bool is, .slice (some ⟨g, 0, none⟩) ss.length c] w fun r w' => r = .returned (.tuple #[]) ∧ Wr B b (wput is (flatB ss) (l, e)).1 (wput is (flatB ss) (l, e)).2 w' ∧ Wm B b w w' := by
  have c2 : w.cell? ⟨b, 2, none⟩ = some (.int .i64 e) := by obtain ⟨p, v, h⟩ := h; exact h.cell2
  have f2 : w.frozen? ⟨b, 2, none⟩ = false := by obtain ⟨p, v, h⟩ := h; exact h.frz 2
  have HH := Lib.hid h
  by_cases he : e = 0
  · subst he
    cases is with
    | false =>
      have hX : Hid (wput false (flatB ss) (l, 0) = (l, 2)) := by show _ = _; simp [wput]
      clear h
      go_enter Try.func175, Try.ntmps175
      go_wp2
      go_end0
      rw [hX.out]
      obtain ⟨p, v, h⟩ := HH.out
      exact ⟨rfl, ⟨p, v, h.hB, h.hp, heap_set_sameW h.hb _, own_setW h.own h.ne _ _, h.hn⟩, (Wm.refl _ _ _).setCell h.hB _ _⟩
    | true =>
      have hlen := hlen0 rfl
      have hX : Hid (wput true (flatB ss) (l, 0) = (l ++ flatB ss, 0)) := by show _ = _; simp [wput]
      have HS := Lib.hid hs
      clear h hs
      go_enter Try.func175, Try.ntmps175
      go_wp2
      go_loopw [10] (fun i wr => ∃ k : Nat, k ≤ ss.length ∧ i = .int .i64 k ∧ Hid (Wr B b (l ++ flatB (ss.take k)) 0 wr) ∧ Hid (Wm B b w wr)) (fun i _ => ss.length - (intOf i).toNat)
      case atStart => exact ⟨0, Nat.zero_le _, rfl, by simpa [flatB] using HH, Lib.hid (Wm.refl _ _ _)⟩
      case round =>
        obtain ⟨k, hk, rfl, hW, hM⟩ := hrel
        by_cases hkl : k < ss.length
        · have hki : (k : Int) < ss.length := by omega
          have hck := (HS.out.wm hne hM.out).at k hkl
          have hsz : Hid ((l ++ flatB (ss.take k)).length + (ss[k]).size ≤ 140737488355328) := by
            have h1 := flatB_len ss (k + 1)
            rw [flatB_take hkl, List.length_append, ← Lib.size_eq] at h1
            show _ ≤ _
            rw [List.length_append]; omega
          clear c2 f2
          go_wp2_with fail
          refine (WS_any B b _ 0 ss[k] _ hW.out hsz.out).mono ?_
          rintro r w1 ⟨rfl, h1, m1⟩
          have HW1 := Lib.hid h1
          have HM1 := Lib.hid (hM.out.trans m1)
          clear h1 m1 hck hW hM
          go_wp2
          go_roundw
          case rel => exact ⟨k + 1, by omega, by go_num, by have := HW1.out; rw [List.append_assoc, ← flatB_take hkl] at this; exact this, HM1⟩
          case measure => simp [intOf]; omega
        · have hkk : k = ss.length := by omega
          subst hkk
          clear c2 f2
          go_wp2
          go_end0
          rw [hX.out]
          have := hW.out
          rw [List.take_length] at this
          exact ⟨rfl, this, hM.out⟩
  · have hX : Hid (wput is (flatB ss) (l, e) = (l, e)) := by show _ = _; simp [wput, he]
    have heb : (e != 0) = true := by simpa using he
    clear h
    go_enter Try.func175, Try.ntmps175
    go_wp2
    go_end0
    rw [hX.out]
    exact ⟨rfl, HH.out, Wm.refl _ _ _⟩
end Go.Proofs.Ytfobnemocodomaa
