/- A coder.Writer: Number, Text, Flag, Digest, Fail, Done. -/
import Derived.Test.YtfobnemocodomaaWrC
set_option linter.unusedVariables false
set_option linter.unusedSimpArgs false
set_option maxHeartbeats 400000
namespace Go.Proofs.Ytfobnemocodomaa
open Go.RowKit Go.Shelf

def numOk (n : Int) : Bool := decide (0 ≤ n ∧ n ≤ 1073741824)
theorem putS_no {n : Int} (h : numOk n = false) : putS n = ⟨#[]⟩ := if_neg (by simpa [numOk] using h)
theorem putS_yes {n : Int} (h : numOk n = true) : (putS n).size ≤ 5 ∧ 0 < (putS n).size := by
  have h' : 0 ≤ n ∧ n ≤ 1073741824 := by simpa [numOk] using h
  unfold putS
  rw [if_pos h', strOfNums_size]
  refine ⟨grpN_len5 _ (by omega), ?_⟩
  rw [grpN]; split <;> simp
theorem putS_len (n : Int) : (putS n).data.toList.length ≤ 5 := by
  rw [← Lib.size_eq]
  cases h : numOk n
  · rw [putS_no h]; decide
  · exact (putS_yes h).1
theorem isE_size (s : ByteArray) : s.toList.isEmpty = decide (s.size = 0) := by
  rw [ByteArray.toList_eq, Lib.size_eq]
  cases s.data.toList <;> simp
theorem putS_ne (n : Int) : (putS n).toList.isEmpty = !numOk n := by
  rw [isE_size]
  cases h : numOk n
  · rw [putS_no h]; decide
  · have := (putS_yes h).2
    exact decide_eq_false (by omega)

theorem strs_new (w : World) (ss : List ByteArray) : Strs (w.alloc (.cells (ss.map Value.string).toArray 9)) w.heap.size ss := ⟨_, World.alloc_heap_new w _⟩

set_option maxRecDepth 100000 in
theorem wNumber_any (B b : Nat) (l : List UInt8) (e : Int) (n : Int) (w : World) (h : Wr B b l e w) (hlen : l.length + 5 ≤ 140737488355328) :
    Calls Try.prog 113 #[.pointer (some ⟨b, 0, none⟩), .int .i64 n] w fun r w' => r = .returned (.tuple #[]) ∧ Wr B b (wput (numOk n) (putS n).data.toList (l, e)).1 (wput (numOk n) (putS n).data.toList (l, e)).2 w' ∧ Wm B b w w' := by
  have HH := Lib.hid h; clear h
  have hp := putS_len n
  have HF : Hid (flatB [putS n] = (putS n).data.toList) := by show _ = _; simp [flatB]
  have hlen2 : l.length + (flatB [putS n]).length ≤ 140737488355328 := by rw [HF.out]; omega
  have hne := putS_ne n
  go_enter Try.func113, Try.ntmps113
  go_wp2_with fail
  refine (cPut_any n _).mono ?_
  rintro r w1 ⟨rfl, hg1⟩
  go_wp2_with fail
  refine (wPut_any B b l e (numOk n) _ 1 [putS n] _ ((HH.out.gr hg1).gr ((Gr.rfl' _).al _)) (strs_new _ _) (by have := HH.out.lt; have := hg1.size; omega) (by show 1 ≤ _; decide) (fun _ => hlen2)).mono ?_
  rintro r w2 ⟨rfl, h2, m2⟩
  rw [HF.out] at h2
  go_wp2
  go_end0
  exact ⟨rfl, h2, ((Wm.refl _ _ _).gr (hg1.al _)).trans m2⟩

set_option maxRecDepth 100000 in
theorem wText_any (B b : Nat) (l : List UInt8) (e : Int) (s : ByteArray) (w : World) (h : Wr B b l e w) (hlen : l.length + 65541 ≤ 140737488355328) :
    Calls Try.prog 114 #[.pointer (some ⟨b, 0, none⟩), .string s] w fun r w' => r = .returned (.tuple #[]) ∧ Wr B b (wput (decide (s.size ≤ 65536)) ((putS s.size).data.toList ++ s.data.toList) (l, e)).1 (wput (decide (s.size ≤ 65536)) ((putS s.size).data.toList ++ s.data.toList) (l, e)).2 w' ∧ Wm B b w w' := by
  have HH := Lib.hid h; clear h
  have hp := putS_len s.size
  have HF : Hid (flatB [putS s.size, s] = (putS s.size).data.toList ++ s.data.toList) := by show _ = _; simp [flatB]
  have hlen2 : Hid (decide (s.size ≤ 65536) = true → l.length + (flatB [putS s.size, s]).length ≤ 140737488355328) := by
    show _ → _ ≤ _
    intro hd
    have hd := of_decide_eq_true hd
    rw [HF.out, List.length_append, ← Lib.size_eq s]; omega
  clear hp
  have hd : Hid (decide ((s.size : Int) ≤ 65536) = decide (s.size ≤ 65536)) := by show _ = _; simp only [decide_eq_decide]; omega
  go_enter Try.func114, Try.ntmps114
  go_wp2_with fail
  refine (cPut_any s.size _).mono ?_
  rintro r w1 ⟨rfl, hg1⟩
  go_wp2_with fail
  rw [hd.out]
  refine (wPut_any B b l e (decide (s.size ≤ 65536)) _ 2 [putS s.size, s] _ ((HH.out.gr hg1).gr ((Gr.rfl' _).al _)) (strs_new _ _) (by have := HH.out.lt; have := hg1.size; omega) (by show 2 ≤ _; decide) hlen2.out).mono ?_
  rintro r w2 ⟨rfl, h2, m2⟩
  rw [HF.out] at h2
  go_wp2
  go_end0
  exact ⟨rfl, h2, ((Wm.refl _ _ _).gr (hg1.al _)).trans m2⟩

def wfail (f : Int) (s : List UInt8 × Int) : List UInt8 × Int := if s.2 ≠ 0 then s else (s.1, f)
set_option maxRecDepth 100000 in
theorem wFail_any (B b : Nat) (l : List UInt8) (e : Int) (f : Int) (w : World) (h : Wr B b l e w) :
    Calls Try.prog 142 #[.pointer (some ⟨b, 0, none⟩), .int .i64 f] w fun r w' => r = .returned (.tuple #[]) ∧ Wr B b (wfail f (l, e)).1 (wfail f (l, e)).2 w' ∧ Wm B b w w' := by
  have c2 : w.cell? ⟨b, 2, none⟩ = some (.int .i64 e) := by obtain ⟨p, v, h⟩ := h; exact h.cell2
  have f2 : w.frozen? ⟨b, 2, none⟩ = false := by obtain ⟨p, v, h⟩ := h; exact h.frz 2
  have HH := Lib.hid h; clear h
  by_cases he : e = 0
  · subst he
    go_enter Try.func142, Try.ntmps142
    go_wp2
    go_end0
    obtain ⟨p, v, h⟩ := HH.out
    exact ⟨rfl, ⟨p, v, h.hB, h.hp, heap_set_sameW h.hb _, own_setW h.own h.ne _ _, h.hn⟩, (Wm.refl _ _ _).setCell h.hB _ _⟩
  · have heb : (e == 0) = false := by simpa using he
    have hX : Hid (wfail f (l, e) = (l, e)) := by show _ = _; simp [wfail, he]
    go_enter Try.func142, Try.ntmps142
    go_wp2
    go_end0
    rw [hX.out]
    exact ⟨rfl, HH.out, Wm.refl _ _ _⟩

/-- what Done answers -/
def doneV (s : List UInt8 × Int) : List UInt8 × Int := if s.2 ≠ 0 then ([], s.2) else s
set_option maxRecDepth 100000 in
theorem wDone_any (B b : Nat) (l : List UInt8) (e : Int) (w : World) (h : Wr B b l e w) :
    Calls Try.prog 116 #[.pointer (some ⟨b, 0, none⟩)] w fun r w' => r = .returned (.tuple #[.string ⟨(doneV (l, e)).1.toArray⟩, .int .i64 (doneV (l, e)).2]) ∧ Wm B b w w' := by
  have c2 : w.cell? ⟨b, 2, none⟩ = some (.int .i64 e) := by obtain ⟨p, v, h⟩ := h; exact h.cell2
  have HH := Lib.hid h; clear h
  by_cases he : e = 0
  · subst he
    go_enter Try.func116, Try.ntmps116
    go_wp2_with fail
    refine (Str_any B b l 0 _ HH.out).mono ?_
    rintro r w2 ⟨rfl, m2⟩
    go_wp2
    go_ret2
    exact ⟨rfl, m2⟩
  · have heb : (e != 0) = true := by simpa using he
    have hX : Hid (doneV (l, e) = ([], e)) := by show _ = _; simp [doneV, he]
    have c2' : w.drew.cell? ⟨b, 2, none⟩ = some (.int .i64 e) := c2
    go_enter Try.func116, Try.ntmps116
    go_wp2
    go_region
    all_goals
      go_wp2
      go_ret2
      rw [hX.out]
      exact ⟨rfl, (Wm.refl _ _ _).drew⟩
end Go.Proofs.Ytfobnemocodomaa
