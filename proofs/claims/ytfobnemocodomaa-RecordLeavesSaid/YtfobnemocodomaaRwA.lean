/- The document's writer W: put, Number, Text, Flag, Digest, Fail, Done. -/
import Derived.Test.YtfobnemocodomaaWrD
set_option linter.unusedVariables false
set_option linter.unusedSimpArgs false
set_option maxHeartbeats 400000
namespace Go.Proofs.Ytfobnemocodomaa
open Go.RowKit Go.Shelf

/-- the document's writer in block c -/
def Rw (c : Nat) (S : ByteArray) (e : Int) (w : World) : Prop := w.heap[c]? = some (.cells #[.string S, .int .i64 e] 84 (0, 0))
structure Rm (c : Nat) (w w' : World) : Prop where
  os : w'.os = w.os
  tape : w'.tape = w.tape
  output : w'.output = w.output
  size : w.heap.size ≤ w'.heap.size
  keep : ∀ k, k < w.heap.size → k ≠ c → w'.heap[k]? = w.heap[k]?
theorem Rm.refl (c : Nat) (w : World) : Rm c w w := ⟨rfl, rfl, rfl, Nat.le_refl _, fun _ _ _ => rfl⟩
theorem Rm.trans {c : Nat} {X Y Z : World} (h : Rm c X Y) (k : Rm c Y Z) : Rm c X Z :=
  ⟨k.os.trans h.os, k.tape.trans h.tape, k.output.trans h.output, Nat.le_trans h.size k.size, fun i hi hc => (k.keep i (Nat.lt_of_lt_of_le hi h.size) hc).trans (h.keep i hi hc)⟩
theorem Rm.gr {c : Nat} {X Y Z : World} (h : Rm c X Y) (k : Gr Y Z) : Rm c X Z :=
  h.trans ⟨k.os, k.tape, k.output, k.size, fun i hi _ => k.block i hi⟩
theorem Rm.of {c : Nat} {X Y : World} (k : Gr X Y) : Rm c X Y := (Rm.refl c X).gr k
theorem Rm.setCell {c : Nat} {X Y : World} (h : Rm c X Y) (o : Nat) (u : Value) : Rm c X (Y.setCell ⟨c, o, none⟩ u) :=
  ⟨h.os, h.tape, h.output, by show X.heap.size ≤ (Y.heap.modify _ _).size; rw [Array.size_modify]; exact h.size, fun k hk hc => (Below.heap_setCell _ _ _ _ hc).trans (h.keep k hk hc)⟩
theorem Rm.below {c : Nat} {w0 X Y : World} (h : Rm c X Y) (g : Gr w0 X) (hc : w0.heap.size ≤ c) : Gr w0 Y :=
  ⟨h.os.trans g.os, h.tape.trans g.tape, h.output.trans g.output, Nat.le_trans g.size h.size, fun k hk => (h.keep k (by have := g.size; omega) (by omega)).trans (g.block k hk)⟩
theorem Rw.gr {c : Nat} {S : ByteArray} {e : Int} {w w' : World} (h : Rw c S e w) (g : Gr w w') : Rw c S e w' := (g.block c (Array.getElem?_eq_some_iff.1 h).1).trans h
theorem Rw.lt {c : Nat} {S : ByteArray} {e : Int} {w : World} (h : Rw c S e w) : c < w.heap.size := (Array.getElem?_eq_some_iff.1 h).1
theorem Rw.cell0 {c : Nat} {S : ByteArray} {e : Int} {w : World} (h : Rw c S e w) : w.cell? ⟨c, 0, none⟩ = some (.string S) := by
  have h' : w.heap[c]? = _ := h
  simp [World.cell?, h']
theorem Rw.cell1 {c : Nat} {S : ByteArray} {e : Int} {w : World} (h : Rw c S e w) : w.cell? ⟨c, 1, none⟩ = some (.int .i64 e) := by
  have h' : w.heap[c]? = _ := h
  simp [World.cell?, h']
theorem Rw.frz {c : Nat} {S : ByteArray} {e : Int} {w : World} (h : Rw c S e w) (o : Nat) : w.frozen? ⟨c, o, none⟩ = false := by
  have h' : w.heap[c]? = _ := h
  simp [World.frozen?, h']
/-- the writer of the other kind is left -/
theorem Wr.rm {B b c : Nat} {l : List UInt8} {e : Int} {w w' : World} {S : ByteArray} {f : Int} (h : Wr B b l e w) (hr : Rw c S f w) (m : Rm c w w') : Wr B b l e w' := by
  obtain ⟨p, v, h⟩ := h
  have hbc : b ≠ c := by
    rintro rfl
    have h1 := h.hb.symm.trans hr
    simp at h1
  refine ⟨p, v, h.hB, h.hp, (m.keep b (Array.getElem?_eq_some_iff.1 h.hb).1 hbc).trans h.hb, h.own.kept (row := some c) ⟨m.os, m.tape, m.output, m.size, fun k hk hne => m.keep k hk (fun e => hne (by rw [e]))⟩ (.inr (fun e => ?_)), h.hn⟩
  rcases h.own.2 with ⟨rfl, _⟩ | ⟨g, cap, cur, rfl, _, hgb, _⟩
  · simp [Value.ownBlock] at e
  · obtain rfl : g = c := by simpa [Value.ownBlock] using e
    have h1 := hgb.symm.trans hr
    simp at h1
theorem Rw.wm {B b c : Nat} {S : ByteArray} {e : Int} {w w' : World} (h : Rw c S e w) (m : Wm B b w w') (hbc : c ≠ b) : Rw c S e w' := m.typ c _ h hbc (by simp [isU8])

/-- what putting comes to, upon texts -/
def rput (is : Bool) (t : ByteArray) (s : ByteArray × Int) : ByteArray × Int := if s.2 ≠ 0 then s else if is then (s.1 ++ t, 0) else (s.1, 2)
def rfail (f : Int) (s : ByteArray × Int) : ByteArray × Int := if s.2 ≠ 0 then s else (s.1, f)
def rdone (s : ByteArray × Int) : ByteArray × Int := if s.2 ≠ 0 then (⟨#[]⟩, s.2) else s

set_option maxRecDepth 100000 in
theorem rP_any (c : Nat) (S : ByteArray) (e : Int) (is : Bool) (t : ByteArray) (w : World) (h : Rw c S e w) (hlen0 : is = true → S.size + t.size ≤ 9223372036854775807) :
    Calls Try.prog 185 #[.pointer (some ⟨c, 0, none⟩), .bool is, .string t] w fun r w' => r = .returned (.tuple #[]) ∧ Rw c (rput is t (S, e)).1 (rput is t (S, e)).2 w' ∧ Rm c w w' := by
  have c0 := h.cell0
  have c1 := h.cell1
  have f0 := h.frz 0
  have f1 := h.frz 1
  have HH := Lib.hid h; clear h
  by_cases he : e = 0
  · subst he
    cases is with
    | false =>
      go_enter Try.func185, Try.ntmps185
      go_wp2
      go_end0
      exact ⟨rfl, heap_set_sameW HH.out _, (Rm.refl _ _).setCell _ _⟩
    | true =>
      have hlen := hlen0 rfl
      go_enter Try.func185, Try.ntmps185
      go_wp2
      go_end0
      exact ⟨rfl, heap_set_sameW HH.out _, (Rm.refl _ _).setCell _ _⟩
  · have heb : (e != 0) = true := by simpa using he
    have hX : Hid (rput is t (S, e) = (S, e)) := by show _ = _; simp [rput, he]
    go_enter Try.func185, Try.ntmps185
    go_wp2
    refine bodyPost_ret (results_none rfl _ _ _) rfl ?_
    rw [hX.out]
    exact ⟨rfl, HH.out, Rm.refl _ _⟩

theorem numOk_and (n : Int) : (decide (0 ≤ n) && decide (n ≤ 1073741824)) = numOk n := by
  unfold numOk
  by_cases h : 0 ≤ n <;> by_cases k : n ≤ 1073741824 <;> simp [h, k]
set_option maxRecDepth 100000 in
theorem rNumber_any (c : Nat) (S : ByteArray) (e : Int) (n : Int) (w : World) (h : Rw c S e w) (hlen : S.size + 5 ≤ 9223372036854775807) :
    Calls Try.prog 131 #[.pointer (some ⟨c, 0, none⟩), .int .i64 n] w fun r w' => r = .returned (.tuple #[]) ∧ Rw c (rput (numOk n) (putS n) (S, e)).1 (rput (numOk n) (putS n) (S, e)).2 w' ∧ Rm c w w' := by
  have HH := Lib.hid h; clear h
  have hp : Hid (S.size + (putS n).size ≤ 9223372036854775807) := by show _ ≤ _; have := putS_len n; rw [← Lib.size_eq] at this; omega
  by_cases h0 : 0 ≤ n
  · have hb : decide (0 ≤ n) = true := decide_eq_true h0
    have hk : Hid (decide (n ≤ 1073741824) = numOk n) := by show _ = _; rw [← numOk_and, hb, Bool.true_and]
    clear h0
    go_enter Try.func131, Try.ntmps131
    go_wp2_with fail
    refine (rPut_all n _).mono ?_
    rintro r w1 ⟨rfl, hg1⟩
    go_wp2_with fail
    rw [hk.out]
    refine (rP_any c S e (numOk n) (putS n) _ (HH.out.gr hg1) (fun _ => hp.out)).mono ?_
    rintro r w2 ⟨rfl, h2, m2⟩
    go_wp2
    go_end0
    exact ⟨rfl, h2, (Rm.of hg1).trans m2⟩
  · have hb : decide (0 ≤ n) = false := decide_eq_false h0
    have hk : Hid (numOk n = false) := by show _ = _; rw [← numOk_and, hb, Bool.false_and]
    clear h0
    go_enter Try.func131, Try.ntmps131
    go_wp2_with fail
    refine (rPut_all n _).mono ?_
    rintro r w1 ⟨rfl, hg1⟩
    go_wp2_with fail
    refine (rP_any c S e false (putS n) _ (HH.out.gr hg1) (fun _ => hp.out)).mono ?_
    rintro r w2 ⟨rfl, h2, m2⟩
    go_wp2
    go_end0
    rw [hk.out]
    exact ⟨rfl, h2, (Rm.of hg1).trans m2⟩

theorem app_size (a b : ByteArray) : (a ++ b).size = a.size + b.size := ByteArray.size_append
set_option maxRecDepth 100000 in
theorem rText_any (c : Nat) (S : ByteArray) (e : Int) (s : ByteArray) (w : World) (h : Rw c S e w) (hlen : S.size + 65541 ≤ 9223372036854775807) (hs : s.size ≤ 9223372036854775807) :
    Calls Try.prog 134 #[.pointer (some ⟨c, 0, none⟩), .string s] w fun r w' => r = .returned (.tuple #[]) ∧ Rw c (rput (decide (s.size ≤ 65536)) (putS s.size ++ s) (S, e)).1 (rput (decide (s.size ≤ 65536)) (putS s.size ++ s) (S, e)).2 w' ∧ Rm c w w' := by
  have HH := Lib.hid h; clear h
  have hp : (putS s.size).size ≤ 5 := by have := putS_len s.size; rw [← Lib.size_eq] at this; exact this
  have hs1 : (putS s.size).size + s.size ≤ 9223372036854775807 := by
    by_cases hb : s.size ≤ 1073741824
    · omega
    · have h0 : (putS s.size).size = 0 := by rw [putS_no (by simp [numOk]; omega)]; rfl
      omega
  have hs2 : Hid (decide (s.size ≤ 65536) = true → S.size + (putS s.size ++ s).size ≤ 9223372036854775807) := by
    show _ → _ ≤ _
    intro hd
    have hd := of_decide_eq_true hd
    rw [app_size]; omega
  have hd : Hid (decide ((s.size : Int) ≤ 65536) = decide (s.size ≤ 65536)) := by show _ = _; simp only [decide_eq_decide]; omega
  clear hp
  go_enter Try.func134, Try.ntmps134
  go_wp2_with fail
  refine (rPut_all s.size _).mono ?_
  rintro r w1 ⟨rfl, hg1⟩
  go_wp2_with fail
  rw [hd.out]
  refine (rP_any c S e _ (putS s.size ++ s) _ (HH.out.gr hg1) hs2.out).mono ?_
  rintro r w2 ⟨rfl, h2, m2⟩
  go_wp2
  go_end0
  exact ⟨rfl, h2, (Rm.of hg1).trans m2⟩

set_option maxRecDepth 100000 in
theorem rFail_any (c : Nat) (S : ByteArray) (e : Int) (f : Int) (w : World) (h : Rw c S e w) :
    Calls Try.prog 130 #[.pointer (some ⟨c, 0, none⟩), .int .i64 f] w fun r w' => r = .returned (.tuple #[]) ∧ Rw c (rfail f (S, e)).1 (rfail f (S, e)).2 w' ∧ Rm c w w' := by
  have c1 := h.cell1
  have f1 := h.frz 1
  have HH := Lib.hid h; clear h
  by_cases he : e = 0
  · subst he
    go_enter Try.func130, Try.ntmps130
    go_wp2
    go_end0
    exact ⟨rfl, heap_set_sameW HH.out _, (Rm.refl _ _).setCell _ _⟩
  · have heb : (e == 0) = false := by simpa using he
    have hX : Hid (rfail f (S, e) = (S, e)) := by show _ = _; simp [rfail, he]
    go_enter Try.func130, Try.ntmps130
    go_wp2
    go_end0
    rw [hX.out]
    exact ⟨rfl, HH.out, Rm.refl _ _⟩

set_option maxRecDepth 100000 in
theorem rDone_any (c : Nat) (S : ByteArray) (e : Int) (w : World) (h : Rw c S e w) :
    Calls Try.prog 75 #[.pointer (some ⟨c, 0, none⟩)] w fun r w' => r = .returned (.tuple #[.string (rdone (S, e)).1, .int .i64 (rdone (S, e)).2]) ∧ Gr w w' := by
  have c0 := h.cell0
  have c1 := h.cell1
  have c1' : w.drew.cell? ⟨c, 1, none⟩ = some (.int .i64 e) := c1
  clear h
  by_cases he : e = 0
  · subst he
    go_enter Try.func75, Try.ntmps75
    go_wp2
    go_ret2
    exact ⟨rfl, Gr.rfl' _⟩
  · have heb : (e != 0) = true := by simpa using he
    have hX : Hid (rdone (S, e) = (⟨#[]⟩, e)) := by show _ = _; simp [rdone, he]
    go_enter Try.func75, Try.ntmps75
    go_wp2
    go_region
    all_goals
      go_wp2
      go_ret2
      rw [hX.out]
      exact ⟨rfl, (Gr.rfl' _).dr⟩

theorem bapp (l : List UInt8) (t : ByteArray) : ((⟨l.toArray⟩ : ByteArray) ++ t) = ⟨(l ++ t.data.toList).toArray⟩ := by
  apply ByteArray.ext
  simp [ByteArray.data_append]
theorem rput_eq (is : Bool) (t : ByteArray) (s : List UInt8 × Int) : rput is t (⟨s.1.toArray⟩, s.2) = (⟨(wput is t.data.toList s).1.toArray⟩, (wput is t.data.toList s).2) := by
  unfold rput wput
  simp only []
  split
  · rfl
  split
  · rw [bapp]
  · rfl
theorem rfail_eq (f : Int) (s : List UInt8 × Int) : rfail f (⟨s.1.toArray⟩, s.2) = (⟨(wfail f s).1.toArray⟩, (wfail f s).2) := by
  unfold rfail wfail
  simp only []
  split <;> rfl
theorem rdone_eq (s : List UInt8 × Int) : rdone (⟨s.1.toArray⟩, s.2) = (⟨(doneV s).1.toArray⟩, (doneV s).2) := by
  unfold rdone doneV
  simp only []
  split <;> rfl
theorem sizeL (l : List UInt8) : (⟨l.toArray⟩ : ByteArray).size = l.length := by simp [ByteArray.size]
theorem Rw.new (w : World) : Rw w.heap.size ⟨#[]⟩ 0 (w.alloc (.cells #[.string ⟨#[]⟩, .int .i64 0] 84)) := World.alloc_heap_new _ _
end Go.Proofs.Ytfobnemocodomaa
