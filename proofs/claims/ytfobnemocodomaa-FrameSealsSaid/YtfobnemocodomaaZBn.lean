/- A coder.Reader: Err, Left, Done, Fail, New; number, take, Number. -/
import Derived.Test.YtfobnemocodomaaZBl
set_option linter.unusedVariables false
set_option linter.unusedSimpArgs false
set_option maxHeartbeats 400000
namespace Go.Proofs.Ytfobnemocodomaa
open Go.RowKit Go.Shelf Go.Great

/-- a reader (of type t) in block c: what is left, and what is wrong -/
def Sr (t : TypeId) (c : Nat) (S : ByteArray) (e : Int) (w : World) : Prop := w.heap[c]? = some (.cells #[.string S, .int .i64 e] t (0, 0))
theorem Sr.gr {t : TypeId} {c : Nat} {S : ByteArray} {e : Int} {w w' : World} (h : Sr t c S e w) (g : Gr w w') : Sr t c S e w' := (g.block c (Array.getElem?_eq_some_iff.1 h).1).trans h
theorem Sr.lt {t : TypeId} {c : Nat} {S : ByteArray} {e : Int} {w : World} (h : Sr t c S e w) : c < w.heap.size := (Array.getElem?_eq_some_iff.1 h).1
theorem Sr.rm {t : TypeId} {c d : Nat} {S : ByteArray} {e : Int} {w w' : World} (h : Sr t c S e w) (m : Rm d w w') (hcd : c ≠ d) : Sr t c S e w' := (m.keep c h.lt hcd).trans h
theorem Sr.cell0 {t : TypeId} {c : Nat} {S : ByteArray} {e : Int} {w : World} (h : Sr t c S e w) : w.cell? ⟨c, 0, none⟩ = some (.string S) := by
  have h' : w.heap[c]? = _ := h
  simp [World.cell?, h']
theorem Sr.cell1 {t : TypeId} {c : Nat} {S : ByteArray} {e : Int} {w : World} (h : Sr t c S e w) : w.cell? ⟨c, 1, none⟩ = some (.int .i64 e) := by
  have h' : w.heap[c]? = _ := h
  simp [World.cell?, h']
theorem Sr.frz {t : TypeId} {c : Nat} {S : ByteArray} {e : Int} {w : World} (h : Sr t c S e w) (o : Nat) : w.frozen? ⟨c, o, none⟩ = false := by
  have h' : w.heap[c]? = _ := h
  simp [World.frozen?, h']
theorem Sr.set0 {t : TypeId} {c : Nat} {S T : ByteArray} {e : Int} {w : World} (h : Sr t c S e w) : Sr t c T e (w.setCell ⟨c, 0, none⟩ (.string T)) := heap_set_sameW h _
theorem Sr.set1 {t : TypeId} {c : Nat} {S : ByteArray} {e f : Int} {w : World} (h : Sr t c S e w) : Sr t c S f (w.setCell ⟨c, 1, none⟩ (.int .i64 f)) := heap_set_sameW h _

set_option maxRecDepth 100000 in
theorem New_any (s : ByteArray) (w : World) : Calls Try.prog 117 #[.string s] w fun r w' => r = .returned (.pointer (some ⟨w.heap.size, 0, none⟩)) ∧ w' = w.alloc (.cells #[.string s, .int .i64 0] 184) := by
  go_enter Try.func117, Try.ntmps117
  go_wp2
  go_ret
  exact ⟨rfl, rfl⟩
set_option maxRecDepth 100000 in
theorem Err_any (b : Nat) (S : ByteArray) (e : Int) (w : World) (h : Sr 184 b S e w) : Calls Try.prog 121 #[.pointer (some ⟨b, 0, none⟩)] w fun r w' => r = .returned (.int .i64 e) ∧ w' = w := by
  have c1 := h.cell1
  clear h
  go_enter Try.func121, Try.ntmps121
  go_wp2
  go_ret
  exact ⟨rfl, rfl⟩
/-- what the reader's Done answers -/
def rdDone (S : ByteArray) (e : Int) : Int := if e ≠ 0 then e else if S.size = 0 then 0 else 6
set_option maxRecDepth 100000 in
theorem dDone_any (b : Nat) (S : ByteArray) (e : Int) (w : World) (h : Sr 184 b S e w) : Calls Try.prog 123 #[.pointer (some ⟨b, 0, none⟩)] w fun r w' => r = .returned (.int .i64 (rdDone S e)) ∧ w' = w := by
  have c0 := h.cell0
  have HH := Lib.hid h; clear h
  by_cases he : e = 0
  · subst he
    by_cases hs : S.size = 0
    · have hX : Hid (rdDone S 0 = 0) := by show _ = _; simp [rdDone, hs]
      have hb : S.toList.isEmpty = true := by rw [isE_size]; exact decide_eq_true hs
      clear hs
      go_enter Try.func123, Try.ntmps123
      go_wp2_with fail
      refine (Err_any b S 0 _ HH.out).mono ?_
      rintro r w1 ⟨rfl, rfl⟩
      go_wp2
      go_ret
      exact ⟨ret_int hX.out.symm, rfl⟩
    · have hX : Hid (rdDone S 0 = 6) := by show _ = _; unfold rdDone; rw [if_neg (by simp), if_neg hs]
      have hb : S.toList.isEmpty = false := by rw [isE_size]; exact decide_eq_false hs
      clear hs
      go_enter Try.func123, Try.ntmps123
      go_wp2_with fail
      refine (Err_any b S 0 _ HH.out).mono ?_
      rintro r w1 ⟨rfl, rfl⟩
      go_wp2
      go_ret
      exact ⟨ret_int hX.out.symm, rfl⟩
  · have hX : Hid (rdDone S e = e) := by show _ = _; simp [rdDone, he]
    have heb : (e != 0) = true := by simpa using he
    go_enter Try.func123, Try.ntmps123
    go_wp2_with fail
    refine (Err_any b S e _ HH.out).mono ?_
    rintro r w1 ⟨rfl, rfl⟩
    go_wp2
    go_ret
    exact ⟨ret_int hX.out.symm, rfl⟩
def sfail (f : Int) (e : Int) : Int := if e ≠ 0 then e else f
set_option maxRecDepth 100000 in
theorem dFail_any (b : Nat) (S : ByteArray) (e : Int) (f : Int) (w : World) (h : Sr 184 b S e w) :
    Calls Try.prog 192 #[.pointer (some ⟨b, 0, none⟩), .int .i64 f] w fun r w' => r = .returned (.tuple #[]) ∧ Sr 184 b S (sfail f e) w' ∧ Rm b w w' := by
  have c1 := h.cell1
  have f1 := h.frz 1
  have HH := Lib.hid h; clear h
  by_cases he : e = 0
  · subst he
    go_enter Try.func192, Try.ntmps192
    go_wp2
    go_end0
    exact ⟨rfl, HH.out.set1, (Rm.refl _ _).setCell _ _⟩
  · have heb : (e == 0) = false := by simpa using he
    have hX : Hid (sfail f e = e) := by show _ = _; simp [sfail, he]
    go_enter Try.func192, Try.ntmps192
    go_wp2
    go_end0
    rw [hX.out]
    exact ⟨rfl, HH.out, Rm.refl _ _⟩

theorem Take_abc (S : ByteArray) (hS : S.size ≤ 9223372036854775807) {a b c : Int} (hv : takeV S = (a, b, c)) (w : World) : Calls Try.prog 203 #[.string S] w fun r w' => r = .returned (.tuple #[.int .i64 a, .int .i64 b, .int .i64 c]) ∧ w' = w := by
  refine (Take_any S hS w).mono ?_
  rintro r w' ⟨rfl, rfl⟩
  exact ⟨takeE_of hv, rfl⟩
def numE (m a c : Int) : Int := if c = 0 ∧ m < a then 2 else c
set_option maxRecDepth 100000 in
theorem number1_any (S : ByteArray) (hS : S.size ≤ 9223372036854775807) {a b c : Int} (hv : takeV S = (a, b, c)) (m : Int) (g : Nat) (w : World) (hc : w.cell? ⟨g, 0, none⟩ = some (.int .i64 m)) :
    Calls Try.prog 202 #[.string S, .pointer (some ⟨g, 0, none⟩)] w fun r w' => r = .returned (.tuple #[.int .i64 a, .int .i64 b, .int .i64 (numE m a c)]) ∧ w' = w := by
  have HV := Lib.hid hv; clear hv
  by_cases h0 : c = 0
  · subst h0
    by_cases h1 : m < a
    · have hX : Hid (numE m a 0 = 2) := by show _ = _; simp [numE, h1]
      go_enter Try.func202, Try.ntmps202
      go_wp2_with fail
      refine (Take_abc S hS HV.out _).mono ?_
      rintro r w1 ⟨rfl, rfl⟩
      go_wp2
      refine bodyPost_ret (v := .tuple #[.int .i64 a, .int .i64 b, .int .i64 2]) (by simp [results, Try.results202, go_sem]) rfl ?_
      exact ⟨by rw [hX.out], rfl⟩
    · have hX : Hid (numE m a 0 = 0) := by show _ = _; simp [numE, h1]
      have h1b : decide (m < a) = false := decide_eq_false h1
      clear h1
      go_enter Try.func202, Try.ntmps202
      go_wp2_with fail
      refine (Take_abc S hS HV.out _).mono ?_
      rintro r w1 ⟨rfl, rfl⟩
      go_wp2
      refine bodyPost_ret (v := .tuple #[.int .i64 a, .int .i64 b, .int .i64 0]) (by simp [results, Try.results202, go_sem]) rfl ?_
      exact ⟨by rw [hX.out], rfl⟩
  · have hX : Hid (numE m a c = c) := by show _ = _; simp [numE, h0]
    have hcb : (c == 0) = false := by simpa using h0
    go_enter Try.func202, Try.ntmps202
    go_wp2_with fail
    refine (Take_abc S hS HV.out _).mono ?_
    rintro r w1 ⟨rfl, rfl⟩
    go_wp2
    refine bodyPost_ret (v := .tuple #[.int .i64 a, .int .i64 b, .int .i64 c]) (by simp [results, Try.results202, go_sem]) rfl ?_
    exact ⟨by rw [hX.out], rfl⟩

theorem takeV_ok {S : ByteArray} {a b : Int} (hv : takeV S = (a, b, 0)) : 0 ≤ a ∧ a ≤ 1073741824 ∧ 1 ≤ b ∧ b ≤ 5 ∧ b ≤ S.size := by
  rcases endOf_spec S with ⟨h, _⟩ | ⟨e, h, he, he5, _⟩
  · unfold takeV at hv
    rw [h, if_pos (by omega)] at hv
    split at hv <;> simp at hv
  · unfold takeV at hv
    rw [h, if_neg (by omega)] at hv
    split at hv
    · simp at hv
    split at hv
    · simp at hv
    · rename_i h1
      obtain ⟨hb0, _⟩ := numFrom_bd5 S (e + 1) 0 (by omega)
      simp only [Prod.mk.injEq, Int.toNat_natCast] at hv h1
      omega

def cutB (S : ByteArray) (k : Nat) : ByteArray := S.extract k S.size
/-- what taking a number comes to -/
def numM (m : Int) (S : ByteArray) (e : Int) : Int × ByteArray × Int :=
  if e ≠ 0 then (0, S, e)
  else if numE m (takeV S).1 (takeV S).2.2 ≠ 0 then (0, S, numE m (takeV S).1 (takeV S).2.2)
  else ((takeV S).1, cutB S (takeV S).2.1.toNat, 0)

set_option maxRecDepth 100000 in
theorem takeI_any (b : Nat) (S : ByteArray) (e m : Int) (g : Nat) (w : World) (h : Sr 184 b S e w) (hS : S.size ≤ 9223372036854775807) (hc : w.cell? ⟨g, 0, none⟩ = some (.int .i64 m)) :
    Calls Try.prog 177 #[.pointer (some ⟨b, 0, none⟩), .func (.func 202) #[] #[.pointer (some ⟨g, 0, none⟩)]] w fun r w' =>
      r = .returned (.int .i64 (numM m S e).1) ∧ Sr 184 b (numM m S e).2.1 (numM m S e).2.2 w' ∧ Rm b w w' := by
  have c0 := h.cell0
  have c1 := h.cell1
  have f0 := h.frz 0
  have f1 := h.frz 1
  have HH := Lib.hid h; clear h
  by_cases he : e = 0
  · subst he
    obtain ⟨a, k, c, hv⟩ : ∃ a k c, takeV S = (a, k, c) := ⟨_, _, _, rfl⟩
    by_cases hn : numE m a c = 0
    · have hc0 : c = 0 := by
        unfold numE at hn
        split at hn <;> omega
      subst hc0
      obtain ⟨ha0, ha1, hk0, hk5, hks⟩ := takeV_ok hv
      obtain ⟨j, rfl⟩ : ∃ j : Nat, k = j := ⟨k.toNat, by omega⟩
      have hX : Hid (numM m S 0 = (a, cutB S j, 0)) := by show _ = _; unfold numM; rw [hv, if_neg (by simp), if_neg (by simp [hn])]; simp
      have HV := Lib.hid hv; clear hv
      go_enter Try.func177, Try.ntmps177
      go_wp2_with fail
      refine (Err_any b S 0 _ HH.out).mono ?_
      rintro r w1 ⟨rfl, rfl⟩
      go_wp2_with fail
      refine (number1_any S hS HV.out m g _ hc).mono ?_
      rintro r w1 ⟨rfl, rfl⟩
      rw [hn]
      go_wp2
      go_ret
      rw [hX.out]
      exact ⟨rfl, HH.out.set0, (Rm.refl _ _).setCell _ _⟩
    · have hX : Hid (numM m S 0 = (0, S, numE m a c)) := by show _ = _; unfold numM; rw [hv, if_neg (by simp), if_pos hn]
      have hnb : (numE m a c != 0) = true := by simpa using hn
      have HV := Lib.hid hv; clear hv
      go_enter Try.func177, Try.ntmps177
      go_wp2_with fail
      refine (Err_any b S 0 _ HH.out).mono ?_
      rintro r w1 ⟨rfl, rfl⟩
      go_wp2_with fail
      refine (number1_any S hS HV.out m g _ hc).mono ?_
      rintro r w1 ⟨rfl, rfl⟩
      go_wp2
      go_ret
      rw [hX.out]
      exact ⟨rfl, HH.out.set1, (Rm.refl _ _).setCell _ _⟩
  · have hX : Hid (numM m S e = (0, S, e)) := by show _ = _; unfold numM; rw [if_pos he]
    have heb : (e != 0) = true := by simpa using he
    go_enter Try.func177, Try.ntmps177
    go_wp2_with fail
    refine (Err_any b S e _ HH.out).mono ?_
    rintro r w1 ⟨rfl, rfl⟩
    go_wp2
    go_ret
    rw [hX.out]
    exact ⟨rfl, HH.out, Rm.refl _ _⟩

theorem one_of_alloc (w : World) (v : Value) (t : TypeId) : (w.alloc (.cells #[v] t)).cell? ⟨w.heap.size, 0, none⟩ = some v := by
  have hb := World.alloc_heap_new w (.cells #[v] t)
  simp only [World.cell?, hb]
  rfl
set_option maxRecDepth 100000 in
theorem dNumber_any (b : Nat) (S : ByteArray) (e m : Int) (w : World) (h : Sr 184 b S e w) (hS : S.size ≤ 9223372036854775807) :
    Calls Try.prog 118 #[.pointer (some ⟨b, 0, none⟩), .int .i64 m] w fun r w' =>
      r = .returned (.int .i64 (numM m S e).1) ∧ Sr 184 b (numM m S e).2.1 (numM m S e).2.2 w' ∧ Rm b w w' := by
  have HH := Lib.hid h; clear h
  have hg := Lib.hid ((Gr.rfl' w).al (.cells #[.int .i64 m] 3))
  have hc := (one_of_alloc w (.int .i64 m) 3)
  go_enter Try.func118, Try.ntmps118
  go_wp2_with fail
  refine (number_any m _).mono ?_
  rintro r w1 ⟨rfl, rfl⟩
  go_wp2_with fail
  refine (takeI_any b S e m _ _ (HH.out.gr hg.out) hS hc).mono ?_
  rintro r w2 ⟨rfl, h2, m2⟩
  go_wp2
  go_ret
  exact ⟨rfl, h2, (Rm.of hg.out).trans m2⟩
end Go.Proofs.Ytfobnemocodomaa
