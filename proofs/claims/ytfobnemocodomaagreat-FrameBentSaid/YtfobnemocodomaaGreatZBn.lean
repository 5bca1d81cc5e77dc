/- Joined texts: RdA RdB RdC RsA RsB BackP CanP. -/
import Derived.Test.YtfobnemocodomaaGreatZBl
import Derived.Lib.BufferWrite
set_option linter.unusedVariables false
set_option linter.unusedSimpArgs false
set_option maxHeartbeats 400000
namespace Go.Proofs.YtfobnemocodomaaGreat
open Go.RowKit Go.Shelf Go.Great

/-- a reader (of type t) in block c: what is left, and what is wrong -/
def Sr (t : TypeId) (c : Nat) (S : ByteArray) (e : Int) (w : World) : Prop := w.heap[c]? = some (.cells #[.string S, .int .i64 e] t (0, 0))
theorem Sr.gr {t : TypeId} {c : Nat} {S : ByteArray} {e : Int} {w w' : World} (h : Sr t c S e w) (g : Gr w w') : Sr t c S e w' := (g.block c (Array.getElem?_eq_some_iff.1 h).1).trans h
theorem Sr.lt {t : TypeId} {c : Nat} {S : ByteArray} {e : Int} {w : World} (h : Sr t c S e w) : c < w.heap.size := (Array.getElem?_eq_some_iff.1 h).1
theorem Sr.rm {t : TypeId} {c d : Nat} {S : ByteArray} {e : Int} {w w' : World} (h : Sr t c S e w) (m : Rm d w w') (hcd : c ≠ d) : Sr t c S e w' := (m.keep c h.lt hcd).trans h
theorem Sr.cell0 {t : TypeId} {c : Nat} {S : ByteArray} {e : Int} {w : World} (h : Sr t c S e w) : w.cell? ⟨c, 0, none⟩ = some (.string S) := by
  have h' : w.heap[c]? = _ := h
  simp [World.cell?, h']
theorem Sr.cell1 {t : TypeId} {c : Nat} {S : ByteArray} {e : Int} {w : World} (h : Sr t c S e w) : w.cell? ⟨c, 1, none⟩ = some (.int .i64 e) := by
  have h' : w.heap[c]? = _ := h
  simp [World.cell?, h']
theorem Sr.frz {t : TypeId} {c : Nat} {S : ByteArray} {e : Int} {w : World} (h : Sr t c S e w) (o : Nat) : w.frozen? ⟨c, o, none⟩ = false := by
  have h' : w.heap[c]? = _ := h
  simp [World.frozen?, h']
theorem Sr.set0 {t : TypeId} {c : Nat} {S T : ByteArray} {e : Int} {w : World} (h : Sr t c S e w) : Sr t c T e (w.setCell ⟨c, 0, none⟩ (.string T)) := heap_set_sameW h _
theorem Sr.set1 {t : TypeId} {c : Nat} {S : ByteArray} {e f : Int} {w : World} (h : Sr t c S e w) : Sr t c S f (w.setCell ⟨c, 1, none⟩ (.int .i64 f)) := heap_set_sameW h _

set_option maxRecDepth 100000 in
theorem New_any (s : ByteArray) (w : World) : Calls Tryz.prog 27 #[.string s] w fun r w' => r = .returned (.pointer (some ⟨w.heap.size, 0, none⟩)) ∧ w' = w.alloc (.cells #[.string s, .int .i64 0] 109) := by
  go_enter Tryz.func27, Tryz.ntmps27
  go_wp2
  go_ret
  exact ⟨rfl, rfl⟩
set_option maxRecDepth 100000 in
theorem Err_any (b : Nat) (S : ByteArray) (e : Int) (w : World) (h : Sr 109 b S e w) : Calls Tryz.prog 32 #[.pointer (some ⟨b, 0, none⟩)] w fun r w' => r = .returned (.int .i64 e) ∧ w' = w := by
  have c1 := h.cell1
  clear h
  go_enter Tryz.func32, Tryz.ntmps32
  go_wp2
  go_ret
  exact ⟨rfl, rfl⟩
/-- what the reader's Done answers -/
def rdDone (S : ByteArray) (e : Int) : Int := if e ≠ 0 then e else if S.size = 0 then 0 else 6
set_option maxRecDepth 100000 in
theorem dDone_any (b : Nat) (S : ByteArray) (e : Int) (w : World) (h : Sr 109 b S e w) : Calls Tryz.prog 34 #[.pointer (some ⟨b, 0, none⟩)] w fun r w' => r = .returned (.int .i64 (rdDone S e)) ∧ w' = w := by
  have c0 := h.cell0
  have HH := Lib.hid h; clear h
  by_cases he : e = 0
  · subst he
    by_cases hs : S.size = 0
    · have hX : Hid (rdDone S 0 = 0) := by show _ = _; simp [rdDone, hs]
      have hb : S.toList.isEmpty = true := by rw [isE_size]; exact decide_eq_true hs
      clear hs
      go_enter Tryz.func34, Tryz.ntmps34
      go_wp2_with fail
      refine (Err_any b S 0 _ HH.out).mono ?_
      rintro r w1 ⟨rfl, rfl⟩
      go_wp2
      go_ret
      exact ⟨ret_int hX.out.symm, rfl⟩
    · have hX : Hid (rdDone S 0 = 6) := by show _ = _; unfold rdDone; rw [if_neg (by simp), if_neg hs]
      have hb : S.toList.isEmpty = false := by rw [isE_size]; exact decide_eq_false hs
      clear hs
      go_enter Tryz.func34, Tryz.ntmps34
      go_wp2_with fail
      refine (Err_any b S 0 _ HH.out).mono ?_
      rintro r w1 ⟨rfl, rfl⟩
      go_wp2
      go_ret
      exact ⟨ret_int hX.out.symm, rfl⟩
  · have hX : Hid (rdDone S e = e) := by show _ = _; simp [rdDone, he]
    have heb : (e != 0) = true := by simpa using he
    go_enter Tryz.func34, Tryz.ntmps34
    go_wp2_with fail
    refine (Err_any b S e _ HH.out).mono ?_
    rintro r w1 ⟨rfl, rfl⟩
    go_wp2
    go_ret
    exact ⟨ret_int hX.out.symm, rfl⟩
def sfail (f : Int) (e : Int) : Int := if e ≠ 0 then e else f
set_option maxRecDepth 100000 in
theorem dFail_any (b : Nat) (S : ByteArray) (e : Int) (f : Int) (w : World) (h : Sr 109 b S e w) :
    Calls Tryz.prog 44 #[.pointer (some ⟨b, 0, none⟩), .int .i64 f] w fun r w' => r = .returned (.tuple #[]) ∧ Sr 109 b S (sfail f e) w' ∧ Rm b w w' := by
  have c1 := h.cell1
  have f1 := h.frz 1
  have HH := Lib.hid h; clear h
  by_cases he : e = 0
  · subst he
    go_enter Tryz.func44, Tryz.ntmps44
    go_wp2
    go_end0
    exact ⟨rfl, HH.out.set1, (Rm.refl _ _).setCell _ _⟩
  · have heb : (e == 0) = false := by simpa using he
    have hX : Hid (sfail f e = e) := by show _ = _; simp [sfail, he]
    go_enter Tryz.func44, Tryz.ntmps44
    go_wp2
    go_end0
    rw [hX.out]
    exact ⟨rfl, HH.out, Rm.refl _ _⟩

theorem Take_abc (S : ByteArray) (hS : S.size ≤ 9223372036854775807) {a b c : Int} (hv : takeV S = (a, b, c)) (w : World) : Calls Tryz.prog 107 #[.string S] w fun r w' => r = .returned (.tuple #[.int .i64 a, .int .i64 b, .int .i64 c]) ∧ w' = w := by
  refine (Take_any S hS w).mono ?_
  rintro r w' ⟨rfl, rfl⟩
  exact ⟨takeE_of hv, rfl⟩
def numE (m a c : Int) : Int := if c = 0 ∧ m < a then 2 else c
set_option maxRecDepth 100000 in
theorem number1_any (S : ByteArray) (hS : S.size ≤ 9223372036854775807) {a b c : Int} (hv : takeV S = (a, b, c)) (m : Int) (g : Nat) (w : World) (hc : w.cell? ⟨g, 0, none⟩ = some (.int .i64 m)) :
    Calls Tryz.prog 106 #[.string S, .pointer (some ⟨g, 0, none⟩)] w fun r w' => r = .returned (.tuple #[.int .i64 a, .int .i64 b, .int .i64 (numE m a c)]) ∧ w' = w := by
  have HV := Lib.hid hv; clear hv
  by_cases h0 : c = 0
  · subst h0
    by_cases h1 : m < a
    · have hX : Hid (numE m a 0 = 2) := by show _ = _; simp [numE, h1]
      go_enter Tryz.func106, Tryz.ntmps106
      go_wp2_with fail
      refine (Take_abc S hS HV.out _).mono ?_
      rintro r w1 ⟨rfl, rfl⟩
      go_wp2
      refine bodyPost_ret (v := .tuple #[.int .i64 a, .int .i64 b, .int .i64 2]) (by simp [results, Tryz.results106, go_sem]) rfl ?_
      exact ⟨by rw [hX.out], rfl⟩
    · have hX : Hid (numE m a 0 = 0) := by show _ = _; simp [numE, h1]
      have h1b : decide (m < a) = false := decide_eq_false h1
      clear h1
      go_enter Tryz.func106, Tryz.ntmps106
      go_wp2_with fail
      refine (Take_abc S hS HV.out _).mono ?_
      rintro r w1 ⟨rfl, rfl⟩
      go_wp2
      refine bodyPost_ret (v := .tuple #[.int .i64 a, .int .i64 b, .int .i64 0]) (by simp [results, Tryz.results106, go_sem]) rfl ?_
      exact ⟨by rw [hX.out], rfl⟩
  · have hX : Hid (numE m a c = c) := by show _ = _; simp [numE, h0]
    have hcb : (c == 0) = false := by simpa using h0
    go_enter Tryz.func106, Tryz.ntmps106
    go_wp2_with fail
    refine (Take_abc S hS HV.out _).mono ?_
    rintro r w1 ⟨rfl, rfl⟩
    go_wp2
    refine bodyPost_ret (v := .tuple #[.int .i64 a, .int .i64 b, .int .i64 c]) (by simp [results, Tryz.results106, go_sem]) rfl ?_
    exact ⟨by rw [hX.out], rfl⟩

theorem takeV_ok {S : ByteArray} {a b : Int} (hv : takeV S = (a, b, 0)) : 0 ≤ a ∧ a ≤ 1073741824 ∧ 1 ≤ b ∧ b ≤ 5 ∧ b ≤ S.size := by
  rcases endOf_spec S with ⟨h, _⟩ | ⟨e, h, he, he5, _⟩
  · unfold takeV at hv
    rw [h, if_pos (by omega)] at hv
    split at hv <;> simp at hv
  · unfold takeV at hv
    rw [h, if_neg (by omega)] at hv
    split at hv
    · simp at hv
    split at hv
    · simp at hv
    · rename_i h1
      obtain ⟨hb0, _⟩ := numFrom_bd5 S (e + 1) 0 (by omega)
      simp only [Prod.mk.injEq, Int.toNat_natCast] at hv h1
      omega

def cutB (S : ByteArray) (k : Nat) : ByteArray := S.extract k S.size
/-- what taking a number comes to -/
def numM (m : Int) (S : ByteArray) (e : Int) : Int × ByteArray × Int :=
  if e ≠ 0 then (0, S, e)
  else if numE m (takeV S).1 (takeV S).2.2 ≠ 0 then (0, S, numE m (takeV S).1 (takeV S).2.2)
  else ((takeV S).1, cutB S (takeV S).2.1.toNat, 0)

set_option maxRecDepth 100000 in
theorem takeI_any (b : Nat) (S : ByteArray) (e m : Int) (g : Nat) (w : World) (h : Sr 109 b S e w) (hS : S.size ≤ 9223372036854775807) (hc : w.cell? ⟨g, 0, none⟩ = some (.int .i64 m)) :
    Calls Tryz.prog 68 #[.pointer (some ⟨b, 0, none⟩), .func (.func 106) #[] #[.pointer (some ⟨g, 0, none⟩)]] w fun r w' =>
      r = .returned (.int .i64 (numM m S e).1) ∧ Sr 109 b (numM m S e).2.1 (numM m S e).2.2 w' ∧ Rm b w w' := by
  have c0 := h.cell0
  have c1 := h.cell1
  have f0 := h.frz 0
  have f1 := h.frz 1
  have HH := Lib.hid h; clear h
  by_cases he : e = 0
  · subst he
    obtain ⟨a, k, c, hv⟩ : ∃ a k c, takeV S = (a, k, c) := ⟨_, _, _, rfl⟩
    by_cases hn : numE m a c = 0
    · have hc0 : c = 0 := by
        unfold numE at hn
        split at hn <;> omega
      subst hc0
      obtain ⟨ha0, ha1, hk0, hk5, hks⟩ := takeV_ok hv
      obtain ⟨j, rfl⟩ : ∃ j : Nat, k = j := ⟨k.toNat, by omega⟩
      have hX : Hid (numM m S 0 = (a, cutB S j, 0)) := by show _ = _; unfold numM; rw [hv, if_neg (by simp), if_neg (by simp [hn])]; simp
      have HV := Lib.hid hv; clear hv
      go_enter Tryz.func68, Tryz.ntmps68
      go_wp2_with fail
      refine (Err_any b S 0 _ HH.out).mono ?_
      rintro r w1 ⟨rfl, rfl⟩
      go_wp2_with fail
      refine (number1_any S hS HV.out m g _ hc).mono ?_
      rintro r w1 ⟨rfl, rfl⟩
      rw [hn]
      go_wp2
      go_ret
      rw [hX.out]
      exact ⟨rfl, HH.out.set0, (Rm.refl _ _).setCell _ _⟩
    · have hX : Hid (numM m S 0 = (0, S, numE m a c)) := by show _ = _; unfold numM; rw [hv, if_neg (by simp), if_pos hn]
      have hnb : (numE m a c != 0) = true := by simpa using hn
      have HV := Lib.hid hv; clear hv
      go_enter Tryz.func68, Tryz.ntmps68
      go_wp2_with fail
      refine (Err_any b S 0 _ HH.out).mono ?_
      rintro r w1 ⟨rfl, rfl⟩
      go_wp2_with fail
      refine (number1_any S hS HV.out m g _ hc).mono ?_
      rintro r w1 ⟨rfl, rfl⟩
      go_wp2
      go_ret
      rw [hX.out]
      exact ⟨rfl, HH.out.set1, (Rm.refl _ _).setCell _ _⟩
  · have hX : Hid (numM m S e = (0, S, e)) := by show _ = _; unfold numM; rw [if_pos he]
    have heb : (e != 0) = true := by simpa using he
    go_enter Tryz.func68, Tryz.ntmps68
    go_wp2_with fail
    refine (Err_any b S e _ HH.out).mono ?_
    rintro r w1 ⟨rfl, rfl⟩
    go_wp2
    go_ret
    rw [hX.out]
    exact ⟨rfl, HH.out, Rm.refl _ _⟩

theorem one_of_alloc (w : World) (v : Value) (t : TypeId) : (w.alloc (.cells #[v] t)).cell? ⟨w.heap.size, 0, none⟩ = some v := by
  have hb := World.alloc_heap_new w (.cells #[v] t)
  simp only [World.cell?, hb]
  rfl
set_option maxRecDepth 100000 in
theorem dNumber_any (b : Nat) (S : ByteArray) (e m : Int) (w : World) (h : Sr 109 b S e w) (hS : S.size ≤ 9223372036854775807) :
    Calls Tryz.prog 29 #[.pointer (some ⟨b, 0, none⟩), .int .i64 m] w fun r w' =>
      r = .returned (.int .i64 (numM m S e).1) ∧ Sr 109 b (numM m S e).2.1 (numM m S e).2.2 w' ∧ Rm b w w' := by
  have HH := Lib.hid h; clear h
  have hg := Lib.hid ((Gr.rfl' w).al (.cells #[.int .i64 m] 3))
  have hc := (one_of_alloc w (.int .i64 m) 3)
  go_enter Tryz.func29, Tryz.ntmps29
  go_wp2_with fail
  refine (number_any m _).mono ?_
  rintro r w1 ⟨rfl, rfl⟩
  go_wp2_with fail
  refine (takeI_any b S e m _ _ (HH.out.gr hg.out) hS hc).mono ?_
  rintro r w2 ⟨rfl, h2, m2⟩
  go_wp2
  go_ret
  exact ⟨rfl, h2, (Rm.of hg.out).trans m2⟩
end Go.Proofs.YtfobnemocodomaaGreat
set_option linter.unusedVariables false
set_option linter.unusedSimpArgs false
set_option maxHeartbeats 400000
namespace Go.Proofs.YtfobnemocodomaaGreat
open Go.RowKit Go.Shelf Go.Great

/-- what a text's piece is: its bytes, how many in all, what is wrong -/
def txtP (m : Int) (S : ByteArray) : ByteArray × Nat × Int :=
  if numE m (takeV S).1 (takeV S).2.2 ≠ 0 then (⟨#[]⟩, 0, numE m (takeV S).1 (takeV S).2.2)
  else if (S.size : Int) - (takeV S).2.1 < (takeV S).1 then (⟨#[]⟩, 0, 5)
  else (S.extract (takeV S).2.1.toNat ((takeV S).2.1 + (takeV S).1).toNat, ((takeV S).2.1 + (takeV S).1).toNat, 0)
theorem txtP_le (m : Int) (S : ByteArray) : (txtP m S).2.1 ≤ S.size := by
  unfold txtP
  obtain ⟨a, k, c, hv⟩ : ∃ a k c, takeV S = (a, k, c) := ⟨_, _, _, rfl⟩
  rw [hv]
  split
  · exact Nat.zero_le _
  split
  · exact Nat.zero_le _
  · rename_i h1 h2
    have hc0 : c = 0 := by
      simp only [ne_eq, Decidable.not_not] at h1
      unfold numE at h1
      split at h1 <;> omega
    subst hc0
    obtain ⟨ha0, ha1, hk0, hk5, hks⟩ := takeV_ok hv
    simp only at h2 ⊢
    omega

set_option maxRecDepth 100000 in
theorem Text1_any (S : ByteArray) (hS : S.size ≤ 9223372036854775807) (m : Int) (g : Nat) (w : World) (hc : w.cell? ⟨g, 0, none⟩ = some (.int .i64 m)) :
    Calls Tryz.prog 71 #[.string S, .pointer (some ⟨g, 0, none⟩)] w fun r w' => r = .returned (.tuple #[.string (txtP m S).1, .int .i64 (txtP m S).2.1, .int .i64 (txtP m S).2.2]) ∧ Gr w w' := by
  obtain ⟨a, k, c, hv⟩ : ∃ a k c, takeV S = (a, k, c) := ⟨_, _, _, rfl⟩
  have hg := Lib.hid ((Gr.rfl' w).al (.cells #[.int .i64 m] 3))
  have hcc := one_of_alloc w (.int .i64 m) 3
  by_cases hn : numE m a c = 0
  · have hc0 : c = 0 := by
      unfold numE at hn
      split at hn <;> omega
    subst hc0
    obtain ⟨ha0, ha1, hk0, hk5, hks⟩ := takeV_ok hv
    obtain ⟨j, rfl⟩ : ∃ j : Nat, k = j := ⟨k.toNat, by omega⟩
    obtain ⟨n, rfl⟩ : ∃ n : Nat, a = n := ⟨a.toNat, by omega⟩
    by_cases hl : (S.size : Int) - j < n
    · have hX : Hid (txtP m S = (⟨#[]⟩, 0, 5)) := by show _ = _; unfold txtP; rw [hv, if_neg (by simp [hn]), if_pos hl]
      have HV := Lib.hid hv; clear hv
      go_enter Tryz.func71, Tryz.ntmps71
      go_wp2_with fail
      refine (number_any m _).mono ?_
      rintro r w1 ⟨rfl, rfl⟩
      go_wp2_with fail
      refine (number1_any S hS HV.out m _ _ hcc).mono ?_
      rintro r w1 ⟨rfl, rfl⟩
      rw [hn]
      go_wp2
      refine bodyPost_ret (v := .tuple #[.string ⟨#[]⟩, .int .i64 0, .int .i64 5]) (by simp [results, Tryz.results71, go_sem]) rfl ?_
      exact ⟨by rw [hX.out]; rfl, hg.out⟩
    · have hX : Hid (txtP m S = (S.extract j (j + n), j + n, 0)) := by
        show _ = _
        unfold txtP
        rw [hv, if_neg (by simp [hn]), if_neg hl]
        simp only [Int.toNat_natCast]
        rw [show ((j : Int) + n).toNat = j + n by omega]
      have HV := Lib.hid hv; clear hv
      have hlb : decide ((S.size : Int) - j < n) = false := decide_eq_false hl
      have hjn : (j : Int) + n ≤ S.size := by omega
      go_enter Tryz.func71, Tryz.ntmps71
      go_wp2_with fail
      refine (number_any m _).mono ?_
      rintro r w1 ⟨rfl, rfl⟩
      go_wp2_with fail
      refine (number1_any S hS HV.out m _ _ hcc).mono ?_
      rintro r w1 ⟨rfl, rfl⟩
      rw [hn]
      go_wp2
      refine bodyPost_ret (v := .tuple #[.string (S.extract j (j + n)), .int .i64 ((j : Int) + n), .int .i64 0]) (by simp [results, Tryz.results71, go_sem]) rfl ?_
      exact ⟨by rw [hX.out]; rfl, hg.out⟩
  · have hX : Hid (txtP m S = (⟨#[]⟩, 0, numE m a c)) := by show _ = _; unfold txtP; rw [hv, if_pos hn]
    have hnb : (numE m a c == 0) = false := by simpa using hn
    have hnb2 : (numE m a c != 0) = true := by simpa using hn
    have HV := Lib.hid hv; clear hv
    go_enter Tryz.func71, Tryz.ntmps71
    go_wp2_with fail
    refine (number_any m _).mono ?_
    rintro r w1 ⟨rfl, rfl⟩
    go_wp2_with fail
    refine (number1_any S hS HV.out m _ _ hcc).mono ?_
    rintro r w1 ⟨rfl, rfl⟩
    go_wp2
    refine bodyPost_ret (v := .tuple #[.string ⟨#[]⟩, .int .i64 0, .int .i64 (numE m a c)]) (by simp [results, Tryz.results71, go_sem]) rfl ?_
    exact ⟨by rw [hX.out]; rfl, hg.out⟩

/-- what the piece of a flag is -/
def flgP (S : ByteArray) : Bool × Nat × Int := if S.size = 0 then (false, 0, 5) else if 1 < byt S 0 then (false, 0, 7) else (decide (byt S 0 = 1), 1, 0)
theorem flgP_le (S : ByteArray) : (flgP S).2.1 ≤ S.size := by
  unfold flgP
  split
  · exact Nat.zero_le _
  split
  · exact Nat.zero_le _
  · show 1 ≤ _; omega
set_option maxRecDepth 100000 in
theorem Flag1_any (S : ByteArray) (w : World) :
    Calls Tryz.prog 126 #[.string S] w fun r w' => r = .returned (.tuple #[.bool (flgP S).1, .int .i64 (flgP S).2.1, .int .i64 (flgP S).2.2]) ∧ w' = w := by
  by_cases h0 : S.size = 0
  · have hb : S.toList.isEmpty = true := by rw [isE_size]; exact decide_eq_true h0
    have hX : Hid (flgP S = (false, 0, 5)) := by show _ = _; unfold flgP; rw [if_pos h0]
    clear h0
    go_enter Tryz.func126, Tryz.ntmps126
    go_wp2
    refine bodyPost_ret (v := .tuple #[.bool false, .int .i64 0, .int .i64 5]) (by simp [results, Tryz.results126, go_sem]) rfl ?_
    exact ⟨by rw [hX.out]; rfl, rfl⟩
  · have hb : S.toList.isEmpty = false := by rw [isE_size]; exact decide_eq_false h0
    have hs : 0 < S.size := by omega
    have hsi : (0 : Int) < S.size := by omega
    have hB := byt_at hs
    by_cases h1 : 1 < byt S 0
    · have hX : Hid (flgP S = (false, 0, 7)) := by show _ = _; unfold flgP; rw [if_neg h0, if_pos h1]
      rw [hB] at h1
      clear h0 hB
      go_enter Tryz.func126, Tryz.ntmps126
      go_wp2
      refine bodyPost_ret (v := .tuple #[.bool false, .int .i64 0, .int .i64 7]) (by simp [results, Tryz.results126, go_sem]) rfl ?_
      exact ⟨by rw [hX.out]; rfl, rfl⟩
    · have hX : Hid (flgP S = (decide (byt S 0 = 1), 1, 0)) := by show _ = _; unfold flgP; rw [if_neg h0, if_neg h1]
      have HB := Lib.hid hB
      rw [hB] at h1
      have h1b : ¬ 1 < ((S[0]'hs).toNat : Int) := h1
      clear h0 hB
      go_enter Tryz.func126, Tryz.ntmps126
      go_wp2
      refine bodyPost_ret (v := .tuple #[.bool (((S[0]'hs).toNat : Int) == 1), .int .i64 1, .int .i64 0]) (by simp [results, Tryz.results126, go_sem]) rfl ?_
      exact ⟨by rw [hX.out, HB.out]; rfl, rfl⟩

/-- what taking it comes to -/
def txtM (m : Int) (S : ByteArray) (e : Int) : ByteArray × ByteArray × Int := if e ≠ 0 then (⟨#[]⟩, S, e) else if (txtP m S).2.2 ≠ 0 then (⟨#[]⟩, S, (txtP m S).2.2) else ((txtP m S).1, cutB S (txtP m S).2.1, 0)
set_option maxRecDepth 100000 in
theorem txt_any (b : Nat) (m : Int) (S : ByteArray) (e : Int) (g : Nat) (w : World) (h : Sr 109 b S e w) (hS : S.size ≤ 9223372036854775807) (hc : w.cell? ⟨g, 0, none⟩ = some (.int .i64 m)) :
    Calls Tryz.prog 70 #[.pointer (some ⟨b, 0, none⟩), .func (.func 71) #[] #[.pointer (some ⟨g, 0, none⟩)]] w fun r w' =>
      r = .returned (.string (txtM m S e).1) ∧ Sr 109 b (txtM m S e).2.1 (txtM m S e).2.2 w' ∧ Rm b w w' := by
  have c0 := h.cell0
  have c1 := h.cell1
  have f0 := h.frz 0
  have f1 := h.frz 1
  have HH := Lib.hid h; clear h
  by_cases he : e = 0
  · subst he
    obtain ⟨x, k, c, hv⟩ : ∃ x k c, txtP m S = (x, k, c) := ⟨_, _, _, rfl⟩
    have hk : k ≤ S.size := by have := txtP_le m S; rw [hv] at this; exact this
    have hki : (k : Int) ≤ S.size := by omega
    by_cases hn : c = 0
    · subst hn
      have hX : Hid (txtM m S 0 = (x, cutB S k, 0)) := by show _ = _; unfold txtM; rw [hv, if_neg (by simp), if_neg (by simp)]
      have HV := Lib.hid hv; clear hv
      go_enter Tryz.func70, Tryz.ntmps70
      go_wp2_with fail
      refine (Err_any b S 0 _ HH.out).mono ?_
      rintro r w1 ⟨rfl, rfl⟩
      go_wp2_with fail
      refine (Text1_any S hS m g _ hc).mono ?_
      rintro r w2 ⟨rfl, hg2⟩
      skip
      rw [HV.out]
      replace c0 := hg2.cell c0
      replace c1 := hg2.cell c1
      replace HH := Lib.hid (HH.out.gr hg2)
      have f0 := HH.out.frz 0
      have f1 := HH.out.frz 1
      go_wp2
      go_ret
      rw [hX.out]
      exact ⟨rfl, HH.out.set0, (Rm.of hg2).setCell _ _⟩
    · have hX : Hid (txtM m S 0 = (⟨#[]⟩, S, c)) := by show _ = _; unfold txtM; rw [hv, if_neg (by simp), if_pos hn]
      have hnb : (c != 0) = true := by simpa using hn
      have HV := Lib.hid hv; clear hv
      go_enter Tryz.func70, Tryz.ntmps70
      go_wp2_with fail
      refine (Err_any b S 0 _ HH.out).mono ?_
      rintro r w1 ⟨rfl, rfl⟩
      go_wp2_with fail
      refine (Text1_any S hS m g _ hc).mono ?_
      rintro r w2 ⟨rfl, hg2⟩
      skip
      rw [HV.out]
      replace c0 := hg2.cell c0
      replace c1 := hg2.cell c1
      replace HH := Lib.hid (HH.out.gr hg2)
      have f0 := HH.out.frz 0
      have f1 := HH.out.frz 1
      go_wp2
      go_ret
      rw [hX.out]
      exact ⟨rfl, HH.out.set1, (Rm.of hg2).setCell _ _⟩
  · have hX : Hid (txtM m S e = (⟨#[]⟩, S, e)) := by show _ = _; unfold txtM; rw [if_pos he]
    have heb : (e != 0) = true := by simpa using he
    go_enter Tryz.func70, Tryz.ntmps70
    go_wp2_with fail
    refine (Err_any b S e _ HH.out).mono ?_
    rintro r w1 ⟨rfl, rfl⟩
    go_wp2
    go_ret
    rw [hX.out]
    exact ⟨rfl, HH.out, Rm.refl _ _⟩

/-- what taking it comes to -/
def flgM (S : ByteArray) (e : Int) : Bool × ByteArray × Int := if e ≠ 0 then (false, S, e) else if (flgP S).2.2 ≠ 0 then (false, S, (flgP S).2.2) else ((flgP S).1, cutB S (flgP S).2.1, 0)
set_option maxRecDepth 100000 in
theorem flg_any (b : Nat) (S : ByteArray) (e : Int) (w : World) (h : Sr 109 b S e w) (hS : S.size ≤ 9223372036854775807) :
    Calls Tryz.prog 125 #[.pointer (some ⟨b, 0, none⟩), .func (.func 126) #[] #[]] w fun r w' =>
      r = .returned (.bool (flgM S e).1) ∧ Sr 109 b (flgM S e).2.1 (flgM S e).2.2 w' ∧ Rm b w w' := by
  have c0 := h.cell0
  have c1 := h.cell1
  have f0 := h.frz 0
  have f1 := h.frz 1
  have HH := Lib.hid h; clear h
  by_cases he : e = 0
  · subst he
    obtain ⟨x, k, c, hv⟩ : ∃ x k c, flgP S = (x, k, c) := ⟨_, _, _, rfl⟩
    have hk : k ≤ S.size := by have := flgP_le S; rw [hv] at this; exact this
    have hki : (k : Int) ≤ S.size := by omega
    by_cases hn : c = 0
    · subst hn
      have hX : Hid (flgM S 0 = (x, cutB S k, 0)) := by show _ = _; unfold flgM; rw [hv, if_neg (by simp), if_neg (by simp)]
      have HV := Lib.hid hv; clear hv
      go_enter Tryz.func125, Tryz.ntmps125
      go_wp2_with fail
      refine (Err_any b S 0 _ HH.out).mono ?_
      rintro r w1 ⟨rfl, rfl⟩
      go_wp2_with fail
      refine (Flag1_any S _).mono ?_
      rintro r w2 ⟨rfl, hg2⟩
      replace hg2 : Gr w1 w2 := by rw [hg2]; exact Gr.rfl' _
      rw [HV.out]
      replace c0 := hg2.cell c0
      replace c1 := hg2.cell c1
      replace HH := Lib.hid (HH.out.gr hg2)
      have f0 := HH.out.frz 0
      have f1 := HH.out.frz 1
      go_wp2
      go_ret
      rw [hX.out]
      exact ⟨rfl, HH.out.set0, (Rm.of hg2).setCell _ _⟩
    · have hX : Hid (flgM S 0 = (false, S, c)) := by show _ = _; unfold flgM; rw [hv, if_neg (by simp), if_pos hn]
      have hnb : (c != 0) = true := by simpa using hn
      have HV := Lib.hid hv; clear hv
      go_enter Tryz.func125, Tryz.ntmps125
      go_wp2_with fail
      refine (Err_any b S 0 _ HH.out).mono ?_
      rintro r w1 ⟨rfl, rfl⟩
      go_wp2_with fail
      refine (Flag1_any S _).mono ?_
      rintro r w2 ⟨rfl, hg2⟩
      replace hg2 : Gr w1 w2 := by rw [hg2]; exact Gr.rfl' _
      rw [HV.out]
      replace c0 := hg2.cell c0
      replace c1 := hg2.cell c1
      replace HH := Lib.hid (HH.out.gr hg2)
      have f0 := HH.out.frz 0
      have f1 := HH.out.frz 1
      go_wp2
      go_ret
      rw [hX.out]
      exact ⟨rfl, HH.out.set1, (Rm.of hg2).setCell _ _⟩
  · have hX : Hid (flgM S e = (false, S, e)) := by show _ = _; unfold flgM; rw [if_pos he]
    have heb : (e != 0) = true := by simpa using he
    go_enter Tryz.func125, Tryz.ntmps125
    go_wp2_with fail
    refine (Err_any b S e _ HH.out).mono ?_
    rintro r w1 ⟨rfl, rfl⟩
    go_wp2
    go_ret
    rw [hX.out]
    exact ⟨rfl, HH.out, Rm.refl _ _⟩

set_option maxRecDepth 100000 in
theorem dText_any (b : Nat) (m : Int) (S : ByteArray) (e : Int) (w : World) (h : Sr 109 b S e w) (hS : S.size ≤ 9223372036854775807) :
    Calls Tryz.prog 30 #[.pointer (some ⟨b, 0, none⟩), .int .i64 m] w fun r w' =>
      r = .returned (.string (txtM m S e).1) ∧ Sr 109 b (txtM m S e).2.1 (txtM m S e).2.2 w' ∧ Rm b w w' := by
  have HH := Lib.hid h; clear h
  have hg := Lib.hid ((Gr.rfl' w).al (.cells #[.int .i64 m] 3))
  have hc := one_of_alloc w (.int .i64 m) 3
  go_enter Tryz.func30, Tryz.ntmps30
  go_wp2_with fail
  refine (txt_any b m S e _ _ (HH.out.gr hg.out) hS hc).mono ?_
  rintro r w2 ⟨rfl, h2, m2⟩
  go_wp2
  go_ret
  exact ⟨rfl, h2, (Rm.of hg.out).trans m2⟩
set_option maxRecDepth 100000 in
theorem dFlag_any (b : Nat) (S : ByteArray) (e : Int) (w : World) (h : Sr 109 b S e w) (hS : S.size ≤ 9223372036854775807) :
    Calls Tryz.prog 102 #[.pointer (some ⟨b, 0, none⟩)] w fun r w' =>
      r = .returned (.bool (flgM S e).1) ∧ Sr 109 b (flgM S e).2.1 (flgM S e).2.2 w' ∧ Rm b w w' := by
  have HH := Lib.hid h; clear h
  go_enter Tryz.func102, Tryz.ntmps102
  go_wp2_with fail
  refine (flg_any b S e _ HH.out hS).mono ?_
  rintro r w2 ⟨rfl, h2, m2⟩
  go_wp2
  go_ret
  exact ⟨rfl, h2, m2⟩
end Go.Proofs.YtfobnemocodomaaGreat
set_option linter.unusedVariables false
set_option linter.unusedSimpArgs false
set_option maxHeartbeats 400000
namespace Go.Proofs.YtfobnemocodomaaGreat
open Go.RowKit Go.Shelf Go.Great

theorem run_copy_head (w : World) (ty : TypeId) (g : Nat) (s : ByteArray) (h32 : 32 ≤ s.size) (cur : Array Value) (t : TypeId) (hg : w.heap[g]? = some (.cells cur t (0, 0))) (hcur : cur.size = 32) :
    (Builtin.copy_ #[47, 9] ty #[.slice (some ⟨g, 0, none⟩) 32 32, .string s]).run Tryz.prog w = .ok (goInt 32) (w.setRow g (digC (s.data.toList.take 32))) := by
  have hl : (s.data.toList.take 32).length = 32 := by rw [List.length_take, ← Lib.size_eq]; omega
  have hlen : (Lib.byteCells (s.data.toList.take 32)).length = 32 := by rw [Lib.byteCells_length, hl]
  have hst := run_storeCells_at Tryz.prog g 0 t (Lib.byteCells (s.data.toList.take 32)) 0 cur w hg (by rw [hlen, hcur]; omega) (Lib.byteCells_one _)
  have hmin : Nat.min s.size 32 = 32 := Nat.min_eq_right h32
  rw [hlen] at hst
  have hrow : (cur.toList.take (0 + 0) ++ Lib.byteCells (s.data.toList.take 32) ++ cur.toList.drop (0 + 0 + 32)).toArray = digC (s.data.toList.take 32) := by
    rw [List.drop_eq_nil_of_le (by rw [Array.length_toList, hcur]; omega)]
    simp [digC, Lib.byteCells]
  rw [hrow] at hst
  have htk : List.take 32 (List.map (fun b : UInt8 => Value.int IntKind.u8 (b.toNat : Int)) s.data.toList) = Lib.byteCells (s.data.toList.take 32) := by
    rw [← List.map_take]; rfl
  obtain ⟨i0, hi, hz0, hz1, hz2⟩ := info_parts infoByte
  simp [Builtin.copy_, run_underlying Tryz.underlying47, Builtin.lenOf, Builtin.firstCells, sizeOf, typeInfo, hi, hz1, hmin]
  rw [htk, hst]
  simp [Result.andThen]
theorem wpList_copy32 {ops : Array Oper} {rest : List Oper} {o : Oper} {a : Act} {w : World} {Q : Exit → Act → World → Prop} (hgd : o.guard = none) (d x : Operand)
    (ho : o.op = .call { callee := .builtin .copy, args := #[d, x], argTypes := #[47, 9] }) (g : Nat) (s : ByteArray) (hd : a.eval d = .slice (some ⟨g, 0, none⟩) 32 32) (hx : a.eval x = .string s)
    (h32 : 32 ≤ s.size) (cur : Array Value) (t : TypeId) (hg : w.heap[g]? = some (.cells cur t (0, 0))) (hcur : cur.size = 32)
    (h : wpList Tryz.prog ops Q rest (a.put o.dst (.int .i64 32)) (w.setRow g (digC (s.data.toList.take 32)))) : wpList Tryz.prog ops Q (o :: rest) a w := by
  refine wpList_plain hgd fun K hK => ?_
  have hr := run_copy_head w o.type g s h32 cur t hg hcur
  unfold Oper.wp execOp
  simp only [ho, resolve, invoke, builtin, Sem.run_bind, Sem.run_pure, Result.andThen_ok, List.map_toArray, List.map_cons, List.map_nil, hd, hx, hr]
  exact hK _ _ h
theorem store32 {ops : Array Oper} {rest : List Oper} {o : Oper} {a : Act} {w : World} {Q : Exit → Act → World → Prop} (D : List UInt8) (hD : D.length = 32) (hg : o.guard = none) (x y : Operand) (ho : o.op = .store 33 x y) (hd : o.dst = none)
    (hx : a.eval x = .pointer (some ⟨w.heap.size, 0, none⟩)) (hy : a.eval y = .agg (digC D))
    (h : wpList Tryz.prog ops Q rest a (w.alloc (.cells (digC D) 33))) : wpList Tryz.prog ops Q (o :: rest) a (w.alloc (.cells Z32 33)) := by
  have hsz : (digC D).size = 32 := by rw [digC_size, hD]
  refine wpList_store_row hg 33 x y ho w.heap.size (digC D) hx hy 33 Z32 (World.alloc_heap_new w _) (by rw [sizeDig, hsz]) (by rw [Z32_size, hsz]) (digC_one D) ?_
  rw [World.setRow_alloc_new, hd]
  exact h
theorem asA (g : Nat) (W : World) : (asAddr (.pointer (some ⟨g, 0, none⟩))).run Tryz.prog W = .ok ⟨g, 0, none⟩ W := rfl

/-- what the piece of a digest is -/
def digP (S : ByteArray) : List UInt8 × Nat × Int := if S.size < 32 then (Z32L, 0, 5) else (S.data.toList.take 32, 32, 0)
theorem digP_le (S : ByteArray) : (digP S).2.1 ≤ S.size := by
  unfold digP
  split
  · exact Nat.zero_le _
  · show 32 ≤ _; omega
theorem digP_len (S : ByteArray) : (digP S).1.length = 32 := by
  unfold digP
  split
  · exact Z32L_len
  · show (S.data.toList.take 32).length = 32
    rw [List.length_take, ← Lib.size_eq]; omega

set_option maxRecDepth 100000 in
theorem Digest1_any (S : ByteArray) (w : World) :
    Calls Tryz.prog 73 #[.string S] w fun r w' => r = .returned (.tuple #[.agg (digC (digP S).1), .int .i64 (digP S).2.1, .int .i64 (digP S).2.2]) ∧ Gr w w' := by
  by_cases hs : S.size < 32
  · have hX : Hid (digP S = (Z32L, 0, 5)) := by show _ = _; unfold digP; rw [if_pos hs]
    have hsi : (S.size : Int) < 32 := by omega
    go_enter Tryz.func73, Tryz.ntmps73
    go_upto_region 2 with (first | refine alloc32 rfl rfl ?_)
    obtain ⟨W, hW⟩ : ∃ W, (w.alloc (.cells Z32 33)).alloc (.cells Z32 33) = W := ⟨_, rfl⟩
    have hg : Gr w W := by rw [← hW]; exact ((Gr.rfl' _).al _).al _
    have h0 : W.heap[w.heap.size]? = some (.cells Z32 33 (0, 0)) := by
      rw [← hW]; exact (Below.heap_alloc _ _ _ (by simp)).trans (World.alloc_heap_new _ _)
    have h1 : W.heap[w.heap.size + 1]? = some (.cells Z32 33 (0, 0)) := by
      have := World.alloc_heap_new (w.alloc (.cells Z32 33)) (.cells Z32 33)
      rw [World.size_alloc] at this
      rw [← hW]; exact this
    rw [hW]
    clear hW
    go_wp2_with (first
      | refine wpList_load_row rfl 33 _ rfl (w.heap.size + 1) rfl 33 Z32 (0, 0) _ h1 Tryz.underlying33 rfl (by rw [Z32_size]; exact sizeDig) ?_
      | refine wpList_store_row rfl 33 _ _ rfl w.heap.size Z32 rfl rfl 33 Z32 h0 (by rw [Z32_size]; exact sizeDig) rfl (digC_one _) ?_)
    rw [setRow_self W _ Z32 _ _ h0]
    have hL := load32 W w.heap.size Z32L Z32L_len h0
    refine bodyPost_ret (v := .tuple #[.agg Z32, .int .i64 0, .int .i64 5]) ?_ rfl ⟨by rw [hX.out]; rfl, hg⟩
    simp [results, Tryz.results73, Act.put, asA, hL]
    rfl
  · have hX : Hid (digP S = (S.data.toList.take 32, 32, 0)) := by show _ = _; unfold digP; rw [if_neg hs]
    have hsi : decide ((S.size : Int) < 32) = false := decide_eq_false (by omega)
    have h32 : 32 ≤ S.size := by omega
    clear hs
    go_enter Tryz.func73, Tryz.ntmps73
    go_upto_region 2 with (first | refine alloc32 rfl rfl ?_)
    obtain ⟨W, hW⟩ : ∃ W, (w.alloc (.cells Z32 33)).alloc (.cells Z32 33) = W := ⟨_, rfl⟩
    have hg : Gr w W := by rw [← hW]; exact ((Gr.rfl' _).al _).al _
    have h0 : W.heap[w.heap.size]? = some (.cells Z32 33 (0, 0)) := by
      rw [← hW]; exact (Below.heap_alloc _ _ _ (by simp)).trans (World.alloc_heap_new _ _)
    have h1 : W.heap[w.heap.size + 1]? = some (.cells Z32 33 (0, 0)) := by
      have := World.alloc_heap_new (w.alloc (.cells Z32 33)) (.cells Z32 33)
      rw [World.size_alloc] at this
      rw [← hW]; exact this
    rw [hW]
    clear hW
    have hl : (S.data.toList.take 32).length = 32 := by rw [List.length_take, ← Lib.size_eq]; omega
    have h0' : (W.setRow (w.heap.size + 1) (digC (S.data.toList.take 32))).heap[w.heap.size]? = some (.cells Z32 33 (0, 0)) := (setRow_other _ _ _ _ (by omega)).trans h0
    have h1' := setRow_heap W (w.heap.size + 1) Z32 (digC (S.data.toList.take 32)) _ _ h1
    go_wp2_with (first
      | refine wpList_copy32 rfl _ _ rfl (w.heap.size + 1) S rfl rfl h32 Z32 33 h1 Z32_size ?_
      | refine wpList_load_row rfl 33 _ rfl (w.heap.size + 1) rfl 33 (digC (S.data.toList.take 32)) (0, 0) _ h1' Tryz.underlying33 rfl (by rw [digC_size, hl]; exact sizeDig) ?_
      | refine wpList_store_row rfl 33 _ _ rfl w.heap.size (digC (S.data.toList.take 32)) rfl rfl 33 Z32 h0' (by rw [digC_size, hl]; exact sizeDig) (by rw [Z32_size, digC_size, hl]) (digC_one _) ?_)
    have h2 := setRow_heap _ w.heap.size Z32 (digC (S.data.toList.take 32)) _ _ h0'
    have hL := load32 _ w.heap.size _ hl h2
    refine bodyPost_ret (v := .tuple #[.agg (digC (S.data.toList.take 32)), .int .i64 32, .int .i64 0]) ?_ rfl ⟨by rw [hX.out]; rfl, (hg.setRow (by omega) _).setRow (Nat.le_refl _) _⟩
    simp [results, Tryz.results73, Act.put, asA, hL]

def dgM (S : ByteArray) (e : Int) : List UInt8 × ByteArray × Int := if e ≠ 0 then (Z32L, S, e) else if (digP S).2.2 ≠ 0 then (Z32L, S, (digP S).2.2) else ((digP S).1, cutB S (digP S).2.1, 0)
theorem dgM_len (S : ByteArray) (e : Int) : (dgM S e).1.length = 32 := by
  unfold dgM
  split
  · exact Z32L_len
  split
  · exact Z32L_len
  · exact digP_len S
theorem Sr.setRow {t : TypeId} {c g : Nat} {S : ByteArray} {e : Int} {w : World} (h : Sr t c S e w) (hg : c ≠ g) (cs : Array Value) : Sr t c S e (w.setRow g cs) := (setRow_other _ _ _ _ hg).trans h
theorem Rm.setRow {c : Nat} {X Y : World} (h : Rm c X Y) {g : Nat} (hg : X.heap.size ≤ g) (cs : Array Value) : Rm c X (Y.setRow g cs) :=
  ⟨h.os, h.tape, h.output, by rw [size_setRow]; exact h.size, fun k hk hc => (setRow_other _ _ _ _ (by omega)).trans (h.keep k hk hc)⟩

set_option maxRecDepth 100000 in
set_option maxHeartbeats 1000000 in
theorem takeD_any (b : Nat) (S : ByteArray) (e : Int) (w : World) (h : Sr 109 b S e w) (hS : S.size ≤ 9223372036854775807) :
    Calls Tryz.prog 72 #[.pointer (some ⟨b, 0, none⟩), .func (.func 73) #[] #[]] w fun r w' =>
      r = .returned (.agg (digC (dgM S e).1)) ∧ Sr 109 b (dgM S e).2.1 (dgM S e).2.2 w' ∧ Rm b w w' := by
  have HH := Lib.hid h; clear h
  have hbl := HH.out.lt
  by_cases he : e = 0
  · subst he
    obtain ⟨D, k, c, hv⟩ : ∃ D k c, digP S = (D, k, c) := ⟨_, _, _, rfl⟩
    have hk : k ≤ S.size := by have := digP_le S; rw [hv] at this; exact this
    have hD : D.length = 32 := by have := digP_len S; rw [hv] at this; exact this
    have hki : (k : Int) ≤ S.size := by omega
    by_cases hn : c = 0
    · subst hn
      have hX : Hid (dgM S 0 = (D, cutB S k, 0)) := by show _ = _; unfold dgM; rw [hv, if_neg (by simp), if_neg (by simp)]
      have HV := Lib.hid hv; clear hv
      go_enter Tryz.func72, Tryz.ntmps72
      go_upto_region 2 with (first | refine alloc32 rfl rfl ?_)
      obtain ⟨W, hW⟩ : ∃ W, (w.alloc (.cells Z32 33)).alloc (.cells Z32 33) = W := ⟨_, rfl⟩
      have hg : Gr w W := by rw [← hW]; exact ((Gr.rfl' _).al _).al _
      have h0 : W.heap[w.heap.size]? = some (.cells Z32 33 (0, 0)) := by
        rw [← hW]; exact (Below.heap_alloc _ _ _ (by simp)).trans (World.alloc_heap_new _ _)
      have h1 : W.heap[w.heap.size + 1]? = some (.cells Z32 33 (0, 0)) := by
        have := World.alloc_heap_new (w.alloc (.cells Z32 33)) (.cells Z32 33)
        rw [World.size_alloc] at this
        rw [← hW]; exact this
      rw [hW]
      clear hW
      replace HH := Lib.hid (HH.out.gr hg)
      go_wp2_with fail
      refine (Err_any b S 0 _ HH.out).mono ?_
      rintro r w1 ⟨rfl, rfl⟩
      have c0 := HH.out.cell0
      go_wp2_with fail
      refine (Digest1_any S _).mono ?_
      rintro r w2 ⟨rfl, hg2⟩
      rw [HV.out]
      have h0' : (w2.alloc (.cells (digC D) 33)).heap[w.heap.size]? = some (.cells Z32 33 (0, 0)) := (((Gr.rfl' w2).al _).block _ (by have := hg2.size; have := (Array.getElem?_eq_some_iff.1 h0).1; omega)).trans ((hg2.block _ (Array.getElem?_eq_some_iff.1 h0).1).trans h0)
      have h6 : (w2.alloc (.cells (digC D) 33)).heap[w2.heap.size]? = some (.cells (digC D) 33 (0, 0)) := World.alloc_heap_new _ _
      have hHH := Lib.hid ((HH.out.gr hg2).gr ((Gr.rfl' w2).al (.cells (digC D) 33)))
      have hws : w.heap.size + 2 ≤ w2.heap.size := by have := hg2.size; have := (Array.getElem?_eq_some_iff.1 h1).1; omega
      have hgA : Gr w (w2.alloc (.cells (digC D) 33)) := (hg.tr hg2).al _
      go_upto_region 5 with (first | refine alloc32 rfl rfl ?_ | refine store32 D hD rfl _ _ rfl rfl rfl rfl ?_)
      obtain ⟨W2, hW2⟩ : ∃ W2, w2.alloc (.cells (digC D) 33) = W2 := ⟨_, rfl⟩
      obtain ⟨n6, hn6⟩ : ∃ n6, n6 = w2.heap.size := ⟨_, rfl⟩
      rw [hW2] at h0' h6 hHH hgA
      rw [hW2]
      rw [← hn6] at h6 hws
      rw [← hn6]
      clear hW2 hn6 h0 h1 hg2 c0 HH hg
      have c0 := hHH.out.cell0
      have f0 := hHH.out.frz 0
      have h0'' : (W2.setCell ⟨b, 0, none⟩ (.string (S.extract k S.size))).heap[w.heap.size]? = some (.cells Z32 33 (0, 0)) := (Below.heap_setCell _ _ _ _ (by show w.heap.size ≠ b; omega)).trans h0'
      have h6'' : (W2.setCell ⟨b, 0, none⟩ (.string (S.extract k S.size))).heap[n6]? = some (.cells (digC D) 33 (0, 0)) := (Below.heap_setCell _ _ _ _ (by show n6 ≠ b; omega)).trans h6
      go_wp2_with (first
        | refine wpList_load_row rfl 33 _ rfl n6 rfl 33 (digC D) (0, 0) _ h6'' Tryz.underlying33 rfl (by rw [digC_size, hD]; exact sizeDig) ?_
        | refine wpList_store_row rfl 33 _ _ rfl w.heap.size (digC D) rfl rfl 33 Z32 h0'' (by rw [digC_size, hD]; exact sizeDig) (by rw [Z32_size, digC_size, hD]) (digC_one _) ?_)
      have h2 := setRow_heap _ w.heap.size Z32 (digC D) _ _ h0''
      have hL := load32 _ w.heap.size _ hD h2
      refine bodyPost_ret (v := .agg (digC D)) ?_ rfl ?_
      · simp [results, Tryz.results72, Act.put, asA, hL]
      · rw [hX.out]
        exact ⟨rfl, (hHH.out.set0).setRow (by omega) _, ((Rm.of hgA).setCell _ _).setRow (Nat.le_refl _) _⟩
    · have hX : Hid (dgM S 0 = (Z32L, S, c)) := by show _ = _; unfold dgM; rw [hv, if_neg (by simp), if_pos hn]
      have hnb : (c != 0) = true := by simpa using hn
      have HV := Lib.hid hv; clear hv
      go_enter Tryz.func72, Tryz.ntmps72
      go_upto_region 2 with (first | refine alloc32 rfl rfl ?_)
      obtain ⟨W, hW⟩ : ∃ W, (w.alloc (.cells Z32 33)).alloc (.cells Z32 33) = W := ⟨_, rfl⟩
      have hg : Gr w W := by rw [← hW]; exact ((Gr.rfl' _).al _).al _
      have h0 : W.heap[w.heap.size]? = some (.cells Z32 33 (0, 0)) := by
        rw [← hW]; exact (Below.heap_alloc _ _ _ (by simp)).trans (World.alloc_heap_new _ _)
      have h1 : W.heap[w.heap.size + 1]? = some (.cells Z32 33 (0, 0)) := by
        have := World.alloc_heap_new (w.alloc (.cells Z32 33)) (.cells Z32 33)
        rw [World.size_alloc] at this
        rw [← hW]; exact this
      rw [hW]
      clear hW
      replace HH := Lib.hid (HH.out.gr hg)
      go_wp2_with fail
      refine (Err_any b S 0 _ HH.out).mono ?_
      rintro r w1 ⟨rfl, rfl⟩
      have c0 := HH.out.cell0
      go_wp2_with fail
      refine (Digest1_any S _).mono ?_
      rintro r w2 ⟨rfl, hg2⟩
      rw [HV.out]
      have h0' : (w2.alloc (.cells (digC D) 33)).heap[w.heap.size]? = some (.cells Z32 33 (0, 0)) := (((Gr.rfl' w2).al _).block _ (by have := hg2.size; have := (Array.getElem?_eq_some_iff.1 h0).1; omega)).trans ((hg2.block _ (Array.getElem?_eq_some_iff.1 h0).1).trans h0)
      have h6 : (w2.alloc (.cells (digC D) 33)).heap[w.heap.size + 1]? = some (.cells Z32 33 (0, 0)) := (((Gr.rfl' w2).al _).block _ (by have := hg2.size; have := (Array.getElem?_eq_some_iff.1 h1).1; omega)).trans ((hg2.block _ (Array.getElem?_eq_some_iff.1 h1).1).trans h1)
      have hHH := Lib.hid ((HH.out.gr hg2).gr ((Gr.rfl' w2).al (.cells (digC D) 33)))
      have hgA : Gr w (w2.alloc (.cells (digC D) 33)) := (hg.tr hg2).al _
      go_upto_region 5 with (first | refine alloc32 rfl rfl ?_ | refine store32 D hD rfl _ _ rfl rfl rfl rfl ?_)
      obtain ⟨W2, hW2⟩ : ∃ W2, w2.alloc (.cells (digC D) 33) = W2 := ⟨_, rfl⟩
      rw [hW2] at h0' h6 hHH hgA
      rw [hW2]
      clear hW2 h0 h1 hg2 c0 HH hg
      have c1 := hHH.out.cell1
      have f1 := hHH.out.frz 1
      have h0'' : (W2.setCell ⟨b, 1, none⟩ (.int .i64 c)).heap[w.heap.size]? = some (.cells Z32 33 (0, 0)) := (Below.heap_setCell _ _ _ _ (by show w.heap.size ≠ b; omega)).trans h0'
      have h6'' : (W2.setCell ⟨b, 1, none⟩ (.int .i64 c)).heap[w.heap.size + 1]? = some (.cells Z32 33 (0, 0)) := (Below.heap_setCell _ _ _ _ (by show w.heap.size + 1 ≠ b; omega)).trans h6
      go_wp2_with (first
        | refine wpList_load_row rfl 33 _ rfl (w.heap.size + 1) rfl 33 Z32 (0, 0) _ h6'' Tryz.underlying33 rfl (by rw [Z32_size]; exact sizeDig) ?_
        | refine wpList_store_row rfl 33 _ _ rfl w.heap.size Z32 rfl rfl 33 Z32 h0'' (by rw [Z32_size]; exact sizeDig) rfl (digC_one _) ?_)
      rw [setRow_self _ _ Z32 _ _ h0'']
      have hL := load32 _ w.heap.size Z32L Z32L_len h0''
      refine bodyPost_ret (v := .agg (digC Z32L)) ?_ rfl ?_
      · simp [results, Tryz.results72, Act.put, asA, hL]
      · rw [hX.out]
        exact ⟨rfl, hHH.out.set1, (Rm.of hgA).setCell _ _⟩
  · have hX : Hid (dgM S e = (Z32L, S, e)) := by show _ = _; unfold dgM; rw [if_pos he]
    have heb : (e != 0) = true := by simpa using he
    go_enter Tryz.func72, Tryz.ntmps72
    go_upto_region 2 with (first | refine alloc32 rfl rfl ?_)
    obtain ⟨W, hW⟩ : ∃ W, (w.alloc (.cells Z32 33)).alloc (.cells Z32 33) = W := ⟨_, rfl⟩
    have hg : Gr w W := by rw [← hW]; exact ((Gr.rfl' _).al _).al _
    have h0 : W.heap[w.heap.size]? = some (.cells Z32 33 (0, 0)) := by
      rw [← hW]; exact (Below.heap_alloc _ _ _ (by simp)).trans (World.alloc_heap_new _ _)
    have h1 : W.heap[w.heap.size + 1]? = some (.cells Z32 33 (0, 0)) := by
      have := World.alloc_heap_new (w.alloc (.cells Z32 33)) (.cells Z32 33)
      rw [World.size_alloc] at this
      rw [← hW]; exact this
    rw [hW]
    clear hW
    replace HH := Lib.hid (HH.out.gr hg)
    go_wp2_with fail
    refine (Err_any b S e _ HH.out).mono ?_
    rintro r w1 ⟨rfl, rfl⟩
    go_wp2_with (first
      | refine wpList_load_row rfl 33 _ rfl (w.heap.size + 1) rfl 33 Z32 (0, 0) _ h1 Tryz.underlying33 rfl (by rw [Z32_size]; exact sizeDig) ?_
      | refine wpList_store_row rfl 33 _ _ rfl w.heap.size Z32 rfl rfl 33 Z32 h0 (by rw [Z32_size]; exact sizeDig) rfl (digC_one _) ?_)
    rw [setRow_self _ _ Z32 _ _ h0]
    have hL := load32 _ w.heap.size Z32L Z32L_len h0
    refine bodyPost_ret (v := .agg (digC Z32L)) ?_ rfl ?_
    · simp [results, Tryz.results72, Act.put, asA, hL]
    · rw [hX.out]
      exact ⟨rfl, HH.out, Rm.of hg⟩

set_option maxRecDepth 100000 in
theorem dDigest_any (b : Nat) (S : ByteArray) (e : Int) (w : World) (h : Sr 109 b S e w) (hS : S.size ≤ 9223372036854775807) :
    Calls Tryz.prog 31 #[.pointer (some ⟨b, 0, none⟩)] w fun r w' =>
      r = .returned (.agg (digC (dgM S e).1)) ∧ Sr 109 b (dgM S e).2.1 (dgM S e).2.2 w' ∧ Rm b w w' := by
  have hbl := h.lt
  have HH := Lib.hid (h.gr ((Gr.rfl' w).al (.cells Z32 33))); clear h
  have hD := dgM_len S e
  go_enter Tryz.func31, Tryz.ntmps31
  go_wp2_with (first | refine alloc32 rfl rfl ?_)
  refine (takeD_any b S e _ HH.out hS).mono ?_
  rintro r w1 ⟨rfl, hs1, m1⟩
  have h0 : w1.heap[w.heap.size]? = some (.cells Z32 33 (0, 0)) := (m1.keep _ (by simp) (by omega)).trans (World.alloc_heap_new _ _)
  go_wp2_with (first
    | refine wpList_store_row rfl 33 _ _ rfl w.heap.size (digC (dgM S e).1) rfl rfl 33 Z32 h0 (by rw [digC_size, hD]; exact sizeDig) (by rw [Z32_size, digC_size, hD]) (digC_one _) ?_)
  have h2 := setRow_heap _ w.heap.size Z32 (digC (dgM S e).1) _ _ h0
  have hL := load32 _ w.heap.size _ hD h2
  refine bodyPost_ret (v := .agg (digC (dgM S e).1)) ?_ rfl ?_
  · simp [results, Tryz.results31, Act.put, asA, hL]
  · exact ⟨rfl, hs1.setRow (by omega) _, ((Rm.of ((Gr.rfl' w).al _)).trans m1).setRow (Nat.le_refl _) _⟩
end Go.Proofs.YtfobnemocodomaaGreat
set_option linter.unusedVariables false
set_option linter.unusedSimpArgs false
set_option maxHeartbeats 400000
namespace Go.Proofs.YtfobnemocodomaaGreat
open Go.RowKit Go.Shelf Go.Great

theorem rTake_abc (S : ByteArray) (hS : S.size ≤ 9223372036854775807) {a b c : Int} (hv : takeV S = (a, b, c)) (w : World) : Calls Tryz.prog 78 #[.string S] w fun r w' => r = .returned (.tuple #[.int .i64 a, .int .i64 b, .int .i64 c]) ∧ w' = w := by
  refine (refTake_any S hS w).mono ?_
  rintro r w' ⟨rfl, rfl⟩
  exact ⟨takeE_of hv, rfl⟩

set_option maxRecDepth 100000 in
theorem sNumber_any (b : Nat) (S : ByteArray) (e m : Int) (w : World) (h : Sr 66 b S e w) (hS : S.size ≤ 9223372036854775807) :
    Calls Tryz.prog 38 #[.pointer (some ⟨b, 0, none⟩), .int .i64 m] w fun r w' =>
      r = .returned (.int .i64 (numM m S e).1) ∧ Sr 66 b (numM m S e).2.1 (numM m S e).2.2 w' ∧ Rm b w w' := by
  have c0 := h.cell0
  have c1 := h.cell1
  have f0 := h.frz 0
  have f1 := h.frz 1
  have HH := Lib.hid h; clear h
  by_cases he : e = 0
  · subst he
    obtain ⟨a, k, c, hv⟩ : ∃ a k c, takeV S = (a, k, c) := ⟨_, _, _, rfl⟩
    by_cases hc : c = 0
    · subst hc
      obtain ⟨ha0, ha1, hk0, hk5, hks⟩ := takeV_ok hv
      obtain ⟨j, rfl⟩ : ∃ j : Nat, k = j := ⟨k.toNat, by omega⟩
      by_cases hm : m < a
      · have hX : Hid (numM m S 0 = (0, S, 2)) := by show _ = _; unfold numM; rw [hv, if_neg (by simp), if_pos (by simp [numE, hm])]; simp [numE, hm]
        have HV := Lib.hid hv; clear hv
        go_enter Tryz.func38, Tryz.ntmps38
        go_wp2_with fail
        refine (rTake_abc S hS HV.out _).mono ?_
        rintro r w1 ⟨rfl, rfl⟩
        go_wp2
        go_ret
        rw [hX.out]
        exact ⟨rfl, HH.out.set1, (Rm.refl _ _).setCell _ _⟩
      · have hX : Hid (numM m S 0 = (a, cutB S j, 0)) := by show _ = _; unfold numM; rw [hv, if_neg (by simp), if_neg (by simp [numE, hm])]; simp
        have hmb : decide (m < a) = false := decide_eq_false hm
        have HV := Lib.hid hv; clear hv hm
        go_enter Tryz.func38, Tryz.ntmps38
        go_wp2_with fail
        refine (rTake_abc S hS HV.out _).mono ?_
        rintro r w1 ⟨rfl, rfl⟩
        go_wp2
        go_ret
        rw [hX.out]
        exact ⟨rfl, HH.out.set0, (Rm.refl _ _).setCell _ _⟩
    · have hX : Hid (numM m S 0 = (0, S, c)) := by show _ = _; unfold numM; rw [hv, if_neg (by simp), if_pos (by simp [numE, hc])]; simp [numE, hc]
      have hcb : (c == 0) = false := by simpa using hc
      have hcb2 : (c != 0) = true := by simpa using hc
      have HV := Lib.hid hv; clear hv
      go_enter Tryz.func38, Tryz.ntmps38
      go_wp2_with fail
      refine (rTake_abc S hS HV.out _).mono ?_
      rintro r w1 ⟨rfl, rfl⟩
      go_wp2
      go_ret
      rw [hX.out]
      exact ⟨rfl, HH.out.set1, (Rm.refl _ _).setCell _ _⟩
  · have hX : Hid (numM m S e = (0, S, e)) := by show _ = _; unfold numM; rw [if_pos he]
    have heb : (e != 0) = true := by simpa using he
    go_enter Tryz.func38, Tryz.ntmps38
    go_wp2
    go_ret
    rw [hX.out]
    exact ⟨rfl, HH.out, Rm.refl _ _⟩

theorem numM_bd (m : Int) (S : ByteArray) : 0 ≤ (numM m S 0).1 ∧ (numM m S 0).1 ≤ 1073741824 ∧ (numM m S 0).2.1.size ≤ S.size := by
  unfold numM
  rw [if_neg (by simp)]
  split
  · simp
  · rename_i h1
    obtain ⟨a, k, c, hv⟩ : ∃ a k c, takeV S = (a, k, c) := ⟨_, _, _, rfl⟩
    rw [hv] at h1 ⊢
    simp only [ne_eq, Decidable.not_not] at h1
    have hc0 : c = 0 := by
      unfold numE at h1
      split at h1 <;> omega
    subst hc0
    obtain ⟨ha0, ha1, hk0, hk5, hks⟩ := takeV_ok hv
    refine ⟨ha0, ha1, ?_⟩
    simp only [cutB, ByteArray.size_extract]
    omega
/-- how the text's piece hangs on the number's -/
theorem txtM_of (m : Int) (S : ByteArray) : txtM m S 0 =
    if (numM m S 0).2.2 ≠ 0 then (⟨#[]⟩, S, (numM m S 0).2.2)
    else if ((numM m S 0).2.1.size : Int) < (numM m S 0).1 then (⟨#[]⟩, S, 5)
    else ((numM m S 0).2.1.extract 0 (numM m S 0).1.toNat, (numM m S 0).2.1.extract (numM m S 0).1.toNat (numM m S 0).2.1.size, 0) := by
  obtain ⟨a, k, c, hv⟩ : ∃ a k c, takeV S = (a, k, c) := ⟨_, _, _, rfl⟩
  by_cases hn : numE m a c = 0
  · have hc0 : c = 0 := by
      unfold numE at hn
      split at hn <;> omega
    subst hc0
    obtain ⟨ha0, ha1, hk0, hk5, hks⟩ := takeV_ok hv
    obtain ⟨j, rfl⟩ : ∃ j : Nat, k = j := ⟨k.toNat, by omega⟩
    obtain ⟨n, rfl⟩ : ∃ n : Nat, a = n := ⟨a.toNat, by omega⟩
    have h1 : numM m S 0 = ((n : Int), cutB S j, 0) := by unfold numM; rw [hv, if_neg (by simp), if_neg (by simp [hn])]; simp
    rw [h1]
    have hsz : (cutB S j).size = S.size - j := by simp [cutB, ByteArray.size_extract]
    simp only [hsz, ne_eq, not_true_eq_false, if_false]
    by_cases hl : (S.size : Int) - j < n
    · have hP : txtP m S = (⟨#[]⟩, 0, 5) := by unfold txtP; rw [hv, if_neg (by simp [hn]), if_pos hl]
      unfold txtM
      rw [hP, if_neg (by simp), if_pos (by simp), if_pos (by omega)]
    · have hP : txtP m S = (S.extract j (j + n), j + n, 0) := by
        unfold txtP
        rw [hv, if_neg (by simp [hn]), if_neg hl]
        simp only [Int.toNat_natCast]
        rw [show ((j : Int) + n).toNat = j + n by omega]
      unfold txtM
      rw [hP, if_neg (by simp), if_neg (by simp), if_neg (by omega)]
      simp only [Int.toNat_natCast, cutB, ByteArray.extract_extract]
      have e1 : min (j + n) S.size = j + n := by omega
      have e2 : min (j + (S.size - j)) S.size = S.size := by omega
      simp [e1, e2]
  · have h1 : numM m S 0 = (0, S, numE m a c) := by unfold numM; rw [hv, if_neg (by simp), if_pos hn]
    have hP : txtP m S = (⟨#[]⟩, 0, numE m a c) := by unfold txtP; rw [hv, if_pos hn]
    rw [h1]
    unfold txtM
    rw [hP, if_neg (by simp), if_pos hn, if_pos hn]

set_option maxRecDepth 100000 in
theorem sText_any (b : Nat) (m : Int) (S : ByteArray) (e : Int) (w : World) (h : Sr 66 b S e w) (hS : S.size ≤ 9223372036854775807) :
    Calls Tryz.prog 39 #[.pointer (some ⟨b, 0, none⟩), .int .i64 m] w fun r w' =>
      r = .returned (.string (txtM m S e).1) ∧ Sr 66 b (txtM m S e).2.1 (txtM m S e).2.2 w' ∧ Rm b w w' := by
  have c0 := h.cell0
  have HH := Lib.hid h; clear h
  by_cases he : e = 0
  · subst he
    have hT := txtM_of m S
    obtain ⟨hb0, hb1, hb2⟩ := numM_bd m S
    obtain ⟨n, T, c, hv⟩ : ∃ n T c, numM m S 0 = (n, T, c) := ⟨_, _, _, rfl⟩
    rw [hv] at hT hb0 hb1 hb2
    simp only at hT hb0 hb1 hb2
    obtain ⟨n, rfl⟩ : ∃ j : Nat, n = j := ⟨n.toNat, by omega⟩
    by_cases hc : c = 0
    · subst hc
      by_cases hl : (T.size : Int) < n
      · have hX : Hid (txtM m S 0 = (⟨#[]⟩, S, 5)) := by show _ = _; rw [hT, if_neg (by simp), if_pos hl]
        have HV := Lib.hid hv; clear hv hT
        go_enter Tryz.func39, Tryz.ntmps39
        go_wp2_with fail
        refine (sNumber_any b S 0 m _ HH.out hS).mono ?_
        rintro r w1 ⟨rfl, h1, m1⟩
        rw [HV.out] at h1 ⊢
        have c0 := h1.cell0
        have c1 := h1.cell1
        have f0 := h1.frz 0
        have f1 := h1.frz 1
        have H1 := Lib.hid h1; clear h1
        go_wp2
        go_ret
        rw [hX.out]
        exact ⟨rfl, H1.out.set0.set1, (m1.setCell _ _).setCell _ _⟩
      · have hX : Hid (txtM m S 0 = (T.extract 0 n, T.extract n T.size, 0)) := by show _ = _; rw [hT, if_neg (by simp), if_neg hl]; simp
        have hlb : decide ((T.size : Int) < n) = false := decide_eq_false hl
        have hli : (n : Int) ≤ T.size := by omega
        have HV := Lib.hid hv; clear hv hT hl
        go_enter Tryz.func39, Tryz.ntmps39
        go_wp2_with fail
        refine (sNumber_any b S 0 m _ HH.out hS).mono ?_
        rintro r w1 ⟨rfl, h1, m1⟩
        rw [HV.out] at h1 ⊢
        have c0 := h1.cell0
        have c1 := h1.cell1
        have f0 := h1.frz 0
        have f1 := h1.frz 1
        have H1 := Lib.hid h1; clear h1
        go_wp2
        go_ret
        rw [hX.out]
        exact ⟨rfl, H1.out.set0, m1.setCell _ _⟩
    · have hX : Hid (txtM m S 0 = (⟨#[]⟩, S, c)) := by show _ = _; rw [hT, if_pos hc]
      have hTS : T = S := by
        have h := hv
        unfold numM at h
        rw [if_neg (by simp)] at h
        split at h
        · simp only [Prod.mk.injEq] at h; exact h.2.1.symm
        · simp only [Prod.mk.injEq] at h; exact absurd h.2.2.symm hc
      subst hTS
      have hcb2 : (c != 0) = true := by simpa using hc
      have HV := Lib.hid hv; clear hv hT
      go_enter Tryz.func39, Tryz.ntmps39
      go_wp2_with fail
      refine (sNumber_any b T 0 m _ HH.out hS).mono ?_
      rintro r w1 ⟨rfl, h1, m1⟩
      rw [HV.out] at h1 ⊢
      have c1 := h1.cell1
      have H1 := Lib.hid h1; clear h1
      go_wp2
      go_ret
      rw [hX.out]
      exact ⟨rfl, H1.out, m1⟩
  · have hX : Hid (txtM m S e = (⟨#[]⟩, S, e)) := by show _ = _; unfold txtM; rw [if_pos he]
    have hN : Hid (numM m S e = (0, S, e)) := by show _ = _; unfold numM; rw [if_pos he]
    have heb : (e != 0) = true := by simpa using he
    go_enter Tryz.func39, Tryz.ntmps39
    go_wp2_with fail
    refine (sNumber_any b S e m _ HH.out hS).mono ?_
    rintro r w1 ⟨rfl, h1, m1⟩
    rw [hN.out] at h1 ⊢
    have c1 := h1.cell1
    have H1 := Lib.hid h1; clear h1
    go_wp2
    go_ret
    rw [hX.out]
    exact ⟨rfl, H1.out, m1⟩
end Go.Proofs.YtfobnemocodomaaGreat
set_option linter.unusedVariables false
set_option linter.unusedSimpArgs false
set_option maxHeartbeats 400000
namespace Go.Proofs.YtfobnemocodomaaGreat
open Go.RowKit Go.Shelf Go.Great

set_option maxRecDepth 100000 in
theorem sFail_any (b : Nat) (S : ByteArray) (e : Int) (f : Int) (w : World) (h : Sr 66 b S e w) :
    Calls Tryz.prog 46 #[.pointer (some ⟨b, 0, none⟩), .int .i64 f] w fun r w' => r = .returned (.tuple #[]) ∧ Sr 66 b S (sfail f e) w' ∧ Rm b w w' := by
  have c1 := h.cell1
  have f1 := h.frz 1
  have HH := Lib.hid h; clear h
  by_cases he : e = 0
  · subst he
    go_enter Tryz.func46, Tryz.ntmps46
    go_wp2
    go_end0
    exact ⟨rfl, HH.out.set1, (Rm.refl _ _).setCell _ _⟩
  · have heb : (e == 0) = false := by simpa using he
    have hX : Hid (sfail f e = e) := by show _ = _; simp [sfail, he]
    go_enter Tryz.func46, Tryz.ntmps46
    go_wp2
    go_end0
    rw [hX.out]
    exact ⟨rfl, HH.out, Rm.refl _ _⟩
set_option maxRecDepth 100000 in
theorem sDone_any (b : Nat) (S : ByteArray) (e : Int) (w : World) (h : Sr 66 b S e w) : Calls Tryz.prog 41 #[.pointer (some ⟨b, 0, none⟩)] w fun r w' => r = .returned (.int .i64 (rdDone S e)) ∧ w' = w := by
  have c0 := h.cell0
  have c1 := h.cell1
  clear h
  by_cases he : e = 0
  · subst he
    by_cases hs : S.size = 0
    · have hX : Hid (rdDone S 0 = 0) := by show _ = _; simp [rdDone, hs]
      have hb : S.toList.isEmpty = true := by rw [isE_size]; exact decide_eq_true hs
      clear hs
      go_enter Tryz.func41, Tryz.ntmps41
      go_wp2
      go_ret
      exact ⟨ret_int hX.out.symm, rfl⟩
    · have hX : Hid (rdDone S 0 = 6) := by show _ = _; unfold rdDone; rw [if_neg (by simp), if_neg hs]
      have hb : S.toList.isEmpty = false := by rw [isE_size]; exact decide_eq_false hs
      clear hs
      go_enter Tryz.func41, Tryz.ntmps41
      go_wp2
      go_ret
      exact ⟨ret_int hX.out.symm, rfl⟩
  · have hX : Hid (rdDone S e = e) := by show _ = _; simp [rdDone, he]
    have heb : (e == 0) = false := by simpa using he
    go_enter Tryz.func41, Tryz.ntmps41
    go_wp2
    go_ret
    exact ⟨ret_int hX.out.symm, rfl⟩

theorem flgM_of (S : ByteArray) : flgM S 0 = if S.size = 0 then (false, S, 5) else if 1 < byt S 0 then (false, S, 7) else (decide (byt S 0 = 1), cutB S 1, 0) := by
  unfold flgM flgP
  rw [if_neg (by simp)]
  by_cases h0 : S.size = 0
  · rw [if_pos h0, if_pos h0, if_pos (by simp)]
  · rw [if_neg h0, if_neg h0]
    by_cases h1 : 1 < byt S 0
    · rw [if_pos h1, if_pos h1, if_pos (by simp)]
    · rw [if_neg h1, if_neg h1, if_neg (by simp)]

set_option maxRecDepth 100000 in
theorem sFlag_any (b : Nat) (S : ByteArray) (e : Int) (w : World) (h : Sr 66 b S e w) (hS : S.size ≤ 9223372036854775807) :
    Calls Tryz.prog 48 #[.pointer (some ⟨b, 0, none⟩)] w fun r w' =>
      r = .returned (.bool (flgM S e).1) ∧ Sr 66 b (flgM S e).2.1 (flgM S e).2.2 w' ∧ Rm b w w' := by
  have c0 := h.cell0
  have c1 := h.cell1
  have f0 := h.frz 0
  have f1 := h.frz 1
  have HH := Lib.hid h; clear h
  by_cases he : e = 0
  · subst he
    have hF := flgM_of S
    by_cases h0 : S.size = 0
    · have hb : S.toList.isEmpty = true := by rw [isE_size]; exact decide_eq_true h0
      have hX : Hid (flgM S 0 = (false, S, 5)) := by show _ = _; rw [hF, if_pos h0]
      clear h0 hF
      go_enter Tryz.func48, Tryz.ntmps48
      go_wp2
      go_ret
      rw [hX.out]
      exact ⟨rfl, HH.out.set1, (Rm.refl _ _).setCell _ _⟩
    · have hb : S.toList.isEmpty = false := by rw [isE_size]; exact decide_eq_false h0
      have hs : 0 < S.size := by omega
      have hsi : (0 : Int) < S.size := by omega
      have hsi2 : (1 : Int) ≤ S.size := by omega
      have hB := byt_at hs
      by_cases h1 : 1 < byt S 0
      · have hX : Hid (flgM S 0 = (false, S, 7)) := by show _ = _; rw [hF, if_neg h0, if_pos h1]
        rw [hB] at h1
        clear h0 hB hF
        go_enter Tryz.func48, Tryz.ntmps48
        go_wp2
        go_ret
        rw [hX.out]
        exact ⟨rfl, HH.out.set1, (Rm.refl _ _).setCell _ _⟩
      · have hX : Hid (flgM S 0 = (decide (byt S 0 = 1), cutB S 1, 0)) := by show _ = _; rw [hF, if_neg h0, if_neg h1]
        have HB := Lib.hid hB
        rw [hB] at h1
        have h1b : ¬ 1 < ((S[0]'hs).toNat : Int) := h1
        clear h0 hB hF
        go_enter Tryz.func48, Tryz.ntmps48
        go_wp2
        go_ret
        rw [hX.out, HB.out]
        exact ⟨rfl, HH.out.set0, (Rm.refl _ _).setCell _ _⟩
  · have hX : Hid (flgM S e = (false, S, e)) := by show _ = _; unfold flgM; rw [if_pos he]
    have heb : (e == 0) = false := by simpa using he
    have heb2 : (e != 0) = true := by simpa using he
    go_enter Tryz.func48, Tryz.ntmps48
    go_wp2
    go_ret
    rw [hX.out]
    exact ⟨rfl, HH.out, Rm.refl _ _⟩

/-- the first k of the array have come over -/
def Arr8 (W : World) (g : Nat) (S : ByteArray) (k : Nat) : Prop := ∃ cs : Array Value, W.heap[g]? = some (.cells cs 33 (0, 0)) ∧ cs.size = 32 ∧ ∀ j, j < 32 → cs[j]? = some (.int .u8 (if j < k then byt S j else 0))
theorem Arr8.lt {W : World} {g : Nat} {S : ByteArray} {k : Nat} (h : Arr8 W g S k) : g < W.heap.size := by
  obtain ⟨cs, h, _⟩ := h
  exact (Array.getElem?_eq_some_iff.1 h).1
theorem Arr8.set {W : World} {g : Nat} {S : ByteArray} {k : Nat} (h : Arr8 W g S k) (hk : k < 32) {x : Int} (hx : byt S k = x) : Arr8 (W.setCell ⟨g, k, none⟩ (.int .u8 x)) g S (k + 1) := by
  obtain ⟨cs, h1, h2, h3⟩ := h
  refine ⟨_, heap_set_sameW h1 _, by simpa using h2, fun j hj => ?_⟩
  rw [Array.getElem?_setIfInBounds]
  by_cases e : k = j
  · subst e; rw [if_pos rfl, if_pos (by omega), if_pos (by omega), hx]
  · rw [if_neg e, h3 j hj]
    by_cases c : j < k
    · rw [if_pos c, if_pos (by omega)]
    · rw [if_neg c, if_neg (by omega)]
theorem Arr8.facts {W : World} {g : Nat} {S : ByteArray} {k j : Nat} (h : Arr8 W g S k) (hj : j < 32) : (∃ v, W.cell? ⟨g, j, none⟩ = some v) ∧ W.frozen? ⟨g, j, none⟩ = false := by
  obtain ⟨cs, h1, h2, h3⟩ := h
  exact ⟨⟨_, by simp only [World.cell?, h1]; exact h3 j hj⟩, by simp [World.frozen?, h1]⟩
theorem Arr8.start (w : World) (S : ByteArray) : Arr8 (w.alloc (.cells Z32 33)) w.heap.size S 0 :=
  ⟨Z32, World.alloc_heap_new w _, Z32_size, fun j hj => by
    have hj' : j < Z32L.length := by rw [Z32L_len]; exact hj
    have := digC_at Z32L j hj'
    have e : Z32L[j] = 0 := List.getElem_replicate ..
    rw [show Z32 = digC Z32L from rfl, this, e]
    rfl⟩
theorem Arr8.done {W : World} {g : Nat} {S : ByteArray} (h : Arr8 W g S 32) (h32 : 32 ≤ S.size) : W.heap[g]? = some (.cells (digC (S.data.toList.take 32)) 33 (0, 0)) := by
  obtain ⟨cs, h1, h2, h3⟩ := h
  have : cs = digC (S.data.toList.take 32) := by
    apply Array.ext_getElem?
    intro j
    by_cases hj : j < 32
    · have hl : j < (S.data.toList.take 32).length := by rw [List.length_take, ← Lib.size_eq]; omega
      rw [h3 j hj, if_pos hj, digC_at _ j hl, byt_at (by omega)]
      simp only [List.getElem_take, Array.getElem_toList]
      rfl
    · rw [Array.getElem?_eq_none (by omega), Array.getElem?_eq_none (by rw [digC_size, List.length_take, ← Lib.size_eq]; omega)]
  rw [h1, this]

set_option maxRecDepth 100000 in
set_option maxHeartbeats 1000000 in
theorem sDigest_any (b : Nat) (S : ByteArray) (e : Int) (w : World) (h : Sr 66 b S e w) (hS : S.size ≤ 9223372036854775807) :
    Calls Tryz.prog 40 #[.pointer (some ⟨b, 0, none⟩)] w fun r w' =>
      r = .returned (.agg (digC (dgM S e).1)) ∧ Sr 66 b (dgM S e).2.1 (dgM S e).2.2 w' ∧ Rm b w w' := by
  have hbl := h.lt
  have HH0 := Lib.hid h; clear h
  by_cases he : e = 0
  · subst he
    by_cases hs : S.size < 32
    · have hX : Hid (dgM S 0 = (Z32L, S, 5)) := by show _ = _; unfold dgM digP; rw [if_neg (by simp), if_pos hs, if_pos (by simp)]
      have hsi : (S.size : Int) < 32 := by omega
      go_enter Tryz.func40, Tryz.ntmps40
      go_upto_region 2 with (first | refine alloc32 rfl rfl ?_ | refine build32 rfl rfl ?_ | refine store32 Z32L Z32L_len rfl _ _ rfl rfl rfl rfl ?_)
      obtain ⟨W, hW⟩ : ∃ W, (w.alloc (.cells Z32 33)).alloc (.cells Z32 33) = W := ⟨_, rfl⟩
      have hg : Gr w W := by rw [← hW]; exact ((Gr.rfl' _).al _).al _
      have h0 : W.heap[w.heap.size]? = some (.cells Z32 33 (0, 0)) := by
        rw [← hW]; exact (Below.heap_alloc _ _ _ (by simp)).trans (World.alloc_heap_new _ _)
      have h1 : W.heap[w.heap.size + 1]? = some (.cells Z32 33 (0, 0)) := by
        have := World.alloc_heap_new (w.alloc (.cells Z32 33)) (.cells Z32 33)
        rw [World.size_alloc] at this
        rw [← hW]; exact this
      have hW' : (w.alloc (.cells Z32 33)).alloc (.cells (digC Z32L) 33) = W := hW
      rw [hW']
      clear hW hW'
      have HH := Lib.hid (HH0.out.gr hg)
      have c0 := HH.out.cell0
      have c1 := HH.out.cell1
      have f1 := HH.out.frz 1
      have h0'' : (W.setCell ⟨b, 1, none⟩ (.int .i64 5)).heap[w.heap.size]? = some (.cells Z32 33 (0, 0)) := (Below.heap_setCell _ _ _ _ (by show w.heap.size ≠ b; omega)).trans h0
      have h6'' : (W.setCell ⟨b, 1, none⟩ (.int .i64 5)).heap[w.heap.size + 1]? = some (.cells Z32 33 (0, 0)) := (Below.heap_setCell _ _ _ _ (by show w.heap.size + 1 ≠ b; omega)).trans h1
      go_wp2_with (first
        | refine wpList_load_row rfl 33 _ rfl (w.heap.size + 1) rfl 33 Z32 (0, 0) _ h6'' Tryz.underlying33 rfl (by rw [Z32_size]; exact sizeDig) ?_
        | refine wpList_store_row rfl 33 _ _ rfl w.heap.size Z32 rfl rfl 33 Z32 h0'' (by rw [Z32_size]; exact sizeDig) rfl (digC_one _) ?_)
      rw [setRow_self _ _ Z32 _ _ h0'']
      have hL := load32 _ w.heap.size Z32L Z32L_len h0''
      refine bodyPost_ret (v := .agg (digC Z32L)) ?_ rfl ?_
      · simp [results, Tryz.results40, Act.put, asA, hL]
      · rw [hX.out]
        exact ⟨rfl, HH.out.set1, (Rm.of hg).setCell _ _⟩
    · have h32 : 32 ≤ S.size := by omega
      have hl : (S.data.toList.take 32).length = 32 := by rw [List.length_take, ← Lib.size_eq]; omega
      have hX : Hid (dgM S 0 = (S.data.toList.take 32, cutB S 32, 0)) := by show _ = _; unfold dgM digP; rw [if_neg (by simp), if_neg hs, if_neg (by simp)]
      have hsi : decide ((S.size : Int) < 32) = false := decide_eq_false (by omega)
      clear hs
      go_enter Tryz.func40, Tryz.ntmps40
      have hA0 := Arr8.start (w.alloc (.cells Z32 33)) S
      rw [World.size_alloc] at hA0
      go_upto_region 2 with (first | refine alloc32 rfl rfl ?_ | refine build32 rfl rfl ?_ | refine store32 Z32L Z32L_len rfl _ _ rfl rfl rfl rfl ?_)
      obtain ⟨W, hW⟩ : ∃ W, (w.alloc (.cells Z32 33)).alloc (.cells Z32 33) = W := ⟨_, rfl⟩
      have hg : Gr w W := by rw [← hW]; exact ((Gr.rfl' _).al _).al _
      have h0 : W.heap[w.heap.size]? = some (.cells Z32 33 (0, 0)) := by
        rw [← hW]; exact (Below.heap_alloc _ _ _ (by simp)).trans (World.alloc_heap_new _ _)
      rw [hW] at hA0
      have hW' : (w.alloc (.cells Z32 33)).alloc (.cells (digC Z32L) 33) = W := hW
      rw [hW']
      clear hW hW'
      have HA0 := Lib.hid hA0; clear hA0
      have HG := Lib.hid hg
      have H0 := Lib.hid h0
      have HH := Lib.hid (HH0.out.gr hg)
      have c0 := HH.out.cell0
      have c1 := HH.out.cell1
      clear hg h0
      go_wp2
      clear c0 c1 HH
      go_loopw [4] (fun i wr => ∃ k : Nat, k ≤ 32 ∧ i = .int .i64 k ∧ Hid (Arr8 wr (w.heap.size + 1) S k) ∧ Hid (wr.heap[w.heap.size]? = some (.cells Z32 33 (0, 0))) ∧ Hid (Gr w wr)) (fun i _ => 32 - (intOf i).toNat)
      case atStart => exact ⟨0, by omega, rfl, HA0, H0, HG⟩
      case round =>
        clear HA0 H0 HG
        obtain ⟨k, hk, rfl, hA, h0, hG⟩ := hrel
        have HH := HH0.out.gr hG.out
        have c0 := HH.cell0
        have HHs := Lib.hid HH; clear HH
        by_cases hk32 : k < 32
        · have hki : (k : Int) < 32 := by omega
          have hks : k < S.size := by omega
          have hksi : (k : Int) < S.size := by omega
          obtain ⟨⟨v, hv⟩, hfz⟩ := hA.out.facts hk32
          have hst := Lib.hid (hA.out.set hk32 (byt_at hks))
          go_wp2
          go_roundw
          case rel => exact ⟨k + 1, by omega, by go_num, hst, Lib.hid ((Below.heap_setCell _ _ _ _ (by show w.heap.size ≠ w.heap.size + 1; omega)).trans h0.out), Lib.hid (hG.out.set (by show w.heap.size ≤ w.heap.size + 1; omega) _)⟩
          case measure => simp [intOf]; omega
        · have hk2 : k = 32 := by omega
          subst hk2
          have h6 := hA.out.done h32
          have f0 := HHs.out.frz 0
          have h32i : (32 : Int) ≤ S.size := by omega
          have h0'' : (wr.setCell ⟨b, 0, none⟩ (.string (S.extract 32 S.size))).heap[w.heap.size]? = some (.cells Z32 33 (0, 0)) := (Below.heap_setCell _ _ _ _ (by show w.heap.size ≠ b; omega)).trans h0.out
          have h6'' : (wr.setCell ⟨b, 0, none⟩ (.string (S.extract 32 S.size))).heap[w.heap.size + 1]? = some (.cells (digC (S.data.toList.take 32)) 33 (0, 0)) := (Below.heap_setCell _ _ _ _ (by show w.heap.size + 1 ≠ b; omega)).trans h6
          go_wp2_with (first
            | refine wpList_load_row rfl 33 _ rfl (w.heap.size + 1) rfl 33 (digC (S.data.toList.take 32)) (0, 0) _ h6'' Tryz.underlying33 rfl (by rw [digC_size, hl]; exact sizeDig) ?_
            | refine wpList_store_row rfl 33 _ _ rfl w.heap.size (digC (S.data.toList.take 32)) rfl rfl 33 Z32 h0'' (by rw [digC_size, hl]; exact sizeDig) (by rw [Z32_size, digC_size, hl]) (digC_one _) ?_)
          have h2 := setRow_heap _ w.heap.size Z32 (digC (S.data.toList.take 32)) _ _ h0''
          have hL := load32 _ w.heap.size _ hl h2
          refine bodyPost_ret (v := .agg (digC (S.data.toList.take 32))) ?_ rfl ?_
          · simp [results, Tryz.results40, Act.put, asA, hL]
          · rw [hX.out]
            exact ⟨rfl, (HHs.out.set0).setRow (by omega) _, ((Rm.of hG.out).setCell _ _).setRow (Nat.le_refl _) _⟩
  · have hX : Hid (dgM S e = (Z32L, S, e)) := by show _ = _; unfold dgM; rw [if_pos he]
    have heb : (e == 0) = false := by simpa using he
    have heb2 : (e != 0) = true := by simpa using he
    go_enter Tryz.func40, Tryz.ntmps40
    go_upto_region 2 with (first | refine alloc32 rfl rfl ?_ | refine build32 rfl rfl ?_ | refine store32 Z32L Z32L_len rfl _ _ rfl rfl rfl rfl ?_)
    obtain ⟨W, hW⟩ : ∃ W, (w.alloc (.cells Z32 33)).alloc (.cells Z32 33) = W := ⟨_, rfl⟩
    have hg : Gr w W := by rw [← hW]; exact ((Gr.rfl' _).al _).al _
    have h0 : W.heap[w.heap.size]? = some (.cells Z32 33 (0, 0)) := by
      rw [← hW]; exact (Below.heap_alloc _ _ _ (by simp)).trans (World.alloc_heap_new _ _)
    have h1 : W.heap[w.heap.size + 1]? = some (.cells Z32 33 (0, 0)) := by
      have := World.alloc_heap_new (w.alloc (.cells Z32 33)) (.cells Z32 33)
      rw [World.size_alloc] at this
      rw [← hW]; exact this
    have hW' : (w.alloc (.cells Z32 33)).alloc (.cells (digC Z32L) 33) = W := hW
    rw [hW']
    clear hW hW'
    have HH := Lib.hid (HH0.out.gr hg)
    have c0 := HH.out.cell0
    have c1 := HH.out.cell1
    go_wp2_with (first
      | refine wpList_load_row rfl 33 _ rfl (w.heap.size + 1) rfl 33 Z32 (0, 0) _ h1 Tryz.underlying33 rfl (by rw [Z32_size]; exact sizeDig) ?_
      | refine wpList_store_row rfl 33 _ _ rfl w.heap.size Z32 rfl rfl 33 Z32 h0 (by rw [Z32_size]; exact sizeDig) rfl (digC_one _) ?_)
    rw [setRow_self _ _ Z32 _ _ h0]
    have hL := load32 _ w.heap.size Z32L Z32L_len h0
    refine bodyPost_ret (v := .agg (digC Z32L)) ?_ rfl ?_
    · simp [results, Tryz.results40, Act.put, asA, hL]
    · rw [hX.out]
      exact ⟨rfl, HH.out, Rm.of hg⟩
end Go.Proofs.YtfobnemocodomaaGreat
set_option linter.unusedVariables false
set_option linter.unusedSimpArgs false
set_option maxHeartbeats 400000
namespace Go.Proofs.YtfobnemocodomaaGreat
open Go.RowKit Go.Shelf

theorem numFrom_grp : ∀ (f n : Nat), n ≤ f → ∀ (s : ByteArray) (i : Nat), (∀ j (h : j < (grpN n).length), byt s (i + j) = (grpN n)[j]) → numFrom s i (grpN n).length = n
  | f, n, hf, s, i, h => by
    by_cases c : 128 ≤ n
    · have hg := grpN_big c
      rw [hg] at h ⊢
      simp only [List.length_cons, numFrom]
      have h0 := h 0 (by simp)
      simp only [Nat.add_zero, List.getElem_cons_zero] at h0
      cases f with
      | zero => omega
      | succ f =>
        rw [numFrom_grp f (n / 128) (by omega) s (i + 1) (fun j hj => by
          have := h (j + 1) (by simpa using hj)
          simp only [List.getElem_cons_succ] at this
          rw [← this, show i + 1 + j = i + (j + 1) by omega]), h0]
        omega
    · have hg := grpN_small (n := n) (by omega)
      rw [hg] at h ⊢
      have h0 := h 0 (by simp)
      simp only [Nat.add_zero, List.getElem_cons_zero] at h0
      simp only [List.length_cons, List.length_nil, numFrom, h0]
      omega
theorem grp_end : ∀ (f n : Nat), n ≤ f → ∃ e, (grpN n).length = e + 1 ∧ (∀ j (h : j < (grpN n).length), j < e → 128 ≤ (grpN n)[j]) ∧ (∀ h : e < (grpN n).length, (grpN n)[e] < 128 ∧ (0 < e → (grpN n)[e] ≠ 0)) ∧ (0 < n → ∀ h : e < (grpN n).length, (grpN n)[e] ≠ 0)
  | f, n, hf => by
    by_cases c : 128 ≤ n
    · have hg := grpN_big c
      cases f with
      | zero => omega
      | succ f =>
        obtain ⟨e, h1, h2, h3, h4⟩ := grp_end f (n / 128) (by omega)
        refine ⟨e + 1, by rw [hg]; simp [h1], fun j hj hje => ?_, fun h => ?_, fun _ h => ?_⟩
        · rcases j with _ | j
          · simp only [hg, List.getElem_cons_zero]; omega
          · simp only [hg, List.getElem_cons_succ]
            exact h2 j (by rw [hg] at hj; simpa using hj) (by omega)
        · have he : e < (grpN (n / 128)).length := by omega
          have hx := h4 (by omega) he
          simp only [hg, List.getElem_cons_succ]
          exact ⟨(h3 he).1, fun _ => hx⟩
        · have he : e < (grpN (n / 128)).length := by omega
          simp only [hg, List.getElem_cons_succ]
          exact h4 (by omega) he
    · have hg := grpN_small (n := n) (by omega)
      refine ⟨0, by rw [hg]; simp, fun j hj hje => by omega, fun h => ?_, fun h0 h => ?_⟩
      · simp only [hg, List.getElem_cons_zero]; omega
      · simp only [hg, List.getElem_cons_zero]; omega

theorem putL_len (n : Nat) (h : n ≤ 1073741824) : (putS n).data.toList.length = (grpN n).length := by rw [putS_nat n h, strOfNums_data, List.length_map]
theorem byt_list (l : List UInt8) (j : Nat) (h : j < l.length) : byt ⟨l.toArray⟩ j = (l[j].toNat : Int) := by
  have hs : j < (⟨l.toArray⟩ : ByteArray).size := by rw [sizeL]; exact h
  rw [byt_at hs]
  rfl
theorem putL_byt (n : Nat) (hn : n ≤ 1073741824) (t : List UInt8) (j : Nat) (h : j < (grpN n).length) : byt ⟨((putS n).data.toList ++ t).toArray⟩ j = (grpN n)[j] := by
  have hl := putL_len n hn
  rw [byt_list _ j (by rw [List.length_append]; omega), List.getElem_append_left (by omega)]
  have hb := grpN_bd n n (Nat.le_refl _) _ (List.getElem_mem h)
  have e : (putS n).data.toList = (grpN n).map fun x => UInt8.ofNat x.toNat := by rw [putS_nat n hn]; rfl
  have e2 : (putS n).data.toList[j]'(by omega) = UInt8.ofNat ((grpN n)[j]).toNat := by
    simp only [e, List.getElem_map]
  rw [e2, UInt8.toNat_ofNat']
  omega
theorem take_put (n : Nat) (hn : n ≤ 1073741824) (t : List UInt8) : takeV ⟨((putS n).data.toList ++ t).toArray⟩ = ((n : Int), ((putS n).data.toList.length : Int), 0) := by
  obtain ⟨e, h1, h2, h3, h4⟩ := grp_end n n (Nat.le_refl _)
  have hl := putL_len n hn
  have hl5 := grpN_len5 n hn
  have hb := putL_byt n hn t
  have hsz : (⟨((putS n).data.toList ++ t).toArray⟩ : ByteArray).size = (putS n).data.toList.length + t.length := by rw [sizeL, List.length_append]
  have hE : endOf ⟨((putS n).data.toList ++ t).toArray⟩ = e := endOf_at (fun j hj => by rw [hb j (by omega)]; exact h2 j (by omega) hj) (by rw [hsz]; omega) (by omega) (by rw [hb e (by omega)]; exact (h3 (by omega)).1)
  have hN := numFrom_grp n n (Nat.le_refl _) ⟨((putS n).data.toList ++ t).toArray⟩ 0 (fun j hj => by rw [Nat.zero_add]; exact hb j hj)
  rw [h1] at hN
  unfold takeV
  rw [hE, if_neg (by omega)]
  simp only [Int.toNat_natCast]
  rw [if_neg (by rintro ⟨h5, h6⟩; rw [hb e (by omega)] at h5; exact (h3 (by omega)).2 (by omega) h5), hN, if_neg (by omega), hl, h1]
  simp

theorem cut_app (a t : List UInt8) : cutB ⟨(a ++ t).toArray⟩ a.length = ⟨t.toArray⟩ := by
  apply ByteArray.ext
  unfold cutB
  rw [sizeL, ByteArray.data_extract]
  simp
/-- a number's bytes are taken again -/
theorem num_back (n : Int) (h : numOk n = true) (t : List UInt8) : numM 1073741824 ⟨((putS n).data.toList ++ t).toArray⟩ 0 = (n, ⟨t.toArray⟩, 0) := by
  have h' : 0 ≤ n ∧ n ≤ 1073741824 := by simpa [numOk] using h
  obtain ⟨k, rfl⟩ : ∃ k : Nat, n = k := ⟨n.toNat, by omega⟩
  unfold numM
  rw [take_put k (by omega), if_neg (by simp)]
  have hE : numE 1073741824 (k : Int) 0 = 0 := by unfold numE; rw [if_neg (by omega)]
  simp only [hE, ne_eq, not_true_eq_false, if_false, Int.toNat_natCast, cut_app]
theorem ext_app (a b t : List UInt8) : (⟨(a ++ (b ++ t)).toArray⟩ : ByteArray).extract a.length (a.length + b.length) = ⟨b.toArray⟩ := by
  apply ByteArray.ext
  rw [ByteArray.data_extract]
  simp
theorem txt_back (s : ByteArray) (h : s.size ≤ 65536) (t : List UInt8) : txtM 65536 ⟨((putS s.size).data.toList ++ s.data.toList ++ t).toArray⟩ 0 = (s, ⟨t.toArray⟩, 0) := by
  rw [List.append_assoc]
  have hv := take_put s.size (by omega) (s.data.toList ++ t)
  have hE : numE 65536 (s.size : Int) 0 = 0 := by unfold numE; rw [if_neg (by omega)]
  have hsz : (⟨((putS s.size).data.toList ++ (s.data.toList ++ t)).toArray⟩ : ByteArray).size = (putS s.size).data.toList.length + (s.size + t.length) := by rw [sizeL, List.length_append, List.length_append, ← Lib.size_eq s]
  have hP : txtP 65536 ⟨((putS s.size).data.toList ++ (s.data.toList ++ t)).toArray⟩ = (s, (putS s.size).data.toList.length + s.size, 0) := by
    unfold txtP
    rw [hv]
    simp only [hE, ne_eq, not_true_eq_false, if_false, hsz, Int.toNat_natCast]
    rw [if_neg (by omega), show (((putS s.size).data.toList.length : Int) + (s.size : Int)).toNat = (putS s.size).data.toList.length + s.size by omega]
    have := ext_app (putS s.size).data.toList s.data.toList t
    rw [← Lib.size_eq s] at this
    rw [this, Lib.mk_data]
  unfold txtM
  rw [hP, if_neg (by simp), if_neg (by simp)]
  have := cut_app ((putS s.size).data.toList ++ s.data.toList) t
  rw [List.append_assoc, List.length_append, ← Lib.size_eq s] at this
  rw [this]
theorem flg_back (f : Bool) (t : List UInt8) : flgM ⟨([if f then 1 else 0] ++ t).toArray⟩ 0 = (f, ⟨t.toArray⟩, 0) := by
  have hb : byt ⟨([if f then 1 else 0] ++ t).toArray⟩ 0 = if f then 1 else 0 := by
    rw [byt_list _ 0 (by simp)]
    cases f <;> rfl
  have hs : ¬ (⟨([if f then 1 else 0] ++ t).toArray⟩ : ByteArray).size = 0 := by rw [sizeL]; simp
  rw [flgM_of, if_neg hs, hb, if_neg (by cases f <;> simp)]
  have := cut_app [if f then 1 else 0] t
  simp only [List.length_cons, List.length_nil, Nat.zero_add] at this
  rw [this]
  cases f <;> rfl
theorem dg_back (D : List UInt8) (hD : D.length = 32) (t : List UInt8) : dgM ⟨(D ++ t).toArray⟩ 0 = (D, ⟨t.toArray⟩, 0) := by
  have hs : ¬ (⟨(D ++ t).toArray⟩ : ByteArray).size < 32 := by rw [sizeL, List.length_append]; omega
  unfold dgM digP
  rw [if_neg (by simp), if_neg hs, if_neg (by simp)]
  have h1 := cut_app D t
  rw [hD] at h1
  simp only [h1]
  have : List.take 32 (D ++ t) = D := by rw [← hD, List.take_left']; rfl
  simp [this]
end Go.Proofs.YtfobnemocodomaaGreat
set_option linter.unusedVariables false
set_option linter.unusedSimpArgs false
set_option maxHeartbeats 400000
namespace Go.Proofs.YtfobnemocodomaaGreat
open Go.RowKit Go.Shelf

theorem numFrom_pos (S : ByteArray) : ∀ e i, byt S (i + e) < 128 → byt S (i + e) ≠ 0 → 0 < numFrom S i (e + 1)
  | 0, i, h1, h2 => by
    have := byt_bd S i
    rw [Nat.add_zero] at h1 h2
    simp only [numFrom]; omega
  | e + 1, i, h1, h2 => by
    have h := numFrom_pos S e (i + 1) (by rw [show i + 1 + e = i + (e + 1) by omega]; exact h1) (by rw [show i + 1 + e = i + (e + 1) by omega]; exact h2)
    have := byt_bd S i
    show 0 < byt S i % 128 + 128 * numFrom S (i + 1) (e + 1)
    omega
theorem grp_numFrom (S : ByteArray) : ∀ e i, (∀ j, j < e → 128 ≤ byt S (i + j)) → byt S (i + e) < 128 → (0 < e → byt S (i + e) ≠ 0) → grpN (numFrom S i (e + 1)).toNat = (List.range (e + 1)).map fun j => byt S (i + j)
  | 0, i, _, h1, _ => by
    have hb := byt_bd S i
    rw [Nat.add_zero] at h1
    have e0 : numFrom S i 1 = byt S i := by simp only [numFrom]; omega
    rw [e0, grpN_small (by omega)]
    show [((byt S i).toNat : Int)] = [byt S (i + 0)]
    rw [Nat.add_zero]
    congr 1; omega
  | e + 1, i, h0, h1, h2 => by
    have ih := grp_numFrom S e (i + 1) (fun j hj => by rw [show i + 1 + j = i + (j + 1) by omega]; exact h0 (j + 1) (by omega)) (by rw [show i + 1 + e = i + (e + 1) by omega]; exact h1) (fun _ => by rw [show i + 1 + e = i + (e + 1) by omega]; exact h2 (by omega))
    have hp := numFrom_pos S e (i + 1) (by rw [show i + 1 + e = i + (e + 1) by omega]; exact h1) (by rw [show i + 1 + e = i + (e + 1) by omega]; exact h2 (by omega))
    have hb := byt_bd S i
    have hb0 := h0 0 (by omega)
    rw [Nat.add_zero] at hb0
    have hn : numFrom S i (e + 1 + 1) = byt S i % 128 + 128 * numFrom S (i + 1) (e + 1) := rfl
    obtain ⟨m, hm⟩ : ∃ m, numFrom S (i + 1) (e + 1) = m := ⟨_, rfl⟩
    rw [hm] at ih hp hn
    have hbig : 128 ≤ (numFrom S i (e + 1 + 1)).toNat := by omega
    rw [grpN_big hbig]
    have hdiv : (numFrom S i (e + 1 + 1)).toNat / 128 = m.toNat := by omega
    have hmod : ((numFrom S i (e + 1 + 1)).toNat : Int) % 128 + 128 = byt S i := by omega
    rw [hdiv, hmod, ih, List.range_succ_eq_map (n := e + 1), List.map_cons, List.map_map, Nat.add_zero]
    congr 1
    apply List.map_congr_left
    intro j _
    simp only [Function.comp_apply]
    rw [show i + 1 + j = i + (j + 1) by omega]
theorem byt_ofNat (S : ByteArray) (j : Nat) (h : j < S.size) : UInt8.ofNat (byt S j).toNat = S.data.toList[j]'(by simpa using h) := by
  rw [byt_at h, Int.toNat_natCast]
  show UInt8.ofNat (S[j]).toNat = _
  rw [UInt8.ofNat_toNat]
  rfl
theorem cutB_list (S : ByteArray) (k : Nat) : (cutB S k).data.toList = S.data.toList.drop k := by
  unfold cutB
  rw [Lib.extract_data]
  apply List.take_of_length_le
  simp
/-- the bytes of a number that was taken -/
theorem can_take {S : ByteArray} {a k : Int} (hv : takeV S = (a, k, 0)) : (putS a).data.toList = S.data.toList.take k.toNat := by
  rcases endOf_spec S with ⟨h, _⟩ | ⟨e, h, he, he5, hl, hlo⟩
  · unfold takeV at hv
    rw [h, if_pos (by omega)] at hv
    split at hv <;> simp at hv
  · unfold takeV at hv
    rw [h, if_neg (by omega)] at hv
    split at hv
    · simp at hv
    · rename_i h0
      split at hv
      · simp at hv
      · rename_i h1
        simp only [Prod.mk.injEq, Int.toNat_natCast, and_true] at hv h0 h1
        obtain ⟨rfl, rfl⟩ := hv
        have hb0 := (numFrom_bd5 S (e + 1) 0 (by omega)).1
        have hg := grp_numFrom S e 0 (fun j hj => by rw [Nat.zero_add]; exact hlo j hj) (by rw [Nat.zero_add]; exact hl) (fun hp h => h0 ⟨by rw [Nat.zero_add] at h; exact h, by omega⟩)
        simp only [Nat.zero_add] at hg
        have hput : putS (numFrom S 0 (e + 1)) = strOfNums (grpN (numFrom S 0 (e + 1)).toNat) := by unfold putS; rw [if_pos (by omega)]
        rw [hput, strOfNums_data, hg, List.map_map, show ((e : Int) + 1).toNat = e + 1 by omega]
        apply List.ext_getElem
        · simp; omega
        · intro j h2 h3
          simp only [List.length_map, List.length_range] at h2
          simp only [List.getElem_map, List.getElem_range, Function.comp_apply, List.getElem_take]
          exact byt_ofNat S j (by omega)
theorem numM_of {m : Int} {S : ByteArray} (h : (numM m S 0).2.2 = 0) : ∃ k, takeV S = ((numM m S 0).1, k, 0) ∧ (numM m S 0).1 ≤ m ∧ (numM m S 0).2.1 = cutB S k.toNat := by
  unfold numM at h ⊢
  rw [if_neg (by simp)] at h ⊢
  obtain ⟨a, k, c, hv⟩ : ∃ a k c, takeV S = (a, k, c) := ⟨_, _, _, rfl⟩
  rw [hv] at h ⊢
  simp only at h ⊢
  split at h
  · rename_i hn; exact absurd h hn
  · rename_i hn
    simp only [ne_eq, Decidable.not_not] at hn
    have hc0 : c = 0 ∧ a ≤ m := by
      unfold numE at hn
      split at hn <;> omega
    rw [if_neg (by simpa using hn)]
    exact ⟨k, by rw [hc0.1], hc0.2, rfl⟩
/-- a number taken: its bytes stand first -/
theorem can_num {m : Int} {S : ByteArray} (h : (numM m S 0).2.2 = 0) : S.data.toList = (putS (numM m S 0).1).data.toList ++ (numM m S 0).2.1.data.toList ∧ 0 ≤ (numM m S 0).1 ∧ (numM m S 0).1 ≤ m ∧ (numM m S 0).1 ≤ 1073741824 := by
  obtain ⟨k, hv, hm, hc⟩ := numM_of h
  refine ⟨?_, (numM_bd m S).1, hm, (numM_bd m S).2.1⟩
  rw [can_take hv, hc, cutB_list, List.take_append_drop]
theorem can_txt {m : Int} {S : ByteArray} (h : (txtM m S 0).2.2 = 0) : S.data.toList = (putS (txtM m S 0).1.size).data.toList ++ (txtM m S 0).1.data.toList ++ (txtM m S 0).2.1.data.toList ∧ ((txtM m S 0).1.size : Int) ≤ m := by
  rw [txtM_of] at h ⊢
  by_cases h1 : (numM m S 0).2.2 = 0
  · rw [if_neg (by simpa using h1)] at h ⊢
    obtain ⟨c1, c2, c3, _⟩ := can_num h1
    obtain ⟨n, hn⟩ : ∃ n : Nat, (numM m S 0).1 = n := ⟨(numM m S 0).1.toNat, by omega⟩
    rw [hn] at h c1 c3 ⊢
    split at h
    · simp at h
    · rename_i h2
      rw [if_neg h2]
      simp only [Int.toNat_natCast]
      have hsz : ((numM m S 0).2.1.extract 0 n).size = n := by rw [ByteArray.size_extract]; omega
      rw [hsz]
      refine ⟨?_, c3⟩
      rw [Lib.extract_data, Lib.extract_data, List.drop_zero, Nat.sub_zero, List.append_assoc, List.take_of_length_le (l := (numM m S 0).2.1.data.toList.drop n) (by simp), List.take_append_drop]
      exact c1
  · rw [if_pos (by simpa using h1)] at h
    exact absurd h h1
theorem can_flg {S : ByteArray} (h : (flgM S 0).2.2 = 0) : S.data.toList = (if (flgM S 0).1 then 1 else 0) :: (flgM S 0).2.1.data.toList := by
  rw [flgM_of] at h ⊢
  split at h
  · simp at h
  · rename_i h0
    rw [if_neg h0]
    split at h
    · simp at h
    · rename_i h1
      rw [if_neg h1]
      simp only
      rw [cutB_list]
      obtain ⟨c, r, hl⟩ : ∃ c r, S.data.toList = c :: r := by
        cases hd : S.data.toList with
        | nil =>
          exfalso; apply h0
          have := congrArg List.length hd
          simpa using this
        | cons c r => exact ⟨c, r, rfl⟩
      have hS : S = ⟨(c :: r).toArray⟩ := by rw [← hl]
      have hb : byt S 0 = (c.toNat : Int) := by rw [hS]; exact byt_list (c :: r) 0 (by simp)
      clear hS
      rw [hl, hb]
      rw [hb] at h1
      simp only [List.drop_succ_cons, List.drop_zero, List.cons.injEq, and_true]
      have h3 : c.toNat = 0 ∨ c.toNat = 1 := by omega
      rcases h3 with h3 | h3
      · have : c = 0 := UInt8.toNat_inj.1 h3
        subst this; rfl
      · have : c = 1 := UInt8.toNat_inj.1 h3
        subst this; rfl
theorem can_dig {S : ByteArray} (h : (dgM S 0).2.2 = 0) : S.data.toList = (dgM S 0).1 ++ (dgM S 0).2.1.data.toList := by
  unfold dgM at h ⊢
  rw [if_neg (by simp)] at h ⊢
  unfold digP at h ⊢
  by_cases h0 : S.size < 32
  · rw [if_pos h0] at h; simp at h
  · rw [if_neg h0]
    simp only [ne_eq, not_true_eq_false, if_false]
    rw [cutB_list, List.take_append_drop]
end Go.Proofs.YtfobnemocodomaaGreat
