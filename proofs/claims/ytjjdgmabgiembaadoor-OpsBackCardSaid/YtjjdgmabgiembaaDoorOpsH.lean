/- The document's put of an operation, and its Bytes. -/
import Derived.Test.YtjjdgmabgiembaaDoorOpsG
set_option linter.unusedVariables false
set_option linter.unusedSimpArgs false
set_option maxHeartbeats 400000
namespace Go.Proofs.YtjjdgmabgiembaaDoor
open Go.RowKit Go.Shelf Go.Great

def cn (p : Prop) [Decidable p] (n : Int) (s : List UInt8 × Int) : List UInt8 × Int := if p then wnum n s else s
def ct (p : Prop) [Decidable p] (t : ByteArray) (s : List UInt8 × Int) : List UInt8 × Int := if p then wtxt t s else s
/-- what the document puts -/
def oputR (x : Opx) (s : List UInt8 × Int) : List UInt8 × Int :=
  ct (x.K = 0) x.Da (ct (x.K < 2) x.Pa (cn (x.K = 7) x.M (cn (x.K = 7 ∨ x.K = 9) x.A (cn (2 ≤ x.K ∧ x.K ≤ 9) x.N (cn (4 ≤ x.K ∧ x.K ≤ 7) x.T (wnum x.P (wnum x.K (wfail (ochk x) s))))))))
theorem wput_err (is : Bool) (t : List UInt8) (s : List UInt8 × Int) (h : s.2 ≠ 0) : wput is t s = s := by unfold wput; rw [if_pos h]
theorem wnum_err (n : Int) (s : List UInt8 × Int) (h : s.2 ≠ 0) : wnum n s = s := wput_err _ _ s h
theorem wtxt_err (t : ByteArray) (s : List UInt8 × Int) (h : s.2 ≠ 0) : wtxt t s = s := wput_err _ _ s h
theorem cn_err (p : Prop) [Decidable p] (n : Int) (s : List UInt8 × Int) (h : s.2 ≠ 0) : cn p n s = s := by unfold cn; split; exact wnum_err n s h; rfl
theorem ct_err (p : Prop) [Decidable p] (t : ByteArray) (s : List UInt8 × Int) (h : s.2 ≠ 0) : ct p t s = s := by unfold ct; split; exact wtxt_err t s h; rfl
theorem wfail_0 (s : List UInt8 × Int) : wfail 0 s = s := by
  unfold wfail
  split
  · rfl
  · rename_i h0
    simp only [ne_eq, Decidable.not_not] at h0
    rw [← h0]
theorem bit_tab : ∀ k : Fin 13, bitB (flds.getD k.val 0) (2 ^ 0) = decide (4 ≤ k.val ∧ k.val ≤ 7) ∧ bitB (flds.getD k.val 0) (2 ^ 1) = decide (2 ≤ k.val ∧ k.val ≤ 9) ∧ bitB (flds.getD k.val 0) (2 ^ 2) = decide (k.val = 7 ∨ k.val = 9) ∧ bitB (flds.getD k.val 0) (2 ^ 3) = decide (k.val = 7) ∧ bitB (flds.getD k.val 0) (2 ^ (4 + 0)) = decide (k.val < 2) ∧ bitB (flds.getD k.val 0) (2 ^ (4 + 1)) = decide (k.val = 0) := by decide +kernel
theorem cwn_cn {b : Bool} {p : Prop} [Decidable p] (h : b = decide p) (n : Int) (s : List UInt8 × Int) : cwnum b n s = cn p n s := by
  unfold cwnum cn
  rw [h]
  by_cases hp : p <;> simp [hp]
theorem cwt_ct {b : Bool} {p : Prop} [Decidable p] (h : b = decide p) (t : ByteArray) (s : List UInt8 × Int) : cwtxt b t s = ct p t s := by
  unfold cwtxt ct
  rw [h]
  by_cases hp : p <;> simp [hp]
theorem oputR_eq (x : Opx) (s : List UInt8 × Int) : oputR x s = oput x s := by
  by_cases hc : ochk x = 0
  · have hk := ochk_kind hc
    obtain ⟨k, hkk⟩ : ∃ k : Nat, x.K = k := ⟨x.K.toNat, by omega⟩
    obtain ⟨t0, t1, t2, t3, t4, t5⟩ := bit_tab ⟨k, by omega⟩
    unfold oputR oput
    rw [hc, wfail_0, if_neg (by simp)]
    rw [hkk, Int.toNat_natCast]
    simp only [tTo, nTo]
    rw [cwt_ct (p := ((k : Int) = 0)) (by rw [t5, decide_eq_decide]; show k = 0 ↔ _; omega), cwt_ct (p := ((k : Int) < 2)) (by rw [t4, decide_eq_decide]; show k < 2 ↔ _; omega), cwn_cn (p := ((k : Int) = 7)) (by rw [t3, decide_eq_decide]; show k = 7 ↔ _; omega), cwn_cn (p := ((k : Int) = 7 ∨ (k : Int) = 9)) (by rw [t2, decide_eq_decide]; show k = 7 ∨ k = 9 ↔ _; omega), cwn_cn (p := (2 ≤ (k : Int) ∧ (k : Int) ≤ 9)) (by rw [t1, decide_eq_decide]; show 2 ≤ k ∧ k ≤ 9 ↔ _; omega), cwn_cn (p := (4 ≤ (k : Int) ∧ (k : Int) ≤ 7)) (by rw [t0, decide_eq_decide]; show 4 ≤ k ∧ k ≤ 7 ↔ _; omega)]
    rfl
  · have he : (wfail (ochk x) s).2 ≠ 0 := by
      unfold wfail
      split
      · assumption
      · exact hc
    have h1 : oput x s = wfail (ochk x) s := by unfold oput; rw [if_pos hc]
    unfold oputR
    rw [wnum_err _ _ he, wnum_err _ _ he, cn_err _ _ _ he, cn_err _ _ _ he, cn_err _ _ _ he, cn_err _ _ _ he, ct_err _ _ _ he, ct_err _ _ _ he, h1]

theorem rNum2 (c : Nat) (s : List UInt8 × Int) (n : Int) (w : World) (h : Rw c ⟨s.1.toArray⟩ s.2 w) (hlen : s.1.length + 5 ≤ 9223372036854775807) :
    Calls Tryd.prog 28 #[.pointer (some ⟨c, 0, none⟩), .int .i64 n] w fun r w' => r = .returned (.tuple #[]) ∧ Rw c ⟨(wnum n s).1.toArray⟩ (wnum n s).2 w' ∧ Rm c w w' := by
  refine (rNumber_any c _ _ n w h (by rw [sizeL]; exact hlen)).mono ?_
  rintro r w' ⟨rfl, h1, m1⟩
  rw [rput_eq] at h1
  exact ⟨rfl, h1, m1⟩
theorem rTxt2 (c : Nat) (s : List UInt8 × Int) (t : ByteArray) (w : World) (h : Rw c ⟨s.1.toArray⟩ s.2 w) (hlen : s.1.length + 65541 ≤ 9223372036854775807) (ht : t.size ≤ 9223372036854775807) :
    Calls Tryd.prog 48 #[.pointer (some ⟨c, 0, none⟩), .string t] w fun r w' => r = .returned (.tuple #[]) ∧ Rw c ⟨(wtxt t s).1.toArray⟩ (wtxt t s).2 w' ∧ Rm c w w' := by
  refine (rText_any c _ _ t w h (by rw [sizeL]; exact hlen) ht).mono ?_
  rintro r w' ⟨rfl, h1, m1⟩
  rw [rput_eq] at h1
  have e : (putS t.size ++ t).data.toList = (putS t.size).data.toList ++ t.data.toList := by simp [ByteArray.data_append]
  rw [e] at h1
  exact ⟨rfl, h1, m1⟩

set_option maxRecDepth 100000 in
set_option maxHeartbeats 1000000 in
theorem rput_neg (c : Nat) (s : List UInt8 × Int) (x : Opx) (hk : x.K < 0) (w : World) (hc : c < w.heap.size) (hPa : x.Pa.size ≤ 9223372036854775807) (hDa : x.Da.size ≤ 9223372036854775807) (h : Rw c ⟨s.1.toArray⟩ s.2 w) (hlen : s.1.length + 200000 ≤ 9223372036854775807) :
    Calls Tryd.prog 29 #[.pointer (some ⟨c, 0, none⟩), .agg x.cells] w fun r w' => r = .returned (.tuple #[]) ∧ Rw c ⟨(oput x s).1.toArray⟩ (oput x s).2 w' ∧ Rm c w w' := by
  have hga := Lib.hid ((Gr.rfl' w).al (.cells x.cells 23))
  have HB0 := Lib.hid (World.alloc_heap_new w (.cells x.cells 23))
  have H0 := Lib.hid (h.gr hga.out)
  have hgc : w.heap.size ≠ c := by omega
  clear h
  have b1 : decide (4 ≤ x.K) = false := by simp; omega
  have b2 : decide (x.K ≤ 7) = true := by simp; omega
  have b3 : decide (2 ≤ x.K) = false := by simp; omega
  have b4 : decide (x.K ≤ 9) = true := by simp; omega
  have b5 : (x.K == 7) = false := by simp; omega
  have b6 : (x.K == 9) = false := by simp; omega
  have b7 : decide (x.K < 2) = true := by simp; omega
  have b8 : (x.K == 0) = false := by simp; omega
  obtain ⟨s0, e0⟩ : ∃ s0, s0 = wfail (ochk x) s := ⟨_, rfl⟩
  have l0 : s0.1.length ≤ s.1.length := by rw [e0, wfail_lenL]; exact Nat.le_refl _
  obtain ⟨s1, e1⟩ : ∃ s1, s1 = wnum x.K s0 := ⟨_, rfl⟩
  have l1 : s1.1.length ≤ s0.1.length + 5 := by rw [e1]; exact wnum_len _ _
  obtain ⟨s2, e2⟩ : ∃ s2, s2 = wnum x.P s1 := ⟨_, rfl⟩
  have l2 : s2.1.length ≤ s1.1.length + 5 := by rw [e2]; exact wnum_len _ _
  obtain ⟨s3, e3⟩ : ∃ s3, s3 = wtxt x.Pa s2 := ⟨_, rfl⟩
  have l3 : s3.1.length ≤ s2.1.length + 65541 := by rw [e3]; exact wtxt_len _ _
  have hX : Hid (s3 = oput x s) := by
    show _ = _
    rw [← oputR_eq]
    unfold oputR ct cn
    rw [if_neg (by omega), if_pos (by omega), if_neg (by omega), if_neg (by omega), if_neg (by omega), if_neg (by omega)]
    rw [e3, e2, e1, e0]
  have E0 := Lib.hid e0; clear e0; have E1 := Lib.hid e1; clear e1; have E2 := Lib.hid e2; clear e2; have E3 := Lib.hid e3; clear e3
  clear hk
  go_enter Tryd.func29, Tryd.ntmps29
  go_wp2_with (first | refine wpList_load_row rfl 23 _ rfl w.heap.size rfl 23 x.cells (0, 0) _ HB0.out Tryd.underlying23 rfl (by kernel_rfl) ?_)
  refine (refCheck_any x _).mono ?_
  rintro r wa ⟨rfl, hg1⟩
  go_wp2_with fail
  refine (rFail_any c _ _ (ochk x) _ (H0.out.gr hg1)).mono ?_
  rintro r w0 ⟨rfl, h1, m1⟩
  rw [rfail_eq, ← E0.out] at h1
  have G0 := Lib.hid h1
  have K0 := Lib.hid ((m1.keep _ (Nat.lt_of_lt_of_le (Array.getElem?_eq_some_iff.1 HB0.out).1 hg1.size) hgc).trans ((hg1.block _ (Array.getElem?_eq_some_iff.1 HB0.out).1).trans HB0.out))
  have M0 := Lib.hid (((Rm.of hga.out).gr hg1).trans m1)
  clear h1 m1 hg1
  have q1 : w0.cell? ⟨w.heap.size, 0, none⟩ = some (.int .i64 x.K) := oCell K0.out rfl
  go_wp2_with fail
  refine (rNum2 c s0 x.K _ G0.out (by omega)).mono ?_
  rintro r w1 ⟨rfl, h1, m1⟩
  rw [← E1.out] at h1
  have G1 := Lib.hid h1
  have K1 := Lib.hid ((m1.keep _ (Array.getElem?_eq_some_iff.1 K0.out).1 hgc).trans K0.out)
  have M1 := Lib.hid (M0.out.trans m1)
  clear h1 m1 q1
  have q2 : w1.cell? ⟨w.heap.size, 1, none⟩ = some (.int .i64 x.P) := oCell K1.out rfl
  go_wp2_with fail
  refine (rNum2 c s1 x.P _ G1.out (by omega)).mono ?_
  rintro r w2 ⟨rfl, h1, m1⟩
  rw [← E2.out] at h1
  have G2 := Lib.hid h1
  have K2 := Lib.hid ((m1.keep _ (Array.getElem?_eq_some_iff.1 K1.out).1 hgc).trans K1.out)
  have M2 := Lib.hid (M1.out.trans m1)
  clear h1 m1 q2
  have q3 : w2.cell? ⟨w.heap.size, 6, none⟩ = some (.string x.Pa) := oCell K2.out rfl
  have qk : w2.cell? ⟨w.heap.size, 0, none⟩ = some (.int .i64 x.K) := oCell K2.out rfl
  go_wp2_with fail
  refine (rTxt2 c s2 x.Pa _ G2.out (by omega) hPa).mono ?_
  rintro r w3 ⟨rfl, h1, m1⟩
  rw [← E3.out] at h1
  have G3 := Lib.hid h1
  have K3 := Lib.hid ((m1.keep _ (Array.getElem?_eq_some_iff.1 K2.out).1 hgc).trans K2.out)
  have M3 := Lib.hid (M2.out.trans m1)
  clear h1 m1 q3 qk
  go_wp2
  go_end0
  rw [← hX.out]
  exact ⟨rfl, G3.out, M3.out⟩

set_option maxRecDepth 100000 in
set_option maxHeartbeats 1000000 in
theorem rput_k0 (c : Nat) (s : List UInt8 × Int) (x : Opx) (hk : x.K = 0) (w : World) (hc : c < w.heap.size) (hPa : x.Pa.size ≤ 9223372036854775807) (hDa : x.Da.size ≤ 9223372036854775807) (h : Rw c ⟨s.1.toArray⟩ s.2 w) (hlen : s.1.length + 200000 ≤ 9223372036854775807) :
    Calls Tryd.prog 29 #[.pointer (some ⟨c, 0, none⟩), .agg x.cells] w fun r w' => r = .returned (.tuple #[]) ∧ Rw c ⟨(oput x s).1.toArray⟩ (oput x s).2 w' ∧ Rm c w w' := by
  have hga := Lib.hid ((Gr.rfl' w).al (.cells x.cells 23))
  have HB0 := Lib.hid (World.alloc_heap_new w (.cells x.cells 23))
  have H0 := Lib.hid (h.gr hga.out)
  have hgc : w.heap.size ≠ c := by omega
  clear h
  have b1 : decide (4 ≤ x.K) = false := by simp; omega
  have b2 : decide (x.K ≤ 7) = true := by simp; omega
  have b3 : decide (2 ≤ x.K) = false := by simp; omega
  have b4 : decide (x.K ≤ 9) = true := by simp; omega
  have b5 : (x.K == 7) = false := by simp; omega
  have b6 : (x.K == 9) = false := by simp; omega
  have b7 : decide (x.K < 2) = true := by simp; omega
  have b8 : (x.K == 0) = true := by simp; omega
  obtain ⟨s0, e0⟩ : ∃ s0, s0 = wfail (ochk x) s := ⟨_, rfl⟩
  have l0 : s0.1.length ≤ s.1.length := by rw [e0, wfail_lenL]; exact Nat.le_refl _
  obtain ⟨s1, e1⟩ : ∃ s1, s1 = wnum x.K s0 := ⟨_, rfl⟩
  have l1 : s1.1.length ≤ s0.1.length + 5 := by rw [e1]; exact wnum_len _ _
  obtain ⟨s2, e2⟩ : ∃ s2, s2 = wnum x.P s1 := ⟨_, rfl⟩
  have l2 : s2.1.length ≤ s1.1.length + 5 := by rw [e2]; exact wnum_len _ _
  obtain ⟨s3, e3⟩ : ∃ s3, s3 = wtxt x.Pa s2 := ⟨_, rfl⟩
  have l3 : s3.1.length ≤ s2.1.length + 65541 := by rw [e3]; exact wtxt_len _ _
  obtain ⟨s4, e4⟩ : ∃ s4, s4 = wtxt x.Da s3 := ⟨_, rfl⟩
  have l4 : s4.1.length ≤ s3.1.length + 65541 := by rw [e4]; exact wtxt_len _ _
  have hX : Hid (s4 = oput x s) := by
    show _ = _
    rw [← oputR_eq]
    unfold oputR ct cn
    rw [if_pos (by omega), if_pos (by omega), if_neg (by omega), if_neg (by omega), if_neg (by omega), if_neg (by omega)]
    rw [e4, e3, e2, e1, e0]
  have E0 := Lib.hid e0; clear e0; have E1 := Lib.hid e1; clear e1; have E2 := Lib.hid e2; clear e2; have E3 := Lib.hid e3; clear e3; have E4 := Lib.hid e4; clear e4
  clear hk
  go_enter Tryd.func29, Tryd.ntmps29
  go_wp2_with (first | refine wpList_load_row rfl 23 _ rfl w.heap.size rfl 23 x.cells (0, 0) _ HB0.out Tryd.underlying23 rfl (by kernel_rfl) ?_)
  refine (refCheck_any x _).mono ?_
  rintro r wa ⟨rfl, hg1⟩
  go_wp2_with fail
  refine (rFail_any c _ _ (ochk x) _ (H0.out.gr hg1)).mono ?_
  rintro r w0 ⟨rfl, h1, m1⟩
  rw [rfail_eq, ← E0.out] at h1
  have G0 := Lib.hid h1
  have K0 := Lib.hid ((m1.keep _ (Nat.lt_of_lt_of_le (Array.getElem?_eq_some_iff.1 HB0.out).1 hg1.size) hgc).trans ((hg1.block _ (Array.getElem?_eq_some_iff.1 HB0.out).1).trans HB0.out))
  have M0 := Lib.hid (((Rm.of hga.out).gr hg1).trans m1)
  clear h1 m1 hg1
  have q1 : w0.cell? ⟨w.heap.size, 0, none⟩ = some (.int .i64 x.K) := oCell K0.out rfl
  go_wp2_with fail
  refine (rNum2 c s0 x.K _ G0.out (by omega)).mono ?_
  rintro r w1 ⟨rfl, h1, m1⟩
  rw [← E1.out] at h1
  have G1 := Lib.hid h1
  have K1 := Lib.hid ((m1.keep _ (Array.getElem?_eq_some_iff.1 K0.out).1 hgc).trans K0.out)
  have M1 := Lib.hid (M0.out.trans m1)
  clear h1 m1 q1
  have q2 : w1.cell? ⟨w.heap.size, 1, none⟩ = some (.int .i64 x.P) := oCell K1.out rfl
  go_wp2_with fail
  refine (rNum2 c s1 x.P _ G1.out (by omega)).mono ?_
  rintro r w2 ⟨rfl, h1, m1⟩
  rw [← E2.out] at h1
  have G2 := Lib.hid h1
  have K2 := Lib.hid ((m1.keep _ (Array.getElem?_eq_some_iff.1 K1.out).1 hgc).trans K1.out)
  have M2 := Lib.hid (M1.out.trans m1)
  clear h1 m1 q2
  have q3 : w2.cell? ⟨w.heap.size, 6, none⟩ = some (.string x.Pa) := oCell K2.out rfl
  have qk : w2.cell? ⟨w.heap.size, 0, none⟩ = some (.int .i64 x.K) := oCell K2.out rfl
  go_wp2_with fail
  refine (rTxt2 c s2 x.Pa _ G2.out (by omega) hPa).mono ?_
  rintro r w3 ⟨rfl, h1, m1⟩
  rw [← E3.out] at h1
  have G3 := Lib.hid h1
  have K3 := Lib.hid ((m1.keep _ (Array.getElem?_eq_some_iff.1 K2.out).1 hgc).trans K2.out)
  have M3 := Lib.hid (M2.out.trans m1)
  clear h1 m1 q3 qk
  have q4 : w3.cell? ⟨w.heap.size, 7, none⟩ = some (.string x.Da) := oCell K3.out rfl
  go_wp2_with fail
  refine (rTxt2 c s3 x.Da _ G3.out (by omega) hDa).mono ?_
  rintro r w4 ⟨rfl, h1, m1⟩
  rw [← E4.out] at h1
  have G4 := Lib.hid h1
  have K4 := Lib.hid ((m1.keep _ (Array.getElem?_eq_some_iff.1 K3.out).1 hgc).trans K3.out)
  have M4 := Lib.hid (M3.out.trans m1)
  clear h1 m1 q4
  go_wp2
  go_end0
  rw [← hX.out]
  exact ⟨rfl, G4.out, M4.out⟩

set_option maxRecDepth 100000 in
set_option maxHeartbeats 1000000 in
theorem rput_k1 (c : Nat) (s : List UInt8 × Int) (x : Opx) (hk : x.K = 1) (w : World) (hc : c < w.heap.size) (hPa : x.Pa.size ≤ 9223372036854775807) (hDa : x.Da.size ≤ 9223372036854775807) (h : Rw c ⟨s.1.toArray⟩ s.2 w) (hlen : s.1.length + 200000 ≤ 9223372036854775807) :
    Calls Tryd.prog 29 #[.pointer (some ⟨c, 0, none⟩), .agg x.cells] w fun r w' => r = .returned (.tuple #[]) ∧ Rw c ⟨(oput x s).1.toArray⟩ (oput x s).2 w' ∧ Rm c w w' := by
  have hga := Lib.hid ((Gr.rfl' w).al (.cells x.cells 23))
  have HB0 := Lib.hid (World.alloc_heap_new w (.cells x.cells 23))
  have H0 := Lib.hid (h.gr hga.out)
  have hgc : w.heap.size ≠ c := by omega
  clear h
  have b1 : decide (4 ≤ x.K) = false := by simp; omega
  have b2 : decide (x.K ≤ 7) = true := by simp; omega
  have b3 : decide (2 ≤ x.K) = false := by simp; omega
  have b4 : decide (x.K ≤ 9) = true := by simp; omega
  have b5 : (x.K == 7) = false := by simp; omega
  have b6 : (x.K == 9) = false := by simp; omega
  have b7 : decide (x.K < 2) = true := by simp; omega
  have b8 : (x.K == 0) = false := by simp; omega
  obtain ⟨s0, e0⟩ : ∃ s0, s0 = wfail (ochk x) s := ⟨_, rfl⟩
  have l0 : s0.1.length ≤ s.1.length := by rw [e0, wfail_lenL]; exact Nat.le_refl _
  obtain ⟨s1, e1⟩ : ∃ s1, s1 = wnum x.K s0 := ⟨_, rfl⟩
  have l1 : s1.1.length ≤ s0.1.length + 5 := by rw [e1]; exact wnum_len _ _
  obtain ⟨s2, e2⟩ : ∃ s2, s2 = wnum x.P s1 := ⟨_, rfl⟩
  have l2 : s2.1.length ≤ s1.1.length + 5 := by rw [e2]; exact wnum_len _ _
  obtain ⟨s3, e3⟩ : ∃ s3, s3 = wtxt x.Pa s2 := ⟨_, rfl⟩
  have l3 : s3.1.length ≤ s2.1.length + 65541 := by rw [e3]; exact wtxt_len _ _
  have hX : Hid (s3 = oput x s) := by
    show _ = _
    rw [← oputR_eq]
    unfold oputR ct cn
    rw [if_neg (by omega), if_pos (by omega), if_neg (by omega), if_neg (by omega), if_neg (by omega), if_neg (by omega)]
    rw [e3, e2, e1, e0]
  have E0 := Lib.hid e0; clear e0; have E1 := Lib.hid e1; clear e1; have E2 := Lib.hid e2; clear e2; have E3 := Lib.hid e3; clear e3
  clear hk
  go_enter Tryd.func29, Tryd.ntmps29
  go_wp2_with (first | refine wpList_load_row rfl 23 _ rfl w.heap.size rfl 23 x.cells (0, 0) _ HB0.out Tryd.underlying23 rfl (by kernel_rfl) ?_)
  refine (refCheck_any x _).mono ?_
  rintro r wa ⟨rfl, hg1⟩
  go_wp2_with fail
  refine (rFail_any c _ _ (ochk x) _ (H0.out.gr hg1)).mono ?_
  rintro r w0 ⟨rfl, h1, m1⟩
  rw [rfail_eq, ← E0.out] at h1
  have G0 := Lib.hid h1
  have K0 := Lib.hid ((m1.keep _ (Nat.lt_of_lt_of_le (Array.getElem?_eq_some_iff.1 HB0.out).1 hg1.size) hgc).trans ((hg1.block _ (Array.getElem?_eq_some_iff.1 HB0.out).1).trans HB0.out))
  have M0 := Lib.hid (((Rm.of hga.out).gr hg1).trans m1)
  clear h1 m1 hg1
  have q1 : w0.cell? ⟨w.heap.size, 0, none⟩ = some (.int .i64 x.K) := oCell K0.out rfl
  go_wp2_with fail
  refine (rNum2 c s0 x.K _ G0.out (by omega)).mono ?_
  rintro r w1 ⟨rfl, h1, m1⟩
  rw [← E1.out] at h1
  have G1 := Lib.hid h1
  have K1 := Lib.hid ((m1.keep _ (Array.getElem?_eq_some_iff.1 K0.out).1 hgc).trans K0.out)
  have M1 := Lib.hid (M0.out.trans m1)
  clear h1 m1 q1
  have q2 : w1.cell? ⟨w.heap.size, 1, none⟩ = some (.int .i64 x.P) := oCell K1.out rfl
  go_wp2_with fail
  refine (rNum2 c s1 x.P _ G1.out (by omega)).mono ?_
  rintro r w2 ⟨rfl, h1, m1⟩
  rw [← E2.out] at h1
  have G2 := Lib.hid h1
  have K2 := Lib.hid ((m1.keep _ (Array.getElem?_eq_some_iff.1 K1.out).1 hgc).trans K1.out)
  have M2 := Lib.hid (M1.out.trans m1)
  clear h1 m1 q2
  have q3 : w2.cell? ⟨w.heap.size, 6, none⟩ = some (.string x.Pa) := oCell K2.out rfl
  have qk : w2.cell? ⟨w.heap.size, 0, none⟩ = some (.int .i64 x.K) := oCell K2.out rfl
  go_wp2_with fail
  refine (rTxt2 c s2 x.Pa _ G2.out (by omega) hPa).mono ?_
  rintro r w3 ⟨rfl, h1, m1⟩
  rw [← E3.out] at h1
  have G3 := Lib.hid h1
  have K3 := Lib.hid ((m1.keep _ (Array.getElem?_eq_some_iff.1 K2.out).1 hgc).trans K2.out)
  have M3 := Lib.hid (M2.out.trans m1)
  clear h1 m1 q3 qk
  go_wp2
  go_end0
  rw [← hX.out]
  exact ⟨rfl, G3.out, M3.out⟩

set_option maxRecDepth 100000 in
set_option maxHeartbeats 1000000 in
theorem rput_k23 (c : Nat) (s : List UInt8 × Int) (x : Opx) (hk : 2 ≤ x.K ∧ x.K ≤ 3) (w : World) (hc : c < w.heap.size) (hPa : x.Pa.size ≤ 9223372036854775807) (hDa : x.Da.size ≤ 9223372036854775807) (h : Rw c ⟨s.1.toArray⟩ s.2 w) (hlen : s.1.length + 200000 ≤ 9223372036854775807) :
    Calls Tryd.prog 29 #[.pointer (some ⟨c, 0, none⟩), .agg x.cells] w fun r w' => r = .returned (.tuple #[]) ∧ Rw c ⟨(oput x s).1.toArray⟩ (oput x s).2 w' ∧ Rm c w w' := by
  have hga := Lib.hid ((Gr.rfl' w).al (.cells x.cells 23))
  have HB0 := Lib.hid (World.alloc_heap_new w (.cells x.cells 23))
  have H0 := Lib.hid (h.gr hga.out)
  have hgc : w.heap.size ≠ c := by omega
  clear h
  have b1 : decide (4 ≤ x.K) = false := by simp; omega
  have b2 : decide (x.K ≤ 7) = true := by simp; omega
  have b3 : decide (2 ≤ x.K) = true := by simp; omega
  have b4 : decide (x.K ≤ 9) = true := by simp; omega
  have b5 : (x.K == 7) = false := by simp; omega
  have b6 : (x.K == 9) = false := by simp; omega
  have b7 : decide (x.K < 2) = false := by simp; omega
  have b8 : (x.K == 0) = false := by simp; omega
  obtain ⟨s0, e0⟩ : ∃ s0, s0 = wfail (ochk x) s := ⟨_, rfl⟩
  have l0 : s0.1.length ≤ s.1.length := by rw [e0, wfail_lenL]; exact Nat.le_refl _
  obtain ⟨s1, e1⟩ : ∃ s1, s1 = wnum x.K s0 := ⟨_, rfl⟩
  have l1 : s1.1.length ≤ s0.1.length + 5 := by rw [e1]; exact wnum_len _ _
  obtain ⟨s2, e2⟩ : ∃ s2, s2 = wnum x.P s1 := ⟨_, rfl⟩
  have l2 : s2.1.length ≤ s1.1.length + 5 := by rw [e2]; exact wnum_len _ _
  obtain ⟨s3, e3⟩ : ∃ s3, s3 = wnum x.N s2 := ⟨_, rfl⟩
  have l3 : s3.1.length ≤ s2.1.length + 5 := by rw [e3]; exact wnum_len _ _
  have hX : Hid (s3 = oput x s) := by
    show _ = _
    rw [← oputR_eq]
    unfold oputR ct cn
    rw [if_neg (by omega), if_neg (by omega), if_neg (by omega), if_neg (by omega), if_pos (by omega), if_neg (by omega)]
    rw [e3, e2, e1, e0]
  have E0 := Lib.hid e0; clear e0; have E1 := Lib.hid e1; clear e1; have E2 := Lib.hid e2; clear e2; have E3 := Lib.hid e3; clear e3
  clear hk
  go_enter Tryd.func29, Tryd.ntmps29
  go_wp2_with (first | refine wpList_load_row rfl 23 _ rfl w.heap.size rfl 23 x.cells (0, 0) _ HB0.out Tryd.underlying23 rfl (by kernel_rfl) ?_)
  refine (refCheck_any x _).mono ?_
  rintro r wa ⟨rfl, hg1⟩
  go_wp2_with fail
  refine (rFail_any c _ _ (ochk x) _ (H0.out.gr hg1)).mono ?_
  rintro r w0 ⟨rfl, h1, m1⟩
  rw [rfail_eq, ← E0.out] at h1
  have G0 := Lib.hid h1
  have K0 := Lib.hid ((m1.keep _ (Nat.lt_of_lt_of_le (Array.getElem?_eq_some_iff.1 HB0.out).1 hg1.size) hgc).trans ((hg1.block _ (Array.getElem?_eq_some_iff.1 HB0.out).1).trans HB0.out))
  have M0 := Lib.hid (((Rm.of hga.out).gr hg1).trans m1)
  clear h1 m1 hg1
  have q1 : w0.cell? ⟨w.heap.size, 0, none⟩ = some (.int .i64 x.K) := oCell K0.out rfl
  go_wp2_with fail
  refine (rNum2 c s0 x.K _ G0.out (by omega)).mono ?_
  rintro r w1 ⟨rfl, h1, m1⟩
  rw [← E1.out] at h1
  have G1 := Lib.hid h1
  have K1 := Lib.hid ((m1.keep _ (Array.getElem?_eq_some_iff.1 K0.out).1 hgc).trans K0.out)
  have M1 := Lib.hid (M0.out.trans m1)
  clear h1 m1 q1
  have q2 : w1.cell? ⟨w.heap.size, 1, none⟩ = some (.int .i64 x.P) := oCell K1.out rfl
  go_wp2_with fail
  refine (rNum2 c s1 x.P _ G1.out (by omega)).mono ?_
  rintro r w2 ⟨rfl, h1, m1⟩
  rw [← E2.out] at h1
  have G2 := Lib.hid h1
  have K2 := Lib.hid ((m1.keep _ (Array.getElem?_eq_some_iff.1 K1.out).1 hgc).trans K1.out)
  have M2 := Lib.hid (M1.out.trans m1)
  clear h1 m1 q2
  have q3 : w2.cell? ⟨w.heap.size, 3, none⟩ = some (.int .i64 x.N) := oCell K2.out rfl
  have qk : w2.cell? ⟨w.heap.size, 0, none⟩ = some (.int .i64 x.K) := oCell K2.out rfl
  go_wp2_with fail
  refine (rNum2 c s2 x.N _ G2.out (by omega)).mono ?_
  rintro r w3 ⟨rfl, h1, m1⟩
  rw [← E3.out] at h1
  have G3 := Lib.hid h1
  have K3 := Lib.hid ((m1.keep _ (Array.getElem?_eq_some_iff.1 K2.out).1 hgc).trans K2.out)
  have M3 := Lib.hid (M2.out.trans m1)
  clear h1 m1 q3 qk
  go_wp2
  go_end0
  rw [← hX.out]
  exact ⟨rfl, G3.out, M3.out⟩

set_option maxRecDepth 100000 in
set_option maxHeartbeats 1000000 in
theorem rput_k46 (c : Nat) (s : List UInt8 × Int) (x : Opx) (hk : 4 ≤ x.K ∧ x.K ≤ 6) (w : World) (hc : c < w.heap.size) (hPa : x.Pa.size ≤ 9223372036854775807) (hDa : x.Da.size ≤ 9223372036854775807) (h : Rw c ⟨s.1.toArray⟩ s.2 w) (hlen : s.1.length + 200000 ≤ 9223372036854775807) :
    Calls Tryd.prog 29 #[.pointer (some ⟨c, 0, none⟩), .agg x.cells] w fun r w' => r = .returned (.tuple #[]) ∧ Rw c ⟨(oput x s).1.toArray⟩ (oput x s).2 w' ∧ Rm c w w' := by
  have hga := Lib.hid ((Gr.rfl' w).al (.cells x.cells 23))
  have HB0 := Lib.hid (World.alloc_heap_new w (.cells x.cells 23))
  have H0 := Lib.hid (h.gr hga.out)
  have hgc : w.heap.size ≠ c := by omega
  clear h
  have b1 : decide (4 ≤ x.K) = true := by simp; omega
  have b2 : decide (x.K ≤ 7) = true := by simp; omega
  have b3 : decide (2 ≤ x.K) = true := by simp; omega
  have b4 : decide (x.K ≤ 9) = true := by simp; omega
  have b5 : (x.K == 7) = false := by simp; omega
  have b6 : (x.K == 9) = false := by simp; omega
  have b7 : decide (x.K < 2) = false := by simp; omega
  have b8 : (x.K == 0) = false := by simp; omega
  obtain ⟨s0, e0⟩ : ∃ s0, s0 = wfail (ochk x) s := ⟨_, rfl⟩
  have l0 : s0.1.length ≤ s.1.length := by rw [e0, wfail_lenL]; exact Nat.le_refl _
  obtain ⟨s1, e1⟩ : ∃ s1, s1 = wnum x.K s0 := ⟨_, rfl⟩
  have l1 : s1.1.length ≤ s0.1.length + 5 := by rw [e1]; exact wnum_len _ _
  obtain ⟨s2, e2⟩ : ∃ s2, s2 = wnum x.P s1 := ⟨_, rfl⟩
  have l2 : s2.1.length ≤ s1.1.length + 5 := by rw [e2]; exact wnum_len _ _
  obtain ⟨s3, e3⟩ : ∃ s3, s3 = wnum x.T s2 := ⟨_, rfl⟩
  have l3 : s3.1.length ≤ s2.1.length + 5 := by rw [e3]; exact wnum_len _ _
  obtain ⟨s4, e4⟩ : ∃ s4, s4 = wnum x.N s3 := ⟨_, rfl⟩
  have l4 : s4.1.length ≤ s3.1.length + 5 := by rw [e4]; exact wnum_len _ _
  have hX : Hid (s4 = oput x s) := by
    show _ = _
    rw [← oputR_eq]
    unfold oputR ct cn
    rw [if_neg (by omega), if_neg (by omega), if_neg (by omega), if_neg (by omega), if_pos (by omega), if_pos (by omega)]
    rw [e4, e3, e2, e1, e0]
  have E0 := Lib.hid e0; clear e0; have E1 := Lib.hid e1; clear e1; have E2 := Lib.hid e2; clear e2; have E3 := Lib.hid e3; clear e3; have E4 := Lib.hid e4; clear e4
  clear hk
  go_enter Tryd.func29, Tryd.ntmps29
  go_wp2_with (first | refine wpList_load_row rfl 23 _ rfl w.heap.size rfl 23 x.cells (0, 0) _ HB0.out Tryd.underlying23 rfl (by kernel_rfl) ?_)
  refine (refCheck_any x _).mono ?_
  rintro r wa ⟨rfl, hg1⟩
  go_wp2_with fail
  refine (rFail_any c _ _ (ochk x) _ (H0.out.gr hg1)).mono ?_
  rintro r w0 ⟨rfl, h1, m1⟩
  rw [rfail_eq, ← E0.out] at h1
  have G0 := Lib.hid h1
  have K0 := Lib.hid ((m1.keep _ (Nat.lt_of_lt_of_le (Array.getElem?_eq_some_iff.1 HB0.out).1 hg1.size) hgc).trans ((hg1.block _ (Array.getElem?_eq_some_iff.1 HB0.out).1).trans HB0.out))
  have M0 := Lib.hid (((Rm.of hga.out).gr hg1).trans m1)
  clear h1 m1 hg1
  have q1 : w0.cell? ⟨w.heap.size, 0, none⟩ = some (.int .i64 x.K) := oCell K0.out rfl
  go_wp2_with fail
  refine (rNum2 c s0 x.K _ G0.out (by omega)).mono ?_
  rintro r w1 ⟨rfl, h1, m1⟩
  rw [← E1.out] at h1
  have G1 := Lib.hid h1
  have K1 := Lib.hid ((m1.keep _ (Array.getElem?_eq_some_iff.1 K0.out).1 hgc).trans K0.out)
  have M1 := Lib.hid (M0.out.trans m1)
  clear h1 m1 q1
  have q2 : w1.cell? ⟨w.heap.size, 1, none⟩ = some (.int .i64 x.P) := oCell K1.out rfl
  go_wp2_with fail
  refine (rNum2 c s1 x.P _ G1.out (by omega)).mono ?_
  rintro r w2 ⟨rfl, h1, m1⟩
  rw [← E2.out] at h1
  have G2 := Lib.hid h1
  have K2 := Lib.hid ((m1.keep _ (Array.getElem?_eq_some_iff.1 K1.out).1 hgc).trans K1.out)
  have M2 := Lib.hid (M1.out.trans m1)
  clear h1 m1 q2
  have q3 : w2.cell? ⟨w.heap.size, 2, none⟩ = some (.int .i64 x.T) := oCell K2.out rfl
  have qk : w2.cell? ⟨w.heap.size, 0, none⟩ = some (.int .i64 x.K) := oCell K2.out rfl
  go_wp2_with fail
  refine (rNum2 c s2 x.T _ G2.out (by omega)).mono ?_
  rintro r w3 ⟨rfl, h1, m1⟩
  rw [← E3.out] at h1
  have G3 := Lib.hid h1
  have K3 := Lib.hid ((m1.keep _ (Array.getElem?_eq_some_iff.1 K2.out).1 hgc).trans K2.out)
  have M3 := Lib.hid (M2.out.trans m1)
  clear h1 m1 q3 qk
  have q4 : w3.cell? ⟨w.heap.size, 3, none⟩ = some (.int .i64 x.N) := oCell K3.out rfl
  go_wp2_with fail
  refine (rNum2 c s3 x.N _ G3.out (by omega)).mono ?_
  rintro r w4 ⟨rfl, h1, m1⟩
  rw [← E4.out] at h1
  have G4 := Lib.hid h1
  have K4 := Lib.hid ((m1.keep _ (Array.getElem?_eq_some_iff.1 K3.out).1 hgc).trans K3.out)
  have M4 := Lib.hid (M3.out.trans m1)
  clear h1 m1 q4
  go_wp2
  go_end0
  rw [← hX.out]
  exact ⟨rfl, G4.out, M4.out⟩

set_option maxRecDepth 100000 in
set_option maxHeartbeats 1000000 in
theorem rput_k7 (c : Nat) (s : List UInt8 × Int) (x : Opx) (hk : x.K = 7) (w : World) (hc : c < w.heap.size) (hPa : x.Pa.size ≤ 9223372036854775807) (hDa : x.Da.size ≤ 9223372036854775807) (h : Rw c ⟨s.1.toArray⟩ s.2 w) (hlen : s.1.length + 200000 ≤ 9223372036854775807) :
    Calls Tryd.prog 29 #[.pointer (some ⟨c, 0, none⟩), .agg x.cells] w fun r w' => r = .returned (.tuple #[]) ∧ Rw c ⟨(oput x s).1.toArray⟩ (oput x s).2 w' ∧ Rm c w w' := by
  have hga := Lib.hid ((Gr.rfl' w).al (.cells x.cells 23))
  have HB0 := Lib.hid (World.alloc_heap_new w (.cells x.cells 23))
  have H0 := Lib.hid (h.gr hga.out)
  have hgc : w.heap.size ≠ c := by omega
  clear h
  have b1 : decide (4 ≤ x.K) = true := by simp; omega
  have b2 : decide (x.K ≤ 7) = true := by simp; omega
  have b3 : decide (2 ≤ x.K) = true := by simp; omega
  have b4 : decide (x.K ≤ 9) = true := by simp; omega
  have b5 : (x.K == 7) = true := by simp; omega
  have b6 : (x.K == 9) = false := by simp; omega
  have b7 : decide (x.K < 2) = false := by simp; omega
  have b8 : (x.K == 0) = false := by simp; omega
  obtain ⟨s0, e0⟩ : ∃ s0, s0 = wfail (ochk x) s := ⟨_, rfl⟩
  have l0 : s0.1.length ≤ s.1.length := by rw [e0, wfail_lenL]; exact Nat.le_refl _
  obtain ⟨s1, e1⟩ : ∃ s1, s1 = wnum x.K s0 := ⟨_, rfl⟩
  have l1 : s1.1.length ≤ s0.1.length + 5 := by rw [e1]; exact wnum_len _ _
  obtain ⟨s2, e2⟩ : ∃ s2, s2 = wnum x.P s1 := ⟨_, rfl⟩
  have l2 : s2.1.length ≤ s1.1.length + 5 := by rw [e2]; exact wnum_len _ _
  obtain ⟨s3, e3⟩ : ∃ s3, s3 = wnum x.T s2 := ⟨_, rfl⟩
  have l3 : s3.1.length ≤ s2.1.length + 5 := by rw [e3]; exact wnum_len _ _
  obtain ⟨s4, e4⟩ : ∃ s4, s4 = wnum x.N s3 := ⟨_, rfl⟩
  have l4 : s4.1.length ≤ s3.1.length + 5 := by rw [e4]; exact wnum_len _ _
  obtain ⟨s5, e5⟩ : ∃ s5, s5 = wnum x.A s4 := ⟨_, rfl⟩
  have l5 : s5.1.length ≤ s4.1.length + 5 := by rw [e5]; exact wnum_len _ _
  obtain ⟨s6, e6⟩ : ∃ s6, s6 = wnum x.M s5 := ⟨_, rfl⟩
  have l6 : s6.1.length ≤ s5.1.length + 5 := by rw [e6]; exact wnum_len _ _
  have hX : Hid (s6 = oput x s) := by
    show _ = _
    rw [← oputR_eq]
    unfold oputR ct cn
    rw [if_neg (by omega), if_neg (by omega), if_pos (by omega), if_pos (by omega), if_pos (by omega), if_pos (by omega)]
    rw [e6, e5, e4, e3, e2, e1, e0]
  have E0 := Lib.hid e0; clear e0; have E1 := Lib.hid e1; clear e1; have E2 := Lib.hid e2; clear e2; have E3 := Lib.hid e3; clear e3; have E4 := Lib.hid e4; clear e4; have E5 := Lib.hid e5; clear e5; have E6 := Lib.hid e6; clear e6
  clear hk
  go_enter Tryd.func29, Tryd.ntmps29
  go_wp2_with (first | refine wpList_load_row rfl 23 _ rfl w.heap.size rfl 23 x.cells (0, 0) _ HB0.out Tryd.underlying23 rfl (by kernel_rfl) ?_)
  refine (refCheck_any x _).mono ?_
  rintro r wa ⟨rfl, hg1⟩
  go_wp2_with fail
  refine (rFail_any c _ _ (ochk x) _ (H0.out.gr hg1)).mono ?_
  rintro r w0 ⟨rfl, h1, m1⟩
  rw [rfail_eq, ← E0.out] at h1
  have G0 := Lib.hid h1
  have K0 := Lib.hid ((m1.keep _ (Nat.lt_of_lt_of_le (Array.getElem?_eq_some_iff.1 HB0.out).1 hg1.size) hgc).trans ((hg1.block _ (Array.getElem?_eq_some_iff.1 HB0.out).1).trans HB0.out))
  have M0 := Lib.hid (((Rm.of hga.out).gr hg1).trans m1)
  clear h1 m1 hg1
  have q1 : w0.cell? ⟨w.heap.size, 0, none⟩ = some (.int .i64 x.K) := oCell K0.out rfl
  go_wp2_with fail
  refine (rNum2 c s0 x.K _ G0.out (by omega)).mono ?_
  rintro r w1 ⟨rfl, h1, m1⟩
  rw [← E1.out] at h1
  have G1 := Lib.hid h1
  have K1 := Lib.hid ((m1.keep _ (Array.getElem?_eq_some_iff.1 K0.out).1 hgc).trans K0.out)
  have M1 := Lib.hid (M0.out.trans m1)
  clear h1 m1 q1
  have q2 : w1.cell? ⟨w.heap.size, 1, none⟩ = some (.int .i64 x.P) := oCell K1.out rfl
  go_wp2_with fail
  refine (rNum2 c s1 x.P _ G1.out (by omega)).mono ?_
  rintro r w2 ⟨rfl, h1, m1⟩
  rw [← E2.out] at h1
  have G2 := Lib.hid h1
  have K2 := Lib.hid ((m1.keep _ (Array.getElem?_eq_some_iff.1 K1.out).1 hgc).trans K1.out)
  have M2 := Lib.hid (M1.out.trans m1)
  clear h1 m1 q2
  have q3 : w2.cell? ⟨w.heap.size, 2, none⟩ = some (.int .i64 x.T) := oCell K2.out rfl
  have qk : w2.cell? ⟨w.heap.size, 0, none⟩ = some (.int .i64 x.K) := oCell K2.out rfl
  go_wp2_with fail
  refine (rNum2 c s2 x.T _ G2.out (by omega)).mono ?_
  rintro r w3 ⟨rfl, h1, m1⟩
  rw [← E3.out] at h1
  have G3 := Lib.hid h1
  have K3 := Lib.hid ((m1.keep _ (Array.getElem?_eq_some_iff.1 K2.out).1 hgc).trans K2.out)
  have M3 := Lib.hid (M2.out.trans m1)
  clear h1 m1 q3 qk
  have q4 : w3.cell? ⟨w.heap.size, 3, none⟩ = some (.int .i64 x.N) := oCell K3.out rfl
  go_wp2_with fail
  refine (rNum2 c s3 x.N _ G3.out (by omega)).mono ?_
  rintro r w4 ⟨rfl, h1, m1⟩
  rw [← E4.out] at h1
  have G4 := Lib.hid h1
  have K4 := Lib.hid ((m1.keep _ (Array.getElem?_eq_some_iff.1 K3.out).1 hgc).trans K3.out)
  have M4 := Lib.hid (M3.out.trans m1)
  clear h1 m1 q4
  have q5 : w4.cell? ⟨w.heap.size, 4, none⟩ = some (.int .i64 x.A) := oCell K4.out rfl
  go_wp2_with fail
  refine (rNum2 c s4 x.A _ G4.out (by omega)).mono ?_
  rintro r w5 ⟨rfl, h1, m1⟩
  rw [← E5.out] at h1
  have G5 := Lib.hid h1
  have K5 := Lib.hid ((m1.keep _ (Array.getElem?_eq_some_iff.1 K4.out).1 hgc).trans K4.out)
  have M5 := Lib.hid (M4.out.trans m1)
  clear h1 m1 q5
  have q6 : w5.cell? ⟨w.heap.size, 5, none⟩ = some (.int .i64 x.M) := oCell K5.out rfl
  go_wp2_with fail
  refine (rNum2 c s5 x.M _ G5.out (by omega)).mono ?_
  rintro r w6 ⟨rfl, h1, m1⟩
  rw [← E6.out] at h1
  have G6 := Lib.hid h1
  have K6 := Lib.hid ((m1.keep _ (Array.getElem?_eq_some_iff.1 K5.out).1 hgc).trans K5.out)
  have M6 := Lib.hid (M5.out.trans m1)
  clear h1 m1 q6
  go_wp2
  go_end0
  rw [← hX.out]
  exact ⟨rfl, G6.out, M6.out⟩

set_option maxRecDepth 100000 in
set_option maxHeartbeats 1000000 in
theorem rput_k8 (c : Nat) (s : List UInt8 × Int) (x : Opx) (hk : x.K = 8) (w : World) (hc : c < w.heap.size) (hPa : x.Pa.size ≤ 9223372036854775807) (hDa : x.Da.size ≤ 9223372036854775807) (h : Rw c ⟨s.1.toArray⟩ s.2 w) (hlen : s.1.length + 200000 ≤ 9223372036854775807) :
    Calls Tryd.prog 29 #[.pointer (some ⟨c, 0, none⟩), .agg x.cells] w fun r w' => r = .returned (.tuple #[]) ∧ Rw c ⟨(oput x s).1.toArray⟩ (oput x s).2 w' ∧ Rm c w w' := by
  have hga := Lib.hid ((Gr.rfl' w).al (.cells x.cells 23))
  have HB0 := Lib.hid (World.alloc_heap_new w (.cells x.cells 23))
  have H0 := Lib.hid (h.gr hga.out)
  have hgc : w.heap.size ≠ c := by omega
  clear h
  have b1 : decide (4 ≤ x.K) = true := by simp; omega
  have b2 : decide (x.K ≤ 7) = false := by simp; omega
  have b3 : decide (2 ≤ x.K) = true := by simp; omega
  have b4 : decide (x.K ≤ 9) = true := by simp; omega
  have b5 : (x.K == 7) = false := by simp; omega
  have b6 : (x.K == 9) = false := by simp; omega
  have b7 : decide (x.K < 2) = false := by simp; omega
  have b8 : (x.K == 0) = false := by simp; omega
  obtain ⟨s0, e0⟩ : ∃ s0, s0 = wfail (ochk x) s := ⟨_, rfl⟩
  have l0 : s0.1.length ≤ s.1.length := by rw [e0, wfail_lenL]; exact Nat.le_refl _
  obtain ⟨s1, e1⟩ : ∃ s1, s1 = wnum x.K s0 := ⟨_, rfl⟩
  have l1 : s1.1.length ≤ s0.1.length + 5 := by rw [e1]; exact wnum_len _ _
  obtain ⟨s2, e2⟩ : ∃ s2, s2 = wnum x.P s1 := ⟨_, rfl⟩
  have l2 : s2.1.length ≤ s1.1.length + 5 := by rw [e2]; exact wnum_len _ _
  obtain ⟨s3, e3⟩ : ∃ s3, s3 = wnum x.N s2 := ⟨_, rfl⟩
  have l3 : s3.1.length ≤ s2.1.length + 5 := by rw [e3]; exact wnum_len _ _
  have hX : Hid (s3 = oput x s) := by
    show _ = _
    rw [← oputR_eq]
    unfold oputR ct cn
    rw [if_neg (by omega), if_neg (by omega), if_neg (by omega), if_neg (by omega), if_pos (by omega), if_neg (by omega)]
    rw [e3, e2, e1, e0]
  have E0 := Lib.hid e0; clear e0; have E1 := Lib.hid e1; clear e1; have E2 := Lib.hid e2; clear e2; have E3 := Lib.hid e3; clear e3
  clear hk
  go_enter Tryd.func29, Tryd.ntmps29
  go_wp2_with (first | refine wpList_load_row rfl 23 _ rfl w.heap.size rfl 23 x.cells (0, 0) _ HB0.out Tryd.underlying23 rfl (by kernel_rfl) ?_)
  refine (refCheck_any x _).mono ?_
  rintro r wa ⟨rfl, hg1⟩
  go_wp2_with fail
  refine (rFail_any c _ _ (ochk x) _ (H0.out.gr hg1)).mono ?_
  rintro r w0 ⟨rfl, h1, m1⟩
  rw [rfail_eq, ← E0.out] at h1
  have G0 := Lib.hid h1
  have K0 := Lib.hid ((m1.keep _ (Nat.lt_of_lt_of_le (Array.getElem?_eq_some_iff.1 HB0.out).1 hg1.size) hgc).trans ((hg1.block _ (Array.getElem?_eq_some_iff.1 HB0.out).1).trans HB0.out))
  have M0 := Lib.hid (((Rm.of hga.out).gr hg1).trans m1)
  clear h1 m1 hg1
  have q1 : w0.cell? ⟨w.heap.size, 0, none⟩ = some (.int .i64 x.K) := oCell K0.out rfl
  go_wp2_with fail
  refine (rNum2 c s0 x.K _ G0.out (by omega)).mono ?_
  rintro r w1 ⟨rfl, h1, m1⟩
  rw [← E1.out] at h1
  have G1 := Lib.hid h1
  have K1 := Lib.hid ((m1.keep _ (Array.getElem?_eq_some_iff.1 K0.out).1 hgc).trans K0.out)
  have M1 := Lib.hid (M0.out.trans m1)
  clear h1 m1 q1
  have q2 : w1.cell? ⟨w.heap.size, 1, none⟩ = some (.int .i64 x.P) := oCell K1.out rfl
  go_wp2_with fail
  refine (rNum2 c s1 x.P _ G1.out (by omega)).mono ?_
  rintro r w2 ⟨rfl, h1, m1⟩
  rw [← E2.out] at h1
  have G2 := Lib.hid h1
  have K2 := Lib.hid ((m1.keep _ (Array.getElem?_eq_some_iff.1 K1.out).1 hgc).trans K1.out)
  have M2 := Lib.hid (M1.out.trans m1)
  clear h1 m1 q2
  have q3 : w2.cell? ⟨w.heap.size, 3, none⟩ = some (.int .i64 x.N) := oCell K2.out rfl
  have qk : w2.cell? ⟨w.heap.size, 0, none⟩ = some (.int .i64 x.K) := oCell K2.out rfl
  go_wp2_with fail
  refine (rNum2 c s2 x.N _ G2.out (by omega)).mono ?_
  rintro r w3 ⟨rfl, h1, m1⟩
  rw [← E3.out] at h1
  have G3 := Lib.hid h1
  have K3 := Lib.hid ((m1.keep _ (Array.getElem?_eq_some_iff.1 K2.out).1 hgc).trans K2.out)
  have M3 := Lib.hid (M2.out.trans m1)
  clear h1 m1 q3 qk
  go_wp2
  go_end0
  rw [← hX.out]
  exact ⟨rfl, G3.out, M3.out⟩

set_option maxRecDepth 100000 in
set_option maxHeartbeats 1000000 in
theorem rput_k9 (c : Nat) (s : List UInt8 × Int) (x : Opx) (hk : x.K = 9) (w : World) (hc : c < w.heap.size) (hPa : x.Pa.size ≤ 9223372036854775807) (hDa : x.Da.size ≤ 9223372036854775807) (h : Rw c ⟨s.1.toArray⟩ s.2 w) (hlen : s.1.length + 200000 ≤ 9223372036854775807) :
    Calls Tryd.prog 29 #[.pointer (some ⟨c, 0, none⟩), .agg x.cells] w fun r w' => r = .returned (.tuple #[]) ∧ Rw c ⟨(oput x s).1.toArray⟩ (oput x s).2 w' ∧ Rm c w w' := by
  have hga := Lib.hid ((Gr.rfl' w).al (.cells x.cells 23))
  have HB0 := Lib.hid (World.alloc_heap_new w (.cells x.cells 23))
  have H0 := Lib.hid (h.gr hga.out)
  have hgc : w.heap.size ≠ c := by omega
  clear h
  have b1 : decide (4 ≤ x.K) = true := by simp; omega
  have b2 : decide (x.K ≤ 7) = false := by simp; omega
  have b3 : decide (2 ≤ x.K) = true := by simp; omega
  have b4 : decide (x.K ≤ 9) = true := by simp; omega
  have b5 : (x.K == 7) = false := by simp; omega
  have b6 : (x.K == 9) = true := by simp; omega
  have b7 : decide (x.K < 2) = false := by simp; omega
  have b8 : (x.K == 0) = false := by simp; omega
  obtain ⟨s0, e0⟩ : ∃ s0, s0 = wfail (ochk x) s := ⟨_, rfl⟩
  have l0 : s0.1.length ≤ s.1.length := by rw [e0, wfail_lenL]; exact Nat.le_refl _
  obtain ⟨s1, e1⟩ : ∃ s1, s1 = wnum x.K s0 := ⟨_, rfl⟩
  have l1 : s1.1.length ≤ s0.1.length + 5 := by rw [e1]; exact wnum_len _ _
  obtain ⟨s2, e2⟩ : ∃ s2, s2 = wnum x.P s1 := ⟨_, rfl⟩
  have l2 : s2.1.length ≤ s1.1.length + 5 := by rw [e2]; exact wnum_len _ _
  obtain ⟨s3, e3⟩ : ∃ s3, s3 = wnum x.N s2 := ⟨_, rfl⟩
  have l3 : s3.1.length ≤ s2.1.length + 5 := by rw [e3]; exact wnum_len _ _
  obtain ⟨s4, e4⟩ : ∃ s4, s4 = wnum x.A s3 := ⟨_, rfl⟩
  have l4 : s4.1.length ≤ s3.1.length + 5 := by rw [e4]; exact wnum_len _ _
  have hX : Hid (s4 = oput x s) := by
    show _ = _
    rw [← oputR_eq]
    unfold oputR ct cn
    rw [if_neg (by omega), if_neg (by omega), if_neg (by omega), if_pos (by omega), if_pos (by omega), if_neg (by omega)]
    rw [e4, e3, e2, e1, e0]
  have E0 := Lib.hid e0; clear e0; have E1 := Lib.hid e1; clear e1; have E2 := Lib.hid e2; clear e2; have E3 := Lib.hid e3; clear e3; have E4 := Lib.hid e4; clear e4
  clear hk
  go_enter Tryd.func29, Tryd.ntmps29
  go_wp2_with (first | refine wpList_load_row rfl 23 _ rfl w.heap.size rfl 23 x.cells (0, 0) _ HB0.out Tryd.underlying23 rfl (by kernel_rfl) ?_)
  refine (refCheck_any x _).mono ?_
  rintro r wa ⟨rfl, hg1⟩
  go_wp2_with fail
  refine (rFail_any c _ _ (ochk x) _ (H0.out.gr hg1)).mono ?_
  rintro r w0 ⟨rfl, h1, m1⟩
  rw [rfail_eq, ← E0.out] at h1
  have G0 := Lib.hid h1
  have K0 := Lib.hid ((m1.keep _ (Nat.lt_of_lt_of_le (Array.getElem?_eq_some_iff.1 HB0.out).1 hg1.size) hgc).trans ((hg1.block _ (Array.getElem?_eq_some_iff.1 HB0.out).1).trans HB0.out))
  have M0 := Lib.hid (((Rm.of hga.out).gr hg1).trans m1)
  clear h1 m1 hg1
  have q1 : w0.cell? ⟨w.heap.size, 0, none⟩ = some (.int .i64 x.K) := oCell K0.out rfl
  go_wp2_with fail
  refine (rNum2 c s0 x.K _ G0.out (by omega)).mono ?_
  rintro r w1 ⟨rfl, h1, m1⟩
  rw [← E1.out] at h1
  have G1 := Lib.hid h1
  have K1 := Lib.hid ((m1.keep _ (Array.getElem?_eq_some_iff.1 K0.out).1 hgc).trans K0.out)
  have M1 := Lib.hid (M0.out.trans m1)
  clear h1 m1 q1
  have q2 : w1.cell? ⟨w.heap.size, 1, none⟩ = some (.int .i64 x.P) := oCell K1.out rfl
  go_wp2_with fail
  refine (rNum2 c s1 x.P _ G1.out (by omega)).mono ?_
  rintro r w2 ⟨rfl, h1, m1⟩
  rw [← E2.out] at h1
  have G2 := Lib.hid h1
  have K2 := Lib.hid ((m1.keep _ (Array.getElem?_eq_some_iff.1 K1.out).1 hgc).trans K1.out)
  have M2 := Lib.hid (M1.out.trans m1)
  clear h1 m1 q2
  have q3 : w2.cell? ⟨w.heap.size, 3, none⟩ = some (.int .i64 x.N) := oCell K2.out rfl
  have qk : w2.cell? ⟨w.heap.size, 0, none⟩ = some (.int .i64 x.K) := oCell K2.out rfl
  go_wp2_with fail
  refine (rNum2 c s2 x.N _ G2.out (by omega)).mono ?_
  rintro r w3 ⟨rfl, h1, m1⟩
  rw [← E3.out] at h1
  have G3 := Lib.hid h1
  have K3 := Lib.hid ((m1.keep _ (Array.getElem?_eq_some_iff.1 K2.out).1 hgc).trans K2.out)
  have M3 := Lib.hid (M2.out.trans m1)
  clear h1 m1 q3 qk
  have q4 : w3.cell? ⟨w.heap.size, 4, none⟩ = some (.int .i64 x.A) := oCell K3.out rfl
  go_wp2_with fail
  refine (rNum2 c s3 x.A _ G3.out (by omega)).mono ?_
  rintro r w4 ⟨rfl, h1, m1⟩
  rw [← E4.out] at h1
  have G4 := Lib.hid h1
  have K4 := Lib.hid ((m1.keep _ (Array.getElem?_eq_some_iff.1 K3.out).1 hgc).trans K3.out)
  have M4 := Lib.hid (M3.out.trans m1)
  clear h1 m1 q4
  go_wp2
  go_end0
  rw [← hX.out]
  exact ⟨rfl, G4.out, M4.out⟩

set_option maxRecDepth 100000 in
set_option maxHeartbeats 1000000 in
theorem rput_big (c : Nat) (s : List UInt8 × Int) (x : Opx) (hk : 10 ≤ x.K) (w : World) (hc : c < w.heap.size) (hPa : x.Pa.size ≤ 9223372036854775807) (hDa : x.Da.size ≤ 9223372036854775807) (h : Rw c ⟨s.1.toArray⟩ s.2 w) (hlen : s.1.length + 200000 ≤ 9223372036854775807) :
    Calls Tryd.prog 29 #[.pointer (some ⟨c, 0, none⟩), .agg x.cells] w fun r w' => r = .returned (.tuple #[]) ∧ Rw c ⟨(oput x s).1.toArray⟩ (oput x s).2 w' ∧ Rm c w w' := by
  have hga := Lib.hid ((Gr.rfl' w).al (.cells x.cells 23))
  have HB0 := Lib.hid (World.alloc_heap_new w (.cells x.cells 23))
  have H0 := Lib.hid (h.gr hga.out)
  have hgc : w.heap.size ≠ c := by omega
  clear h
  have b1 : decide (4 ≤ x.K) = true := by simp; omega
  have b2 : decide (x.K ≤ 7) = false := by simp; omega
  have b3 : decide (2 ≤ x.K) = true := by simp; omega
  have b4 : decide (x.K ≤ 9) = false := by simp; omega
  have b5 : (x.K == 7) = false := by simp; omega
  have b6 : (x.K == 9) = false := by simp; omega
  have b7 : decide (x.K < 2) = false := by simp; omega
  have b8 : (x.K == 0) = false := by simp; omega
  obtain ⟨s0, e0⟩ : ∃ s0, s0 = wfail (ochk x) s := ⟨_, rfl⟩
  have l0 : s0.1.length ≤ s.1.length := by rw [e0, wfail_lenL]; exact Nat.le_refl _
  obtain ⟨s1, e1⟩ : ∃ s1, s1 = wnum x.K s0 := ⟨_, rfl⟩
  have l1 : s1.1.length ≤ s0.1.length + 5 := by rw [e1]; exact wnum_len _ _
  obtain ⟨s2, e2⟩ : ∃ s2, s2 = wnum x.P s1 := ⟨_, rfl⟩
  have l2 : s2.1.length ≤ s1.1.length + 5 := by rw [e2]; exact wnum_len _ _
  have hX : Hid (s2 = oput x s) := by
    show _ = _
    rw [← oputR_eq]
    unfold oputR ct cn
    rw [if_neg (by omega), if_neg (by omega), if_neg (by omega), if_neg (by omega), if_neg (by omega), if_neg (by omega)]
    rw [e2, e1, e0]
  have E0 := Lib.hid e0; clear e0; have E1 := Lib.hid e1; clear e1; have E2 := Lib.hid e2; clear e2
  clear hk
  go_enter Tryd.func29, Tryd.ntmps29
  go_wp2_with (first | refine wpList_load_row rfl 23 _ rfl w.heap.size rfl 23 x.cells (0, 0) _ HB0.out Tryd.underlying23 rfl (by kernel_rfl) ?_)
  refine (refCheck_any x _).mono ?_
  rintro r wa ⟨rfl, hg1⟩
  go_wp2_with fail
  refine (rFail_any c _ _ (ochk x) _ (H0.out.gr hg1)).mono ?_
  rintro r w0 ⟨rfl, h1, m1⟩
  rw [rfail_eq, ← E0.out] at h1
  have G0 := Lib.hid h1
  have K0 := Lib.hid ((m1.keep _ (Nat.lt_of_lt_of_le (Array.getElem?_eq_some_iff.1 HB0.out).1 hg1.size) hgc).trans ((hg1.block _ (Array.getElem?_eq_some_iff.1 HB0.out).1).trans HB0.out))
  have M0 := Lib.hid (((Rm.of hga.out).gr hg1).trans m1)
  clear h1 m1 hg1
  have q1 : w0.cell? ⟨w.heap.size, 0, none⟩ = some (.int .i64 x.K) := oCell K0.out rfl
  go_wp2_with fail
  refine (rNum2 c s0 x.K _ G0.out (by omega)).mono ?_
  rintro r w1 ⟨rfl, h1, m1⟩
  rw [← E1.out] at h1
  have G1 := Lib.hid h1
  have K1 := Lib.hid ((m1.keep _ (Array.getElem?_eq_some_iff.1 K0.out).1 hgc).trans K0.out)
  have M1 := Lib.hid (M0.out.trans m1)
  clear h1 m1 q1
  have q2 : w1.cell? ⟨w.heap.size, 1, none⟩ = some (.int .i64 x.P) := oCell K1.out rfl
  go_wp2_with fail
  refine (rNum2 c s1 x.P _ G1.out (by omega)).mono ?_
  rintro r w2 ⟨rfl, h1, m1⟩
  rw [← E2.out] at h1
  have G2 := Lib.hid h1
  have K2 := Lib.hid ((m1.keep _ (Array.getElem?_eq_some_iff.1 K1.out).1 hgc).trans K1.out)
  have M2 := Lib.hid (M1.out.trans m1)
  clear h1 m1 q2
  have qk : w2.cell? ⟨w.heap.size, 0, none⟩ = some (.int .i64 x.K) := oCell K2.out rfl
  go_wp2
  go_end0
  rw [← hX.out]
  exact ⟨rfl, G2.out, M2.out⟩

theorem refPut_any (c : Nat) (s : List UInt8 × Int) (x : Opx) (w : World) (hc : c < w.heap.size) (hPa : x.Pa.size ≤ 9223372036854775807) (hDa : x.Da.size ≤ 9223372036854775807) (h : Rw c ⟨s.1.toArray⟩ s.2 w) (hlen : s.1.length + 200000 ≤ 9223372036854775807) :
    Calls Tryd.prog 29 #[.pointer (some ⟨c, 0, none⟩), .agg x.cells] w fun r w' => r = .returned (.tuple #[]) ∧ Rw c ⟨(oput x s).1.toArray⟩ (oput x s).2 w' ∧ Rm c w w' := by
  have hk : x.K < 0 ∨ x.K = 0 ∨ x.K = 1 ∨ (2 ≤ x.K ∧ x.K ≤ 3) ∨ (4 ≤ x.K ∧ x.K ≤ 6) ∨ x.K = 7 ∨ x.K = 8 ∨ x.K = 9 ∨ 10 ≤ x.K := by omega
  rcases hk with hk | hk | hk | hk | hk | hk | hk | hk | hk
  · exact rput_neg c s x hk w hc hPa hDa h hlen
  · exact rput_k0 c s x hk w hc hPa hDa h hlen
  · exact rput_k1 c s x hk w hc hPa hDa h hlen
  · exact rput_k23 c s x hk w hc hPa hDa h hlen
  · exact rput_k46 c s x hk w hc hPa hDa h hlen
  · exact rput_k7 c s x hk w hc hPa hDa h hlen
  · exact rput_k8 c s x hk w hc hPa hDa h hlen
  · exact rput_k9 c s x hk w hc hPa hDa h hlen
  · exact rput_big c s x hk w hc hPa hDa h hlen
end Go.Proofs.YtjjdgmabgiembaaDoor
