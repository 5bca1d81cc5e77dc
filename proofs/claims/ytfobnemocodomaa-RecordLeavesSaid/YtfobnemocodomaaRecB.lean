/- hearsaylaw11.RecordVecs. -/
import Derived.Test.YtfobnemocodomaaRecA
set_option linter.unusedVariables false
set_option linter.unusedSimpArgs false
set_option maxHeartbeats 400000
namespace Go.Proofs.Ytfobnemocodomaa
open Go.RowKit Go.Shelf

theorem wnum_err (n : Int) (s : List UInt8 × Int) (h : s.2 ≠ 0) : wnum n s = s := by unfold wnum wput; rw [if_pos h]
theorem vnum_err : ∀ (l : List Dot) (s : List UInt8 × Int), s.2 ≠ 0 → vnum l s = s
  | [], s, _ => rfl
  | d :: l, s, h => by
    show vnum l (wnum d.2 (wnum d.1 s)) = s
    rw [wnum_err d.1 s h, wnum_err d.2 s h, vnum_err l s h]
theorem vput_ref (l : List Dot) (s : List UInt8 × Int) : vnum l (wnum l.length (wfail (chk l) s)) = vput l s := by
  unfold vput
  by_cases h : chk l = 0
  · rw [if_neg (by simpa using h), h]
    have : wfail 0 s = s := by
      unfold wfail
      split
      · rfl
      · rename_i h0
        simp only [ne_eq, Decidable.not_not] at h0
        rw [← h0]
    rw [this]
  · rw [if_pos h]
    have he : (wfail (chk l) s).2 ≠ 0 := by
      unfold wfail
      split
      · assumption
      · exact h
    rw [wnum_err _ _ he, vnum_err _ _ he]

theorem rnum_eq (n : Int) (s : List UInt8 × Int) : rput (numOk n) (putS n) (⟨s.1.toArray⟩, s.2) = (⟨(wnum n s).1.toArray⟩, (wnum n s).2) := rput_eq _ _ _
set_option maxRecDepth 100000 in
theorem rNum_any (c : Nat) (s : List UInt8 × Int) (n : Int) (w : World) (h : Rw c ⟨s.1.toArray⟩ s.2 w) (hlen : s.1.length + 5 ≤ 9223372036854775807) :
    Calls Try.prog 131 #[.pointer (some ⟨c, 0, none⟩), .int .i64 n] w fun r w' => r = .returned (.tuple #[]) ∧ Rw c ⟨(wnum n s).1.toArray⟩ (wnum n s).2 w' ∧ Rm c w w' := by
  refine (rNumber_any c _ _ n w h (by rw [sizeL]; exact hlen)).mono ?_
  rintro r w' ⟨rfl, h1, m1⟩
  rw [rnum_eq] at h1
  exact ⟨rfl, h1, m1⟩

theorem wfail_lenL (f : Int) (s : List UInt8 × Int) : (wfail f s).1.length = s.1.length := by unfold wfail; split <;> rfl
set_option maxRecDepth 100000 in
theorem refPutVec_any (c : Nat) (s : List UInt8 × Int) (A : Option Addr) (cap : Nat) (l : List Dot) (w0 w : World) (hD : Dots w0 A l) (hg0 : Gr w0 w) (hc : w0.heap.size ≤ c) (h : Rw c ⟨s.1.toArray⟩ s.2 w) (hlen : s.1.length + 5 + 10 * l.length + 10 ≤ 9223372036854775807) :
    Calls Try.prog 133 #[.pointer (some ⟨c, 0, none⟩), .slice A l.length cap] w fun r w' => r = .returned (.tuple #[]) ∧ Rw c ⟨(vput l s).1.toArray⟩ (vput l s).2 w' ∧ Rm c w w' := by
  have HH := Lib.hid h; clear h
  have HD := Lib.hid hD; clear hD
  have hll := HD.out.1
  have hfl := wfail_lenL (chk l) s
  have h1l := wnum_len l.length (wfail (chk l) s)
  have HV := Lib.hid (vnum_len l (wnum l.length (wfail (chk l) s)))
  go_enter Try.func133, Try.ntmps133
  go_wp2_with fail
  refine (refCheck_any A cap l _ (HD.out.gr hg0)).mono ?_
  rintro r w1 ⟨rfl, hg1⟩
  go_wp2_with fail
  refine (rFail_any c _ _ (chk l) _ (HH.out.gr hg1)).mono ?_
  rintro r w2 ⟨rfl, h2, m2⟩
  rw [rfail_eq] at h2
  have H2 := Lib.hid h2
  have M2 := Lib.hid ((Rm.of hg1).trans m2)
  clear h2 m2 hg1
  go_wp2_with fail
  refine (rNum_any c (wfail (chk l) s) l.length _ H2.out (by omega)).mono ?_
  rintro r w3 ⟨rfl, h3, m3⟩
  have H3 := Lib.hid h3
  have M3 := Lib.hid (M2.out.trans m3)
  clear h3 m3
  go_wp2
  go_loopw [4] (fun i wr => ∃ k : Nat, k ≤ l.length ∧ i = .int .i64 k ∧ Hid (Rw c ⟨(vnum (l.take k) (wnum l.length (wfail (chk l) s))).1.toArray⟩ (vnum (l.take k) (wnum l.length (wfail (chk l) s))).2 wr) ∧ Hid (Rm c w wr)) (fun i _ => l.length - (intOf i).toNat)
  case atStart => exact ⟨0, Nat.zero_le _, rfl, H3, M3⟩
  case round =>
    obtain ⟨k, hk, rfl, HW, HM⟩ := hrel
    clear H3 M3 H2 M2
    by_cases hlt : k < l.length
    · have hki : (k : Int) < l.length := by omega
      have hvk := HV.out k hk
      have hv1 := wnum_len l[k].1 (vnum (l.take k) (wnum l.length (wfail (chk l) s)))
      obtain ⟨ad, rfl, hx, hy⟩ := (HD.out.gr (HM.out.below hg0 hc)).2 k hlt
      go_wp2_with fail
      refine (rNum_any c _ l[k].1 _ HW.out (by omega)).mono ?_
      rintro r w4 ⟨rfl, h4, m4⟩
      have H4 := Lib.hid h4
      have M4 := Lib.hid (HM.out.trans m4)
      clear h4 m4 hx hy
      obtain ⟨ad', e', hx, hy⟩ := (HD.out.gr (M4.out.below hg0 hc)).2 k hlt
      cases e'
      go_wp2_with fail
      refine (rNum_any c _ l[k].2 _ H4.out (by omega)).mono ?_
      rintro r w5 ⟨rfl, h5, m5⟩
      have H5 : Hid (Rw c ⟨(vnum (l.take (k + 1)) (wnum l.length (wfail (chk l) s))).1.toArray⟩ (vnum (l.take (k + 1)) (wnum l.length (wfail (chk l) s))).2 w5) := by show Rw _ _ _ _; rw [vnum_take hlt]; exact h5
      have M5 := Lib.hid (M4.out.trans m5)
      clear h5 m5 hx hy
      go_wp2
      go_roundw
      case rel => exact ⟨k + 1, by omega, by go_num, H5, M5⟩
      case measure => simp [intOf]; omega
    · have hkk : k = l.length := by omega
      subst hkk
      rw [List.take_length] at HW
      go_wp2
      go_end0
      have := HW.out
      rw [vput_ref] at this
      exact ⟨rfl, this, HM.out⟩

theorem putD (n : Nat) (h : n < 128) : putS n = ⟨#[UInt8.ofNat n]⟩ := by rw [putS_nat n (by omega), grpN_small h]; simp [strOfNums]
theorem wnum_small (n : Nat) (h : n < 128) (L : List UInt8) : wnum (n : Int) (L, 0) = (L ++ [UInt8.ofNat n], 0) := by
  have hk : numOk (n : Int) = true := by simp [numOk]; omega
  unfold wnum wput
  rw [hk, putD n h]
  simp
theorem awkV : doneV (vput [(0, 2), (3, 1)] ([], 0)) = ([2, 0, 2, 3, 1], 0) := by
  have hc : chk [(0, 2), (3, 1)] = 0 := by decide
  have h : vput [(0, 2), (3, 1)] ([], 0) = wnum ((1 : Nat) : Int) (wnum ((3 : Nat) : Int) (wnum ((2 : Nat) : Int) (wnum ((0 : Nat) : Int) (wnum ((2 : Nat) : Int) ([], 0))))) := by
    unfold vput
    rw [if_neg (by simpa using hc)]
    rfl
  rw [h, wnum_small 2 (by decide), wnum_small 0 (by decide), wnum_small 2 (by decide), wnum_small 3 (by decide), wnum_small 1 (by decide)]
  rfl

set_option maxRecDepth 100000 in
theorem awake_any (w : World) : Calls Try.prog 19 #[] w fun r w' => r = .returned (.bool true) ∧ Gr w w' := by
  have hga := Lib.hid ((Gr.rfl' w).al (.cells #[.int .i64 0, .int .i64 2, .int .i64 3, .int .i64 1] 47))
  have hD : Hid (Dots (w.alloc (.cells #[.int .i64 0, .int .i64 2, .int .i64 3, .int .i64 1] 47)) (some ⟨w.heap.size, 0, none⟩) [(0, 2), (3, 1)]) := by
    have hb := World.alloc_heap_new w (.cells #[.int .i64 0, .int .i64 2, .int .i64 3, .int .i64 1] 47)
    refine ⟨by simp, fun i hi => ⟨_, rfl, ?_⟩⟩
    have : i = 0 ∨ i = 1 := by simp at hi; omega
    have key : ∀ (j : Nat) (v : Value), (#[.int .i64 0, .int .i64 2, .int .i64 3, .int .i64 1] : Array Value)[j]? = some v → (w.alloc (.cells #[.int .i64 0, .int .i64 2, .int .i64 3, .int .i64 1] 47)).cell? ⟨w.heap.size, j, none⟩ = some v := fun j v h => by
      simp only [World.cell?, hb]
      exact h
    rcases this with rfl | rfl
    · exact ⟨key 0 _ rfl, key 1 _ rfl⟩
    · exact ⟨key 2 _ rfl, key 3 _ rfl⟩
  go_enter Try.func19, Try.ntmps19
  go_wp2_with fail
  refine (recVec_any _ 2 [(0, 2), (3, 1)] _ hD.out (by decide)).mono ?_
  rintro r w1 ⟨rfl, hg1⟩
  rw [awkV]
  go_wp2
  go_ret
  exact ⟨rfl, hga.out.tr hg1⟩

end Go.Proofs.Ytfobnemocodomaa
