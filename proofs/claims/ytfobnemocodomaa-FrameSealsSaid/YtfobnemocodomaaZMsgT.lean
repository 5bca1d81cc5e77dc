/- The bytes of a message: the document's; MessageWrites. -/
import Derived.Test.YtfobnemocodomaaZMsgS
import Derived.Test.YtfobnemocodomaaZMsgP
import Derived.Test.YtfobnemocodomaaZRwB
set_option linter.unusedVariables false
set_option linter.unusedSimpArgs false
set_option maxHeartbeats 4000000
namespace Go.Proofs.Ytfobnemocodomaa
open Go.RowKit Go.Shelf Go.Great

theorem rDigL_any (c : Nat) (s : List UInt8 × Int) (D : List UInt8) (hD : D.length = 32) (w : World) (h : Rw c ⟨s.1.toArray⟩ s.2 w) (hlen : s.1.length ≤ 1000000000) :
    Calls Try.prog 132 #[.pointer (some ⟨c, 0, none⟩), .agg (digC D)] w fun r w' => r = .returned (.tuple #[]) ∧ Rw c ⟨(wput true D s).1.toArray⟩ (wput true D s).2 w' ∧ Rm c w w' := by
  refine (rDigest_any c _ _ D hD w h (by rw [sizeL]; omega)).mono ?_
  rintro r w' ⟨rfl, h1, m1⟩
  rw [rput_eq] at h1
  exact ⟨rfl, h1, m1⟩
theorem rTxtL_any (c : Nat) (s : List UInt8 × Int) (t : ByteArray) (w : World) (h : Rw c ⟨s.1.toArray⟩ s.2 w) (hlen : s.1.length ≤ 1000000000) (ht : t.size ≤ 1000000000) :
    Calls Try.prog 134 #[.pointer (some ⟨c, 0, none⟩), .string t] w fun r w' => r = .returned (.tuple #[]) ∧ Rw c ⟨(wtxt t s).1.toArray⟩ (wtxt t s).2 w' ∧ Rm c w w' := by
  refine (rText_any c _ _ t w h (by rw [sizeL]; omega) (by omega)).mono ?_
  rintro r w' ⟨rfl, h1, m1⟩
  rw [rput_eq] at h1
  have e : (putS t.size ++ t).data.toList = (putS t.size).data.toList ++ t.data.toList := by simp
  rw [e] at h1
  exact ⟨rfl, h1, m1⟩
theorem rFlgL_any (c : Nat) (s : List UInt8 × Int) (f : Bool) (w : World) (h : Rw c ⟨s.1.toArray⟩ s.2 w) (hlen : s.1.length ≤ 1000000000) :
    Calls Try.prog 135 #[.pointer (some ⟨c, 0, none⟩), .bool f] w fun r w' => r = .returned (.tuple #[]) ∧ Rw c ⟨(wput true [flagB f] s).1.toArray⟩ (wput true [flagB f] s).2 w' ∧ Rm c w w' := by
  refine (rFlag_any c _ _ f w h (by rw [sizeL]; omega)).mono ?_
  rintro r w' ⟨rfl, h1, m1⟩
  rw [rput_eq] at h1
  exact ⟨rfl, h1, m1⟩
theorem rFailL_any (c : Nat) (s : List UInt8 × Int) (f : Int) (w : World) (h : Rw c ⟨s.1.toArray⟩ s.2 w) :
    Calls Try.prog 130 #[.pointer (some ⟨c, 0, none⟩), .int .i64 f] w fun r w' => r = .returned (.tuple #[]) ∧ Rw c ⟨(wfail f s).1.toArray⟩ (wfail f s).2 w' ∧ Rm c w w' := by
  refine (rFail_any c _ _ f w h).mono ?_
  rintro r w' ⟨rfl, h1, m1⟩
  rw [rfail_eq] at h1
  exact ⟨rfl, h1, m1⟩
theorem rFail0_any (c : Nat) (f : Int) (w : World) (h : Rw c ⟨#[]⟩ 0 w) :
    Calls Try.prog 130 #[.pointer (some ⟨c, 0, none⟩), .int .i64 f] w fun r w' => r = .returned (.tuple #[]) ∧ (∃ s0, wfail f ([], 0) = s0 ∧ s0.1.length = 0 ∧ Rw c ⟨s0.1.toArray⟩ s0.2 w') ∧ Rm c w w' := by
  refine (rFail_any c ⟨#[]⟩ 0 f w h).mono ?_
  rintro r w' ⟨rfl, h1, m1⟩
  exact ⟨rfl, ⟨([], f), rfl, rfl, h1⟩, m1⟩
theorem rDoneL_any (c : Nat) (s : List UInt8 × Int) (w : World) (h : Rw c ⟨s.1.toArray⟩ s.2 w) :
    Calls Try.prog 75 #[.pointer (some ⟨c, 0, none⟩)] w fun r w' => r = .returned (.tuple #[.string ⟨(doneV s).1.toArray⟩, .int .i64 (doneV s).2]) ∧ Gr w w' := by
  refine (rDone_any c _ _ w h).mono ?_
  rintro r w' ⟨rfl, g1⟩
  rw [rdone_eq]
  exact ⟨rfl, g1⟩
theorem wput_err (is : Bool) (t : List UInt8) {s : List UInt8 × Int} (h : s.2 ≠ 0) : wput is t s = s := by unfold wput; rw [if_pos h]
theorem vput_err (l : List Dot) {s : List UInt8 × Int} (h : s.2 ≠ 0) : vput l s = s := by
  unfold vput
  split
  · unfold wfail; rw [if_pos h]
  · rw [wnum_err _ _ h, vnum_err _ _ h]
theorem rowsP_err (l : List DRow) {s : List UInt8 × Int} (h : s.2 ≠ 0) : rowsP l s = s := by
  induction l with
  | nil => rfl
  | cons d r ih =>
    show rowsP r (vput d.l s) = s
    rw [vput_err _ h, ih]
theorem bodyP_err (x : Mx) {s : List UInt8 × Int} (h : s.2 ≠ 0) : bodyP x s = s := by
  unfold bodyP wtxt
  simp only [wput_err _ _ h, vput_err _ h, wnum_err _ _ h, rowsP_err _ h, ite_self]
theorem numsW_err (l : List Int) {s : List UInt8 × Int} (h : s.2 ≠ 0) : numsW l s = s := by
  induction l with
  | nil => rfl
  | cons d r ih =>
    show numsW r (wnum d s) = s
    rw [wnum_err _ _ h, ih]
/-- what the document puts, whatever is wrong -/
def mPut2 (x : Mx) : List UInt8 × Int := bodyP x (wnum x.Sd (wnum x.To (wnum x.F (wnum x.K (wfail (mChk x) ([], 0))))))
theorem mPut2_done (x : Mx) : doneV (mPut2 x) = mBytes x := by
  have hw : wfail (mChk x) ([], 0) = ([], mChk x) := rfl
  have hn : ∀ s, wnum x.Sd (wnum x.To (wnum x.F (wnum x.K s))) = numsW (mNums x) s := fun _ => rfl
  unfold mPut2 mBytes mPut
  rw [hw, hn]
  by_cases h : mChk x = 0
  · rw [if_neg (by simpa using h), h]
  · rw [if_pos h, numsW_err _ (by simpa using h), bodyP_err _ (by simpa using h)]
    unfold doneV
    rw [if_pos (by simpa using h)]
set_option maxRecDepth 100000 in
theorem refBytesS_any (x : Mx) (w W : World) (hW : w.alloc (.cells x.cells 74) = W) (HB : Hid (MAt W w.heap.size x)) (HG : Hid (Gr w W)) (HXO : Hid (MxOk W x)) (HSM : Hid (MSmall x))
    (HXC : Hid (∀ w', Gr W w' → MxAt w' w.heap.size x)) (HRW : Hid (Rw W.heap.size ⟨#[]⟩ 0 (W.alloc (.cells #[.string ⟨#[]⟩, .int .i64 0] 84))))
    (HG2 : Hid (Gr W (W.alloc (.cells #[.string ⟨#[]⟩, .int .i64 0] 84)))) :
    Calls Try.prog 66 #[.agg x.cells] w fun r w' => r = .returned (.tuple #[.string ⟨(mBytes x).1.toArray⟩, .int .i64 (mBytes x).2]) ∧ Gr w w' := by
  by_cases k2 : x.K = 2
  · have HBD0 : Hid (∀ st, bodyP x st = rowsP x.rs (wnum x.rs.length (vput x.cl (wput true x.R st)))) := Lib.hid (fun st => by unfold bodyP; rw [if_pos k2])
    have HK := Lib.hid k2
    clear k2
    go_enter Try.func66, Try.ntmps66
    go_upto_region 2 with (fail)
    obtain ⟨c, hcc⟩ : ∃ c, W.heap.size = c := ⟨_, rfl⟩
    rw [hcc] at HRW ⊢
    have HCC : Hid (W.heap.size ≤ c) := Lib.hid (by omega)
    have HGC : Hid (w.heap.size < c) := Lib.hid (by have := (Array.getElem?_eq_some_iff.1 HB.out).1; omega)
    clear hcc
    generalize W.alloc (.cells #[.string ⟨#[]⟩, .int .i64 0] 84) = w2 at HRW HG2 ⊢
    go_wp2_with (first
      | refine loadM x HXO.out.dig rfl (.tmp 1) rfl w.heap.size rfl (mat_gr HB.out HG2.out) ?_)
    refine (refMCheck_any x w2 (HXO.out.gr HG2.out) (by have := HSM.out.pa; omega)).mono ?_
    rintro r w3 ⟨rfl, g3⟩
    have HR3 := Lib.hid (HRW.out.gr g3)
    have G3 := Lib.hid (HG2.out.tr g3)
    clear g3 HRW HG2 hW
    obtain ⟨e, he⟩ : ∃ e, mChk x = e := ⟨_, rfl⟩
    have HE := Lib.hid he
    rw [he]
    clear he
    go_wp2_with fail
    refine (rFail0_any c e w3 HR3.out).mono ?_
    rintro r w4 ⟨rfl, ⟨s0, hs0, hl0, h4⟩, m4⟩
    have HS0 := Lib.hid hs0
    have HL0 := Lib.hid hl0
    clear hs0 hl0
    have HR4 := Lib.hid h4
    have G4 := Lib.hid (m4.below G3.out HCC.out)
    clear h4 m4 HR3 G3
    have c0 := (HXC.out _ G4.out).c0
    go_wp2_with fail
    refine (rNum_any c s0 x.K w4 HR4.out (by have := HL0.out; omega)).mono ?_
    rintro r w5 ⟨rfl, h5, m5⟩
    have HL1 := Lib.hid (wnum_len x.K s0)
    have HS1 : Hid (∃ s, wnum x.K s0 = s) := Lib.hid ⟨_, rfl⟩
    obtain ⟨s1, hs1⟩ := HS1.out
    have HS1 := Lib.hid hs1
    rw [hs1] at h5 HL1
    clear hs1
    have HR5 := Lib.hid h5
    have G5 := Lib.hid (m5.below G4.out HCC.out)
    clear h5 m5 HR4 G4 c0
    have c1 := (HXC.out _ G5.out).c1
    go_wp2_with fail
    refine (rNum_any c s1 x.F w5 HR5.out (by have := HL0.out; have := HL1.out; omega)).mono ?_
    rintro r w6 ⟨rfl, h6, m6⟩
    have HL2 := Lib.hid (wnum_len x.F s1)
    obtain ⟨s2, hs2⟩ : ∃ s, wnum x.F s1 = s := ⟨_, rfl⟩
    have HS2 := Lib.hid hs2
    rw [hs2] at h6 HL2
    clear hs2
    have HR6 := Lib.hid h6
    have G6 := Lib.hid (m6.below G5.out HCC.out)
    clear h6 m6 HR5 G5 c1
    have c2 := (HXC.out _ G6.out).c2
    go_wp2_with fail
    refine (rNum_any c s2 x.To w6 HR6.out (by have := HL0.out; have := HL1.out; have := HL2.out; omega)).mono ?_
    rintro r w7 ⟨rfl, h7, m7⟩
    have HL3 := Lib.hid (wnum_len x.To s2)
    obtain ⟨s3, hs3⟩ : ∃ s, wnum x.To s2 = s := ⟨_, rfl⟩
    have HS3 := Lib.hid hs3
    rw [hs3] at h7 HL3
    clear hs3
    have HR7 := Lib.hid h7
    have G7 := Lib.hid (m7.below G6.out HCC.out)
    clear h7 m7 HR6 G6 c2
    have c3 := (HXC.out _ G7.out).c3
    go_wp2_with fail
    refine (rNum_any c s3 x.Sd w7 HR7.out (by have := HL0.out; have := HL1.out; have := HL2.out; have := HL3.out; omega)).mono ?_
    rintro r w8 ⟨rfl, h8, m8⟩
    have HL4' := Lib.hid (wnum_len x.Sd s3)
    obtain ⟨s4, hs4⟩ : ∃ s, wnum x.Sd s3 = s := ⟨_, rfl⟩
    have HS4 := Lib.hid hs4
    rw [hs4] at h8 HL4'
    clear hs4
    have HL4 : Hid (s4.1.length ≤ 20) := Lib.hid (by have := HL0.out; have := HL1.out; have := HL2.out; have := HL3.out; have := HL4'.out; omega)
    have HR8 := Lib.hid h8
    have G8 := Lib.hid (m8.below G7.out HCC.out)
    have HSS : Hid (mPut2 x = bodyP x s4) := Lib.hid (by
      unfold mPut2
      rw [HE.out, HS0.out, HS1.out, HS2.out, HS3.out, HS4.out])
    clear h8 m8 HR7 G7 c3 HL0 HL1 HL2 HL3 HL4' HS0 HS1 HS2 HS3 HS4 HE
    have c0 := (HXC.out _ G8.out).c0
    have c4 := (HXC.out _ G8.out).c4
    have c5 := (HXC.out _ G8.out).c5
    have c38 := (HXC.out _ G8.out).c38
    have c39 := (HXC.out _ G8.out).c39
    have c40 := (HXC.out _ G8.out).c40
    have HcR := Lib.hid (HXC.out _ G8.out).cR
    try rw [HK.out] at c0
    go_wp2_with (first
      | ((with_reducible refine at_ld 71 _ ?_); refine ldG_at (by rfl) 71 _ rfl ⟨w.heap.size, 6, none⟩ rfl (digC x.R).toList _ HcR.out Try.underlying71 rfl (digLen HXO.out.dig) ?_))
    refine (rDigL_any c s4 x.R HXO.out.dig w8 HR8.out (by have := HL4.out; omega)).mono ?_
    rintro r w9 ⟨rfl, h9, m9⟩
    have HR9 := Lib.hid h9
    have G9 := Lib.hid (m9.below G8.out HCC.out)
    have HL5 : Hid ((wput true x.R s4).1.length ≤ 52) := Lib.hid (by
      have h1 := wputL true x.R s4 32 (fun _ => by rw [HXO.out.dig]; exact Nat.le_refl _)
      have := HL4.out
      omega)
    clear h9 m9 HR8 G8 c0 c4 c5 c38 c39 c40 HcR
    have c38 := (HXC.out _ G9.out).c38
    have HPV := Lib.hid (refPutVec_any c (wput true x.R s4) x.cA x.cc x.cl W w9 HXO.out.ctx G9.out HCC.out HR9.out (by have := HL5.out; have := HSM.out.cl; omega))
    go_wp2_with fail
    refine (HPV.out).mono ?_
    rintro r w10 ⟨rfl, h10, m10⟩
    have HR10 := Lib.hid h10
    have G10 := Lib.hid (m10.below G9.out HCC.out)
    have HL6 : Hid ((vput x.cl (wput true x.R s4)).1.length ≤ 800) := Lib.hid (by have := vput_len x.cl (wput true x.R s4); have := HL5.out; have := HSM.out.cl; omega)
    clear h10 m10 HR9 G9 c38 HPV
    have c39 := (HXC.out _ G10.out).c39
    go_wp2_with fail
    refine (rNum_any c (vput x.cl (wput true x.R s4)) x.rs.length w10 HR10.out (by have := HL6.out; omega)).mono ?_
    rintro r w11 ⟨rfl, h11, m11⟩
    have HR11 := Lib.hid h11
    have G11 := Lib.hid (m11.below G10.out HCC.out)
    have HL7 : Hid ((wnum x.rs.length (vput x.cl (wput true x.R s4))).1.length ≤ 805) := Lib.hid (by have := wnum_len x.rs.length (vput x.cl (wput true x.R s4)); have := HL6.out; omega)
    obtain ⟨st, hst⟩ : ∃ st, wnum x.rs.length (vput x.cl (wput true x.R s4)) = st := ⟨_, rfl⟩
    rw [hst] at HR11 HL7
    have HBD : Hid (bodyP x s4 = rowsP x.rs st) := Lib.hid (by rw [HBD0.out, hst])
    clear h11 m11 HR10 G10 hst HBD0 HL6 HL5
    replace c39 := (HXC.out _ G11.out).c39
    have HRR := Lib.hid HXO.out.rows
    have hma := HRR.out.1
    have HRX0 : Hid (Rw c ⟨(rowsP (x.rs.take 0) st).1.toArray⟩ (rowsP (x.rs.take 0) st).2 w11) := HR11
    go_wp2
    go_loopw [5] (fun i wr => ∃ k : Nat, k ≤ x.rs.length ∧ i = .int .i64 k ∧ Hid (Rw c ⟨(rowsP (x.rs.take k) st).1.toArray⟩ (rowsP (x.rs.take k) st).2 wr) ∧ Hid (Gr W wr)) (fun i _ => x.rs.length - (intOf i).toNat)
    case atStart => exact ⟨0, Nat.zero_le _, rfl, HRX0, G11⟩
    case round =>
      obtain ⟨k, hk, rfl, HRX, GX⟩ := hrel
      clear HRX0 G11 HR11
      replace c39 := (HXC.out _ GX.out).c39
      by_cases hlt : k < x.rs.length
      · have hki : (k : Int) < x.rs.length := by omega
        obtain ⟨ad, he, hc, hd⟩ := HRR.out.2 k hlt
        rw [he] at c39
        have hc' := GX.out.cell hc
        have HT := Lib.hid (rowsP_take hlt st)
        have hle := rowsP_len x.rs st HSM.out.rows k hk
        have hd7 := HSM.out.rows x.rs[k] (List.getElem_mem _)
        have HLN : Hid ((rowsP (x.rs.take k) st).1.length + 5 + 10 * x.rs[k].l.length + 10 ≤ 9223372036854775807) := Lib.hid (by have := HL7.out; have := HSM.out.rs; omega)
        obtain ⟨d, hdd⟩ : ∃ d, x.rs[k] = d := ⟨_, rfl⟩
        rw [hdd] at hc' hd HT HLN
        have HPV := Lib.hid (refPutVec_any c (rowsP (x.rs.take k) st) d.A d.cap d.l W wr hd GX.out HCC.out HRX.out HLN.out)
        clear hdd he hc hd hle hd7
        go_wp2_with fail
        refine (HPV.out).mono ?_
        rintro r w12 ⟨rfl, h12, m12⟩
        have H12 : Hid (Rw c ⟨(rowsP (x.rs.take (k + 1)) st).1.toArray⟩ (rowsP (x.rs.take (k + 1)) st).2 w12) := Lib.hid (by rw [HT.out]; exact h12)
        have G12 := Lib.hid (m12.below GX.out HCC.out)
        clear h12 m12 hc' c39 HPV
        go_wp2
        go_roundw
        case rel => exact ⟨k + 1, by omega, by go_num, H12, G12⟩
        case measure => simp [intOf]; omega
      · have hkk : k = x.rs.length := by omega
        subst hkk
        have hki : ¬ (x.rs.length : Int) < x.rs.length := by omega
        rw [List.take_length] at HRX
        go_wp2_with fail
        refine (rDoneL_any c _ _ HRX.out).mono ?_
        rintro r wz ⟨rfl, gz⟩
        go_wp2
        go_ret2
        rw [← mPut2_done, HSS.out, HBD.out]
        exact ⟨rfl, HG.out.tr (GX.out.tr gz)⟩
  by_cases k3 : x.K = 3
  · have HBD0 : Hid (∀ st, bodyP x st = wtxt x.Pa (wput true x.R st)) := Lib.hid (fun st => by unfold bodyP; rw [if_neg k2, if_pos k3])
    have HK := Lib.hid k3
    clear k2 k3
    go_enter Try.func66, Try.ntmps66
    go_upto_region 2 with (fail)
    obtain ⟨c, hcc⟩ : ∃ c, W.heap.size = c := ⟨_, rfl⟩
    rw [hcc] at HRW ⊢
    have HCC : Hid (W.heap.size ≤ c) := Lib.hid (by omega)
    have HGC : Hid (w.heap.size < c) := Lib.hid (by have := (Array.getElem?_eq_some_iff.1 HB.out).1; omega)
    clear hcc
    generalize W.alloc (.cells #[.string ⟨#[]⟩, .int .i64 0] 84) = w2 at HRW HG2 ⊢
    go_wp2_with (first
      | refine loadM x HXO.out.dig rfl (.tmp 1) rfl w.heap.size rfl (mat_gr HB.out HG2.out) ?_)
    refine (refMCheck_any x w2 (HXO.out.gr HG2.out) (by have := HSM.out.pa; omega)).mono ?_
    rintro r w3 ⟨rfl, g3⟩
    have HR3 := Lib.hid (HRW.out.gr g3)
    have G3 := Lib.hid (HG2.out.tr g3)
    clear g3 HRW HG2 hW
    obtain ⟨e, he⟩ : ∃ e, mChk x = e := ⟨_, rfl⟩
    have HE := Lib.hid he
    rw [he]
    clear he
    go_wp2_with fail
    refine (rFail0_any c e w3 HR3.out).mono ?_
    rintro r w4 ⟨rfl, ⟨s0, hs0, hl0, h4⟩, m4⟩
    have HS0 := Lib.hid hs0
    have HL0 := Lib.hid hl0
    clear hs0 hl0
    have HR4 := Lib.hid h4
    have G4 := Lib.hid (m4.below G3.out HCC.out)
    clear h4 m4 HR3 G3
    have c0 := (HXC.out _ G4.out).c0
    go_wp2_with fail
    refine (rNum_any c s0 x.K w4 HR4.out (by have := HL0.out; omega)).mono ?_
    rintro r w5 ⟨rfl, h5, m5⟩
    have HL1 := Lib.hid (wnum_len x.K s0)
    have HS1 : Hid (∃ s, wnum x.K s0 = s) := Lib.hid ⟨_, rfl⟩
    obtain ⟨s1, hs1⟩ := HS1.out
    have HS1 := Lib.hid hs1
    rw [hs1] at h5 HL1
    clear hs1
    have HR5 := Lib.hid h5
    have G5 := Lib.hid (m5.below G4.out HCC.out)
    clear h5 m5 HR4 G4 c0
    have c1 := (HXC.out _ G5.out).c1
    go_wp2_with fail
    refine (rNum_any c s1 x.F w5 HR5.out (by have := HL0.out; have := HL1.out; omega)).mono ?_
    rintro r w6 ⟨rfl, h6, m6⟩
    have HL2 := Lib.hid (wnum_len x.F s1)
    obtain ⟨s2, hs2⟩ : ∃ s, wnum x.F s1 = s := ⟨_, rfl⟩
    have HS2 := Lib.hid hs2
    rw [hs2] at h6 HL2
    clear hs2
    have HR6 := Lib.hid h6
    have G6 := Lib.hid (m6.below G5.out HCC.out)
    clear h6 m6 HR5 G5 c1
    have c2 := (HXC.out _ G6.out).c2
    go_wp2_with fail
    refine (rNum_any c s2 x.To w6 HR6.out (by have := HL0.out; have := HL1.out; have := HL2.out; omega)).mono ?_
    rintro r w7 ⟨rfl, h7, m7⟩
    have HL3 := Lib.hid (wnum_len x.To s2)
    obtain ⟨s3, hs3⟩ : ∃ s, wnum x.To s2 = s := ⟨_, rfl⟩
    have HS3 := Lib.hid hs3
    rw [hs3] at h7 HL3
    clear hs3
    have HR7 := Lib.hid h7
    have G7 := Lib.hid (m7.below G6.out HCC.out)
    clear h7 m7 HR6 G6 c2
    have c3 := (HXC.out _ G7.out).c3
    go_wp2_with fail
    refine (rNum_any c s3 x.Sd w7 HR7.out (by have := HL0.out; have := HL1.out; have := HL2.out; have := HL3.out; omega)).mono ?_
    rintro r w8 ⟨rfl, h8, m8⟩
    have HL4' := Lib.hid (wnum_len x.Sd s3)
    obtain ⟨s4, hs4⟩ : ∃ s, wnum x.Sd s3 = s := ⟨_, rfl⟩
    have HS4 := Lib.hid hs4
    rw [hs4] at h8 HL4'
    clear hs4
    have HL4 : Hid (s4.1.length ≤ 20) := Lib.hid (by have := HL0.out; have := HL1.out; have := HL2.out; have := HL3.out; have := HL4'.out; omega)
    have HR8 := Lib.hid h8
    have G8 := Lib.hid (m8.below G7.out HCC.out)
    have HSS : Hid (mPut2 x = bodyP x s4) := Lib.hid (by
      unfold mPut2
      rw [HE.out, HS0.out, HS1.out, HS2.out, HS3.out, HS4.out])
    clear h8 m8 HR7 G7 c3 HL0 HL1 HL2 HL3 HL4' HS0 HS1 HS2 HS3 HS4 HE
    have c0 := (HXC.out _ G8.out).c0
    have c4 := (HXC.out _ G8.out).c4
    have c5 := (HXC.out _ G8.out).c5
    have c38 := (HXC.out _ G8.out).c38
    have c39 := (HXC.out _ G8.out).c39
    have c40 := (HXC.out _ G8.out).c40
    have HcR := Lib.hid (HXC.out _ G8.out).cR
    try rw [HK.out] at c0
    go_wp2_with (first
      | ((with_reducible refine at_ld 71 _ ?_); refine ldG_at (by rfl) 71 _ rfl ⟨w.heap.size, 6, none⟩ rfl (digC x.R).toList _ HcR.out Try.underlying71 rfl (digLen HXO.out.dig) ?_))
    refine (rDigL_any c s4 x.R HXO.out.dig w8 HR8.out (by have := HL4.out; omega)).mono ?_
    rintro r w9 ⟨rfl, h9, m9⟩
    have HR9 := Lib.hid h9
    have G9 := Lib.hid (m9.below G8.out HCC.out)
    have HL5 : Hid ((wput true x.R s4).1.length ≤ 52) := Lib.hid (by
      have h1 := wputL true x.R s4 32 (fun _ => by rw [HXO.out.dig]; exact Nat.le_refl _)
      have := HL4.out
      omega)
    clear h9 m9 HR8 G8 c0 c4 c5 c38 c39 c40 HcR
    have c5 := (HXC.out _ G9.out).c5
    have HPV := Lib.hid (rTxtL_any c (wput true x.R s4) x.Pa w9 HR9.out (by have := HL5.out; omega) (by have := HSM.out.pa; omega))
    go_wp2_with fail
    refine (HPV.out).mono ?_
    rintro r w10 ⟨rfl, h10, m10⟩
    have HRX := Lib.hid h10
    have GX := Lib.hid (m10.below G9.out HCC.out)
    have HBD := Lib.hid (HBD0.out s4)
    clear h10 m10 HR9 G9 c5 HPV HBD0
    go_wp2_with fail
    refine (rDoneL_any c _ _ HRX.out).mono ?_
    rintro r wz ⟨rfl, gz⟩
    go_wp2
    go_ret2
    rw [← mPut2_done, HSS.out, HBD.out]
    exact ⟨rfl, HG.out.tr (GX.out.tr gz)⟩
  by_cases k4 : x.K = 4
  · have HBD0 : Hid (∀ st, bodyP x st = wtxt x.Tx (wtxt x.Pa st)) := Lib.hid (fun st => by unfold bodyP; rw [if_neg k2, if_neg k3, if_pos k4])
    have HK := Lib.hid k4
    clear k2 k3 k4
    go_enter Try.func66, Try.ntmps66
    go_upto_region 2 with (fail)
    obtain ⟨c, hcc⟩ : ∃ c, W.heap.size = c := ⟨_, rfl⟩
    rw [hcc] at HRW ⊢
    have HCC : Hid (W.heap.size ≤ c) := Lib.hid (by omega)
    have HGC : Hid (w.heap.size < c) := Lib.hid (by have := (Array.getElem?_eq_some_iff.1 HB.out).1; omega)
    clear hcc
    generalize W.alloc (.cells #[.string ⟨#[]⟩, .int .i64 0] 84) = w2 at HRW HG2 ⊢
    go_wp2_with (first
      | refine loadM x HXO.out.dig rfl (.tmp 1) rfl w.heap.size rfl (mat_gr HB.out HG2.out) ?_)
    refine (refMCheck_any x w2 (HXO.out.gr HG2.out) (by have := HSM.out.pa; omega)).mono ?_
    rintro r w3 ⟨rfl, g3⟩
    have HR3 := Lib.hid (HRW.out.gr g3)
    have G3 := Lib.hid (HG2.out.tr g3)
    clear g3 HRW HG2 hW
    obtain ⟨e, he⟩ : ∃ e, mChk x = e := ⟨_, rfl⟩
    have HE := Lib.hid he
    rw [he]
    clear he
    go_wp2_with fail
    refine (rFail0_any c e w3 HR3.out).mono ?_
    rintro r w4 ⟨rfl, ⟨s0, hs0, hl0, h4⟩, m4⟩
    have HS0 := Lib.hid hs0
    have HL0 := Lib.hid hl0
    clear hs0 hl0
    have HR4 := Lib.hid h4
    have G4 := Lib.hid (m4.below G3.out HCC.out)
    clear h4 m4 HR3 G3
    have c0 := (HXC.out _ G4.out).c0
    go_wp2_with fail
    refine (rNum_any c s0 x.K w4 HR4.out (by have := HL0.out; omega)).mono ?_
    rintro r w5 ⟨rfl, h5, m5⟩
    have HL1 := Lib.hid (wnum_len x.K s0)
    have HS1 : Hid (∃ s, wnum x.K s0 = s) := Lib.hid ⟨_, rfl⟩
    obtain ⟨s1, hs1⟩ := HS1.out
    have HS1 := Lib.hid hs1
    rw [hs1] at h5 HL1
    clear hs1
    have HR5 := Lib.hid h5
    have G5 := Lib.hid (m5.below G4.out HCC.out)
    clear h5 m5 HR4 G4 c0
    have c1 := (HXC.out _ G5.out).c1
    go_wp2_with fail
    refine (rNum_any c s1 x.F w5 HR5.out (by have := HL0.out; have := HL1.out; omega)).mono ?_
    rintro r w6 ⟨rfl, h6, m6⟩
    have HL2 := Lib.hid (wnum_len x.F s1)
    obtain ⟨s2, hs2⟩ : ∃ s, wnum x.F s1 = s := ⟨_, rfl⟩
    have HS2 := Lib.hid hs2
    rw [hs2] at h6 HL2
    clear hs2
    have HR6 := Lib.hid h6
    have G6 := Lib.hid (m6.below G5.out HCC.out)
    clear h6 m6 HR5 G5 c1
    have c2 := (HXC.out _ G6.out).c2
    go_wp2_with fail
    refine (rNum_any c s2 x.To w6 HR6.out (by have := HL0.out; have := HL1.out; have := HL2.out; omega)).mono ?_
    rintro r w7 ⟨rfl, h7, m7⟩
    have HL3 := Lib.hid (wnum_len x.To s2)
    obtain ⟨s3, hs3⟩ : ∃ s, wnum x.To s2 = s := ⟨_, rfl⟩
    have HS3 := Lib.hid hs3
    rw [hs3] at h7 HL3
    clear hs3
    have HR7 := Lib.hid h7
    have G7 := Lib.hid (m7.below G6.out HCC.out)
    clear h7 m7 HR6 G6 c2
    have c3 := (HXC.out _ G7.out).c3
    go_wp2_with fail
    refine (rNum_any c s3 x.Sd w7 HR7.out (by have := HL0.out; have := HL1.out; have := HL2.out; have := HL3.out; omega)).mono ?_
    rintro r w8 ⟨rfl, h8, m8⟩
    have HL4' := Lib.hid (wnum_len x.Sd s3)
    obtain ⟨s4, hs4⟩ : ∃ s, wnum x.Sd s3 = s := ⟨_, rfl⟩
    have HS4 := Lib.hid hs4
    rw [hs4] at h8 HL4'
    clear hs4
    have HL4 : Hid (s4.1.length ≤ 20) := Lib.hid (by have := HL0.out; have := HL1.out; have := HL2.out; have := HL3.out; have := HL4'.out; omega)
    have HR8 := Lib.hid h8
    have G8 := Lib.hid (m8.below G7.out HCC.out)
    have HSS : Hid (mPut2 x = bodyP x s4) := Lib.hid (by
      unfold mPut2
      rw [HE.out, HS0.out, HS1.out, HS2.out, HS3.out, HS4.out])
    clear h8 m8 HR7 G7 c3 HL0 HL1 HL2 HL3 HL4' HS0 HS1 HS2 HS3 HS4 HE
    have c0 := (HXC.out _ G8.out).c0
    have c4 := (HXC.out _ G8.out).c4
    have c5 := (HXC.out _ G8.out).c5
    have c38 := (HXC.out _ G8.out).c38
    have c39 := (HXC.out _ G8.out).c39
    have c40 := (HXC.out _ G8.out).c40
    have HcR := Lib.hid (HXC.out _ G8.out).cR
    try rw [HK.out] at c0
    have HPV := Lib.hid (rTxtL_any c s4 x.Pa w8 HR8.out (by have := HL4.out; omega) (by have := HSM.out.pa; omega))
    go_wp2_with fail
    refine (HPV.out).mono ?_
    rintro r w9 ⟨rfl, h9, m9⟩
    have HR9 := Lib.hid h9
    have G9 := Lib.hid (m9.below G8.out HCC.out)
    clear h9 m9 HR8 G8 c0 c4 c5 c38 c39 c40 HcR HPV
    have HPV := Lib.hid (rTxtL_any c (wtxt x.Pa s4) x.Tx w9 HR9.out (by have := HL4.out; have := wtxt_len x.Pa s4; omega) (by have := HSM.out.tx; omega))
    have c40 := (HXC.out _ G9.out).c40
    go_wp2_with fail
    refine (HPV.out).mono ?_
    rintro r w10 ⟨rfl, h10, m10⟩
    have HRX := Lib.hid h10
    have GX := Lib.hid (m10.below G9.out HCC.out)
    have HBD := Lib.hid (HBD0.out s4)
    clear h10 m10 HR9 G9 c40 HPV HBD0
    go_wp2_with fail
    refine (rDoneL_any c _ _ HRX.out).mono ?_
    rintro r wz ⟨rfl, gz⟩
    go_wp2
    go_ret2
    rw [← mPut2_done, HSS.out, HBD.out]
    exact ⟨rfl, HG.out.tr (GX.out.tr gz)⟩
  by_cases k6 : x.K = 6
  · have HBD0 : Hid (∀ st, bodyP x st = wput true [flagB x.Tn] st) := Lib.hid (fun st => by unfold bodyP; rw [if_neg k2, if_neg k3, if_neg k4, if_pos k6])
    have HK := Lib.hid k6
    clear k2 k3 k4 k6
    go_enter Try.func66, Try.ntmps66
    go_upto_region 2 with (fail)
    obtain ⟨c, hcc⟩ : ∃ c, W.heap.size = c := ⟨_, rfl⟩
    rw [hcc] at HRW ⊢
    have HCC : Hid (W.heap.size ≤ c) := Lib.hid (by omega)
    have HGC : Hid (w.heap.size < c) := Lib.hid (by have := (Array.getElem?_eq_some_iff.1 HB.out).1; omega)
    clear hcc
    generalize W.alloc (.cells #[.string ⟨#[]⟩, .int .i64 0] 84) = w2 at HRW HG2 ⊢
    go_wp2_with (first
      | refine loadM x HXO.out.dig rfl (.tmp 1) rfl w.heap.size rfl (mat_gr HB.out HG2.out) ?_)
    refine (refMCheck_any x w2 (HXO.out.gr HG2.out) (by have := HSM.out.pa; omega)).mono ?_
    rintro r w3 ⟨rfl, g3⟩
    have HR3 := Lib.hid (HRW.out.gr g3)
    have G3 := Lib.hid (HG2.out.tr g3)
    clear g3 HRW HG2 hW
    obtain ⟨e, he⟩ : ∃ e, mChk x = e := ⟨_, rfl⟩
    have HE := Lib.hid he
    rw [he]
    clear he
    go_wp2_with fail
    refine (rFail0_any c e w3 HR3.out).mono ?_
    rintro r w4 ⟨rfl, ⟨s0, hs0, hl0, h4⟩, m4⟩
    have HS0 := Lib.hid hs0
    have HL0 := Lib.hid hl0
    clear hs0 hl0
    have HR4 := Lib.hid h4
    have G4 := Lib.hid (m4.below G3.out HCC.out)
    clear h4 m4 HR3 G3
    have c0 := (HXC.out _ G4.out).c0
    go_wp2_with fail
    refine (rNum_any c s0 x.K w4 HR4.out (by have := HL0.out; omega)).mono ?_
    rintro r w5 ⟨rfl, h5, m5⟩
    have HL1 := Lib.hid (wnum_len x.K s0)
    have HS1 : Hid (∃ s, wnum x.K s0 = s) := Lib.hid ⟨_, rfl⟩
    obtain ⟨s1, hs1⟩ := HS1.out
    have HS1 := Lib.hid hs1
    rw [hs1] at h5 HL1
    clear hs1
    have HR5 := Lib.hid h5
    have G5 := Lib.hid (m5.below G4.out HCC.out)
    clear h5 m5 HR4 G4 c0
    have c1 := (HXC.out _ G5.out).c1
    go_wp2_with fail
    refine (rNum_any c s1 x.F w5 HR5.out (by have := HL0.out; have := HL1.out; omega)).mono ?_
    rintro r w6 ⟨rfl, h6, m6⟩
    have HL2 := Lib.hid (wnum_len x.F s1)
    obtain ⟨s2, hs2⟩ : ∃ s, wnum x.F s1 = s := ⟨_, rfl⟩
    have HS2 := Lib.hid hs2
    rw [hs2] at h6 HL2
    clear hs2
    have HR6 := Lib.hid h6
    have G6 := Lib.hid (m6.below G5.out HCC.out)
    clear h6 m6 HR5 G5 c1
    have c2 := (HXC.out _ G6.out).c2
    go_wp2_with fail
    refine (rNum_any c s2 x.To w6 HR6.out (by have := HL0.out; have := HL1.out; have := HL2.out; omega)).mono ?_
    rintro r w7 ⟨rfl, h7, m7⟩
    have HL3 := Lib.hid (wnum_len x.To s2)
    obtain ⟨s3, hs3⟩ : ∃ s, wnum x.To s2 = s := ⟨_, rfl⟩
    have HS3 := Lib.hid hs3
    rw [hs3] at h7 HL3
    clear hs3
    have HR7 := Lib.hid h7
    have G7 := Lib.hid (m7.below G6.out HCC.out)
    clear h7 m7 HR6 G6 c2
    have c3 := (HXC.out _ G7.out).c3
    go_wp2_with fail
    refine (rNum_any c s3 x.Sd w7 HR7.out (by have := HL0.out; have := HL1.out; have := HL2.out; have := HL3.out; omega)).mono ?_
    rintro r w8 ⟨rfl, h8, m8⟩
    have HL4' := Lib.hid (wnum_len x.Sd s3)
    obtain ⟨s4, hs4⟩ : ∃ s, wnum x.Sd s3 = s := ⟨_, rfl⟩
    have HS4 := Lib.hid hs4
    rw [hs4] at h8 HL4'
    clear hs4
    have HL4 : Hid (s4.1.length ≤ 20) := Lib.hid (by have := HL0.out; have := HL1.out; have := HL2.out; have := HL3.out; have := HL4'.out; omega)
    have HR8 := Lib.hid h8
    have G8 := Lib.hid (m8.below G7.out HCC.out)
    have HSS : Hid (mPut2 x = bodyP x s4) := Lib.hid (by
      unfold mPut2
      rw [HE.out, HS0.out, HS1.out, HS2.out, HS3.out, HS4.out])
    clear h8 m8 HR7 G7 c3 HL0 HL1 HL2 HL3 HL4' HS0 HS1 HS2 HS3 HS4 HE
    have c0 := (HXC.out _ G8.out).c0
    have c4 := (HXC.out _ G8.out).c4
    have c5 := (HXC.out _ G8.out).c5
    have c38 := (HXC.out _ G8.out).c38
    have c39 := (HXC.out _ G8.out).c39
    have c40 := (HXC.out _ G8.out).c40
    have HcR := Lib.hid (HXC.out _ G8.out).cR
    try rw [HK.out] at c0
    have HPV := Lib.hid (rFlgL_any c s4 x.Tn w8 HR8.out (by have := HL4.out; omega))
    go_wp2_with fail
    refine (HPV.out).mono ?_
    rintro r w10 ⟨rfl, h10, m10⟩
    have HRX := Lib.hid h10
    have GX := Lib.hid (m10.below G8.out HCC.out)
    have HBD := Lib.hid (HBD0.out s4)
    clear h10 m10 HR8 G8 c0 c4 c5 c38 c39 c40 HcR HPV HBD0
    go_wp2_with fail
    refine (rDoneL_any c _ _ HRX.out).mono ?_
    rintro r wz ⟨rfl, gz⟩
    go_wp2
    go_ret2
    rw [← mPut2_done, HSS.out, HBD.out]
    exact ⟨rfl, HG.out.tr (GX.out.tr gz)⟩
  have HBD0 : Hid (∀ st, bodyP x st = st) := Lib.hid (fun st => by unfold bodyP; rw [if_neg k2, if_neg k3, if_neg k4, if_neg k6])
  have e2 : (x.K == 2) = false := by simpa using k2
  have e3 : (x.K == 3) = false := by simpa using k3
  have e4 : (x.K == 4) = false := by simpa using k4
  have e6 : (x.K == 6) = false := by simpa using k6
  have HK : Hid (x.K = x.K) := Lib.hid rfl
  clear k2 k3 k4 k6
  go_enter Try.func66, Try.ntmps66
  go_upto_region 2 with (fail)
  obtain ⟨c, hcc⟩ : ∃ c, W.heap.size = c := ⟨_, rfl⟩
  rw [hcc] at HRW ⊢
  have HCC : Hid (W.heap.size ≤ c) := Lib.hid (by omega)
  have HGC : Hid (w.heap.size < c) := Lib.hid (by have := (Array.getElem?_eq_some_iff.1 HB.out).1; omega)
  clear hcc
  generalize W.alloc (.cells #[.string ⟨#[]⟩, .int .i64 0] 84) = w2 at HRW HG2 ⊢
  go_wp2_with (first
    | refine loadM x HXO.out.dig rfl (.tmp 1) rfl w.heap.size rfl (mat_gr HB.out HG2.out) ?_)
  refine (refMCheck_any x w2 (HXO.out.gr HG2.out) (by have := HSM.out.pa; omega)).mono ?_
  rintro r w3 ⟨rfl, g3⟩
  have HR3 := Lib.hid (HRW.out.gr g3)
  have G3 := Lib.hid (HG2.out.tr g3)
  clear g3 HRW HG2 hW
  obtain ⟨e, he⟩ : ∃ e, mChk x = e := ⟨_, rfl⟩
  have HE := Lib.hid he
  rw [he]
  clear he
  go_wp2_with fail
  refine (rFail0_any c e w3 HR3.out).mono ?_
  rintro r w4 ⟨rfl, ⟨s0, hs0, hl0, h4⟩, m4⟩
  have HS0 := Lib.hid hs0
  have HL0 := Lib.hid hl0
  clear hs0 hl0
  have HR4 := Lib.hid h4
  have G4 := Lib.hid (m4.below G3.out HCC.out)
  clear h4 m4 HR3 G3
  have c0 := (HXC.out _ G4.out).c0
  go_wp2_with fail
  refine (rNum_any c s0 x.K w4 HR4.out (by have := HL0.out; omega)).mono ?_
  rintro r w5 ⟨rfl, h5, m5⟩
  have HL1 := Lib.hid (wnum_len x.K s0)
  have HS1 : Hid (∃ s, wnum x.K s0 = s) := Lib.hid ⟨_, rfl⟩
  obtain ⟨s1, hs1⟩ := HS1.out
  have HS1 := Lib.hid hs1
  rw [hs1] at h5 HL1
  clear hs1
  have HR5 := Lib.hid h5
  have G5 := Lib.hid (m5.below G4.out HCC.out)
  clear h5 m5 HR4 G4 c0
  have c1 := (HXC.out _ G5.out).c1
  go_wp2_with fail
  refine (rNum_any c s1 x.F w5 HR5.out (by have := HL0.out; have := HL1.out; omega)).mono ?_
  rintro r w6 ⟨rfl, h6, m6⟩
  have HL2 := Lib.hid (wnum_len x.F s1)
  obtain ⟨s2, hs2⟩ : ∃ s, wnum x.F s1 = s := ⟨_, rfl⟩
  have HS2 := Lib.hid hs2
  rw [hs2] at h6 HL2
  clear hs2
  have HR6 := Lib.hid h6
  have G6 := Lib.hid (m6.below G5.out HCC.out)
  clear h6 m6 HR5 G5 c1
  have c2 := (HXC.out _ G6.out).c2
  go_wp2_with fail
  refine (rNum_any c s2 x.To w6 HR6.out (by have := HL0.out; have := HL1.out; have := HL2.out; omega)).mono ?_
  rintro r w7 ⟨rfl, h7, m7⟩
  have HL3 := Lib.hid (wnum_len x.To s2)
  obtain ⟨s3, hs3⟩ : ∃ s, wnum x.To s2 = s := ⟨_, rfl⟩
  have HS3 := Lib.hid hs3
  rw [hs3] at h7 HL3
  clear hs3
  have HR7 := Lib.hid h7
  have G7 := Lib.hid (m7.below G6.out HCC.out)
  clear h7 m7 HR6 G6 c2
  have c3 := (HXC.out _ G7.out).c3
  go_wp2_with fail
  refine (rNum_any c s3 x.Sd w7 HR7.out (by have := HL0.out; have := HL1.out; have := HL2.out; have := HL3.out; omega)).mono ?_
  rintro r w8 ⟨rfl, h8, m8⟩
  have HL4' := Lib.hid (wnum_len x.Sd s3)
  obtain ⟨s4, hs4⟩ : ∃ s, wnum x.Sd s3 = s := ⟨_, rfl⟩
  have HS4 := Lib.hid hs4
  rw [hs4] at h8 HL4'
  clear hs4
  have HL4 : Hid (s4.1.length ≤ 20) := Lib.hid (by have := HL0.out; have := HL1.out; have := HL2.out; have := HL3.out; have := HL4'.out; omega)
  have HR8 := Lib.hid h8
  have G8 := Lib.hid (m8.below G7.out HCC.out)
  have HSS : Hid (mPut2 x = bodyP x s4) := Lib.hid (by
    unfold mPut2
    rw [HE.out, HS0.out, HS1.out, HS2.out, HS3.out, HS4.out])
  clear h8 m8 HR7 G7 c3 HL0 HL1 HL2 HL3 HL4' HS0 HS1 HS2 HS3 HS4 HE
  have c0 := (HXC.out _ G8.out).c0
  have c4 := (HXC.out _ G8.out).c4
  have c5 := (HXC.out _ G8.out).c5
  have c38 := (HXC.out _ G8.out).c38
  have c39 := (HXC.out _ G8.out).c39
  have c40 := (HXC.out _ G8.out).c40
  have HcR := Lib.hid (HXC.out _ G8.out).cR
  try rw [HK.out] at c0
  have HRX := HR8
  have GX := G8
  have HBD := Lib.hid (HBD0.out s4)
  clear HR8 G8 c4 c5 c38 c39 c40 HcR HBD0
  go_wp2_with fail
  refine (rDoneL_any c _ _ HRX.out).mono ?_
  rintro r wz ⟨rfl, gz⟩
  go_wp2
  go_ret2
  rw [← mPut2_done, HSS.out, HBD.out]
  exact ⟨rfl, HG.out.tr (GX.out.tr gz)⟩
theorem refBytes_any (x : Mx) (w : World) (hx : MxOk w x) (hs : MSmall x) :
    Calls Try.prog 66 #[.agg x.cells] w fun r w' => r = .returned (.tuple #[.string ⟨(mBytes x).1.toArray⟩, .int .i64 (mBytes x).2]) ∧ Gr w w' := by
  have HB := Lib.hid (World.alloc_heap_new w (.cells x.cells 74))
  have HG : Hid (Gr w (w.alloc (.cells x.cells 74))) := Lib.hid ((Gr.rfl' w).al _)
  have HXO := Lib.hid (hx.gr HG.out)
  refine refBytesS_any x w _ rfl HB HG HXO (Lib.hid hs) (Lib.hid (fun w' g => mxAt (mat_gr HB.out g) hx.dig)) (Lib.hid (Rw.new _)) (Lib.hid ((Gr.rfl' _).al _))
end Go.Proofs.Ytfobnemocodomaa
