/- The bytes of a message: the program's. -/
import Derived.Test.YtfobnemocodomaaGreatZMsgQ
set_option linter.unusedVariables false
set_option linter.unusedSimpArgs false
set_option maxHeartbeats 4000000
namespace Go.Proofs.YtfobnemocodomaaGreat
open Go.RowKit Go.Shelf Go.Great

def mNums (x : Mx) : List Int := [x.K, x.F, x.To, x.Sd]
/-- the fields put, by kind -/
def bodyP (x : Mx) (st : List UInt8 × Int) : List UInt8 × Int :=
  if x.K = 2 then rowsP x.rs (wnum x.rs.length (vput x.cl (wput true x.R st)))
  else if x.K = 3 then wtxt x.Pa (wput true x.R st)
  else if x.K = 4 then wtxt x.Tx (wtxt x.Pa st)
  else if x.K = 6 then wput true [flagB x.Tn] st else st
def mPut (x : Mx) : List UInt8 × Int := bodyP x (numsW (mNums x) ([], 0))
def mBytes (x : Mx) : List UInt8 × Int := if mChk x ≠ 0 then ([], mChk x) else doneV (mPut x)
structure MSmall (x : Mx) : Prop where
  rs : x.rs.length ≤ 70
  cl : x.cl.length ≤ 70
  tx : x.Tx.size ≤ 70000
  pa : x.Pa.size ≤ 300
  rows : ∀ d ∈ x.rs, d.l.length ≤ 70
theorem numsW4_len (l : List Int) (h : l.length = 4) : (numsW l ([], 0)).1.length ≤ 20 := by
  have h1 := numsW_len l ([], 0) 4 (by omega)
  rw [List.take_of_length_le (by omega)] at h1
  simpa using h1
theorem wtxt_len (s : ByteArray) (st : List UInt8 × Int) : (wtxt s st).1.length ≤ st.1.length + 65541 := by
  refine wputL _ _ _ _ (fun h => ?_)
  have h1 := of_decide_eq_true h
  have h2 := putS_len s.size
  rw [List.length_append, ← Lib.size_eq s]
  omega
theorem ownP_any (B b g : Nat) (s : List UInt8 × Int) (x : Mx) (w0 w : World) (hM : MAt w0 g x) (hO : MxOk w0 x) (hg : Gr w0 w) (hB : w0.heap.size ≤ B) (hW : Wr B b s.1 s.2 w) (hs : MSmall x) (hl : s.1.length ≤ 1000) :
    Calls Tryz.prog 45 #[.pointer (some ⟨g, 0, none⟩), .iface 86 (.agg #[.pointer (some ⟨b, 0, none⟩)])] w fun r w' => r = .returned (.tuple #[]) ∧ (Wr B b (bodyP x s).1 (bodyP x s).2 w' ∧ Gr w0 w') := by
  have c0 := (mxAt (mat_gr hM hg) hO.dig).c0
  have d1 : ∀ {w : World}, Gr w w.drew := fun {w} => (Gr.rfl' w).dr
  have hr32 : ∀ st : List UInt8 × Int, (wput true x.R st).1.length ≤ st.1.length + 32 := fun st => wputL _ _ _ _ (fun _ => by rw [hO.dig]; exact Nat.le_refl _)
  by_cases k2 : x.K = 2
  · have hb : bodyP x s = rowsP x.rs (wnum x.rs.length (vput x.cl (wput true x.R s))) := by unfold bodyP; rw [if_pos k2]
    rw [hb]
    rw [k2] at c0
    refine own2_any (pRoot _) (pCtx _) (pRows _) g w _ c0 ?_
    refine (qRoot_any B b g s x w0 w.drew hM hO (hg.tr d1) hB (hW.gr d1) (by omega)).mono ?_
    rintro r w1 ⟨rfl, h1, g1⟩
    refine ⟨rfl, ?_⟩
    refine (qCtx_any B b g _ x w0 w1.drew hM hO (g1.tr d1) hB (h1.gr d1) hs.cl (by have := hr32 s; omega)).mono ?_
    rintro r w2 ⟨rfl, h2, g2⟩
    refine ⟨rfl, ?_⟩
    refine (qRows_any B b g _ x w0 w2.drew hM hO (g2.tr d1) hB (h2.gr d1) hs.rows hs.rs (by have := hr32 s; have := vputQ_len x.cl (wput true x.R s); have := hs.cl; omega)).mono ?_
    rintro r w3 ⟨rfl, h3, g3⟩
    exact ⟨rfl, h3, g3⟩
  by_cases k3 : x.K = 3
  · have hb : bodyP x s = wtxt x.Pa (wput true x.R s) := by unfold bodyP; rw [if_neg k2, if_pos k3]
    rw [hb]
    rw [k3] at c0
    refine own3_any (pRoot _) (pPath _) g w _ c0 ?_
    refine (qRoot_any B b g s x w0 w.drew hM hO (hg.tr d1) hB (hW.gr d1) (by omega)).mono ?_
    rintro r w1 ⟨rfl, h1, g1⟩
    refine ⟨rfl, ?_⟩
    refine (qPath_any B b g _ x w0 w1.drew hM hO (g1.tr d1) hB (h1.gr d1) (by have := hr32 s; omega)).mono ?_
    rintro r w2 ⟨rfl, h2, g2⟩
    exact ⟨rfl, h2, g2⟩
  by_cases k4 : x.K = 4
  · have hb : bodyP x s = wtxt x.Tx (wtxt x.Pa s) := by unfold bodyP; rw [if_neg k2, if_neg k3, if_pos k4]
    rw [hb]
    rw [k4] at c0
    refine own4_any (pPath _) (pText _) g w _ c0 ?_
    refine (qPath_any B b g s x w0 w.drew hM hO (hg.tr d1) hB (hW.gr d1) (by omega)).mono ?_
    rintro r w1 ⟨rfl, h1, g1⟩
    refine ⟨rfl, ?_⟩
    refine (qText_any B b g _ x w0 w1.drew hM hO (g1.tr d1) hB (h1.gr d1) (by have := wtxt_len x.Pa s; omega)).mono ?_
    rintro r w2 ⟨rfl, h2, g2⟩
    exact ⟨rfl, h2, g2⟩
  by_cases k6 : x.K = 6
  · have hb : bodyP x s = wput true [flagB x.Tn] s := by unfold bodyP; rw [if_neg k2, if_neg k3, if_neg k4, if_pos k6]
    rw [hb]
    rw [k6] at c0
    refine own6_any (pTurn _) g w _ c0 ?_
    refine (qTurn_any B b g s x w0 w.drew hM hO (hg.tr d1) hB (hW.gr d1) (by omega)).mono ?_
    rintro r w1 ⟨rfl, h1, g1⟩
    exact ⟨rfl, h1, g1⟩
  have hb : bodyP x s = s := by unfold bodyP; rw [if_neg k2, if_neg k3, if_neg k4, if_neg k6]
  rw [hb]
  refine (ownNone_any x.K g _ w c0 ⟨k2, k3, k4, k6⟩).mono ?_
  rintro r w1 ⟨rfl, rfl⟩
  exact ⟨rfl, hW, hg⟩
set_option maxRecDepth 100000 in
theorem mBytes_any (x : Mx) (w : World) (hx : MxOk w x) (hP : Pt.Mx w) (hs : MSmall x) :
    Calls Tryz.prog 18 #[.agg x.cells] w fun r w' => r = .returned (.tuple #[.string ⟨(mBytes x).1.toArray⟩, .int .i64 (mBytes x).2]) ∧ Gr w w' := by
  have HB := Lib.hid (World.alloc_heap_new w (.cells x.cells 37))
  have HG : Hid (Gr w (w.alloc (.cells x.cells 37))) := Lib.hid ((Gr.rfl' w).al _)
  have HXO := Lib.hid (hx.gr HG.out)
  have HPP := Lib.hid (hP.gr HG.out)
  have HSM := Lib.hid hs
  clear hx hP hs
  generalize hW : w.alloc (.cells x.cells 37) = W at HB HG HXO HPP
  have HC := Lib.hid (mCheck_any x W HPP.out (by have := HSM.out.pa; omega) HXO.out)
  by_cases hc : mChk x = 0; rotate_left
  · have hcb : (mChk x != 0) = true := by simpa using hc
    have HV : Hid (mBytes x = ([], mChk x)) := Lib.hid (by unfold mBytes; rw [if_pos hc])
    clear hc
    go_enter Tryz.func18, Tryz.ntmps18
    go_wp2_with (first
      | refine loadM x HXO.out.dig rfl (.tmp 1) rfl w.heap.size rfl HB.out ?_)
    refine (HC.out).mono ?_
    rintro r w1 ⟨rfl, g1⟩
    go_wp2
    go_ret2
    rw [HV.out]
    exact ⟨rfl, HG.out.tr g1⟩
  have HV : Hid (mBytes x = doneV (mPut x)) := Lib.hid (by unfold mBytes; rw [if_neg (by simpa using hc)])
  rw [hc] at HC
  clear hc
  go_enter Tryz.func18, Tryz.ntmps18
  go_wp2_with (first
    | refine loadM x HXO.out.dig rfl (.tmp 1) rfl w.heap.size rfl HB.out ?_)
  refine (HC.out).mono ?_
  rintro r w1 ⟨rfl, g1⟩
  have HB1 := Lib.hid ((g1.block _ (Array.getElem?_eq_some_iff.1 HB.out).1).trans HB.out)
  have HG1 := Lib.hid (HG.out.tr g1)
  have HXO1 := Lib.hid (HXO.out.gr g1)
  clear g1 hW HB HG HXO HPP HC
  have HWR := Lib.hid (Wr.new' w1)
  have hga : Gr w1 (w1.alloc (.cells #[.pointer none, .slice none 0 0, .int .i64 0] 82)) := (Gr.rfl' w1).al _
  have HGA := Lib.hid hga
  have HB2 := Lib.hid ((hga.block _ (Array.getElem?_eq_some_iff.1 HB1.out).1).trans HB1.out)
  clear hga
  go_upto_region 5 with (fail)
  obtain ⟨b, hb⟩ : ∃ b, w1.heap.size = b := ⟨_, rfl⟩
  rw [hb] at HWR ⊢
  have HBS := Lib.hid hb
  clear hb
  have HS1 : Hid (w.heap.size < b) := Lib.hid (by have h1 := (Array.getElem?_eq_some_iff.1 HB1.out).1; have h2 := HBS.out; omega)
  generalize w1.alloc (.cells #[.pointer none, .slice none 0 0, .int .i64 0] 82) = w2 at HWR HGA HB2 ⊢
  have HA := mxAt HB2.out HXO1.out.dig
  have c0 := HA.c0
  have c1 := HA.c1
  have c2 := HA.c2
  have c3 := HA.c3
  clear HA
  have HRW := Lib.hid (World.alloc_heap_new w2 (.cells #[.int .i64 x.K, .int .i64 x.F, .int .i64 x.To, .int .i64 x.Sd] 3))
  have HGR : Hid (Gr w2 (w2.alloc (.cells #[.int .i64 x.K, .int .i64 x.F, .int .i64 x.To, .int .i64 x.Sd] 3))) := Lib.hid ((Gr.rfl' w2).al _)
  go_upto_region 6 with (fail)
  obtain ⟨ga, hga⟩ : ∃ g, w2.heap.size = g := ⟨_, rfl⟩
  rw [hga] at HRW ⊢
  have HBA : Hid (b < ga) := Lib.hid (by have := HWR.out.lt; omega)
  have HW3 := Lib.hid (HWR.out.gr HGR.out)
  have HG3 := Lib.hid (HGA.out.tr HGR.out)
  clear hga c0 c1 c2 c3 HB2 HWR HGA
  generalize w2.alloc (.cells #[.int .i64 x.K, .int .i64 x.F, .int .i64 x.To, .int .i64 x.Sd] 3) = w3 at HRW HGR HW3 HG3 ⊢
  clear HGR
  have HM0 := Lib.hid (Wm.refl b b w3)
  go_loopw [25] (fun i wr => ∃ k : Nat, k ≤ 4 ∧ i = .int .i64 k ∧ Hid (Wr b b (numsW ((mNums x).take k) ([], 0)).1 (numsW ((mNums x).take k) ([], 0)).2 wr) ∧ Hid (Wm b b w3 wr)) (fun i _ => 4 - (intOf i).toNat)
  case atStart => exact ⟨0, by omega, rfl, HW3, HM0⟩
  case round =>
    clear HM0 HW3
    obtain ⟨k, hk, rfl, HW, HM⟩ := hrel
    by_cases hlt : k < 4
    · have hki : (k : Int) < 4 := by omega
      have hrow := HM.out.typ _ _ HRW.out (by have := HBA.out; omega) (by rfl)
      obtain ⟨n, hn⟩ : ∃ n : Int, (mNums x)[k]? = some n := ⟨_, List.getElem?_eq_getElem (by simpa [mNums] using hlt)⟩
      have hcell : wr.cell? ⟨ga, k, none⟩ = some (.int .i64 n) := by
        simp only [World.cell?, hrow]
        rcases (by omega : k = 0 ∨ k = 1 ∨ k = 2 ∨ k = 3) with rfl | rfl | rfl | rfl <;> simp [mNums] at hn <;> subst hn <;> rfl
      have hst : numsW ((mNums x).take (k + 1)) ([], 0) = wnum n (numsW ((mNums x).take k) ([], 0)) := by
        rw [numsW_take (by simpa [mNums] using hlt)]
        obtain ⟨_, e⟩ := List.getElem?_eq_some_iff.1 hn
        rw [e]
      have hln := numsW_len (mNums x) ([], 0) k (by simpa [mNums] using hk)
      have HN := Lib.hid (wNumber_any b b _ _ n wr HW.out (by simp only [List.length_nil] at hln; omega))
      have HST := Lib.hid hst
      clear hst hrow hn hln
      go_wp2_with fail
      refine (HN.out).mono ?_
      rintro r w4 ⟨rfl, h4, m4⟩
      have H4 : Hid (Wr b b (numsW ((mNums x).take (k + 1)) ([], 0)).1 (numsW ((mNums x).take (k + 1)) ([], 0)).2 w4) := by show Wr _ _ _ _ _; rw [HST.out]; exact h4
      have M4 := Lib.hid (HM.out.trans m4)
      clear h4 m4 hcell HN
      go_wp2
      go_roundw
      case rel => exact ⟨k + 1, by omega, by go_num, H4, M4⟩
      case measure => simp [intOf]; omega
    · have hk4 : k = 4 := by omega
      subst hk4
      have hki : ¬ ((4 : Nat) : Int) < 4 := by omega
      have HW' : Hid (Wr b b (numsW (mNums x) ([], 0)).1 (numsW (mNums x) ([], 0)).2 wr) := HW
      have hgr : Gr w1 wr := HM.out.below HG3.out (by have := HBS.out; omega)
      have HOW := Lib.hid (ownP_any b b w.heap.size (numsW (mNums x) ([], 0)) x w1 wr HB1.out HXO1.out hgr (by have := HBS.out; omega) HW'.out HSM.out (by have := numsW4_len (mNums x) rfl; omega))
      clear HW hgr
      go_wp2_with fail
      refine (HOW.out).mono ?_
      rintro r w5 ⟨rfl, h5, g5⟩
      have HD := Lib.hid (wDone_any b b _ _ _ h5)
      have G5 := Lib.hid g5
      clear h5 g5 HOW
      go_wp2_with fail
      refine (HD.out).mono ?_
      rintro r w6 ⟨rfl, m6⟩
      go_wp2
      go_ret2
      rw [HV.out]
      exact ⟨rfl, HG1.out.tr (m6.below G5.out (by have := HBS.out; omega))⟩
end Go.Proofs.YtfobnemocodomaaGreat
