/- Size and Next, and the document's. -/
import Derived.Test.YtfhanmopoafdeaaVecP
set_option linter.unusedVariables false
set_option linter.unusedSimpArgs false
set_option maxHeartbeats 400000
namespace Go.Proofs.Ytfhanmopoafdeaa
open Go.RowKit

def sumL : List Dot → Int
  | [] => 0
  | d :: r => d.2 + sumL r
def sumG (l : List Dot) : Nat → Int
  | 0 => 0
  | k + 1 => sumG l k + getV l k
def sizeV (l : List Dot) : Int := if chk l = 0 then sumL l else 0
theorem sumL_snoc (l : List Dot) (d : Dot) : sumL (l ++ [d]) = sumL l + d.2 := by
  induction l with
  | nil => simp [sumL]
  | cons x l ih => simp only [List.cons_append, sumL, ih]; omega
theorem sumL_le : ∀ {l : List Dot}, (∀ d ∈ l, 1 ≤ d.2 ∧ d.2 ≤ 1048576) → 0 ≤ sumL l ∧ sumL l ≤ 1048576 * l.length
  | [], _ => by simp [sumL]
  | d :: r, h => by
    have h1 := h d (by simp)
    have h2 := sumL_le (l := r) fun x hx => h x (by simp [hx])
    simp only [sumL, List.length_cons]; omega
theorem getV_nonneg (l : List Dot) (q : Int) : 0 ≤ getV l q ∧ getV l q ≤ 1048576 := by
  rw [getV_eq]
  by_cases h : chk l = 0
  · rw [if_pos h]; exact cnt_nonneg ((chk_ok l).1 h) q
  · rw [if_neg h]; omega
theorem sumG_le (l : List Dot) : ∀ k : Nat, 0 ≤ sumG l k ∧ sumG l k ≤ 1048576 * k
  | 0 => by simp [sumG]
  | k + 1 => by have := sumG_le l k; have := getV_nonneg l k; simp only [sumG]; omega
theorem sumG_bad {l : List Dot} (h : chk l ≠ 0) : ∀ k, sumG l k = 0
  | 0 => rfl
  | k + 1 => by simp only [sumG, sumG_bad h k, getV_eq, if_neg h]; rfl
def sumC (l : List Dot) : Nat → Int
  | 0 => 0
  | k + 1 => sumC l k + cnt l k
theorem sumC_cons {x : Dot} {l : List Dot} (h : ∀ d ∈ l, x.1 < d.1) (h0 : 0 ≤ x.1) : ∀ k : Nat, sumC (x :: l) k = sumC l k + if x.1 < k then x.2 else 0
  | 0 => by rw [if_neg (by simp; exact h0)]; simp [sumC]
  | k + 1 => by
    have hcast : ((k + 1 : Nat) : Int) = k + 1 := rfl
    simp only [sumC, sumC_cons h h0 k, cnt_cons, hcast]
    by_cases e : x.1 = k
    · rw [if_pos e, if_neg (by omega), if_pos (by omega), cnt_gt (l := l) (fun d hd => by rw [← e]; exact h d hd)]
    · rw [if_neg e]
      by_cases c : x.1 < k
      · rw [if_pos c, if_pos (by omega)]; omega
      · rw [if_neg c, if_neg (by omega)]; omega
theorem sumC_eq : ∀ {l : List Dot}, Okv l → sumC l 64 = sumL l
  | [], _ => by decide
  | x :: l, h => by
    obtain ⟨h1, h2, h3⟩ := Okv.cons_iff.1 h
    rw [sumC_cons h2 h1.1, sumC_eq h3, if_pos (show x.1 < ((64 : Nat) : Int) from h1.2.1)]
    simp only [sumL]; omega
theorem sumG_sumC {l : List Dot} (h : chk l = 0) : ∀ k, sumG l k = sumC l k
  | 0 => rfl
  | k + 1 => by simp only [sumG, sumC, sumG_sumC h k, getV_eq, if_pos h]
theorem size_eq (l : List Dot) : sizeV l = sumG l 64 := by
  unfold sizeV
  by_cases h : chk l = 0
  · rw [if_pos h, sumG_sumC h, sumC_eq ((chk_ok l).1 h)]
  · rw [if_neg h, sumG_bad h]

theorem Size_any (A : Option Addr) (cap : Nat) (l : List Dot) (w : World) (h : Dots w A l) :
   Calls Try.prog 20 #[.slice A l.length cap] w fun e w' => e = .returned (.int .i64 (sizeV l)) ∧ Gr w w' := by
  have H := Lib.hid h; clear h
  have H1 := Lib.hid (DRows.one (cap := cap) H.out 22)
  by_cases hv : chk l = 0
  · have hr : rightB [⟨A, cap, l⟩] = true := by simp [rightB, hv]
    have HG : Hid (sizeV l = sumL l) := if_pos hv
    have HV := Lib.hid ((chk_ok l).1 hv); clear hv
    have HN := Lib.hid HV.out.len
    have hm := H.out.1
    go_enter Try.func20, Try.ntmps20
    go_wp2_with (first | (go_at_call 37; refine (right_any _ _ [⟨A, cap, l⟩] _ H1.out).mono ?_; rintro e w1 ⟨rfl, hg1⟩))
    have hg0 := ((Gr.rfl' w).al (.cells #[.slice A l.length cap] 22)).tr hg1
    go_loopw [3,12] (fun s i wr => ∃ k : Nat, ∃ sv : Int, k ≤ l.length ∧ i = .int .i64 k ∧ s = .int .i64 sv ∧ Hid (sv = sumL (l.take k)) ∧ Gr w wr) (fun _ i _ => l.length - (intOf i).toNat)
    case atStart => exact ⟨0, 0, Nat.zero_le _, rfl, rfl, Lib.hid rfl, hg0⟩
    case round =>
      obtain ⟨k, sv, hk, rfl, rfl, hch, hb⟩ := hrel
      have hsb : 0 ≤ sv ∧ sv ≤ 67108864 := by
        have := sumL_le (l := l.take k) fun d hd => by have := HV.out.1 d (List.mem_of_mem_take hd); omega
        rw [← hch.out] at this
        have h64 := HN.out
        have : (l.take k).length ≤ 64 := by rw [List.length_take]; omega
        omega
      obtain ⟨hs1, hs2⟩ := hsb
      by_cases hlt : k < l.length
      · obtain ⟨ad, rfl, hx, hy⟩ := (H.out.gr hb).2 k hlt
        have hs : Hid (sv + l[k].2 = sumL (l.take (k + 1))) := by
          show _ = _
          rw [List.take_succ_eq_append_getElem hlt, sumL_snoc, ← hch.out]
        have hcb := HV.out.at k hlt
        generalize hd : l[k] = d at *
        obtain ⟨p, c⟩ := d
        clear hd
        dsimp only at hx hy hs hcb
        obtain ⟨_, _, hc1, hc2⟩ := hcb
        go_wp2
        go_roundw
        case rel => exact ⟨k + 1, sv + c, by omega, by go_num, by go_num, hs, hb.al _⟩
        case measure => simp [intOf]; omega
      · have hk' : k = l.length := by omega
        subst hk'
        have := hch.out
        rw [List.take_length] at this
        have HT := Lib.hid this; clear this
        go_wp2
        go_ret
        exact ⟨ret_int (by rw [HG.out, HT.out]), hb⟩
  · have hr : rightB [⟨A, cap, l⟩] = false := by simp [rightB, hv]
    have HG : Hid (sizeV l = 0) := if_neg hv
    clear hv
    go_enter Try.func20, Try.ntmps20
    go_wp2_with (first | (go_at_call 37; refine (right_any _ _ [⟨A, cap, l⟩] _ H1.out).mono ?_; rintro e w1 ⟨rfl, hg1⟩))
    go_ret
    exact ⟨ret_int HG.out.symm, ((Gr.rfl' w).al _).tr hg1⟩

theorem refSize_any (A : Option Addr) (cap : Nat) (l : List Dot) (w : World) (h : Dots w A l) :
   Calls Try.prog 30 #[.slice A l.length cap] w fun e w' => e = .returned (.int .i64 (sizeV l)) ∧ Gr w w' := by
  have H := Lib.hid h; clear h
  have HG := Lib.hid (size_eq l)
  go_enter Try.func30, Try.ntmps30
  go_wp2
  go_loopw [3,4] (fun s i wr => ∃ k : Nat, ∃ sv : Int, k ≤ 64 ∧ i = .int .i64 k ∧ s = .int .i64 sv ∧ Hid (sv = sumG l k) ∧ Gr w wr) (fun _ i _ => 64 - (intOf i).toNat)
  case atStart => exact ⟨0, 0, Nat.zero_le _, rfl, rfl, Lib.hid rfl, Below.refl _ _⟩
  case round =>
    obtain ⟨k, sv, hk, rfl, rfl, hch, hb⟩ := hrel
    have hsb : 0 ≤ sv ∧ sv ≤ 67108864 := by
      have := sumG_le l k
      rw [← hch.out] at this
      omega
    obtain ⟨hs1, hs2⟩ := hsb
    by_cases hlt : k < 64
    · have hs : Hid (sv + getV l k = sumG l (k + 1)) := by
        show _ = _
        rw [hch.out]; rfl
      obtain ⟨hc1, hc2⟩ := getV_nonneg l k
      have hwr : Dots wr A l := H.out.gr hb
      have HW := Lib.hid hwr; clear hwr
      have hlt' : (k : Int) < 64 := by omega
      go_wp2_with (go_at_call 27; refine (refGet_any A cap l k _ HW.out).mono ?_; rintro e w1 ⟨rfl, hg1⟩)
      go_roundw
      case rel => exact ⟨k + 1, sv + getV l k, by omega, by go_num, by go_num, hs, hb.tr hg1⟩
      case measure => simp [intOf]; omega
    · have hk' : k = 64 := by omega
      subst hk'
      have HT := Lib.hid hch.out
      go_wp2
      go_ret
      exact ⟨ret_int (by rw [HG.out, HT.out]), hb⟩

/-- the dot that comes next: its peer, its count, the error -/
def nextV (l : List Dot) (p : Int) : Int × Int × Int :=
  if chk l ≠ 0 then (0, 0, chk l) else if p < 0 ∨ 64 ≤ p then (0, 0, 11) else if cnt l p = 1048576 then (0, 0, 12) else (p, cnt l p + 1, 0)
theorem box2 {W : World} {b : Nat} {x y : Value} {t : TypeId} (h : W.heap[b]? = some (.cells #[x, y] t (0, 0))) :
    W.cell? ⟨b, 0, none⟩ = some x ∧ W.cell? ⟨b, 1, none⟩ = some y ∧ W.frozen? ⟨b, 0, none⟩ = false ∧ W.frozen? ⟨b, 1, none⟩ = false :=
  ⟨by simp [World.cell?, h], by simp [World.cell?, h], by simp [World.frozen?, h], by simp [World.frozen?, h]⟩
theorem box2_gr {W W' : World} {b : Nat} {x y : Value} {t : TypeId} (g : Gr W W') (h : W.heap[b]? = some (.cells #[x, y] t (0, 0))) : W'.heap[b]? = some (.cells #[x, y] t (0, 0)) := by
  have hb : b < W.heap.size := by
    rcases Nat.lt_or_ge b W.heap.size with c | c
    · exact c
    · rw [Array.getElem?_eq_none c] at h; cases h
  rw [g.block b hb]; exact h
theorem box2_set {W : World} {b : Nat} {x y : Value} {t : TypeId} (h : W.heap[b]? = some (.cells #[x, y] t (0, 0))) (u v : Value) : ((W.setCell ⟨b, 0, none⟩ u).setCell ⟨b, 1, none⟩ v).cell? ⟨b, 0, none⟩ = some u ∧ ((W.setCell ⟨b, 0, none⟩ u).setCell ⟨b, 1, none⟩ v).cell? ⟨b, 1, none⟩ = some v := by
  have h1 := heap_set_same h (o := 0) u
  have h2 := heap_set_same h1 (o := 1) v
  constructor
  · simp [World.cell?, h2]
  · simp [World.cell?, h2]
def nextE (l : List Dot) (q : Int) : Ending := .returned (.tuple #[.agg #[.int .i64 (nextV l q).1, .int .i64 (nextV l q).2.1], .int .i64 (nextV l q).2.2])
theorem nextE_of {l : List Dot} {q a b c : Int} (h : nextV l q = (a, b, c)) : nextE l q = .returned (.tuple #[.agg #[.int .i64 a, .int .i64 b], .int .i64 c]) := by unfold nextE; rw [h]

set_option maxHeartbeats 1600000 in
theorem Next_any (A : Option Addr) (cap : Nat) (l : List Dot) (q : Int) (w : World) (h : Dots w A l) :
   Calls Try.prog 31 #[.slice A l.length cap, .int .i64 q] w fun e w' => e = nextE l q ∧ Gr w w' := by
  have H := Lib.hid (h.gr ((Gr.rfl' w).al (.cells #[.int .i64 0, .int .i64 0] 31))); clear h
  have hg0 := (Gr.rfl' w).al (.cells #[.int .i64 0, .int .i64 0] 31)
  have hbox := Lib.hid (World.alloc_heap_new w (.cells #[.int .i64 0, .int .i64 0] 31))
  by_cases hv : chk l = 0
  · have hv' : (chk l != 0) = false := by simp [hv]
    by_cases hq : 0 ≤ q ∧ q < 64
    · obtain ⟨hq1, hq2⟩ := hq
      have HV := Lib.hid ((chk_ok l).1 hv)
      obtain ⟨hc1, hc2⟩ := cnt_nonneg HV.out q
      by_cases hm : cnt l q = 1048576
      · have HG : Hid (nextV l q = (0, 0, 12)) := by show _ = _; unfold nextV; rw [if_neg (by simpa using hv), if_neg (by omega), if_pos hm]
        clear hv
        have hmb : (cnt l q == 1048576) = true := by simp [hm]
        clear hm
        go_enter Try.func31, Try.ntmps31
        go_wp2_with fail
        refine (Check_any A cap l _ H.out).mono ?_
        rintro e w1 ⟨rfl, hg1⟩
        go_wp2_with fail
        refine (find_any A cap l q _ (H.out.gr hg1) HV.out hq1 hq2).mono ?_
        rintro e w2 ⟨rfl, hg2⟩
        have hb2 := Lib.hid (box2_gr (hg1.tr hg2) hbox.out)
        obtain ⟨hk1, hk2, hk3, hk4⟩ := box2 hb2.out
        go_wp2
        obtain ⟨hr1, hr2⟩ := box2_set hb2.out (.int .i64 0) (.int .i64 0)
        refine bodyPost_ret (v := .tuple #[.agg #[.int .i64 0, .int .i64 0], .int .i64 12]) (by simp [results, Try.results31, go_sem, hr1, hr2]) rfl ?_
        exact ⟨(nextE_of HG.out).symm, (((hg0.tr hg1).tr hg2).set (Nat.le_refl _) _).set (Nat.le_refl _) _⟩
      · have HG : Hid (nextV l q = (q, cnt l q + 1, 0)) := by show _ = _; unfold nextV; rw [if_neg (by simpa using hv), if_neg (by omega), if_neg hm]
        clear hv
        have hmb : (cnt l q == 1048576) = false := by simp [hm]
        clear hm
        go_enter Try.func31, Try.ntmps31
        go_wp2_with fail
        refine (Check_any A cap l _ H.out).mono ?_
        rintro e w1 ⟨rfl, hg1⟩
        go_wp2_with fail
        refine (find_any A cap l q _ (H.out.gr hg1) HV.out hq1 hq2).mono ?_
        rintro e w2 ⟨rfl, hg2⟩
        have hb2 := Lib.hid (box2_gr (hg1.tr hg2) hbox.out)
        obtain ⟨hk1, hk2, hk3, hk4⟩ := box2 hb2.out
        go_wp2
        obtain ⟨hr1, hr2⟩ := box2_set hb2.out (.int .i64 q) (.int .i64 (cnt l q + 1))
        refine bodyPost_ret (v := .tuple #[.agg #[.int .i64 q, .int .i64 (cnt l q + 1)], .int .i64 0]) (by simp [results, Try.results31, go_sem, hr1, hr2]) rfl ?_
        exact ⟨(nextE_of HG.out).symm, (((hg0.tr hg1).tr hg2).set (Nat.le_refl _) _).set (Nat.le_refl _) _⟩
    · have HG : Hid (nextV l q = (0, 0, 11)) := by show _ = _; unfold nextV; rw [if_neg (by simpa using hv), if_pos (by omega)]
      clear hv
      have hq2 : 64 ≤ q ∨ q < 0 := by omega
      clear hq
      rcases hq2 with hq2 | hq2
      all_goals
        go_enter Try.func31, Try.ntmps31
        go_wp2_with fail
        refine (Check_any A cap l _ H.out).mono ?_
        rintro e w1 ⟨rfl, hg1⟩
        have hb2 := Lib.hid (box2_gr hg1 hbox.out)
        obtain ⟨hk1, hk2, hk3, hk4⟩ := box2 hb2.out
        go_wp2
        obtain ⟨hr1, hr2⟩ := box2_set hb2.out (.int .i64 0) (.int .i64 0)
        refine bodyPost_ret (v := .tuple #[.agg #[.int .i64 0, .int .i64 0], .int .i64 11]) (by simp [results, Try.results31, go_sem, hr1, hr2]) rfl ?_
        exact ⟨(nextE_of HG.out).symm, ((hg0.tr hg1).set (Nat.le_refl _) _).set (Nat.le_refl _) _⟩
  · have hv' : (chk l != 0) = true := by simp [hv]
    have HG : Hid (nextV l q = (0, 0, chk l)) := by show _ = _; unfold nextV; rw [if_pos (by simpa using hv)]
    clear hv
    go_enter Try.func31, Try.ntmps31
    go_wp2_with fail
    refine (Check_any A cap l _ H.out).mono ?_
    rintro e w1 ⟨rfl, hg1⟩
    have hb2 := Lib.hid (box2_gr hg1 hbox.out)
    obtain ⟨hk1, hk2, hk3, hk4⟩ := box2 hb2.out
    go_wp2
    obtain ⟨hr1, hr2⟩ := box2_set hb2.out (.int .i64 0) (.int .i64 0)
    refine bodyPost_ret (v := .tuple #[.agg #[.int .i64 0, .int .i64 0], .int .i64 (chk l)]) (by simp [results, Try.results31, go_sem, hr1, hr2]) rfl ?_
    exact ⟨(nextE_of HG.out).symm, ((hg0.tr hg1).set (Nat.le_refl _) _).set (Nat.le_refl _) _⟩

theorem dotChk_next {l : List Dot} {q : Int} (h : chk l = 0) : dotChk q (getV l q + 1) = (nextV l q).2.2 ∧ ((nextV l q).2.2 = 0 → nextV l q = (q, getV l q + 1, 0)) ∧ ((nextV l q).2.2 ≠ 0 → nextV l q = (0, 0, (nextV l q).2.2)) := by
  unfold nextV
  rw [if_neg (by simpa using h), getV_eq, if_pos h]
  have hc := cnt_nonneg ((chk_ok l).1 h) q
  unfold dotChk
  by_cases h1 : q < 0 ∨ 64 ≤ q
  · rw [if_pos h1, if_pos h1]; simp
  · rw [if_neg h1, if_neg h1]
    by_cases h2 : cnt l q = 1048576
    · rw [if_pos h2, if_pos (by omega)]; simp
    · rw [if_neg h2, if_neg (by omega)]; simp

set_option maxHeartbeats 1600000 in
theorem refNext_any (A : Option Addr) (cap : Nat) (l : List Dot) (q : Int) (w : World) (h : Dots w A l) :
   Calls Try.prog 32 #[.slice A l.length cap, .int .i64 q] w fun e w' => e = nextE l q ∧ Gr w w' := by
  have H := Lib.hid (h.gr ((Gr.rfl' w).al (.cells #[.int .i64 0, .int .i64 0] 31))); clear h
  have hg0 := (Gr.rfl' w).al (.cells #[.int .i64 0, .int .i64 0] 31)
  have hbox := Lib.hid (World.alloc_heap_new w (.cells #[.int .i64 0, .int .i64 0] 31))
  obtain ⟨hc1, hc2⟩ := getV_nonneg l q
  by_cases hv : chk l = 0
  · obtain ⟨hn1, hn2, hn3⟩ := dotChk_next (q := q) hv
    have hv' : (chk l == 0) = true := by simp [hv]
    generalize hz : (nextV l q).2.2 = z at *
    have HN1 := Lib.hid hn1
    by_cases h0 : z = 0
    · have HG := Lib.hid (hn2 h0)
      have h0' : (z != 0) = false := by simp [h0]
      clear hv hn2 hn3 hz h0
      go_enter Try.func32, Try.ntmps32
      go_wp2_with fail
      refine (refCheck_any A cap l _ H.out).mono ?_
      rintro e w1 ⟨rfl, hg1⟩
      go_wp2_with fail
      refine (refGet_any A cap l q _ (H.out.gr hg1)).mono ?_
      rintro e w2 ⟨rfl, hg2⟩
      go_wp2_with fail
      refine (refDot_any q (getV l q + 1) _).mono ?_
      rintro e w3 ⟨rfl, hg3⟩
      rw [HN1.out]
      have hg4 := (hg1.tr hg2).tr hg3
      go_wp2_with fail
      refine (refGet_any A cap l q _ (H.out.gr hg4)).mono ?_
      rintro e w4 ⟨rfl, hg5⟩
      have hg6 := hg4.tr hg5
      have hb2 := Lib.hid (box2_gr hg6 hbox.out)
      obtain ⟨hk1, hk2, hk3, hk4⟩ := box2 hb2.out
      go_wp2
      obtain ⟨hr1, hr2⟩ := box2_set hb2.out (.int .i64 q) (.int .i64 (getV l q + 1))
      refine bodyPost_ret (v := .tuple #[.agg #[.int .i64 q, .int .i64 (getV l q + 1)], .int .i64 0]) (by simp [results, Try.results32, go_sem, hr1, hr2]) rfl ?_
      exact ⟨(nextE_of HG.out).symm, ((hg0.tr hg6).set (Nat.le_refl _) _).set (Nat.le_refl _) _⟩
    · have HG := Lib.hid (hn3 h0)
      have h0' : (z != 0) = true := by simp [h0]
      clear hv hn2 hn3 hz h0
      go_enter Try.func32, Try.ntmps32
      go_wp2_with fail
      refine (refCheck_any A cap l _ H.out).mono ?_
      rintro e w1 ⟨rfl, hg1⟩
      go_wp2_with fail
      refine (refGet_any A cap l q _ (H.out.gr hg1)).mono ?_
      rintro e w2 ⟨rfl, hg2⟩
      go_wp2_with fail
      refine (refDot_any q (getV l q + 1) _).mono ?_
      rintro e w3 ⟨rfl, hg3⟩
      rw [HN1.out]
      have hg4 := (hg1.tr hg2).tr hg3
      have hb2 := Lib.hid (box2_gr hg4 hbox.out)
      obtain ⟨hk1, hk2, hk3, hk4⟩ := box2 hb2.out
      go_wp2
      obtain ⟨hr1, hr2⟩ := box2_set hb2.out (.int .i64 0) (.int .i64 0)
      refine bodyPost_ret (v := .tuple #[.agg #[.int .i64 0, .int .i64 0], .int .i64 z]) (by simp [results, Try.results32, go_sem, hr1, hr2]) rfl ?_
      exact ⟨(nextE_of HG.out).symm, ((hg0.tr hg4).set (Nat.le_refl _) _).set (Nat.le_refl _) _⟩
  · have hv' : (chk l == 0) = false := by simp [hv]
    have hv'' : (chk l != 0) = true := by simp [hv]
    have HG : Hid (nextV l q = (0, 0, chk l)) := by show _ = _; unfold nextV; rw [if_pos (by simpa using hv)]
    clear hv
    go_enter Try.func32, Try.ntmps32
    go_wp2_with fail
    refine (refCheck_any A cap l _ H.out).mono ?_
    rintro e w1 ⟨rfl, hg1⟩
    have hb2 := Lib.hid (box2_gr hg1 hbox.out)
    obtain ⟨hk1, hk2, hk3, hk4⟩ := box2 hb2.out
    go_wp2
    obtain ⟨hr1, hr2⟩ := box2_set hb2.out (.int .i64 0) (.int .i64 0)
    refine bodyPost_ret (v := .tuple #[.agg #[.int .i64 0, .int .i64 0], .int .i64 (chk l)]) (by simp [results, Try.results32, go_sem, hr1, hr2]) rfl ?_
    exact ⟨(nextE_of HG.out).symm, ((hg0.tr hg1).set (Nat.le_refl _) _).set (Nat.le_refl _) _⟩
end Go.Proofs.Ytfhanmopoafdeaa
