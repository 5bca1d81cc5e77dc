/- Joined texts: RecA RecB. -/
import Derived.Test.YtfobnemocodomaaGreatZBl
import Derived.Test.YtfobnemocodomaaGreatZBb
set_option linter.unusedVariables false
set_option linter.unusedSimpArgs false
set_option maxHeartbeats 400000
namespace Go.Proofs.YtfobnemocodomaaGreat
open Go.RowKit Go.Shelf

def wnum (n : Int) (s : List UInt8 × Int) : List UInt8 × Int := wput (numOk n) (putS n).data.toList s
def vnum (l : List Dot) (s : List UInt8 × Int) : List UInt8 × Int := l.foldl (fun s d => wnum d.2 (wnum d.1 s)) s
/-- what a vector put comes to -/
def vput (l : List Dot) (s : List UInt8 × Int) : List UInt8 × Int := if chk l ≠ 0 then wfail (chk l) s else vnum l (wnum l.length s)
theorem wputL (is : Bool) (t : List UInt8) (s : List UInt8 × Int) (n : Nat) (h : is = true → t.length ≤ n) : (wput is t s).1.length ≤ s.1.length + n := by
  unfold wput
  split
  · omega
  · cases is with
    | true => have := h rfl; simp; omega
    | false => simp
theorem wnum_len (n : Int) (s : List UInt8 × Int) : (wnum n s).1.length ≤ s.1.length + 5 := wputL _ _ _ _ (fun _ => putS_len n)
theorem vnum_take {l : List Dot} {k : Nat} (h : k < l.length) (s : List UInt8 × Int) : vnum (l.take (k + 1)) s = wnum l[k].2 (wnum l[k].1 (vnum (l.take k) s)) := by
  rw [List.take_succ_eq_append_getElem h]
  simp only [vnum, List.foldl_append, List.foldl_cons, List.foldl_nil]
theorem vnum_len (l : List Dot) (s : List UInt8 × Int) : ∀ k, k ≤ l.length → (vnum (l.take k) s).1.length ≤ s.1.length + 10 * k
  | 0, _ => by simp [vnum]
  | k + 1, h => by
    rw [vnum_take (by omega)]
    have h1 := wnum_len l[k].2 (wnum l[k].1 (vnum (l.take k) s))
    have h2 := wnum_len l[k].1 (vnum (l.take k) s)
    have h3 := vnum_len l s k (by omega)
    omega

set_option maxRecDepth 100000 in
theorem putDot_any (B b : Nat) (L : List UInt8) (e p c : Int) (w : World) (h : Wr B b L e w) (hlen : L.length + 10 ≤ 140737488355328) :
    Calls Tryz.prog 119 #[.pointer (some ⟨b, 0, none⟩), .agg #[.int .i64 p, .int .i64 c]] w fun r w' => r = .returned (.tuple #[]) ∧ Wr B b (wnum c (wnum p (L, e))).1 (wnum c (wnum p (L, e))).2 w' ∧ Wm B b w w' := by
  have hg := Lib.hid ((Gr.rfl' w).al (.cells #[.int .i64 p, .int .i64 c] 112))
  have hbl := h.lt
  have HH := Lib.hid (h.gr hg.out); clear h
  have HB := Lib.hid (World.alloc_heap_new w (.cells #[.int .i64 p, .int .i64 c] 112))
  have h1l := wnum_len p (L, e)
  go_enter Tryz.func119, Tryz.ntmps119
  go_wp2_with fail
  refine (wNumber_any B b L e p _ HH.out (by omega)).mono ?_
  rintro r w1 ⟨rfl, h1, m1⟩
  have k1 : w1.cell? ⟨w.heap.size, 1, none⟩ = some (.int .i64 c) := m1.cell HB.out (by show w.heap.size ≠ b; omega) (by decide) (by have hb := HB.out; simp only [World.cell?, hb]; rfl)
  have H1 : Hid (Wr B b (wnum p (L, e)).1 (wnum p (L, e)).2 w1) := h1
  clear h1
  go_wp2_with fail
  refine (wNumber_any B b _ _ c _ H1.out (by omega)).mono ?_
  rintro r w2 ⟨rfl, h2, m2⟩
  go_wp2
  go_end0
  exact ⟨rfl, h2, (((Wm.refl _ _ _).gr hg.out).trans m1).trans m2⟩

set_option maxRecDepth 100000 in
theorem PutVec1_any (B b : Nat) (L : List UInt8) (e p c : Int) (g : Nat) (w : World) (h : Wr B b L e w) (hc : w.cell? ⟨g, 0, none⟩ = some (.pointer (some ⟨b, 0, none⟩))) (hlen : L.length + 10 ≤ 140737488355328) :
    Calls Tryz.prog 140 #[.agg #[.int .i64 p, .int .i64 c], .pointer (some ⟨g, 0, none⟩)] w fun r w' => r = .returned (.tuple #[]) ∧ Wr B b (wnum c (wnum p (L, e))).1 (wnum c (wnum p (L, e))).2 w' ∧ Wm B b w w' := by
  have hg := Lib.hid ((Gr.rfl' w).al (.cells #[.int .i64 p, .int .i64 c] 112))
  have HH := Lib.hid (h.gr hg.out); clear h
  have hc' := hg.out.cell hc
  go_enter Tryz.func140, Tryz.ntmps140
  go_wp2_with fail
  refine (putDot_any B b L e p c _ HH.out hlen).mono ?_
  rintro r w1 ⟨rfl, h1, m1⟩
  go_wp2
  go_end0
  exact ⟨rfl, h1, ((Wm.refl _ _ _).gr hg.out).trans m1⟩

set_option maxRecDepth 100000 in
theorem list_any (B b : Nat) (L : List UInt8) (e : Int) (g : Nat) (A : Option Addr) (cap : Nat) (l : List Dot) (w0 w : World) (hD : Dots w0 A l) (hg0 : Gr w0 w) (hB : w0.heap.size ≤ B) (h : Wr B b L e w)
    (hc : w.heap[g]? = some (.cells #[.pointer (some ⟨b, 0, none⟩)] 77 (0, 0))) (hgb : g ≠ b) (hlen : L.length + 5 + 10 * l.length + 10 ≤ 140737488355328) :
    Calls Tryz.prog 139 #[.pointer (some ⟨b, 0, none⟩), .slice A l.length cap, .func (.func 140) #[] #[.pointer (some ⟨g, 0, none⟩)]] w fun r w' =>
      r = .returned (.tuple #[]) ∧ Wr B b (vnum l (wnum l.length (L, e))).1 (vnum l (wnum l.length (L, e))).2 w' ∧ Wm B b w w' := by
  have HH := Lib.hid h; clear h
  have HD := Lib.hid hD; clear hD
  have HC := Lib.hid hc; clear hc
  have hll := HD.out.1
  have h1l := wnum_len l.length (L, e)
  have HV := Lib.hid (vnum_len l (wnum l.length (L, e)))
  go_enter Tryz.func139, Tryz.ntmps139
  go_wp2_with fail
  refine (wNumber_any B b L e l.length _ HH.out (by omega)).mono ?_
  rintro r w1 ⟨rfl, h1, m1⟩
  have H1 : Hid (Wr B b (wnum l.length (L, e)).1 (wnum l.length (L, e)).2 w1) := h1
  have M1 := Lib.hid m1
  clear h1 m1
  go_wp2
  go_loopw [14] (fun i wr => ∃ k : Nat, k ≤ l.length ∧ i = .int .i64 k ∧ Hid (Wr B b (vnum (l.take k) (wnum l.length (L, e))).1 (vnum (l.take k) (wnum l.length (L, e))).2 wr) ∧ Hid (Wm B b w wr)) (fun i _ => l.length - (intOf i).toNat)
  case atStart => exact ⟨0, Nat.zero_le _, rfl, H1, M1⟩
  case round =>
    obtain ⟨k, hk, rfl, HW, HM⟩ := hrel
    clear H1 M1
    by_cases hlt : k < l.length
    · have hki : (k : Int) < l.length := by omega
      obtain ⟨ad, rfl, hx, hy⟩ := (HD.out.gr (HM.out.below hg0 hB)).2 k hlt
      have hvk := HV.out k hk
      have hgl := Lib.hid ((Gr.rfl' wr).al (.cells #[.int .i64 l[k].1, .int .i64 l[k].2] 112))
      have hcw := hgl.out.cell (show wr.cell? ⟨g, 0, none⟩ = some (.pointer (some ⟨b, 0, none⟩)) from HM.out.cell HC.out hgb (by decide) (by simp [World.cell?, HC.out]))
      go_wp2_with fail
      refine (PutVec1_any B b _ _ l[k].1 l[k].2 g _ (HW.out.gr hgl.out) hcw (by omega)).mono ?_
      rintro r w2 ⟨rfl, h2, m2⟩
      have H2 : Hid (Wr B b (vnum (l.take (k + 1)) (wnum l.length (L, e))).1 (vnum (l.take (k + 1)) (wnum l.length (L, e))).2 w2) := by show Wr _ _ _ _ _; rw [vnum_take hlt]; exact h2
      have M2 := Lib.hid ((HM.out.gr hgl.out).trans m2)
      clear h2 m2 hx hy hcw
      go_wp2
      go_roundw
      case rel => exact ⟨k + 1, by omega, by go_num, H2, M2⟩
      case measure => simp [intOf]; omega
    · have hkk : k = l.length := by omega
      subst hkk
      rw [List.take_length] at HW
      go_wp2
      go_end0
      exact ⟨rfl, HW.out, HM.out⟩

set_option maxRecDepth 100000 in
theorem PutVec_any (B b : Nat) (L : List UInt8) (e : Int) (A : Option Addr) (cap : Nat) (l : List Dot) (w0 w : World) (hD : Dots w0 A l) (hg0 : Gr w0 w) (hB : w0.heap.size ≤ B) (h : Wr B b L e w) (hlen : L.length + 5 + 10 * l.length + 10 ≤ 140737488355328) :
    Calls Tryz.prog 120 #[.pointer (some ⟨b, 0, none⟩), .slice A l.length cap] w fun r w' =>
      r = .returned (.tuple #[]) ∧ Wr B b (vput l (L, e)).1 (vput l (L, e)).2 w' ∧ Wm B b w w' := by
  have hbl := h.lt
  have hga := Lib.hid ((Gr.rfl' w).al (.cells #[.pointer (some ⟨b, 0, none⟩)] 77))
  have HH := Lib.hid (h.gr hga.out); clear h
  have HD := Lib.hid hD; clear hD
  have HC := Lib.hid (World.alloc_heap_new w (.cells #[.pointer (some ⟨b, 0, none⟩)] 77))
  by_cases hch : chk l = 0
  · have hX : Hid (vput l (L, e) = vnum l (wnum l.length (L, e))) := by show _ = _; unfold vput; rw [if_neg (by simpa using hch)]
    go_enter Tryz.func120, Tryz.ntmps120
    go_wp2_with fail
    refine (Check_any A cap l _ (HD.out.gr (hg0.tr hga.out))).mono ?_
    rintro r w1 ⟨rfl, hg1⟩
    rw [hch]
    have HC1 := Lib.hid ((hg1.block _ (Array.getElem?_eq_some_iff.1 HC.out).1).trans HC.out)
    have c1 : w1.cell? ⟨w.heap.size, 0, none⟩ = some (.pointer (some ⟨b, 0, none⟩)) := by simp [World.cell?, HC1.out]
    go_wp2_with fail
    refine (list_any B b L e w.heap.size A cap l w0 _ HD.out ((hg0.tr hga.out).tr hg1) hB (HH.out.gr hg1) HC1.out (by omega) hlen).mono ?_
    rintro r w2 ⟨rfl, h2, m2⟩
    go_wp2
    go_end0
    rw [hX.out]
    exact ⟨rfl, h2, ((Wm.refl _ _ _).gr (hga.out.tr hg1)).trans m2⟩
  · have hX : Hid (vput l (L, e) = wfail (chk l) (L, e)) := by show _ = _; unfold vput; rw [if_pos hch]
    have hcb : (chk l != 0) = true := by simpa using hch
    go_enter Tryz.func120, Tryz.ntmps120
    go_wp2_with fail
    refine (Check_any A cap l _ (HD.out.gr (hg0.tr hga.out))).mono ?_
    rintro r w1 ⟨rfl, hg1⟩
    have HC1 := Lib.hid ((hg1.block _ (Array.getElem?_eq_some_iff.1 HC.out).1).trans HC.out)
    have c1 : w1.cell? ⟨w.heap.size, 0, none⟩ = some (.pointer (some ⟨b, 0, none⟩)) := by simp [World.cell?, HC1.out]
    go_wp2_with fail
    refine (wFail_any B b L e (chk l) _ (HH.out.gr hg1)).mono ?_
    rintro r w2 ⟨rfl, h2, m2⟩
    go_wp2
    refine bodyPost_ret (results_none rfl _ _ _) rfl ?_
    rw [hX.out]
    exact ⟨rfl, h2, ((Wm.refl _ _ _).gr (hga.out.tr hg1)).trans m2⟩

theorem Wr.new' (w1 : World) : Wr w1.heap.size w1.heap.size [] 0 (w1.alloc (.cells #[.pointer none, .slice none 0 0, .int .i64 0] 82)) :=
  ⟨.pointer none, .slice none 0 0, Nat.le_refl _, .inl rfl, World.alloc_heap_new _ _, World.ownsRow_nil _ _ _ _, fun _ => rfl⟩
end Go.Proofs.YtfobnemocodomaaGreat
set_option linter.unusedVariables false
set_option linter.unusedSimpArgs false
set_option maxHeartbeats 400000
namespace Go.Proofs.YtfobnemocodomaaGreat
open Go.RowKit Go.Shelf

theorem wnum_err (n : Int) (s : List UInt8 × Int) (h : s.2 ≠ 0) : wnum n s = s := by unfold wnum wput; rw [if_pos h]
theorem vnum_err : ∀ (l : List Dot) (s : List UInt8 × Int), s.2 ≠ 0 → vnum l s = s
  | [], s, _ => rfl
  | d :: l, s, h => by
    show vnum l (wnum d.2 (wnum d.1 s)) = s
    rw [wnum_err d.1 s h, wnum_err d.2 s h, vnum_err l s h]
theorem vput_ref (l : List Dot) (s : List UInt8 × Int) : vnum l (wnum l.length (wfail (chk l) s)) = vput l s := by
  unfold vput
  by_cases h : chk l = 0
  · rw [if_neg (by simpa using h), h]
    have : wfail 0 s = s := by
      unfold wfail
      split
      · rfl
      · rename_i h0
        simp only [ne_eq, Decidable.not_not] at h0
        rw [← h0]
    rw [this]
  · rw [if_pos h]
    have he : (wfail (chk l) s).2 ≠ 0 := by
      unfold wfail
      split
      · assumption
      · exact h
    rw [wnum_err _ _ he, vnum_err _ _ he]

theorem rnum_eq (n : Int) (s : List UInt8 × Int) : rput (numOk n) (putS n) (⟨s.1.toArray⟩, s.2) = (⟨(wnum n s).1.toArray⟩, (wnum n s).2) := rput_eq _ _ _
theorem wfail_lenL (f : Int) (s : List UInt8 × Int) : (wfail f s).1.length = s.1.length := by unfold wfail; split <;> rfl
theorem putD (n : Nat) (h : n < 128) : putS n = ⟨#[UInt8.ofNat n]⟩ := by rw [putS_nat n (by omega), grpN_small h]; simp [strOfNums]
theorem wnum_small (n : Nat) (h : n < 128) (L : List UInt8) : wnum (n : Int) (L, 0) = (L ++ [UInt8.ofNat n], 0) := by
  have hk : numOk (n : Int) = true := by simp [numOk]; omega
  unfold wnum wput
  rw [hk, putD n h]
  simp
theorem awkV : doneV (vput [(0, 2), (3, 1)] ([], 0)) = ([2, 0, 2, 3, 1], 0) := by
  have hc : chk [(0, 2), (3, 1)] = 0 := by decide
  have h : vput [(0, 2), (3, 1)] ([], 0) = wnum ((1 : Nat) : Int) (wnum ((3 : Nat) : Int) (wnum ((2 : Nat) : Int) (wnum ((0 : Nat) : Int) (wnum ((2 : Nat) : Int) ([], 0))))) := by
    unfold vput
    rw [if_neg (by simpa using hc)]
    rfl
  rw [h, wnum_small 2 (by decide), wnum_small 0 (by decide), wnum_small 2 (by decide), wnum_small 3 (by decide), wnum_small 1 (by decide)]
  rfl

end Go.Proofs.YtfobnemocodomaaGreat
