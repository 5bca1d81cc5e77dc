/- Get, Has, Within, Compare as the document has them; Has of vec. -/
import Derived.Test.YtfobnemocodomaaVecC
import Derived.Test.YtfobnemocodomaaIter
set_option linter.unusedVariables false
set_option linter.unusedSimpArgs false
set_option maxHeartbeats 400000
namespace Go.Proofs.Ytfobnemocodomaa
open Go.RowKit

theorem cnt_out {l : List Dot} (h : Okv l) (q : Int) (hq : ¬ (0 ≤ q ∧ q < 64)) : cnt l q = 0 := cnt_none l q fun d hd e => by have := h.1 d hd; omega
theorem getV_eq (l : List Dot) (q : Int) : getV l q = if chk l = 0 then cnt l q else 0 := by
  unfold getV
  by_cases h : chk l = 0
  · by_cases hq : 0 ≤ q ∧ q < 64
    · rw [if_pos ⟨h, hq⟩, if_pos h]
    · rw [if_neg (fun c => hq c.2), if_pos h, cnt_out ((chk_ok l).1 h) q hq]
  · rw [if_neg (fun c => h c.1), if_neg h]

theorem refGet_any (A : Option Addr) (cap : Nat) (l : List Dot) (q : Int) (w : World) (h : Dots w A l) :
   Calls Try.prog 164 #[.slice A l.length cap, .int .i64 q] w fun e w' => e = .returned (.int .i64 (getV l q)) ∧ Gr w w' := by
  have H := Lib.hid h; clear h
  have hm := H.out.1
  by_cases hv : chk l = 0
  · have HG : Hid (getV l q = cnt l q) := by show _ = _; rw [getV_eq, if_pos hv]
    have hok : (chk l != 0) = false := by simp [hv]
    clear hv
    go_enter Try.func164, Try.ntmps164
    go_wp2_with (go_at_call 93; refine (refCheck_any _ _ _ _ H.out).mono ?_; rintro e w1 ⟨rfl, hg1⟩)
    go_loopw [5] (fun i wr => ∃ k : Nat, k ≤ l.length ∧ i = .int .i64 k ∧ Hid (cnt l q = cnt (l.drop k) q) ∧ Gr w wr) (fun i _ => l.length - (intOf i).toNat)
    case atStart => exact ⟨0, Nat.zero_le _, rfl, Lib.hid rfl, hg1⟩
    case round =>
      obtain ⟨k, hk, rfl, hch, hb⟩ := hrel
      by_cases hlt : k < l.length
      · obtain ⟨ad, rfl, hx, hy⟩ := (H.out.gr hb).2 k hlt
        have hdrop : Hid (l.drop k = l[k] :: l.drop (k+1)) := List.drop_eq_getElem_cons hlt
        have hi1 : (k : Int) < (l.length : Int) := by omega
        generalize hd : l[k] = d at *
        obtain ⟨p, c⟩ := d
        clear hd
        dsimp only at hx hy
        have hc0 : cnt ((p, c) :: l.drop (k+1)) q = if p = q then c else cnt (l.drop (k+1)) q := rfl
        have HC0 := Lib.hid hc0; clear hc0
        by_cases hpq : p = q
        · have hpb : (p == q) = true := by simp [hpq]
          have HPQ := Lib.hid hpq; clear hpq
          go_wp2
          go_ret
          exact ⟨ret_int (by rw [HG.out, hch.out, hdrop.out, HC0.out, if_pos HPQ.out]), hb⟩
        · have hpb : (p == q) = false := by simp [hpq]
          have HPQ := Lib.hid hpq; clear hpq
          go_wp2
          go_roundw
          case rel => exact ⟨k + 1, by omega, by go_num, Lib.hid (by rw [hch.out, hdrop.out, HC0.out, if_neg HPQ.out]), hb⟩
          case measure => simp [intOf]; omega
      · have : k = l.length := by omega
        subst this
        go_wp2
        go_ret
        have := hch.out
        simp at this
        exact ⟨ret_int (by rw [HG.out, this]; rfl), hb⟩
  · have HG : Hid (getV l q = 0) := by show _ = _; rw [getV_eq, if_neg hv]
    have hok : (chk l != 0) = true := by simp [hv]
    clear hv
    go_enter Try.func164, Try.ntmps164
    go_wp2_with (go_at_call 93; refine (refCheck_any _ _ _ _ H.out).mono ?_; rintro e w1 ⟨rfl, hg1⟩)
    go_ret
    exact ⟨ret_int HG.out.symm, hg1⟩

def hasV (l : List Dot) (p c : Int) : Bool := decide (1 ≤ c) && decide (c ≤ getV l p)

theorem refHas_any (A : Option Addr) (cap : Nat) (l : List Dot) (p c : Int) (w : World) (h : Dots w A l) :
   Calls Try.prog 94 #[.slice A l.length cap, .agg #[.int .i64 p, .int .i64 c]] w fun e w' => e = .returned (.bool (hasV l p c)) ∧ Gr w w' := by
  have H := Lib.hid h; clear h
  have hg0 : Gr w (w.alloc (.cells #[.int .i64 p, .int .i64 c] 47)) := (Gr.rfl' w).al _
  have hn := World.alloc_heap_new w (.cells #[.int .i64 p, .int .i64 c] 47)
  have hf0 : (w.alloc (.cells #[.int .i64 p, .int .i64 c] 47)).cell? ⟨w.heap.size, 0, none⟩ = some (.int .i64 p) := by simp only [World.cell?, hn]; rfl
  have hf1 : (w.alloc (.cells #[.int .i64 p, .int .i64 c] 47)).cell? ⟨w.heap.size, 1, none⟩ = some (.int .i64 c) := by simp only [World.cell?, hn]; rfl
  generalize hw0 : w.alloc (.cells #[.int .i64 p, .int .i64 c] 47) = w0 at *
  have HN := Lib.hid hn; clear hn
  have HW0 := Lib.hid hw0; clear hw0
  by_cases h1 : 1 ≤ c
  · have hb1 : decide (1 ≤ c) = true := decide_eq_true h1
    have HV : Hid (hasV l p c = decide (c ≤ getV l p)) := by show _ = _; simp [hasV, h1]
    clear h1
    go_enter Try.func94, Try.ntmps94
    go_upto_region 1 with (fail)
    rw [show w.alloc (.cells #[.int .i64 p, .int .i64 c] 47) = w0 from HW0.out]
    go_region_held3 (fun w' => w'.cell? ⟨w.heap.size, 0, none⟩ = some (.int .i64 p) ∧ w'.cell? ⟨w.heap.size, 1, none⟩ = some (.int .i64 c)) (first | exact ⟨hf0, hf1⟩ | exact ⟨hg1.cell hf0, hg1.cell hf1⟩) (first | (go_at_call 164; refine (refGet_any A cap l p _ (H.out.gr hg0.dr)).mono ?_; rintro e w1 ⟨rfl, hg1⟩))
    go_wp2
    go_ret
    exact ⟨ret_bool HV.out.symm, hg0.tr ((Gr.rfl' _).dr.tr hg1)⟩
  · have hb1 : decide (1 ≤ c) = false := decide_eq_false h1
    have HV : Hid (hasV l p c = false) := by show _ = _; simp [hasV, h1]
    clear h1
    go_enter Try.func94, Try.ntmps94
    go_upto_region 1 with (fail)
    rw [show w.alloc (.cells #[.int .i64 p, .int .i64 c] 47) = w0 from HW0.out]
    refine wp_region_quiet_lit (by kernel_rfl) (by kernel_rfl) ?_
    repeat (first | go_big_quiet_step (fail) | quiet_step (fail))
    refine wpQuiet_nil ?_
    intro _ hw'
    obtain ⟨nq, hw''⟩ := hw'
    subst hw''
    go_wp2
    go_ret
    exact ⟨ret_bool HV.out.symm, hg0.drN _⟩
theorem Has_any (A : Option Addr) (cap : Nat) (l : List Dot) (p c : Int) (w : World) (h : Dots w A l) :
   Calls Try.prog 91 #[.slice A l.length cap, .agg #[.int .i64 p, .int .i64 c]] w fun e w' => e = .returned (.bool (hasV l p c)) ∧ Gr w w' := by
  have H := Lib.hid h; clear h
  have hg0 : Gr w (w.alloc (.cells #[.int .i64 p, .int .i64 c] 47)) := (Gr.rfl' w).al _
  have hn := World.alloc_heap_new w (.cells #[.int .i64 p, .int .i64 c] 47)
  have hf0 : (w.alloc (.cells #[.int .i64 p, .int .i64 c] 47)).cell? ⟨w.heap.size, 0, none⟩ = some (.int .i64 p) := by simp only [World.cell?, hn]; rfl
  have hf1 : (w.alloc (.cells #[.int .i64 p, .int .i64 c] 47)).cell? ⟨w.heap.size, 1, none⟩ = some (.int .i64 c) := by simp only [World.cell?, hn]; rfl
  generalize hw0 : w.alloc (.cells #[.int .i64 p, .int .i64 c] 47) = w0 at *
  have HN := Lib.hid hn; clear hn
  have HW0 := Lib.hid hw0; clear hw0
  by_cases h1 : 1 ≤ c
  · have hb1 : decide (1 ≤ c) = true := decide_eq_true h1
    have HV : Hid (hasV l p c = decide (c ≤ getV l p)) := by show _ = _; simp [hasV, h1]
    clear h1
    go_enter Try.func91, Try.ntmps91
    go_upto_region 1 with (fail)
    rw [show w.alloc (.cells #[.int .i64 p, .int .i64 c] 47) = w0 from HW0.out]
    go_region_held3 (fun w' => w'.cell? ⟨w.heap.size, 0, none⟩ = some (.int .i64 p) ∧ w'.cell? ⟨w.heap.size, 1, none⟩ = some (.int .i64 c)) (first | exact ⟨hf0, hf1⟩ | exact ⟨hg1.cell hf0, hg1.cell hf1⟩) (first | (go_at_call 163; refine (Get_any A cap l p _ (H.out.gr hg0.dr)).mono ?_; rintro e w1 ⟨rfl, hg1⟩))
    go_wp2
    go_ret
    exact ⟨ret_bool HV.out.symm, hg0.tr ((Gr.rfl' _).dr.tr hg1)⟩
  · have hb1 : decide (1 ≤ c) = false := decide_eq_false h1
    have HV : Hid (hasV l p c = false) := by show _ = _; simp [hasV, h1]
    clear h1
    go_enter Try.func91, Try.ntmps91
    go_upto_region 1 with (fail)
    rw [show w.alloc (.cells #[.int .i64 p, .int .i64 c] 47) = w0 from HW0.out]
    refine wp_region_quiet_lit (by kernel_rfl) (by kernel_rfl) ?_
    repeat (first | go_big_quiet_step (fail) | quiet_step (fail))
    refine wpQuiet_nil ?_
    intro _ hw'
    obtain ⟨nq, hw''⟩ := hw'
    subst hw''
    go_wp2
    go_ret
    exact ⟨ret_bool HV.out.symm, hg0.drN _⟩

/-- all of a's dots are had by b -/
def inB (a b : List Dot) : Bool := a.all fun d => hasV b d.1 d.2
def refWithinB (a b : List Dot) : Bool := decide (chk a = 0) && decide (chk b = 0) && inB a b
theorem inB_succ {a b : List Dot} {k : Nat} (h : k < a.length) : inB (a.take (k + 1)) b = (inB (a.take k) b && hasV b a[k].1 a[k].2) := by
  rw [List.take_succ_eq_append_getElem h]; simp only [inB, List.all_append, List.all_cons, List.all_nil, Bool.and_true]
theorem inB_pre {a b : List Dot} {k : Nat} (h : inB (a.take k) b = false) : inB a b = false := by
  rw [← List.take_append_drop k a]
  simp only [inB, List.all_append] at h ⊢
  simp [h]

def refCmpI (a b : List Dot) : Int := if refWithinB a b = true then (if refWithinB b a = true then 0 else 1) else (if refWithinB b a = true then 2 else 3)
def manyB (rs : List DRow) : Bool := rs.any fun r => decide (80 < r.l.length)
theorem manyB_pre {rs : List DRow} {k : Nat} (h : k < rs.length) (hr : 80 < rs[k].l.length) : manyB rs = true := by
  unfold manyB; rw [List.any_eq_true]; exact ⟨rs[k], List.getElem_mem h, by simpa using hr⟩
end Go.Proofs.Ytfobnemocodomaa
