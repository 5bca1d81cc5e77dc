/- vec.Within and Compare. -/
import Derived.Test.YtfhanmopoafdeaaMade
set_option linter.unusedVariables false
set_option linter.unusedSimpArgs false
set_option maxHeartbeats 400000
namespace Go.Proofs.Ytfhanmopoafdeaa
open Go.RowKit Go.Shelf
attribute [local go_sem] Oper.semAt_some

def leB (l : List (Int × Int × Int)) : Bool := l.all fun x => decide (x.2.1 ≤ x.2.2)
theorem leB_snoc (l : List (Int × Int × Int)) (p x y : Int) : leB (l ++ [(p, x, y)]) = (leB l && decide (x ≤ y)) := by simp [leB]
theorem leB_pre {l m : List (Int × Int × Int)} (h : l <+: m) (hl : leB l = false) : leB m = false := by
  obtain ⟨t, rfl⟩ := h
  simp only [leB, List.all_append] at hl ⊢
  simp [hl]
def withinB (a b : List Dot) : Bool := decide (chk a = 0) && decide (chk b = 0) && leB (mrg a b)

theorem Within_no (A1 A2 : Option Addr) (c1 c2 : Nat) (a b : List Dot) (w : World) (h1 : Dots w A1 a) (h2 : Dots w A2 b) (hv : ¬ (chk a = 0 ∧ chk b = 0)) :
    Calls Try.prog 14 #[.slice A1 a.length c1, .slice A2 b.length c2] w fun e w' => e = .returned (.bool false) ∧ Gr w w' := by
  have hg0 : Gr w (w.alloc (.cells #[.bool false] 4)) := (Gr.rfl' w).al _
  have h3 := DRows.two (c := c1) (d := c2) (h1.gr hg0) (h2.gr hg0) 22
  rw [World.size_alloc] at h3
  have H3 := Lib.hid h3; clear h3
  have hr : rightB [⟨A1, c1, a⟩, ⟨A2, c2, b⟩] = false := by
    by_cases ha : chk a = 0
    · have hb : chk b ≠ 0 := fun h => hv ⟨ha, h⟩
      simp [rightB, ha, hb]
    · simp [rightB, ha]
  clear hv h1 h2
  go_enter Try.func14, Try.ntmps14
  go_wp2_with (first | (go_at_call 37; refine (right_any _ _ [⟨A1, c1, a⟩, ⟨A2, c2, b⟩] _ H3.out).mono ?_; rintro e w1 ⟨rfl, hg1⟩; obtain ⟨hc, hf⟩ := bcell hg1; have hz := hg1.size; simp at hz))
  have hb : Boxed w1 w.heap.size 4 (.bool false) := (hg1.block w.heap.size (by simp; omega)).trans ((Below.heap_alloc _ _ _ (by simp)).trans (World.alloc_heap_new w _))
  have hres : (w1.setCell ⟨w.heap.size, 0, none⟩ (.bool false)).cell? ⟨w.heap.size, 0, none⟩ = some (.bool false) := cell_of_one (one_setCell hb)
  exact bodyPost_ret (v := .bool false) (by simp [results, Try.results14, go_sem, hres]) rfl ⟨rfl, ((hg0.al _).tr hg1).set (by simp) _⟩

set_option maxRecDepth 100000 in
set_option maxHeartbeats 2000000 in
theorem Within_yes (A1 A2 : Option Addr) (c1 c2 : Nat) (a b : List Dot) (w : World) (h1 : Dots w A1 a) (h2 : Dots w A2 b) (hc1 : a.length ≤ c1) (hc2 : b.length ≤ c2) (hva : chk a = 0) (hvb : chk b = 0) :
    Calls Try.prog 14 #[.slice A1 a.length c1, .slice A2 b.length c2] w fun e w' => e = .returned (.bool (withinB a b)) ∧ Gr w w' := by
  have hg0 : Gr w (w.alloc (.cells #[.bool false] 4)) := (Gr.rfl' w).al _
  have h3 := DRows.two (c := c1) (d := c2) (h1.gr hg0) (h2.gr hg0) 22
  rw [World.size_alloc] at h3
  have H3 := Lib.hid h3; clear h3
  have hr : rightB [⟨A1, c1, a⟩, ⟨A2, c2, b⟩] = true := by simp [rightB, hva, hvb]
  have HW : Hid (withinB a b = leB (mrg a b)) := by show _ = _; simp [withinB, hva, hvb]
  have H1 := Lib.hid h1
  have H2 := Lib.hid h2
  clear hva hvb h1 h2
  refine (callsIn_wide (n := 3)).1 (callsIn_of_wp_marks Try.func14 rfl trivial ?_)
  refine wpIn_wide.2 ?_
  simp only [Try.ntmps14, List.size_toArray, List.length_cons, List.length_nil, Nat.reduceAdd, Nat.reduceSub, Array.replicate_succ, Array.replicate_zero, List.push_toArray, List.append_toArray, List.nil_append, List.cons_append]
  go_wp2_with (first | (go_at_call 37; refine (right_any _ _ [⟨A1, c1, a⟩, ⟨A2, c2, b⟩] _ H3.out).mono ?_; rintro e w1 ⟨rfl, hg1⟩) | (go_at_call 38; refine (pairs_any _ _ _ _ _ _ _).mono ?_; rintro e w2 ⟨rfl, rfl⟩))
  obtain ⟨W0, hW0⟩ : ∃ W0, (w1.alloc (.cells #[.slice A1 a.length c1] 22)).alloc (.cells #[.slice A2 b.length c2] 22) = W0 := ⟨_, rfl⟩
  rw [hW0]
  have hgw1 : Gr w w1 := ((hg0.al _).tr hg1)
  have hsz : w.heap.size + 2 ≤ w1.heap.size := by have := hg1.size; simp at this; omega
  have hsz0 : W0.heap.size = w1.heap.size + 2 := by rw [← hW0]; simp
  have hb4 : Boxed W0 w.heap.size 4 (.bool false) := by
    have h := World.alloc_heap_new w (.cells #[.bool false] 4)
    have h' := (hg1.block w.heap.size (by simp; omega)).trans ((Below.heap_alloc _ _ _ (by simp)).trans h)
    rw [← hW0]
    exact (Below.heap_alloc _ _ _ (by simp; omega)).trans ((Below.heap_alloc _ _ _ (by omega)).trans h')
  have hba : Boxed W0 w1.heap.size 22 (.slice A1 a.length c1) := by
    rw [← hW0]
    exact (Below.heap_alloc _ _ _ (by simp)).trans (World.alloc_heap_new w1 _)
  have hbb : Boxed W0 (w1.heap.size + 1) 22 (.slice A2 b.length c2) := by
    have := World.alloc_heap_new (w1.alloc (.cells #[.slice A1 a.length c1] 22)) (.cells #[.slice A2 b.length c2] 22)
    rw [World.size_alloc] at this
    rw [← hW0]
    exact this
  have hgW0 : Gr w W0 := by rw [← hW0]; exact (hgw1.al _).al _
  have hP : PSt w w1.heap.size (w1.heap.size + 1) a b W0 := ⟨⟨A1, c1, hba, hc1, H1.out⟩, ⟨A2, c2, hbb, hc2, H2.out⟩, hgW0⟩
  clear hba hbb hW0 hg1 H3 hr hg0
  refine wpIn_wide.1 (wpIn_range (n := 3) (gf := 45) (lb := #[.pointer (some ⟨w1.heap.size, 0, none⟩), .pointer (some ⟨w1.heap.size + 1, 0, none⟩)]) rfl (enters_of Try.func45 (by kernel_rfl) rfl)
    (pairs_iter 1 w W0 _ _ (by omega) (by omega) (by omega) a b hP) (fun k hk => by rcases hk with rfl | rfl <;> omega) (by omega) (fun _ => rfl)
    (fun pre W => (Boxed W w.heap.size 4 (.bool false) ∧ Gr w W) ∧ leB pre = true)
    (fun c pre W => c = .ret ∧ (Boxed W w.heap.size 4 (.bool false) ∧ Gr w W) ∧ leB pre = false)
    (fun pre x a' W => W0.heap.size ≤ W.heap.size ∧ ((Boxed W w.heap.size 4 (.bool false) ∧ Gr w W) ∧ leB pre = true) ∧ ∃ bx, W0.heap.size ≤ bx ∧ W.heap[bx]? = some (.cells #[.int .i64 x.2.1, .int .i64 x.2.2] 47 (0, 0)) ∧
      a' = { tmps := #[.slice A1 a.length c1, .slice A2 b.length c2, undef, undef, .pointer (some ⟨w.heap.size, 0, none⟩), undef, .pointer (some ⟨bx, 0, none⟩), .slice A1 a.length c1, .slice A2 b.length c2, .slice (some ⟨w.heap.size + 1, 0, none⟩) 2 2, .bool true, .bool false, .slice A1 a.length c1, .slice A2 b.length c2, .func (.func 45) #[] #[.pointer (some ⟨w1.heap.size, 0, none⟩), .pointer (some ⟨w1.heap.size + 1, 0, none⟩)],
        .int .i64 x.1, .agg #[.int .i64 x.2.1, .int .i64 x.2.2], undef, undef, undef, undef, undef], defers := [] })
    ?hI ?hIx ?hAx ?h0 ?assign ?body ?done ?stop)
  case hI =>
    rintro pre A B ⟨⟨h1, h2⟩, h3⟩ m
    exact ⟨⟨m.boxed h1 (by omega), m.below h2 (by omega) (Nat.le_refl _) (fun k hk => by rcases hk with rfl | rfl <;> omega)⟩, h3⟩
  case hIx =>
    rintro c pre A B ⟨h0, ⟨h1, h2⟩, h3⟩ m
    exact ⟨h0, ⟨m.boxed h1 (by omega), m.below h2 (by omega) (Nat.le_refl _) (fun k hk => by rcases hk with rfl | rfl <;> omega)⟩, h3⟩
  case hAx =>
    rintro pre x a' A B ⟨hs, ⟨⟨h1, h2⟩, h3⟩, bx, hbx, hb, rfl⟩ m
    exact ⟨Nat.le_trans hs m.size, ⟨⟨m.boxed h1 (by omega), m.below h2 (by omega) (Nat.le_refl _) (fun k hk => by rcases hk with rfl | rfl <;> omega)⟩, h3⟩, bx, hbx, m.same hb rfl (by omega), rfl⟩
  case h0 => exact ⟨⟨hb4, hgW0⟩, rfl⟩
  case assign =>
    rintro l pre ⟨p, x, y⟩ W K ⟨⟨h1, h2⟩, h3⟩ hpre hl hlt hK
    simp only [encP]
    have hKK := Lib.hid hK; clear hK
    have H3 := Lib.hid h3; clear h3
    gi_wp2
    exact hKK.out _ _ ((KeepsOthers.alloc _ _).from _) ((Kp.refl _ _ _).alloc _) ⟨by simp; omega, ⟨⟨(Below.heap_alloc _ _ _ h1.lt).trans h1, h2.al _⟩, H3.out⟩, W.heap.size, by omega, World.alloc_heap_new _ _, rfl⟩
  case body =>
    rintro l pre ⟨p, x, y⟩ a' W hl ⟨r, hr⟩ hpre ⟨hs, ⟨⟨hb4, hg⟩, hall⟩, bx, hbx, hb, rfl⟩
    have hx0 : W.cell? ⟨bx, 0, none⟩ = some (.int .i64 x) := by simp [World.cell?, hb]
    have hx1 : W.cell? ⟨bx, 1, none⟩ = some (.int .i64 y) := by simp [World.cell?, hb]
    have hc4 := hb4.cell
    have hf4 := free_of_one hb4
    have HA := Lib.hid hall; clear hall
    have HB := Lib.hid hb; clear hb
    have HR := Lib.hid hr; clear hr
    have HB4 := Lib.hid hb4; clear hb4
    have HPRE := Lib.hid hpre; clear hpre
    by_cases hk : y < x
    · gi_wp2
      show _ ∧ _ ∧ _
      refine ⟨(KeepsOthers.setCell _ _ _).from _, Kp.setCell (p := ⟨w.heap.size, 0, none⟩) (Kp.refl _ _ _) ⟨Nat.le_refl _, fun h => by rcases h with h | h <;> (simp only at h; omega)⟩ _, rfl, ⟨one_setCell HB4.out, hg.set (Nat.le_refl _) _⟩, ?_⟩
      rw [leB_snoc, HA.out]; simp; omega
    · gi_wp2
      show _ ∧ _ ∧ _
      refine ⟨KeepsFrom.refl _ _, Kp.refl _ _ _, ⟨HB4.out, hg⟩, ?_⟩
      rw [leB_snoc, HA.out]; simp; omega
  case done =>
    rintro D W hD ⟨⟨hb4, hg⟩, hall⟩ hK
    have hc4 := hb4.cell
    have hf4 := free_of_one hb4
    have HA := Lib.hid hall; clear hall
    go_wp2
    refine ⟨by simp, .inl ⟨_, _, rfl, run_takeDeferred (KeepsOthers.same (KeepsOthers.setCell _ _ _) _ _ hK rfl), ?_⟩⟩
    have hb5 : Boxed ((W.setCell ⟨w.heap.size, 0, none⟩ (.bool true)).putObj D (.deferred none)) w.heap.size 4 (.bool true) := (World.putObj_heap_other (by omega)).trans (one_setCell hb4)
    have hres := hb5.cell
    refine ⟨_, by simp [results, Try.results14, go_sem, hres]; rfl, ?_⟩
    exact ⟨ret_bool (by rw [HW.out, HA.out]), (hg.set (Nat.le_refl _) _).putObj (by omega) _⟩
  case stop =>
    rintro D c pre W hD hpre ⟨rfl, ⟨hb4, hg⟩, hall⟩ hK
    have HA := Lib.hid (leB_pre hpre hall); clear hall
    refine wpIn_wide.2 ?_
    go_wp2
    refine ⟨by simp, .inl ⟨_, _, rfl, run_takeDeferred hK, ?_⟩⟩
    have hb5 : Boxed (W.putObj D (.deferred none)) w.heap.size 4 (.bool false) := (World.putObj_heap_other (by omega)).trans hb4
    have hres := hb5.cell
    refine ⟨_, by simp [results, Try.results14, go_sem, hres]; rfl, ?_⟩
    exact ⟨ret_bool (by rw [HW.out, HA.out]), hg.putObj (by omega) _⟩

theorem Within_any (A1 A2 : Option Addr) (c1 c2 : Nat) (a b : List Dot) (w : World) (h1 : Dots w A1 a) (h2 : Dots w A2 b) (hc1 : a.length ≤ c1) (hc2 : b.length ≤ c2) :
    Calls Try.prog 14 #[.slice A1 a.length c1, .slice A2 b.length c2] w fun e w' => e = .returned (.bool (withinB a b)) ∧ Gr w w' := by
  by_cases hv : chk a = 0 ∧ chk b = 0
  · exact Within_yes A1 A2 c1 c2 a b w h1 h2 hc1 hc2 hv.1 hv.2
  · refine (Within_no A1 A2 c1 c2 a b w h1 h2 hv).mono ?_
    rintro e w' ⟨rfl, hg⟩
    refine ⟨ret_bool ?_, hg⟩
    unfold withinB
    by_cases ha : chk a = 0
    · have hb : ¬ chk b = 0 := fun h => hv ⟨ha, h⟩
      simp [hb]
    · simp [ha]

def cmpI (a b : List Dot) : Int := if withinB a b = true then (if withinB b a = true then 0 else 1) else (if withinB b a = true then 2 else 3)
theorem Compare_any (A1 A2 : Option Addr) (c1 c2 : Nat) (a b : List Dot) (w : World) (h1 : Dots w A1 a) (h2 : Dots w A2 b) (hc1 : a.length ≤ c1) (hc2 : b.length ≤ c2) :
    Calls Try.prog 22 #[.slice A1 a.length c1, .slice A2 b.length c2] w fun e w' => e = .returned (.int .i64 (cmpI a b)) ∧ Gr w w' := by
  have H1 := Lib.hid h1; clear h1
  have H2 := Lib.hid h2; clear h2
  rcases hab : withinB a b with _ | _
  all_goals
    rcases hba : withinB b a with _ | _
    all_goals
      have HC : Hid (cmpI a b = if withinB a b = true then (if withinB b a = true then 0 else 1) else (if withinB b a = true then 2 else 3)) := rfl
      rw [hab, hba] at HC
      go_enter Try.func22, Try.ntmps22
      go_wp2_with fail
      refine (Within_any A1 A2 c1 c2 a b _ H1.out H2.out hc1 hc2).mono ?_
      rintro e w1 ⟨rfl, hg1⟩
      go_wp2_with fail
      refine (Within_any A2 A1 c2 c1 b a _ (H2.out.gr hg1) (H1.out.gr hg1) hc2 hc1).mono ?_
      rintro e w2 ⟨rfl, hg2⟩
      go_wp2
      go_ret
      exact ⟨ret_int (by rw [HC.out]; rfl), hg1.tr hg2⟩
end Go.Proofs.Ytfhanmopoafdeaa
