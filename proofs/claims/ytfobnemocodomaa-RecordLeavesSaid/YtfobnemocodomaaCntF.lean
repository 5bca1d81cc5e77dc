/- The document's Put. -/
import Derived.Test.YtfobnemocodomaaCntE
import Derived.Deep.RegionWith
set_option linter.unusedVariables false
set_option linter.unusedSimpArgs false
set_option maxHeartbeats 400000
namespace Go.Proofs.Ytfobnemocodomaa
open Go.RowKit Go.Shelf

theorem conv1 (x : Int) (W : World) (g : Nat) (hc : W.cell? ⟨g, 0, none⟩ = some (.int .u8 x)) : (convert 129 9 (.slice (some ⟨g, 0, none⟩) 1 1)).run Try.prog W = .ok (.string (strOfNums [x])) W :=
  run_convert_bytes_arg W 129 5 Try.underlying129 Try.underlying5 g 0 _ 1 [x] rfl (fun i hi => by
    obtain rfl : i = 0 := by simp only [List.length_cons, List.length_nil] at hi; omega
    simpa using hc) 9 Try.underlying9
theorem conv1_new (x : Int) (W : World) : (convert 129 9 (.slice (some ⟨W.heap.size, 0, none⟩) 1 1)).run Try.prog (W.alloc (.cells #[.int .u8 x] 5)) = .ok (.string (strOfNums [x])) (W.alloc (.cells #[.int .u8 x] 5)) :=
  conv1 x _ _ (by have := cells_newB W [.int .u8 x] 5 0 (.int .u8 x) rfl; exact this)

theorem conv1_drew (x : Int) (W : World) : (convert 129 9 (.slice (some ⟨W.heap.size, 0, none⟩) 1 1)).run Try.prog (W.alloc (.cells #[.int .u8 x] 5)).drew = .ok (.string (strOfNums [x])) (W.alloc (.cells #[.int .u8 x] 5)).drew :=
  conv1 x _ _ (by have := cells_newB W [.int .u8 x] 5 0 (.int .u8 x) rfl; exact this)
theorem cells_newD (x : Int) (W : World) : (W.alloc (.cells #[.int .u8 x] 5)).drew.cell? ⟨W.heap.size, 0, none⟩ = some (.int .u8 x) := by
  have := cells_newB W [.int .u8 x] 5 0 (.int .u8 x) rfl; exact this

theorem cells_newE (x : Int) (W : World) : (W.alloc (.cells #[.int .u8 x] 5)).cell? ⟨W.heap.size, 0, none⟩ = some (.int .u8 x) := by
  have := cells_newB W [.int .u8 x] 5 0 (.int .u8 x) rfl; exact this

set_option maxRecDepth 100000 in
theorem rPut_no (m : Int) (w : World) (h : ¬ (0 ≤ m ∧ m ≤ 1073741824)) : Calls Try.prog 141 #[.int .i64 m] w fun e w' => e = .returned (.string (putS m)) ∧ Gr w w' := by
  have HP : Hid (putS m = ⟨#[]⟩) := if_neg h
  by_cases h0 : m < 0
  · have hb : decide (m < 0) = true := decide_eq_true h0
    clear h
    go_enter Try.func141, Try.ntmps141
    go_wp2
    go_ret
    exact ⟨by rw [HP.out]; rfl, Gr.rfl' _⟩
  · have hb : decide (m < 0) = false := decide_eq_false h0
    have h1 : 1073741824 < m := by omega
    clear h
    go_enter Try.func141, Try.ntmps141
    go_wp2
    go_ret
    exact ⟨by rw [HP.out]; rfl, Gr.rfl' _⟩

theorem putS_nat (m : Nat) (hm : m ≤ 1073741824) : putS m = strOfNums (grpN m) := by unfold putS; rw [if_pos (by omega)]; rfl
theorem strOfNums_cons (x : Int) (l : List Int) : strOfNums (x :: l) = strOfNums [x] ++ strOfNums l := by
  apply ByteArray.ext
  simp [strOfNums, ByteArray.data_append]

set_option maxRecDepth 100000 in
theorem rPut_small (m : Nat) (hm : m < 128) (w : World) : Calls Try.prog 141 #[.int .i64 m] w fun e w' => e = .returned (.string (putS m)) ∧ Gr w w' := by
  have HP : Hid (putS m = strOfNums [(m : Int)]) := by show _ = _; rw [putS_nat m (by omega), grpN_small hm]
  have h0 : decide ((m : Int) < 0) = false := decide_eq_false (by omega)
  have h1 : ¬ (1073741824 : Int) < m := by omega
  have h2 : (m : Int) < 128 := by omega
  have hc := conv1_new (m : Int) w
  go_enter Try.func141, Try.ntmps141
  go_wp2
  go_ret
  exact ⟨by rw [HP.out]; rfl, (Gr.rfl' _).al _⟩

set_option maxRecDepth 100000 in
theorem rPut_any : ∀ (f m : Nat) (hf : m ≤ f) (hm : m ≤ 1073741824) (w : World), Calls Try.prog 141 #[.int .i64 m] w fun e w' => e = .returned (.string (putS m)) ∧ Gr w w'
  | f, m, hf, hm, w => by
    by_cases hs : m < 128
    · exact rPut_small m hs w
    · obtain ⟨f, rfl⟩ : ∃ g, f = g + 1 := ⟨f - 1, by omega⟩
      have ih := fun w => rPut_any f (m / 128) (by omega) (by omega) w
      obtain ⟨t, ht⟩ : ∃ t, t = putS ((m / 128 : Nat) : Int) := ⟨_, rfl⟩
      obtain ⟨u, hu⟩ : ∃ u, u = strOfNums [(m : Int) % 128 + 128] := ⟨_, rfl⟩
      have HP : Hid (putS m = u ++ t) := by show _ = _; rw [hu, ht, putS_nat m (by omega), grpN_big (by omega), strOfNums_cons, putS_nat (m / 128) (by omega)]
      have hsz : u.size + t.size ≤ 9223372036854775807 := by
        rw [hu, ht, putS_nat (m / 128) (by omega), strOfNums_size, strOfNums_size]
        have := grpN_len5 (m / 128) (by omega)
        simp only [List.length_cons, List.length_nil]; omega
      have h0 : decide ((m : Int) < 0) = false := decide_eq_false (by omega)
      have h1 : ¬ (1073741824 : Int) < m := by omega
      have h2 : ¬ (m : Int) < 128 := by omega
      have IH := Lib.hid ih
      clear ih
      go_enter Try.func141, Try.ntmps141
      go_wp2
      have hcd := conv1_drew ((m : Int) % 128 + 128) w
      have hc1 := conv1 ((m : Int) % 128 + 128)
      rw [← hu] at hcd hc1
      have HC1 := Lib.hid hc1
      clear hc1 hu
      have hx : IntKind.u8.wrap (IntKind.i64.wrap ((m : Int).tmod 128 + 128)) = (m : Int) % 128 + 128 := by
        rw [Int.tmod_eq_emod_of_nonneg (by omega), IntKind.wrap_i64, IntKind.wrap_u8]
        omega
      have hq : IntKind.i64.wrap ((m : Int) / 128) = ((m / 128 : Nat) : Int) := by rw [IntKind.wrap_i64]; omega
      have IHq : Hid (∀ w, Calls Try.prog 141 #[.int .i64 (IntKind.i64.wrap ((m : Int) / 128))] w fun e w' => e = .returned (.string t) ∧ Gr w w') := by
        show ∀ w, _
        rw [hq, ht]
        exact IH.out
      clear hq IH ht
      go_region_with (go_at_call 141; go_loud (refine (IHq.out _).mono ?_); rintro e wc ⟨rfl, hgc⟩; have hW := Lib.hid hgc; clear hgc; have hcx := HC1.out _ _ (cells_newE ((m : Int) % 128 + 128) wc); try (have hcw := HC1.out wc w.heap.size (hW.out.cell (cells_newD ((m : Int) % 128 + 128) w))))
      all_goals
        go_wp2
        go_ret
        refine ⟨by rw [HP.out]; rfl, ?_⟩
        first
          | exact (((Gr.rfl' _).al _).dr).tr hW.out
          | exact (((Gr.rfl' _).dr).al _).tr hW.out
          | exact (((Gr.rfl' _).dr).tr hW.out).al _

theorem rPut_all (m : Int) (w : World) : Calls Try.prog 141 #[.int .i64 m] w fun e w' => e = .returned (.string (putS m)) ∧ Gr w w' := by
  by_cases h : 0 ≤ m ∧ m ≤ 1073741824
  · obtain ⟨k, rfl⟩ : ∃ k : Nat, m = k := ⟨m.toNat, by omega⟩
    exact rPut_any k k (Nat.le_refl _) (by omega) w
  · exact rPut_no m w h
end Go.Proofs.Ytfobnemocodomaa
