/- The empty node may be. -/
import Derived.Test.YtfobnemocodomaaKidG
set_option linter.unusedVariables false
set_option linter.unusedSimpArgs false
set_option maxHeartbeats 2000000
namespace Go.Proofs.Ytfobnemocodomaa
open Go.RowKit Go.Great

/-- the empty node, boxed -/
def NBox (b : Nat) (w : World) : Prop := w.heap[b]? = some (.cells #[.slice none 0 0, .slice none 0 0] 31 (0, 0))
theorem NBox.gr {b : Nat} {w w' : World} (h : NBox b w) (g : Gr w w') : NBox b w' := (g.block b (Array.getElem?_eq_some_iff.1 h).1).trans h
theorem NBox.c0 {b : Nat} {w : World} (h : NBox b w) : w.cell? ⟨b, 0, none⟩ = some (.slice none 0 0) := by unfold NBox at h; simp only [World.cell?, h]; rfl
theorem NBox.c1 {b : Nat} {w : World} (h : NBox b w) : w.cell? ⟨b, 1, none⟩ = some (.slice none 0 0) := by unfold NBox at h; simp only [World.cell?, h]; rfl
set_option maxRecDepth 100000 in
theorem chk1Nil_any (b : Nat) (w : World) (h : NBox b w) :
    Calls Try.prog 172 #[.pointer (some ⟨b, 0, none⟩)] w fun e w' => e = .returned (.int .i64 0) ∧ Gr w w' := by
  have c0 := h.c0
  clear h
  go_enter Try.func172, Try.ntmps172
  go_wp2_with fail
  refine (leafNil_any _).mono ?_
  rintro e w1 ⟨rfl, hg1⟩
  go_wp2
  go_ret
  exact ⟨rfl, hg1⟩
set_option maxRecDepth 100000 in
theorem chk2Nil_any (b : Nat) (w : World) (h : NBox b w) :
    Calls Try.prog 173 #[.pointer (some ⟨b, 0, none⟩)] w fun e w' => e = .returned (.int .i64 0) ∧ Gr w w' := by
  have c1 := h.c1
  clear h
  go_enter Try.func173, Try.ntmps173
  go_wp2_with fail
  refine (kidsNil_any _).mono ?_
  rintro e w1 ⟨rfl, hg1⟩
  go_wp2
  go_ret
  exact ⟨rfl, hg1⟩
set_option maxRecDepth 100000 in
theorem firstNil_any (b g : Nat) (w : World) (h : NBox b w) (h0 : w.cell? ⟨g, 0, none⟩ = some (.func (.func 172) #[] #[.pointer (some ⟨b, 0, none⟩)])) (h1 : w.cell? ⟨g, 1, none⟩ = some (.func (.func 173) #[] #[.pointer (some ⟨b, 0, none⟩)])) :
    Calls Try.prog 122 #[.slice (some ⟨g, 0, none⟩) 2 2] w fun e w' => e = .returned (.int .i64 0) ∧ Gr w w' := by
  have H := Lib.hid h
  have H0 := Lib.hid h0
  have H1 := Lib.hid h1
  have g0 := Lib.hid (Gr.rfl' w)
  clear h h0 h1
  go_enter Try.func122, Try.ntmps122
  go_wp2
  go_loopw [8] (fun i wr => (i = .int .i64 0 ∨ i = .int .i64 1 ∨ i = .int .i64 2) ∧ Hid (Gr w wr)) (fun i _ => 2 - (intOf i).toNat)
  case atStart => exact ⟨.inl rfl, g0⟩
  case round =>
    clear g0
    obtain ⟨rfl | rfl | rfl, HG⟩ := hrel
    · have d0 := HG.out.cell H0.out
      have HC := Lib.hid (chk1Nil_any b wr (H.out.gr HG.out))
      go_wp2_with fail
      refine (HC.out).mono ?_
      rintro e w1 ⟨rfl, hg1⟩
      go_wp2
      go_roundw
      case rel => exact ⟨.inr (.inl rfl), Lib.hid (HG.out.tr hg1)⟩
      case measure => simp [intOf]
    · have d1 := HG.out.cell H1.out
      have HC := Lib.hid (chk2Nil_any b wr (H.out.gr HG.out))
      go_wp2_with fail
      refine (HC.out).mono ?_
      rintro e w1 ⟨rfl, hg1⟩
      go_wp2
      go_roundw
      case rel => exact ⟨.inr (.inr rfl), Lib.hid (HG.out.tr hg1)⟩
      case measure => simp [intOf]
    · go_wp2
      go_ret
      exact ⟨rfl, HG.out⟩
set_option maxRecDepth 100000 in
theorem nChkNil_any (w : World) :
    Calls Try.prog 112 #[.agg #[.slice none 0 0, .slice none 0 0]] w fun e w' => e = .returned (.int .i64 0) ∧ Gr w w' := by
  have hg1 : Gr w (w.alloc (.cells #[.slice none 0 0, .slice none 0 0] 31)) := (Gr.rfl' w).al _
  have hnb : NBox w.heap.size (w.alloc (.cells #[.slice none 0 0, .slice none 0 0] 31)) := World.alloc_heap_new w _
  have hsz : (w.alloc (.cells #[.slice none 0 0, .slice none 0 0] 31)).heap.size = w.heap.size + 1 := by simp
  have hg2 := (Gr.rfl' (w.alloc (.cells #[.slice none 0 0, .slice none 0 0] 31))).al (.cells #[.func (.func 172) #[] #[.pointer (some ⟨w.heap.size, 0, none⟩)], .func (.func 173) #[] #[.pointer (some ⟨w.heap.size, 0, none⟩)]] 96)
  have hn := World.alloc_heap_new (w.alloc (.cells #[.slice none 0 0, .slice none 0 0] 31)) (.cells #[.func (.func 172) #[] #[.pointer (some ⟨w.heap.size, 0, none⟩)], .func (.func 173) #[] #[.pointer (some ⟨w.heap.size, 0, none⟩)]] 96)
  rw [hsz] at hn
  have HF := Lib.hid (firstNil_any w.heap.size (w.heap.size + 1) _ (hnb.gr hg2) (by simp only [World.cell?, hn]; rfl) (by simp only [World.cell?, hn]; rfl))
  have HG := Lib.hid (hg1.tr hg2)
  clear hn hg1 hg2 hnb hsz
  go_enter Try.func112, Try.ntmps112
  go_wp2_with fail
  refine (HF.out).mono ?_
  rintro e w1 ⟨rfl, hg1⟩
  go_wp2
  go_ret
  exact ⟨rfl, HG.out.tr hg1⟩
end Go.Proofs.Ytfobnemocodomaa
