/- The document's Join, Meet, With: an array of counts, and the vector of it. -/
import Derived.Test.YtfobnemocodomaaVecE
set_option linter.unusedVariables false
set_option linter.unusedSimpArgs false
set_option maxHeartbeats 800000
namespace Go.Proofs.Ytfobnemocodomaa
open Go.RowKit

def ofL (f : Nat → Int) : Nat → List Dot
  | 0 => []
  | k + 1 => ofL f k ++ if 0 < f k then [((k : Int), f k)] else []
theorem ofL_length (f : Nat → Int) : ∀ k, (ofL f k).length ≤ k
  | 0 => by simp [ofL]
  | k + 1 => by have := ofL_length f k; unfold ofL; by_cases h : 0 < f k <;> simp [h] <;> omega

theorem own_add {w0 W w1 : World} {B0 : Nat} {v v' : Value} {l : List Dot} {p k : Int} (hw : w0.heap.size ≤ B0) (hg : Gr w0 W) (ho : OwnDots W B0 v l)
    (hown : w1.ownsRow B0 47 2 v' (l.length + 1) (dotCells l ++ [.int .i64 p, .int .i64 k])) (hgrow : (W.alloc (.cells #[.int .i64 p, .int .i64 k] 47)).grownBy w1 v.ownBlock) :
    OwnDots w1 B0 v' (l ++ [(p, k)]) ∧ Gr w0 w1 := by
  refine ⟨?_, (hg.al _).grown hgrow (by have := hg.size; simp; omega) (fun j e => by have := ho.ge j e; omega)⟩
  have e : dotCells (l ++ [(p, k)]) = dotCells l ++ [.int .i64 p, .int .i64 k] := by rw [dotCells_append]; rfl
  unfold OwnDots
  rw [e]
  simpa using hown

set_option maxRecDepth 100000 in
theorem of_any (cs : Array Value) (f : Nat → Int) (hs : cs.size = 64) (hf : ∀ j, j < 64 → cs[j]? = some (.int .i64 (f j))) (w : World) :
    Calls Try.prog 167 #[.agg cs] w fun e w' => ∃ v, e = .returned v ∧ OwnDots w' w.heap.size v (ofL f 64) ∧ Gr w w' := by
  have HF := Lib.hid hf; clear hf
  have HS := Lib.hid hs; clear hs
  have HB := Lib.hid (World.alloc_heap_new w (.cells cs 175))
  have hg0 : Gr w (w.alloc (.cells cs 175)) := (Gr.rfl' w).al _
  go_enter Try.func167, Try.ntmps167
  go_wp2
  obtain ⟨W0, hW0⟩ : ∃ W0, w.alloc (.cells cs 175) = W0 := ⟨_, rfl⟩
  have hsz0 : W0.heap.size = w.heap.size + 1 := by rw [← hW0]; simp
  rw [hW0] at HB hg0
  rw [hW0]
  clear hW0
  obtain ⟨i0, hi, hz0, hz1, hz2⟩ := info_parts infoDot
  go_loopw [3,4] (fun s i wr => ∃ k : Nat, k ≤ 64 ∧ i = .int .i64 k ∧ Hid (OwnDots wr W0.heap.size s (ofL f k)) ∧ Gr W0 wr) (fun _ i _ => 64 - (intOf i).toNat)
  case atStart => exact ⟨0, Nat.zero_le _, rfl, Lib.hid (OwnDots.nil _ _), Below.refl _ _⟩
  case round =>
    obtain ⟨k, hk, rfl, hown, hg⟩ := hrel
    by_cases hlt : k < 64
    · have hx : wr.cell? ⟨w.heap.size, k, none⟩ = some (.int .i64 (f k)) := by
        have h1 := (hg.block w.heap.size (by omega)).trans HB.out
        simp only [World.cell?, h1]
        exact HF.out k hlt
      have hlt' : (k : Int) < 64 := by omega
      have hlen : (ofL f k).length ≤ 64 := Nat.le_trans (ofL_length f k) hk
      by_cases hp : 0 < f k
      · have hpb : decide (0 < f k) = true := decide_eq_true hp
        have HO : Hid (ofL f (k + 1) = ofL f k ++ [((k : Int), f k)]) := by show _ = _; simp [ofL, hp]
        clear hp
        have hgs := hg.size
        go_wp2_with (first | (at_builtin; go_loud (refine wpList_append_own _ rfl _ _ 36 rfl W0.heap.size 47 i0 (.agg #[.int .i64 0, .int .i64 0]) 2 16 Try.underlying36 hi hz0 hz1 hz2 rfl (by decide) _ _ _ rfl (World.ownsRow.alloc hown.out _) ⟨_, 0, none⟩ 1 1 [.int .i64 k, .int .i64 (f k)] rfl rfl (cells_new _ _ _) (by simp [Value.oneCell']) (by simp only [maxLen]; omega) (by omega) (by simp; omega) ?_); intro v' w2 hown' hgrow _; obtain ⟨g', cap', rfl⟩ := ownsRow_succ hown'))
        obtain ⟨h1, h2⟩ := own_add (Nat.le_refl _) hg hown.out hown' hgrow
        go_roundw
        case rel => exact ⟨k + 1, by omega, by go_num, Lib.hid (by rw [HO.out]; exact h1), h2⟩
        case measure => simp [intOf]; omega
      · have hpb : decide (0 < f k) = false := decide_eq_false hp
        have HO : Hid (ofL f (k + 1) = ofL f k) := by show _ = _; simp [ofL, hp]
        clear hp
        go_wp2
        go_roundw
        case rel => exact ⟨k + 1, by omega, by go_num, Lib.hid (by rw [HO.out]; exact hown.out), hg⟩
        case measure => simp [intOf]; omega
    · have hk' : k = 64 := by omega
      subst hk'
      go_wp2
      go_ret
      exact ⟨_, rfl, OwnDots.lower hown.out (by omega), hg0.tr hg⟩
end Go.Proofs.Ytfobnemocodomaa
