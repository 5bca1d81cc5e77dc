/- Nodes: whether two are the same; empty; too much to be asked. -/
import Derived.Test.YtfobnemocodomaaKidA
set_option linter.unusedVariables false
set_option linter.unusedSimpArgs false
set_option maxHeartbeats 2000000
namespace Go.Proofs.Ytfobnemocodomaa
open Go.RowKit Go.Great

theorem nodeNew1 (w : World) (x y u v : Value) (t : TypeId) : ((w.alloc (.cells #[x, y] t)).alloc (.cells #[u, v] t)).cell? ⟨w.heap.size + 1, 1, none⟩ = some v := by
  have hn := World.alloc_heap_new (w.alloc (.cells #[x, y] t)) (.cells #[u, v] t)
  have hs : (w.alloc (.cells #[x, y] t)).heap.size = w.heap.size + 1 := by simp
  rw [hs] at hn
  simp only [World.cell?, hn]
  rfl
theorem nodeOld1 (w : World) (x y u v : Value) (t : TypeId) : ((w.alloc (.cells #[x, y] t)).alloc (.cells #[u, v] t)).cell? ⟨w.heap.size, 1, none⟩ = some y := by
  have hn := World.alloc_heap_new w (.cells #[x, y] t)
  have h1 : (w.alloc (.cells #[x, y] t)).cell? ⟨w.heap.size, 1, none⟩ = some y := by
    simp only [World.cell?, hn]; rfl
  exact ((Gr.rfl' (w.alloc (.cells #[x, y] t))).al (.cells #[u, v] t)).cell h1
set_option maxRecDepth 100000 in
theorem nSame_any (A1 A2 B1 B2 : Option Addr) (c1 c2 d1 d2 : Nat) (a1 a2 : List Vx) (k1 k2 : List Kx) (w : World) (h1 : Vers w A1 a1) (h2 : Vers w A2 a2) (h3 : Kids w B1 k1) (h4 : Kids w B2 k2) :
    Calls Try.prog 27 #[.agg #[.slice A1 a1.length c1, .slice B1 k1.length d1], .agg #[.slice A2 a2.length c2, .slice B2 k2.length d2]] w fun r w' => r = .returned (.bool (vsames a1 a2 && decide (k1 = k2))) ∧ Gr w w' := by
  have H1 := Lib.hid h1
  have H2 := Lib.hid h2
  have H3 := Lib.hid h3
  have H4 := Lib.hid h4
  clear h1 h2 h3 h4
  have hg0 : Gr w (w.alloc (.cells #[.slice A1 a1.length c1, .slice B1 k1.length d1] 31)) := (Gr.rfl' w).al _
  have hg1 := hg0.al (.cells #[.slice A2 a2.length c2, .slice B2 k2.length d2] 31)
  have HG := Lib.hid hg1
  clear hg0 hg1
  have HS := Lib.hid (vSames1_any A1 A2 c1 c2 a1 a2 _ (H1.out.gr HG.out) (H2.out.gr HG.out))
  by_cases hs : vsames a1 a2 = true
  · rw [hs] at HS ⊢
    go_enter Try.func27, Try.ntmps27
    go_wp2_with fail
    refine (HS.out).mono ?_
    rintro r w1 ⟨rfl, g1⟩
    have q0 := g1.cell (show ((w.alloc (.cells #[.slice A1 a1.length c1, .slice B1 k1.length d1] 31)).alloc (.cells #[.slice A2 a2.length c2, .slice B2 k2.length d2] 31)).cell? ⟨w.heap.size, 1, none⟩ = some (.slice B1 k1.length d1) from nodeOld1 _ _ _ _ _ _)
    have q1 := g1.cell (show ((w.alloc (.cells #[.slice A1 a1.length c1, .slice B1 k1.length d1] 31)).alloc (.cells #[.slice A2 a2.length c2, .slice B2 k2.length d2] 31)).cell? ⟨w.heap.size + 1, 1, none⟩ = some (.slice B2 k2.length d2) from nodeNew1 _ _ _ _ _ _)
    have GG := Lib.hid (HG.out.tr g1)
    clear g1
    go_wp2_with fail
    refine (kEq_any B1 B2 d1 d2 k1 k2 _ (H3.out.gr GG.out) (H4.out.gr GG.out)).mono ?_
    rintro r w2 ⟨rfl, g2⟩
    go_wp2
    go_ret
    exact ⟨by simp, GG.out.tr g2⟩
  · have hs : vsames a1 a2 = false := by simpa using hs
    rw [hs] at HS ⊢
    go_enter Try.func27, Try.ntmps27
    go_wp2_with fail
    refine (HS.out).mono ?_
    rintro r w1 ⟨rfl, g1⟩
    go_wp2
    go_ret
    exact ⟨by simp, HG.out.tr g1⟩

set_option maxRecDepth 100000 in
theorem nEmpty_any (A B : Option Addr) (c d : Nat) (a : List Vx) (k : List Kx) (w : World) :
    Calls Try.prog 28 #[.agg #[.slice A a.length c, .slice B k.length d]] w fun r w' => r = .returned (.bool (((a.length : Int) == 0) && ((k.length : Int) == 0))) ∧ Gr w w' := by
  have hg0 : Gr w (w.alloc (.cells #[.slice A a.length c, .slice B k.length d] 31)) := (Gr.rfl' w).al _
  by_cases h1 : ((a.length : Int) == 0) = true
  · rw [h1]
    go_enter Try.func28, Try.ntmps28
    go_wp2
    go_ret
    exact ⟨by simp, hg0⟩
  · have h1 : ((a.length : Int) == 0) = false := by simpa using h1
    rw [h1]
    go_enter Try.func28, Try.ntmps28
    go_wp2
    go_ret
    exact ⟨by simp, hg0⟩
end Go.Proofs.Ytfobnemocodomaa
