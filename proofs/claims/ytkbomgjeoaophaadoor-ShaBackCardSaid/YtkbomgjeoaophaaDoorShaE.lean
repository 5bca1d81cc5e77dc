/- sha: start; a Sum in the heap; Write. -/
import Derived.Test.YtkbomgjeoaophaaDoorShaD
import Derived.Deep.RegionHeld3
import Derived.Deep.LoopGhost
import Derived.Laws.Cover3
set_option linter.unusedVariables false
set_option linter.unusedSimpArgs false
set_option maxHeartbeats 4000000
namespace Go.Proofs.YtkbomgjeoaophaaDoor
open Go.RowKit Go.Great

def startL : List W32 := [BitVec.ofNat 32 1779033703, BitVec.ofNat 32 3144134277, BitVec.ofNat 32 1013904242, BitVec.ofNat 32 2773480762, BitVec.ofNat 32 1359893119, BitVec.ofNat 32 2600822924, BitVec.ofNat 32 528734635, BitVec.ofNat 32 1541459225]
theorem startC : (#[.int .u32 1779033703, .int .u32 3144134277, .int .u32 1013904242, .int .u32 2773480762, .int .u32 1359893119, .int .u32 2600822924, .int .u32 528734635, .int .u32 1541459225] : Array Value) = wC startL := by kernel_rfl
set_option maxRecDepth 100000 in
theorem start_any (w : World) : Calls Tryd.prog 21 #[] w fun r w' => r = .returned (.agg (wC startL)) ∧ Gr w w' := by
  have HN := Lib.hid (Ws.new w 30 (Zw 8))
  have HG := Lib.hid (((Gr.rfl' w).al (.cells (wC (Zw 8)) 30)).row (Nat.le_refl _) (wC startL))
  go_enter Tryd.func21, Tryd.ntmps21
  go_wp2_with (first | refine allocZ 30 Zw_info8 rfl rfl ?_ | refine storeWc 30 w.heap.size 8 (Zw 8) startL rfl _ _ rfl rfl rfl _ rfl startC HN.out sz8 rfl rfl ?_)
  refine bodyPost_ret (v := .agg (wC startL)) ?_ rfl ⟨rfl, HG.out⟩
  simp [results, Tryd.results21, Act.put]
  exact run_loadVar_row _ _ 30 30 _ (0, 0) _ (HN.out.row startL) Tryd.underlying30 rfl (by kernel_rfl)

def sumC (bg : Bool) (h : List W32) (v : Value) (n : Int) : Array Value := #[.bool bg, .int .u32 ((gw h 0).toNat : Int), .int .u32 ((gw h 1).toNat : Int), .int .u32 ((gw h 2).toNat : Int), .int .u32 ((gw h 3).toNat : Int), .int .u32 ((gw h 4).toNat : Int), .int .u32 ((gw h 5).toNat : Int), .int .u32 ((gw h 6).toNat : Int), .int .u32 ((gw h 7).toNat : Int), v, .int .u64 n]
/-- a Sum in block b -/
def SumAt (w : World) (b : Nat) (bg : Bool) (h : List W32) (v : Value) (n : Int) : Prop := w.heap[b]? = some (.cells (sumC bg h v n) 34 (0, 0))
section
variable {w : World} {b : Nat} {bg : Bool} {h : List W32} {v : Value} {n : Int}
theorem SumAt.lt (H : SumAt w b bg h v n) : b < w.heap.size := (Array.getElem?_eq_some_iff.1 H).1
theorem SumAt.at_ (H : SumAt w b bg h v n) {j : Nat} {u : Value} (hj : (sumC bg h v n)[j]? = some u) : w.cell? ⟨b, j, none⟩ = some u := by
  have H' : w.heap[b]? = some (.cells (sumC bg h v n) 34 (0, 0)) := H
  simp only [World.cell?, H']; exact hj
theorem SumAt.frz (H : SumAt w b bg h v n) (j : Nat) : w.frozen? ⟨b, j, none⟩ = false := by
  have H' : w.heap[b]? = some (.cells (sumC bg h v n) 34 (0, 0)) := H
  simp [World.frozen?, H']
theorem SumAt.kept {w' : World} (H : SumAt w b bg h v n) (hk : w'.heap[b]? = w.heap[b]?) : SumAt w' b bg h v n := hk.trans H
theorem SumAt.gr {w' : World} (H : SumAt w b bg h v n) (g : Gr w w') : SumAt w' b bg h v n := H.kept (g.block b H.lt)
theorem SumAt.range (H : SumAt w b bg h v n) (hl : h.length = 8) : w.rangeAt b 1 (wC h).toList := by
  intro j u hj
  have hj8 : j < 8 := by
    have := (List.getElem?_eq_some_iff.1 hj).1
    simpa [wC, hl] using this
  have hu : (wC h)[j]? = some u := by simpa using hj
  rw [wC_at h j (by omega), gw_at] at hu
  cases hu
  apply H.at_
  have : j = 0 ∨ j = 1 ∨ j = 2 ∨ j = 3 ∨ j = 4 ∨ j = 5 ∨ j = 6 ∨ j = 7 := by omega
  rcases this with rfl | rfl | rfl | rfl | rfl | rfl | rfl | rfl <;> rfl
theorem SumAt.there (H : SumAt w b bg h v n) : w.there b 1 8 := by
  intro j hj
  refine ⟨?_, H.frz _⟩
  have H' : w.heap[b]? = some (.cells (sumC bg h v n) 34 (0, 0)) := H
  have hs : 1 + j < (sumC bg h v n).size := by show 1 + j < 11; omega
  simp only [World.cell?, H']
  rw [Array.getElem?_eq_getElem hs]
  rfl
theorem SumAt.setH (H : SumAt w b bg h v n) (h' : List W32) (hl' : h'.length = 8) : SumAt (w.setCells b 1 (wC h').toList) b bg h' v n := by
  have hln : (wC h').toList.length = 8 := by simp [wC, hl']
  obtain ⟨cs', h1, h2, h3, h4, h5⟩ := heap_setCells_same (wC h').toList 1 w _ H (by rw [hln]; show 9 ≤ 11; omega)
  have e : cs' = sumC bg h' v n := by
    apply Array.ext_getElem?
    intro j
    have h11 : cs'.size = 11 := h2
    by_cases hj0 : j < 1
    · obtain rfl : j = 0 := by omega
      rw [h3 0 (by omega)]; rfl
    · by_cases hj8 : j < 9
      · have hj' := h4 (j - 1) (by omega)
        rw [show 1 + (j - 1) = j by omega] at hj'
        rw [hj']
        have hk : j - 1 < h'.length := by omega
        have hx : ((wC h').toList)[j - 1]? = some (.int .u32 ((gw h' (j - 1)).toNat : Int)) := by
          have := wC_at h' (j - 1) hk
          rw [gw_at] at this
          simpa using this
        rw [hx]
        have : j = 1 ∨ j = 2 ∨ j = 3 ∨ j = 4 ∨ j = 5 ∨ j = 6 ∨ j = 7 ∨ j = 8 := by omega
        rcases this with rfl | rfl | rfl | rfl | rfl | rfl | rfl | rfl <;> rfl
      · rw [h5 j (by omega)]
        by_cases hj11 : j < 11
        · have : j = 9 ∨ j = 10 := by omega
          rcases this with rfl | rfl <;> rfl
        · rw [Array.getElem?_eq_none (by show 11 ≤ j; omega), Array.getElem?_eq_none (by show 11 ≤ j; omega)]
  rw [e] at h1
  exact h1
theorem SumAt.setB (H : SumAt w b bg h v n) (bg' : Bool) : SumAt (w.setCell ⟨b, 0, none⟩ (.bool bg')) b bg' h v n := heap_set_same H _
theorem SumAt.setV (H : SumAt w b bg h v n) (v' : Value) : SumAt (w.setCell ⟨b, 9, none⟩ v') b bg h v' n := heap_set_same H _
theorem SumAt.setN (H : SumAt w b bg h v n) (n' : Int) : SumAt (w.setCell ⟨b, 10, none⟩ (.int .u64 n')) b bg h v n' := heap_set_same H _
theorem SumAt.ne {B : Nat} {l : List UInt8} (H : SumAt w b bg h v n) {v' : Value} (O : OwnB w B v' l) : v'.ownBlock ≠ some b := by
  intro e
  obtain ⟨_, cur, hc⟩ := O.blk b e
  have H' : w.heap[b]? = some (.cells (sumC bg h v n) 34 (0, 0)) := H
  rw [H'] at hc
  cases hc
end

theorem list8 {α : Type} {l : List α} (h : l.length = 8) : ∃ a0 a1 a2 a3 a4 a5 a6 a7, l = [a0, a1, a2, a3, a4, a5, a6, a7] := by
  match l, h with
  | [a0, a1, a2, a3, a4, a5, a6, a7], _ => exact ⟨a0, a1, a2, a3, a4, a5, a6, a7, rfl⟩
/-- k blocks mixed in, one behind the other -/
def blks (h : List W32) (l : List UInt8) : Nat → List W32
  | 0 => h
  | k + 1 => mixV (blks h l k) ((l.drop (64 * k)).take 64)
theorem blks_len {h : List W32} (hh : h.length = 8) (l : List UInt8) : ∀ k, (blks h l k).length = 8
  | 0 => hh
  | k + 1 => mixV_len (blks_len hh l k) _
def effH (bg : Bool) (h : List W32) : List W32 := if bg then h else startL
theorem effH_len {bg : Bool} {h : List W32} (hh : h.length = 8) : (effH bg h).length = 8 := by unfold effH; split; exact hh; rfl

end Go.Proofs.YtkbomgjeoaophaaDoor
