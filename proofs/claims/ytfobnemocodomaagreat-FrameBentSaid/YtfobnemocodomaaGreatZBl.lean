/- Joined texts: WrA WrB WrC WrD RwA FlagW WrE DigEq RdN. -/
import Derived.Test.YtfobnemocodomaaGreatZBk
import Derived.Lib.Builder
import Derived.Lib.AppendStr
import Derived.Lib.UnsafeStr
import Derived.Lib.Strings
import Derived.Laws.Externs
import Derived.Laws.IdiomStrings
import Derived.ChangeKeysEq
import Derived.Deep.WholeRow
import Derived.Great.Walk
import Derived.Laws.CopyOwn
set_option linter.unusedVariables false
set_option linter.unusedSimpArgs false
set_option maxHeartbeats 400000
namespace Go.Proofs.YtfobnemocodomaaGreat
open Go.RowKit Go.Shelf

/-- a writer in block b: what it holds, and what is wrong -/
structure WrP (p v : Value) (B b : Nat) (l : List UInt8) (e : Int) (w : World) : Prop where
  hB : B ≤ b
  hp : p = .pointer none ∨ p = .pointer (some ⟨b, 0, none⟩)
  hb : w.heap[b]? = some (.cells #[p, v, .int .i64 e] 82 (0, 0))
  own : w.ownsRow B 5 1 v l.length (Lib.byteCells l)
  hn : l = [] → v = .slice none 0 0
def Wr (B b : Nat) (l : List UInt8) (e : Int) (w : World) : Prop := ∃ p v, WrP p v B b l e w

def isU8 : Obj → Bool
  | .cells _ t _ => t == 5
  | .view _ t => t == 5
  | _ => false
/-- what a writer's method may turn: its own block, its buffer -/
structure Wm (B b : Nat) (w w' : World) : Prop where
  os : w'.os = w.os
  tape : w'.tape = w.tape
  output : w'.output = w.output
  size : w.heap.size ≤ w'.heap.size
  low : ∀ k, k < B → k < w.heap.size → w'.heap[k]? = w.heap[k]?
  typ : ∀ k o, w.heap[k]? = some o → k ≠ b → isU8 o = false → w'.heap[k]? = some o
theorem Wm.refl (B b : Nat) (w : World) : Wm B b w w := ⟨rfl, rfl, rfl, Nat.le_refl _, fun _ _ _ => rfl, fun _ _ h _ _ => h⟩
theorem Wm.trans {B b : Nat} {X Y Z : World} (h : Wm B b X Y) (k : Wm B b Y Z) : Wm B b X Z :=
  ⟨k.os.trans h.os, k.tape.trans h.tape, k.output.trans h.output, Nat.le_trans h.size k.size, fun i hi hlt => (k.low i hi (Nat.lt_of_lt_of_le hlt h.size)).trans (h.low i hi hlt), fun i o ho hb ht => k.typ i o (h.typ i o ho hb ht) hb ht⟩
theorem Wm.gr {B b : Nat} {X Y Z : World} (h : Wm B b X Y) (k : Gr Y Z) : Wm B b X Z :=
  ⟨k.os.trans h.os, k.tape.trans h.tape, k.output.trans h.output, Nat.le_trans h.size k.size, fun i hi hlt => (k.block i (Nat.lt_of_lt_of_le hlt h.size)).trans (h.low i hi hlt), fun i o ho hb ht => (k.block i (Array.getElem?_eq_some_iff.1 (h.typ i o ho hb ht)).1).trans (h.typ i o ho hb ht)⟩
theorem Wm.setCell {B b : Nat} {X Y : World} (h : Wm B b X Y) (hB : B ≤ b) (o : Nat) (u : Value) : Wm B b X (Y.setCell ⟨b, o, none⟩ u) :=
  ⟨h.os, h.tape, h.output, by show X.heap.size ≤ (Y.heap.modify _ _).size; rw [Array.size_modify]; exact h.size, fun k hk hlt => (Below.heap_setCell _ _ _ _ (by show k ≠ b; omega)).trans (h.low k hk hlt), fun k o ho hb ht => (Below.heap_setCell _ _ _ _ (by show k ≠ b; exact hb)).trans (h.typ k o ho hb ht)⟩
theorem Wm.below {B b : Nat} {w0 X Y : World} (h : Wm B b X Y) (g : Gr w0 X) (hB : w0.heap.size ≤ B) : Gr w0 Y :=
  ⟨h.os.trans g.os, h.tape.trans g.tape, h.output.trans g.output, Nat.le_trans g.size h.size, fun k hk => (h.low k (by omega) (by have := g.size; omega)).trans (g.block k hk)⟩
theorem Wm.grown {B b : Nat} {X Y Z : World} {v : Value} {n : Nat} {xs : List Value} (h : Wm B b X Y) (hown : Y.ownsRow B 5 1 v n xs) (hg : Y.grownBy Z v.ownBlock) : Wm B b X Z :=
  ⟨hg.os.trans h.os, hg.tape.trans h.tape, hg.output.trans h.output, Nat.le_trans h.size hg.size,
   fun k hk hlt => (hg.block k (Nat.lt_of_lt_of_le hlt h.size) (fun e => by have := (hown.lt k e.symm).1; omega)).trans (h.low k hk hlt),
   fun k o ho hb ht => by
     have h1 := h.typ k o ho hb ht
     refine (hg.block k (Array.getElem?_eq_some_iff.1 h1).1 (fun e => ?_)).trans h1
     rcases hown.2 with ⟨rfl, _⟩ | ⟨g, cap, cur, rfl, _, hgb, _⟩
     · simp [Value.ownBlock] at e
     · obtain rfl : k = g := by simpa [Value.ownBlock] using e
       rw [hgb] at h1
       cases h1
       simp [isU8] at ht⟩
theorem Wm.cell {B b : Nat} {X Y : World} (h : Wm B b X Y) {p : Addr} {v : Value} {cs : Array Value} {t : TypeId} {fr : Nat × Nat} (hk : X.heap[p.block]? = some (.cells cs t fr)) (hb : p.block ≠ b) (ht : t ≠ 5) (hc : X.cell? p = some v) : Y.cell? p = some v :=
  (World.cell?_of_block ((h.typ _ _ hk hb (by simp [isU8, ht])).trans hk.symm)).trans hc

theorem Wr.lt {B b : Nat} {l : List UInt8} {e : Int} {w : World} (h : Wr B b l e w) : b < w.heap.size := by
  obtain ⟨p, v, h⟩ := h
  exact (Array.getElem?_eq_some_iff.1 h.hb).1
theorem WrP.ne {p v : Value} {B b : Nat} {l : List UInt8} {e : Int} {w : World} (h : WrP p v B b l e w) : v.ownBlock ≠ some b := by
  rcases h.own.2 with ⟨rfl, _⟩ | ⟨g, cap, cur, rfl, _, hgb, _⟩
  · simp [Value.ownBlock]
  · intro e
    obtain rfl : g = b := by simpa [Value.ownBlock] using e
    rw [h.hb] at hgb
    cases hgb
/-- the world has grown: the writer is as it was -/
theorem Wr.gr {B b : Nat} {l : List UInt8} {e : Int} {w w' : World} (h : Wr B b l e w) (g : Gr w w') : Wr B b l e w' := by
  obtain ⟨p, v, h⟩ := h
  exact ⟨p, v, h.hB, h.hp, (g.block b (Array.getElem?_eq_some_iff.1 h.hb).1).trans h.hb, h.own.kept (row := none) ⟨g.os, g.tape, g.output, g.size, fun k hk _ => g.block k hk⟩ (by cases v.ownBlock <;> simp), h.hn⟩
theorem WrP.cell0 {p v : Value} {B b : Nat} {l : List UInt8} {e : Int} {w : World} (h : WrP p v B b l e w) : w.cell? ⟨b, 0, none⟩ = some p := by simp [World.cell?, h.hb]
theorem WrP.cell1 {p v : Value} {B b : Nat} {l : List UInt8} {e : Int} {w : World} (h : WrP p v B b l e w) : w.cell? ⟨b, 1, none⟩ = some v := by simp [World.cell?, h.hb]
theorem WrP.cell2 {p v : Value} {B b : Nat} {l : List UInt8} {e : Int} {w : World} (h : WrP p v B b l e w) : w.cell? ⟨b, 2, none⟩ = some (.int .i64 e) := by simp [World.cell?, h.hb]
theorem WrP.frz {p v : Value} {B b : Nat} {l : List UInt8} {e : Int} {w : World} (h : WrP p v B b l e w) (o : Nat) : w.frozen? ⟨b, o, none⟩ = false := by simp [World.frozen?, h.hb]
theorem WrP.shape {p v : Value} {B b : Nat} {l : List UInt8} {e : Int} {w : World} (h : WrP p v B b l e w) : w.shape? b = some (82, 3) := by simp [World.shape?, h.hb]
theorem heap_set_sameW {W : World} {b o : Nat} {cs : Array Value} {t : TypeId} {fr : Nat × Nat} (h : W.heap[b]? = some (.cells cs t fr)) (u : Value) : (W.setCell ⟨b, o, none⟩ u).heap[b]? = some (.cells (cs.setIfInBounds o u) t fr) := by
  simp [World.setCell, Array.getElem?_modify, h]
theorem own_setW {w : World} {B b : Nat} {v : Value} {n : Nat} {xs : List Value} (h : w.ownsRow B 5 1 v n xs) (hne : v.ownBlock ≠ some b) (o : Nat) (u : Value) : (w.setCell ⟨b, o, none⟩ u).ownsRow B 5 1 v n xs :=
  h.kept (row := some b) ⟨rfl, rfl, rfl, by simp [World.setCell], fun k _ hk => Below.heap_setCell _ _ _ _ (fun e => hk (by simp [e]))⟩ (Or.inr hne)

theorem sizeBuilderW : (Tryz.prog.info? 80).map (·.size) = some 2 := by kernel_rfl
theorem liesBuilderW : liesAt Tryz.prog Tryz.prog.depth 82 (3 / Tryz.prog.cellsOf 82) 0 80 1 = true := by kernel_rfl

set_option maxHeartbeats 1000000 in
set_option maxRecDepth 100000 in
theorem cc_used (b : Nat) (w : World) (h0 : w.cell? ⟨b, 0, none⟩ = some (.pointer (some ⟨b, 0, none⟩))) :
    Calls Tryz.prog 137 #[.pointer (some ⟨b, 0, none⟩)] w fun e w' => e = .returned (.tuple #[]) ∧ w' = w := by
  obtain ⟨j, hj, _⟩ := Option.map_eq_some_iff.1 sizeBuilderW
  go_enter Tryz.func137, Tryz.ntmps137
  go_wp2
  rw [Lib.run_neq_ptr_same w _ Tryz.underlying78 hj]
  go_wp2
  go_end0
  exact ⟨rfl, rfl⟩

set_option maxHeartbeats 1000000 in
set_option maxRecDepth 100000 in
theorem cc_fresh (b : Nat) (w : World) (h0 : w.cell? ⟨b, 0, none⟩ = some (.pointer none)) (hsh : w.shape? b = some (82, 3)) (hfz : w.frozen? ⟨b, 0, none⟩ = false) :
    Calls Tryz.prog 137 #[.pointer (some ⟨b, 0, none⟩)] w fun e w' => e = .returned (.tuple #[]) ∧ w' = w.setCell ⟨b, 0, none⟩ (.pointer (some ⟨b, 0, none⟩)) := by
  obtain ⟨j, hj, hjs⟩ := Option.map_eq_some_iff.1 sizeBuilderW
  go_enter Tryz.func137, Tryz.ntmps137
  go_wp2
  rw [Lib.run_to_unsafe w ⟨b, 0, none⟩ Tryz.underlying78 Tryz.underlying191 hj (by rw [hjs]; decide) hsh (by show 0 < 3; decide)]
  simp only [Result.andThen]
  rw [Oper.upon_value]
  go_wp2
  rw [run_callFunc_extern Tryz.func145 (by kernel_rfl) (by kernel_rfl) (by kernel_rfl) (e := Extern.AbiNoEscape.same) (by kernel_rfl)]
  rw [Lib.run_noEscape]
  simp only [Result.andThen]
  rw [Oper.upon_value]
  go_wp2
  rw [Lib.run_from_unsafe w ⟨b, 0, none⟩ Tryz.underlying191 Tryz.underlying78 hj hsh liesBuilderW]
  simp only [Result.andThen]
  rw [Oper.upon_value]
  go_wp2
  go_end0
  exact ⟨rfl, rfl⟩
end Go.Proofs.YtfobnemocodomaaGreat
set_option linter.unusedVariables false
set_option linter.unusedSimpArgs false
set_option maxHeartbeats 400000
namespace Go.Proofs.YtfobnemocodomaaGreat
open Go.RowKit Go.Shelf

theorem cc_any (B b : Nat) (l : List UInt8) (e : Int) (w : World) (h : Wr B b l e w) :
    Calls Tryz.prog 137 #[.pointer (some ⟨b, 0, none⟩)] w fun r w' => r = .returned (.tuple #[]) ∧ (∃ v, WrP (.pointer (some ⟨b, 0, none⟩)) v B b l e w') ∧ Wm B b w w' := by
  obtain ⟨p, v, h⟩ := h
  rcases h.hp with rfl | rfl
  · refine (cc_fresh b w h.cell0 h.shape (h.frz 0)).mono ?_
    rintro e w' ⟨rfl, rfl⟩
    exact ⟨rfl, ⟨v, h.hB, .inr rfl, heap_set_sameW h.hb _, own_setW h.own h.ne _ _, h.hn⟩, (Wm.refl _ _ _).setCell h.hB _ _⟩
  · refine (cc_used b w h.cell0).mono ?_
    rintro e w' ⟨rfl, rfl⟩
    exact ⟨rfl, ⟨v, h⟩, Wm.refl _ _ _⟩

set_option maxHeartbeats 2000000 in
set_option maxRecDepth 100000 in
theorem WS_any (B b : Nat) (l : List UInt8) (e : Int) (s : ByteArray) (w : World) (h : Wr B b l e w) (hlen : l.length + s.size ≤ 140737488355328) :
    Calls Tryz.prog 113 #[.pointer (some ⟨b, 0, none⟩), .string s] w fun r w' => r = .returned (.tuple #[.int .i64 s.size, .nilIface]) ∧ Wr B b (l ++ s.data.toList) e w' ∧ Wm B b w w' := by
  obtain ⟨i0, hi, hz0, hz1, hz2⟩ := info_parts infoByte
  have hBw : B ≤ w.heap.size := by
    have := h.lt
    obtain ⟨p, v, h⟩ := h
    have := h.hB; omega
  have HH := Lib.hid h; clear h
  go_enter Tryz.func113, Tryz.ntmps113
  go_wp2_with fail
  refine (cc_any B b l e _ HH.out).mono ?_
  rintro r w1 ⟨rfl, ⟨v, h1⟩, hm1⟩
  have c0 := h1.cell0
  have c1 := h1.cell1
  have hown := h1.own
  have hB1 : B ≤ w1.heap.size := Nat.le_trans hBw hm1.size
  have H1 := Lib.hid h1; clear h1
  have HM := Lib.hid hm1; clear hm1
  go_wp2_with (at_builtin; refine Lib.wpList_append_own_string _ rfl _ _ 47 9 rfl B 5 i0 Tryz.underlying47 Tryz.underlying9 hi hz0 hz1 hz2 _ _ _ rfl hown s rfl ?c3 ?c4 ?c5 ?_)
  case c3 => unfold maxLen; omega
  case c4 => omega
  case c5 => exact hB1
  intro v' w2 hown' hgrow hnil
  have hlt : b < w1.heap.size := (Array.getElem?_eq_some_iff.1 H1.out.hb).1
  have hb2 : w2.heap[b]? = some (.cells #[.pointer (some ⟨b, 0, none⟩), v, .int .i64 e] 82 (0, 0)) := by
    rw [hgrow.block b hlt (fun e => H1.out.ne e.symm)]
    exact H1.out.hb
  have d0 : w2.cell? ⟨b, 0, none⟩ = some (.pointer (some ⟨b, 0, none⟩)) := by simp [World.cell?, hb2]
  have d1 : w2.cell? ⟨b, 1, none⟩ = some v := by simp [World.cell?, hb2]
  have f1 : w2.frozen? ⟨b, 1, none⟩ = false := by simp [World.frozen?, hb2]
  obtain ⟨ao, n', cap, rfl⟩ : ∃ ao n' cap, v' = .slice ao n' cap := by
    rcases hown'.2 with ⟨hv, _⟩ | ⟨g, cap, cur, hv, _⟩
    · exact ⟨_, _, _, hv⟩
    · exact ⟨_, _, _, hv⟩
  have HB2 := Lib.hid hb2; clear hb2
  have HO := Lib.hid hown'; clear hown'
  have HG := Lib.hid hgrow; clear hgrow
  have HN := Lib.hid hnil; clear hnil
  go_wp2
  go_ret2
  have hne' : (Value.slice ao n' cap).ownBlock ≠ some b := by
    rcases HO.out.2 with ⟨hv, _⟩ | ⟨g, cap', cur, hv, _, hgb, _⟩
    · rw [hv]; simp [Value.ownBlock]
    · rw [hv]
      intro e
      obtain rfl : g = b := by simpa [Value.ownBlock] using e
      rw [HB2.out] at hgb
      cases hgb
  have hlen2 : (l ++ s.data.toList).length = l.length + s.size := by rw [List.length_append, ← Lib.size_eq]
  refine ⟨rfl, ⟨_, .slice ao n' cap, H1.out.hB, .inr rfl, heap_set_sameW HB2.out _, ?_, ?_⟩, ?_⟩
  · rw [hlen2, Lib.byteCells_append]
    exact own_setW HO.out hne' _ _
  · intro he
    have h1 := List.append_eq_nil_iff.1 he
    refine HN.out.2 ⟨H1.out.hn h1.1, ?_⟩
    exact ByteArray.ext (by simpa using h1.2)
  · exact (HM.out.grown hown HG.out).setCell H1.out.hB _ _

theorem Wm.drew {B b : Nat} {X Y : World} (h : Wm B b X Y) : Wm B b X Y.drew := ⟨h.os, h.tape, h.output, h.size, h.low, h.typ⟩
theorem Wm.freeze {B b g : Nat} {X Y : World} {cs : Array Value} {fr : Nat × Nat} (h : Wm B b X Y) (hg : Y.heap[g]? = some (.cells cs 5 fr)) (hB : B ≤ g) (n : Nat) : Wm B b X (Y.freeze ⟨g, 0, none⟩ n) := by
  have hb := Lib.below_freeze (B := B) (a := Y) (Below.refl B Y) (p := ⟨g, 0, none⟩) hB n
  have ho : ∀ k, k ≠ g → (Y.freeze ⟨g, 0, none⟩ n).heap[k]? = Y.heap[k]? := by
    intro k hk
    unfold World.freeze
    split
    · rfl
    · simp only [Array.getElem?_modify]
      rw [if_neg (by intro e; exact hk e.symm)]
  refine ⟨hb.os.trans h.os, hb.tape.trans h.tape, hb.output.trans h.output, Nat.le_trans h.size hb.size, fun k hk hlt => (hb.block k hk).trans (h.low k hk hlt), fun k o h1 h2 h3 => ?_⟩
  have h4 := h.typ k o h1 h2 h3
  by_cases hk : k = g
  · subst hk
    rw [hg] at h4
    cases h4
    simp [isU8] at h3
  · rw [ho k hk]; exact h4

theorem bstr_empty (W : World) (q : Option Addr) : (Builtin.unsafeString_ #[167, 3] 9 #[.pointer q, .int .i64 0]).run Tryz.prog W = .ok (.string .empty) W := Lib.run_unsafeString_none W _ _ _ q

set_option maxHeartbeats 2000000 in
set_option maxRecDepth 100000 in
theorem Str_any (B b : Nat) (l : List UInt8) (e : Int) (w : World) (h : Wr B b l e w) :
    Calls Tryz.prog 85 #[.pointer (some ⟨b, 0, none⟩)] w fun r w' => r = .returned (.string ⟨l.toArray⟩) ∧ Wm B b w w' := by
  obtain ⟨p, v, h⟩ := h
  cases l with
  | nil =>
    obtain rfl := h.hn rfl
    have hUS := bstr_empty
    have c1 : w.drew.cell? ⟨b, 1, none⟩ = some (.slice none 0 0) := h.cell1
    have hSD : (Builtin.unsafeSliceData_ #[47] 167 #[.slice none 0 0]).run Tryz.prog w.drew = .ok (.pointer none) w.drew := rfl
    clear h
    go_enter Tryz.func85, Tryz.ntmps85
    go_wp2
    go_region
    all_goals (go_wp2; go_ret; exact ⟨rfl, (Wm.refl _ _ _).drew⟩)
  | cons x r =>
    obtain ⟨l, hl⟩ : ∃ l, l = x :: r := ⟨_, rfl⟩
    rw [← hl] at h ⊢
    have h0 : l ≠ [] := by rw [hl]; simp
    clear hl
    have hl0 : l.length ≠ 0 := by simpa using h0
    obtain ⟨g, cap, cur, rfl, hbg, hg, hnc, hcm, hcs, htake⟩ : ∃ g cap cur, v = .slice (some ⟨g, 0, none⟩) l.length cap ∧ B ≤ g ∧ w.heap[g]? = some (.cells cur 5 (0, 0)) ∧ l.length ≤ cap ∧ cap ≤ maxLen ∧ cur.size = cap * 1 ∧ cur.toList.take (l.length * 1) = Lib.byteCells l := by
      rcases h.own.2 with ⟨_, hz⟩ | ⟨g, cap, cur, hv, r⟩
      · exact absurd hz hl0
      · exact ⟨g, cap, cur, hv, r⟩
    have c1 : w.drew.cell? ⟨b, 1, none⟩ = some (.slice (some ⟨g, 0, none⟩) l.length cap) := h.cell1
    have hSD : (Builtin.unsafeSliceData_ #[47] 167 #[.slice (some ⟨g, 0, none⟩) l.length cap]).run Tryz.prog w.drew = .ok (.pointer (some ⟨g, 0, none⟩)) w.drew :=
      Lib.run_unsafeSliceData_row _ _ _ _ _ _ (by omega)
    have hUS : (Builtin.unsafeString_ #[167, 3] 9 #[.pointer (some ⟨g, 0, none⟩), .int .i64 l.length]).run Tryz.prog w.drew = .ok (.string ⟨l.toArray⟩) (w.drew.freeze ⟨g, 0, none⟩ l.length) := by
      refine Lib.run_unsafeString_row w.drew 167 3 9 5 Tryz.underlying167 (by kernel_rfl) g cur.size (by have hg' : w.drew.heap[g]? = some (.cells cur 5 (0, 0)) := hg; simp [World.shape?, hg']) l h0 (by omega) (by unfold maxLen at hcm; omega) ?_
      intro j x hx
      have := h.own.cells (g := g) rfl j (.int .u8 x.toNat) (by simp [Lib.byteCells, hx])
      exact this
    have hW := Lib.hid ((Wm.refl B b w).drew.freeze (g := g) hg hbg l.length)
    clear h htake hcs hcm hnc h0 hl0 hg
    go_enter Tryz.func85, Tryz.ntmps85
    go_wp2
    go_region
    all_goals (go_wp2; go_ret; exact ⟨rfl, hW.out⟩)
end Go.Proofs.YtfobnemocodomaaGreat
set_option linter.unusedVariables false
set_option linter.unusedSimpArgs false
set_option maxHeartbeats 400000
namespace Go.Proofs.YtfobnemocodomaaGreat
open Go.RowKit Go.Shelf

/-- what putting comes to -/
def wput (is : Bool) (t : List UInt8) (s : List UInt8 × Int) : List UInt8 × Int := if s.2 ≠ 0 then s else if is then (s.1 ++ t, 0) else (s.1, 2)
def flatB (ss : List ByteArray) : List UInt8 := ss.flatMap fun s => s.data.toList
theorem flatB_take {ss : List ByteArray} {k : Nat} (h : k < ss.length) : flatB (ss.take (k + 1)) = flatB (ss.take k) ++ (ss[k]).data.toList := by
  rw [List.take_succ_eq_append_getElem h]
  simp only [flatB, List.flatMap_append, List.flatMap_cons, List.flatMap_nil, List.append_nil]
theorem flatB_len (ss : List ByteArray) (k : Nat) : (flatB (ss.take k)).length ≤ (flatB ss).length := by
  have : flatB ss = flatB (ss.take k) ++ flatB (ss.drop k) := by
    simp only [flatB, ← List.flatMap_append, List.take_append_drop]
  rw [this, List.length_append]; omega

/-- a row of texts -/
def Strs (w : World) (g : Nat) (ss : List ByteArray) : Prop := ∃ fr, w.heap[g]? = some (.cells (ss.map Value.string).toArray 9 fr)
theorem Strs.at {w : World} {g : Nat} {ss : List ByteArray} (h : Strs w g ss) (k : Nat) (hk : k < ss.length) : w.cell? ⟨g, k, none⟩ = some (.string ss[k]) := by
  obtain ⟨fr, h⟩ := h
  simp [World.cell?, h, List.getElem?_eq_getElem hk]
theorem Strs.wm {B b g : Nat} {ss : List ByteArray} {w w' : World} (h : Strs w g ss) (hne : g ≠ b) (m : Wm B b w w') : Strs w' g ss := by
  obtain ⟨fr, h⟩ := h
  exact ⟨fr, m.typ g _ h hne (by simp [isU8])⟩

set_option maxRecDepth 100000 in
theorem wPut_nil (is : Bool) (v : Value) (w : World) : Calls Tryz.prog 84 #[.pointer none, .bool is, v] w fun r w' => r = .returned (.tuple #[]) ∧ w' = w := by
  go_enter Tryz.func84, Tryz.ntmps84
  go_wp2
  go_end0
  exact ⟨rfl, rfl⟩

set_option maxRecDepth 100000 in
theorem wPut_any (B b : Nat) (l : List UInt8) (e : Int) (is : Bool) (g c : Nat) (ss : List ByteArray) (w : World) (h : Wr B b l e w) (hs : Strs w g ss) (hne : g ≠ b) (hss : ss.length ≤ 9223372036854775807) (hlen0 : is = true → l.length + (flatB ss).length ≤ 140737488355328) :
    Calls Tryz.prog 84 #[.pointer (some ⟨b, 0, none⟩), .bool is, .slice (some ⟨g, 0, none⟩) ss.length c] w fun r w' => r = .returned (.tuple #[]) ∧ Wr B b (wput is (flatB ss) (l, e)).1 (wput is (flatB ss) (l, e)).2 w' ∧ Wm B b w w' := by
  have c2 : w.cell? ⟨b, 2, none⟩ = some (.int .i64 e) := by obtain ⟨p, v, h⟩ := h; exact h.cell2
  have f2 : w.frozen? ⟨b, 2, none⟩ = false := by obtain ⟨p, v, h⟩ := h; exact h.frz 2
  have HH := Lib.hid h
  by_cases he : e = 0
  · subst he
    cases is with
    | false =>
      have hX : Hid (wput false (flatB ss) (l, 0) = (l, 2)) := by show _ = _; simp [wput]
      clear h
      go_enter Tryz.func84, Tryz.ntmps84
      go_wp2
      go_end0
      rw [hX.out]
      obtain ⟨p, v, h⟩ := HH.out
      exact ⟨rfl, ⟨p, v, h.hB, h.hp, heap_set_sameW h.hb _, own_setW h.own h.ne _ _, h.hn⟩, (Wm.refl _ _ _).setCell h.hB _ _⟩
    | true =>
      have hlen := hlen0 rfl
      have hX : Hid (wput true (flatB ss) (l, 0) = (l ++ flatB ss, 0)) := by show _ = _; simp [wput]
      have HS := Lib.hid hs
      clear h hs
      go_enter Tryz.func84, Tryz.ntmps84
      go_wp2
      go_loopw [10] (fun i wr => ∃ k : Nat, k ≤ ss.length ∧ i = .int .i64 k ∧ Hid (Wr B b (l ++ flatB (ss.take k)) 0 wr) ∧ Hid (Wm B b w wr)) (fun i _ => ss.length - (intOf i).toNat)
      case atStart => exact ⟨0, Nat.zero_le _, rfl, by simpa [flatB] using HH, Lib.hid (Wm.refl _ _ _)⟩
      case round =>
        obtain ⟨k, hk, rfl, hW, hM⟩ := hrel
        by_cases hkl : k < ss.length
        · have hki : (k : Int) < ss.length := by omega
          have hck := (HS.out.wm hne hM.out).at k hkl
          have hsz : Hid ((l ++ flatB (ss.take k)).length + (ss[k]).size ≤ 140737488355328) := by
            have h1 := flatB_len ss (k + 1)
            rw [flatB_take hkl, List.length_append, ← Lib.size_eq] at h1
            show _ ≤ _
            rw [List.length_append]; omega
          clear c2 f2
          go_wp2_with fail
          refine (WS_any B b _ 0 ss[k] _ hW.out hsz.out).mono ?_
          rintro r w1 ⟨rfl, h1, m1⟩
          have HW1 := Lib.hid h1
          have HM1 := Lib.hid (hM.out.trans m1)
          clear h1 m1 hck hW hM
          go_wp2
          go_roundw
          case rel => exact ⟨k + 1, by omega, by go_num, by have := HW1.out; rw [List.append_assoc, ← flatB_take hkl] at this; exact this, HM1⟩
          case measure => simp [intOf]; omega
        · have hkk : k = ss.length := by omega
          subst hkk
          clear c2 f2
          go_wp2
          go_end0
          rw [hX.out]
          have := hW.out
          rw [List.take_length] at this
          exact ⟨rfl, this, hM.out⟩
  · have hX : Hid (wput is (flatB ss) (l, e) = (l, e)) := by show _ = _; simp [wput, he]
    have heb : (e != 0) = true := by simpa using he
    clear h
    go_enter Tryz.func84, Tryz.ntmps84
    go_wp2
    go_end0
    rw [hX.out]
    exact ⟨rfl, HH.out, Wm.refl _ _ _⟩
end Go.Proofs.YtfobnemocodomaaGreat
set_option linter.unusedVariables false
set_option linter.unusedSimpArgs false
set_option maxHeartbeats 400000
namespace Go.Proofs.YtfobnemocodomaaGreat
open Go.RowKit Go.Shelf

def numOk (n : Int) : Bool := decide (0 ≤ n ∧ n ≤ 1073741824)
theorem putS_no {n : Int} (h : numOk n = false) : putS n = ⟨#[]⟩ := if_neg (by simpa [numOk] using h)
theorem putS_yes {n : Int} (h : numOk n = true) : (putS n).size ≤ 5 ∧ 0 < (putS n).size := by
  have h' : 0 ≤ n ∧ n ≤ 1073741824 := by simpa [numOk] using h
  unfold putS
  rw [if_pos h', strOfNums_size]
  refine ⟨grpN_len5 _ (by omega), ?_⟩
  rw [grpN]; split <;> simp
theorem putS_len (n : Int) : (putS n).data.toList.length ≤ 5 := by
  rw [← Lib.size_eq]
  cases h : numOk n
  · rw [putS_no h]; decide
  · exact (putS_yes h).1
theorem isE_size (s : ByteArray) : s.toList.isEmpty = decide (s.size = 0) := by
  rw [ByteArray.toList_eq, Lib.size_eq]
  cases s.data.toList <;> simp
theorem putS_ne (n : Int) : (putS n).toList.isEmpty = !numOk n := by
  rw [isE_size]
  cases h : numOk n
  · rw [putS_no h]; decide
  · have := (putS_yes h).2
    exact decide_eq_false (by omega)

theorem strs_new (w : World) (ss : List ByteArray) : Strs (w.alloc (.cells (ss.map Value.string).toArray 9)) w.heap.size ss := ⟨_, World.alloc_heap_new w _⟩

set_option maxRecDepth 100000 in
theorem wNumber_any (B b : Nat) (l : List UInt8) (e : Int) (n : Int) (w : World) (h : Wr B b l e w) (hlen : l.length + 5 ≤ 140737488355328) :
    Calls Tryz.prog 52 #[.pointer (some ⟨b, 0, none⟩), .int .i64 n] w fun r w' => r = .returned (.tuple #[]) ∧ Wr B b (wput (numOk n) (putS n).data.toList (l, e)).1 (wput (numOk n) (putS n).data.toList (l, e)).2 w' ∧ Wm B b w w' := by
  have HH := Lib.hid h; clear h
  have hp := putS_len n
  have HF : Hid (flatB [putS n] = (putS n).data.toList) := by show _ = _; simp [flatB]
  have hlen2 : l.length + (flatB [putS n]).length ≤ 140737488355328 := by rw [HF.out]; omega
  have hne := putS_ne n
  go_enter Tryz.func52, Tryz.ntmps52
  go_wp2_with fail
  refine (cPut_any n _).mono ?_
  rintro r w1 ⟨rfl, hg1⟩
  go_wp2_with fail
  refine (wPut_any B b l e (numOk n) _ 1 [putS n] _ ((HH.out.gr hg1).gr ((Gr.rfl' _).al _)) (strs_new _ _) (by have := HH.out.lt; have := hg1.size; omega) (by show 1 ≤ _; decide) (fun _ => hlen2)).mono ?_
  rintro r w2 ⟨rfl, h2, m2⟩
  rw [HF.out] at h2
  go_wp2
  go_end0
  exact ⟨rfl, h2, ((Wm.refl _ _ _).gr (hg1.al _)).trans m2⟩

set_option maxRecDepth 100000 in
theorem wText_any (B b : Nat) (l : List UInt8) (e : Int) (s : ByteArray) (w : World) (h : Wr B b l e w) (hlen : l.length + 65541 ≤ 140737488355328) :
    Calls Tryz.prog 62 #[.pointer (some ⟨b, 0, none⟩), .string s] w fun r w' => r = .returned (.tuple #[]) ∧ Wr B b (wput (decide (s.size ≤ 65536)) ((putS s.size).data.toList ++ s.data.toList) (l, e)).1 (wput (decide (s.size ≤ 65536)) ((putS s.size).data.toList ++ s.data.toList) (l, e)).2 w' ∧ Wm B b w w' := by
  have HH := Lib.hid h; clear h
  have hp := putS_len s.size
  have HF : Hid (flatB [putS s.size, s] = (putS s.size).data.toList ++ s.data.toList) := by show _ = _; simp [flatB]
  have hlen2 : Hid (decide (s.size ≤ 65536) = true → l.length + (flatB [putS s.size, s]).length ≤ 140737488355328) := by
    show _ → _ ≤ _
    intro hd
    have hd := of_decide_eq_true hd
    rw [HF.out, List.length_append, ← Lib.size_eq s]; omega
  clear hp
  have hd : Hid (decide ((s.size : Int) ≤ 65536) = decide (s.size ≤ 65536)) := by show _ = _; simp only [decide_eq_decide]; omega
  go_enter Tryz.func62, Tryz.ntmps62
  go_wp2_with fail
  refine (cPut_any s.size _).mono ?_
  rintro r w1 ⟨rfl, hg1⟩
  go_wp2_with fail
  rw [hd.out]
  refine (wPut_any B b l e (decide (s.size ≤ 65536)) _ 2 [putS s.size, s] _ ((HH.out.gr hg1).gr ((Gr.rfl' _).al _)) (strs_new _ _) (by have := HH.out.lt; have := hg1.size; omega) (by show 2 ≤ _; decide) hlen2.out).mono ?_
  rintro r w2 ⟨rfl, h2, m2⟩
  rw [HF.out] at h2
  go_wp2
  go_end0
  exact ⟨rfl, h2, ((Wm.refl _ _ _).gr (hg1.al _)).trans m2⟩

def wfail (f : Int) (s : List UInt8 × Int) : List UInt8 × Int := if s.2 ≠ 0 then s else (s.1, f)
set_option maxRecDepth 100000 in
theorem wFail_any (B b : Nat) (l : List UInt8) (e : Int) (f : Int) (w : World) (h : Wr B b l e w) :
    Calls Tryz.prog 96 #[.pointer (some ⟨b, 0, none⟩), .int .i64 f] w fun r w' => r = .returned (.tuple #[]) ∧ Wr B b (wfail f (l, e)).1 (wfail f (l, e)).2 w' ∧ Wm B b w w' := by
  have c2 : w.cell? ⟨b, 2, none⟩ = some (.int .i64 e) := by obtain ⟨p, v, h⟩ := h; exact h.cell2
  have f2 : w.frozen? ⟨b, 2, none⟩ = false := by obtain ⟨p, v, h⟩ := h; exact h.frz 2
  have HH := Lib.hid h; clear h
  by_cases he : e = 0
  · subst he
    go_enter Tryz.func96, Tryz.ntmps96
    go_wp2
    go_end0
    obtain ⟨p, v, h⟩ := HH.out
    exact ⟨rfl, ⟨p, v, h.hB, h.hp, heap_set_sameW h.hb _, own_setW h.own h.ne _ _, h.hn⟩, (Wm.refl _ _ _).setCell h.hB _ _⟩
  · have heb : (e == 0) = false := by simpa using he
    have hX : Hid (wfail f (l, e) = (l, e)) := by show _ = _; simp [wfail, he]
    go_enter Tryz.func96, Tryz.ntmps96
    go_wp2
    go_end0
    rw [hX.out]
    exact ⟨rfl, HH.out, Wm.refl _ _ _⟩

/-- what Done answers -/
def doneV (s : List UInt8 × Int) : List UInt8 × Int := if s.2 ≠ 0 then ([], s.2) else s
set_option maxRecDepth 100000 in
theorem wDone_any (B b : Nat) (l : List UInt8) (e : Int) (w : World) (h : Wr B b l e w) :
    Calls Tryz.prog 53 #[.pointer (some ⟨b, 0, none⟩)] w fun r w' => r = .returned (.tuple #[.string ⟨(doneV (l, e)).1.toArray⟩, .int .i64 (doneV (l, e)).2]) ∧ Wm B b w w' := by
  have c2 : w.cell? ⟨b, 2, none⟩ = some (.int .i64 e) := by obtain ⟨p, v, h⟩ := h; exact h.cell2
  have HH := Lib.hid h; clear h
  by_cases he : e = 0
  · subst he
    go_enter Tryz.func53, Tryz.ntmps53
    go_wp2_with fail
    refine (Str_any B b l 0 _ HH.out).mono ?_
    rintro r w2 ⟨rfl, m2⟩
    go_wp2
    go_ret2
    exact ⟨rfl, m2⟩
  · have heb : (e != 0) = true := by simpa using he
    have hX : Hid (doneV (l, e) = ([], e)) := by show _ = _; simp [doneV, he]
    have c2' : w.drew.cell? ⟨b, 2, none⟩ = some (.int .i64 e) := c2
    go_enter Tryz.func53, Tryz.ntmps53
    go_wp2
    go_region
    all_goals
      go_wp2
      go_ret2
      rw [hX.out]
      exact ⟨rfl, (Wm.refl _ _ _).drew⟩
end Go.Proofs.YtfobnemocodomaaGreat
set_option linter.unusedVariables false
set_option linter.unusedSimpArgs false
set_option maxHeartbeats 400000
namespace Go.Proofs.YtfobnemocodomaaGreat
open Go.RowKit Go.Shelf

structure Rm (c : Nat) (w w' : World) : Prop where
  os : w'.os = w.os
  tape : w'.tape = w.tape
  output : w'.output = w.output
  size : w.heap.size ≤ w'.heap.size
  keep : ∀ k, k < w.heap.size → k ≠ c → w'.heap[k]? = w.heap[k]?
theorem Rm.refl (c : Nat) (w : World) : Rm c w w := ⟨rfl, rfl, rfl, Nat.le_refl _, fun _ _ _ => rfl⟩
theorem Rm.trans {c : Nat} {X Y Z : World} (h : Rm c X Y) (k : Rm c Y Z) : Rm c X Z :=
  ⟨k.os.trans h.os, k.tape.trans h.tape, k.output.trans h.output, Nat.le_trans h.size k.size, fun i hi hc => (k.keep i (Nat.lt_of_lt_of_le hi h.size) hc).trans (h.keep i hi hc)⟩
theorem Rm.gr {c : Nat} {X Y Z : World} (h : Rm c X Y) (k : Gr Y Z) : Rm c X Z :=
  h.trans ⟨k.os, k.tape, k.output, k.size, fun i hi _ => k.block i hi⟩
theorem Rm.of {c : Nat} {X Y : World} (k : Gr X Y) : Rm c X Y := (Rm.refl c X).gr k
theorem Rm.setCell {c : Nat} {X Y : World} (h : Rm c X Y) (o : Nat) (u : Value) : Rm c X (Y.setCell ⟨c, o, none⟩ u) :=
  ⟨h.os, h.tape, h.output, by show X.heap.size ≤ (Y.heap.modify _ _).size; rw [Array.size_modify]; exact h.size, fun k hk hc => (Below.heap_setCell _ _ _ _ hc).trans (h.keep k hk hc)⟩
theorem Rm.below {c : Nat} {w0 X Y : World} (h : Rm c X Y) (g : Gr w0 X) (hc : w0.heap.size ≤ c) : Gr w0 Y :=
  ⟨h.os.trans g.os, h.tape.trans g.tape, h.output.trans g.output, Nat.le_trans g.size h.size, fun k hk => (h.keep k (by have := g.size; omega) (by omega)).trans (g.block k hk)⟩
/-- what putting comes to, upon texts -/
def rput (is : Bool) (t : ByteArray) (s : ByteArray × Int) : ByteArray × Int := if s.2 ≠ 0 then s else if is then (s.1 ++ t, 0) else (s.1, 2)
def rfail (f : Int) (s : ByteArray × Int) : ByteArray × Int := if s.2 ≠ 0 then s else (s.1, f)
def rdone (s : ByteArray × Int) : ByteArray × Int := if s.2 ≠ 0 then (⟨#[]⟩, s.2) else s

theorem numOk_and (n : Int) : (decide (0 ≤ n) && decide (n ≤ 1073741824)) = numOk n := by
  unfold numOk
  by_cases h : 0 ≤ n <;> by_cases k : n ≤ 1073741824 <;> simp [h, k]
theorem app_size (a b : ByteArray) : (a ++ b).size = a.size + b.size := ByteArray.size_append
theorem bapp (l : List UInt8) (t : ByteArray) : ((⟨l.toArray⟩ : ByteArray) ++ t) = ⟨(l ++ t.data.toList).toArray⟩ := by
  apply ByteArray.ext
  simp [ByteArray.data_append]
theorem rput_eq (is : Bool) (t : ByteArray) (s : List UInt8 × Int) : rput is t (⟨s.1.toArray⟩, s.2) = (⟨(wput is t.data.toList s).1.toArray⟩, (wput is t.data.toList s).2) := by
  unfold rput wput
  simp only []
  split
  · rfl
  split
  · rw [bapp]
  · rfl
theorem rfail_eq (f : Int) (s : List UInt8 × Int) : rfail f (⟨s.1.toArray⟩, s.2) = (⟨(wfail f s).1.toArray⟩, (wfail f s).2) := by
  unfold rfail wfail
  simp only []
  split <;> rfl
theorem rdone_eq (s : List UInt8 × Int) : rdone (⟨s.1.toArray⟩, s.2) = (⟨(doneV s).1.toArray⟩, (doneV s).2) := by
  unfold rdone doneV
  simp only []
  split <;> rfl
theorem sizeL (l : List UInt8) : (⟨l.toArray⟩ : ByteArray).size = l.length := by simp [ByteArray.size]
end Go.Proofs.YtfobnemocodomaaGreat
set_option linter.unusedVariables false
set_option linter.unusedSimpArgs false
set_option maxHeartbeats 400000
namespace Go.Proofs.YtfobnemocodomaaGreat
open Go.RowKit Go.Shelf

set_option maxRecDepth 100000 in
theorem wFlag_any (B b : Nat) (l : List UInt8) (e : Int) (f : Bool) (w : World) (h : Wr B b l e w) (hlen : l.length + 5 ≤ 140737488355328) :
    Calls Tryz.prog 121 #[.pointer (some ⟨b, 0, none⟩), .bool f] w fun r w' => r = .returned (.tuple #[]) ∧ Wr B b (wput true [if f then 1 else 0] (l, e)).1 (wput true [if f then 1 else 0] (l, e)).2 w' ∧ Wm B b w w' := by
  have HH := Lib.hid h; clear h
  cases f with
  | false =>
    go_enter Tryz.func121, Tryz.ntmps121
    go_wp2_with fail
    refine (wPut_any B b l e true _ 1 [⟨#[0]⟩] _ (HH.out.gr ((Gr.rfl' _).al _)) (strs_new _ _) (by have := HH.out.lt; omega) (by decide) (fun _ => by show l.length + 1 ≤ _; omega)).mono ?_
    rintro r w2 ⟨rfl, h2, m2⟩
    go_wp2
    go_end0
    exact ⟨rfl, h2, ((Wm.refl _ _ _).gr ((Gr.rfl' _).al _)).trans m2⟩
  | true =>
    go_enter Tryz.func121, Tryz.ntmps121
    go_wp2_with fail
    refine (wPut_any B b l e true _ 1 [⟨#[1]⟩] _ (HH.out.gr ((Gr.rfl' _).al _)) (strs_new _ _) (by have := HH.out.lt; omega) (by decide) (fun _ => by show l.length + 1 ≤ _; omega)).mono ?_
    rintro r w2 ⟨rfl, h2, m2⟩
    go_wp2
    go_end0
    exact ⟨rfl, h2, ((Wm.refl _ _ _).gr ((Gr.rfl' _).al _)).trans m2⟩

end Go.Proofs.YtfobnemocodomaaGreat
set_option linter.unusedVariables false
set_option linter.unusedSimpArgs false
set_option maxHeartbeats 400000
namespace Go.Proofs.YtfobnemocodomaaGreat
open Go.RowKit Go.Shelf

def digC (D : List UInt8) : Array Value := (D.map fun x => Value.int .u8 x.toNat).toArray

theorem digC_at (D : List UInt8) (j : Nat) (hj : j < D.length) : (digC D)[j]? = some (.int .u8 D[j].toNat) := by simp [digC, List.getElem?_eq_getElem hj]
theorem conv_dig (D : List UInt8) (hD : D.length = 32) (w : World) : (convert 47 9 (.slice (some ⟨w.heap.size, 0, none⟩) 32 32)).run Tryz.prog (w.alloc (.cells (digC D) 33)) = .ok (.string ⟨D.toArray⟩) (w.alloc (.cells (digC D) 33)) := by
  have := run_convert_bytes_back (P := Tryz.prog) (w.alloc (.cells (digC D) 33)) 47 9 5 ⟨w.heap.size, 0, none⟩ 32 D Tryz.underlying47 Tryz.underlying5 Tryz.underlying9 (fun j hj => by
    have e : ((⟨w.heap.size, 0, none⟩ : Addr).add j) = ⟨w.heap.size, j, none⟩ := by unfold Addr.add; split <;> simp_all
    rw [e]
    have hb := World.alloc_heap_new w (.cells (digC D) 33)
    simp only [World.cell?, hb]
    exact digC_at D j hj)
  rwa [hD] at this

set_option maxRecDepth 100000 in
theorem wDigest_any (B b : Nat) (l : List UInt8) (e : Int) (D : List UInt8) (hD : D.length = 32) (w : World) (h : Wr B b l e w) (hlen : l.length + 32 ≤ 140737488355328) :
    Calls Tryz.prog 63 #[.pointer (some ⟨b, 0, none⟩), .agg (digC D)] w fun r w' => r = .returned (.tuple #[]) ∧ Wr B b (wput true D (l, e)).1 (wput true D (l, e)).2 w' ∧ Wm B b w w' := by
  have HH := Lib.hid h; clear h
  have hcv := conv_dig D hD w
  have HF : Hid (flatB [⟨D.toArray⟩] = D) := by show _ = _; simp [flatB]
  have hlen2 : Hid (l.length + (flatB [⟨D.toArray⟩]).length ≤ 140737488355328) := by show _ ≤ _; rw [HF.out]; omega
  have HS := Lib.hid (strs_new (w.alloc (.cells (digC D) 33)) [⟨D.toArray⟩])
  rw [World.size_alloc] at HS
  have hg2 := Lib.hid (((Gr.rfl' w).al (.cells (digC D) 33)).al (.cells ([(⟨D.toArray⟩ : ByteArray)].map Value.string).toArray 9))
  have HH2 := Lib.hid (HH.out.gr hg2.out)
  have hb : w.heap.size + 1 ≠ b := by have := HH.out.lt; omega
  go_enter Tryz.func63, Tryz.ntmps63
  go_wp2_with fail
  refine (wPut_any B b l e true (w.heap.size + 1) 1 [⟨D.toArray⟩] _ HH2.out HS.out hb (by show 1 ≤ _; decide) (fun _ => hlen2.out)).mono ?_
  rintro r w2 ⟨rfl, h2, m2⟩
  rw [HF.out] at h2
  go_wp2
  go_end0
  exact ⟨rfl, h2, ((Wm.refl _ _ _).gr hg2.out).trans m2⟩
end Go.Proofs.YtfobnemocodomaaGreat
set_option linter.unusedVariables false
set_option linter.unusedSimpArgs false
set_option maxHeartbeats 400000
namespace Go.Proofs.YtfobnemocodomaaGreat
open Go.RowKit Go.Shelf Go.Great

theorem eqItems_dig (d : Nat) (D D' : List UInt8) (w : World) : ∀ is : List Nat, (∀ i ∈ is, i < D.length ∧ i < D'.length) →
    (Op.eqItems (d + 1) 5 1 (digC D) (digC D') is).run Tryz.prog w = .ok (is.all fun i => decide (D[i]? = D'[i]?)) w
  | [], _ => by simp [Op.eqItems]
  | i :: is, h => by
    obtain ⟨h1, h2⟩ := h i (by simp)
    have ih := eqItems_dig d D D' w is (fun j hj => h j (by simp [hj]))
    have p1 := run_part_plain (P := Tryz.prog) w (e := 5) (by kernel_rfl) (digC_at D i h1)
    have p2 := run_part_plain (P := Tryz.prog) w (e := 5) (by kernel_rfl) (digC_at D' i h2)
    have p3 := run_equalIn_int (P := Tryz.prog) w d 5 .u8 .u8 (D[i].toNat : Int) (D'[i].toNat : Int) Tryz.underlying5
    have e : ((D[i].toNat : Int) == (D'[i].toNat : Int)) = decide (D[i]? = D'[i]?) := by
      rw [List.getElem?_eq_getElem h1, List.getElem?_eq_getElem h2, Bool.eq_iff_iff]
      simp only [beq_iff_eq, decide_eq_true_eq, Option.some.injEq]
      constructor
      · intro h; exact UInt8.toNat_inj.1 (by omega)
      · intro h; rw [h]
    rw [e] at p3
    simp only [Op.eqItems, Sem.run_bind, Nat.mul_one, p1, p2, p3, Result.andThen_ok, List.all_cons]
    cases hd : decide (D[i]? = D'[i]?)
    · simp
    · simpa using ih
set_option maxRecDepth 100000 in
theorem eqDig (d : Nat) (D D' : List UInt8) (hD : D.length = 32) (hD' : D'.length = 32) (w : World) :
    (Op.equalIn (d + 2) 33 (.agg (digC D)) (.agg (digC D'))).run Tryz.prog w = .ok (decide (D = D')) w := by
  have hc : Tryz.prog.cellsOf 5 = 1 := by kernel_rfl
  obtain ⟨i0, hi, _, _, _⟩ := info_parts infoByte
  rw [run_equalIn_array w (d + 1) _ _ Tryz.underlying33 hi, hc, eqItems_dig d D D' w _ (fun i hi => by rw [hD, hD']; have := List.mem_range.1 hi; omega)]
  congr 1
  rw [Bool.eq_iff_iff]
  simp only [List.all_eq_true, List.mem_range, decide_eq_true_eq]
  constructor
  · intro h
    apply List.ext_getElem?
    intro i
    by_cases hi : i < 32
    · exact h i hi
    · rw [List.getElem?_eq_none (by omega), List.getElem?_eq_none (by omega)]
  · intro h i _; rw [h]
def Z32L : List UInt8 := List.replicate 32 0
theorem Z32L_len : Z32L.length = 32 := by simp [Z32L]
def Z32 : Array Value := digC Z32L
theorem Z32_info : (Tryz.prog.info? 33).map (fun i => (i.zero, i.size)) = some (some (.agg Z32), 32) := by kernel_rfl
theorem Z32_size : Z32.size = 32 := by kernel_rfl
theorem digC_size (D : List UInt8) : (digC D).size = D.length := by simp [digC]
theorem digC_one (D : List UInt8) : (digC D).all (·.oneCell') = true := by
  rw [Array.all_eq_true_iff_forall_mem]
  intro v hv
  simp [digC] at hv
  obtain ⟨a, _, rfl⟩ := hv
  rfl
theorem Z32_built : Tryz.prog.built 33 [] = some Z32 := by kernel_rfl
theorem build32 {ops : Array Oper} {rest : List Oper} {o : Oper} {a : Act} {w : World} {Q : Exit → Act → World → Prop} (hg : o.guard = none) (ho : o.op = .build 33 #[])
    (h : wpList Tryz.prog ops Q rest (a.put o.dst (.agg Z32)) w) : wpList Tryz.prog ops Q (o :: rest) a w := by
  have e : ((#[] : Array (Nat × Operand)).map fun (i, x) => (i, a.eval x)).toList = [] := by simp
  refine wpList_build hg 33 #[] ho (by rw [e, Z32_built]; rfl) ?_
  rw [e, Z32_built]; exact h
theorem alloc32 {ops : Array Oper} {rest : List Oper} {o : Oper} {a : Act} {w : World} {Q : Exit → Act → World → Prop} (hg : o.guard = none) (ho : o.op = .alloc 33)
    (h : wpList Tryz.prog ops Q rest (a.put o.dst (.pointer (some ⟨w.heap.size, 0, none⟩))) (w.alloc (.cells Z32 33))) : wpList Tryz.prog ops Q (o :: rest) a w := by
  refine wpList_allocTo hg o.dst rfl _ (.cells Z32 33) ?_ h
  have hz := (zero_of_info Z32_info).1
  unfold execOp
  simp [ho, Instr.alloc, hz, Value.cells, go_sem]
end Go.Proofs.YtfobnemocodomaaGreat
set_option linter.unusedVariables false
set_option linter.unusedSimpArgs false
set_option maxHeartbeats 400000
namespace Go.Proofs.YtfobnemocodomaaGreat
open Go.RowKit Go.Shelf Go.Great

theorem Gr.setRow {a b : World} (h : Gr a b) {g : Nat} (hg : a.heap.size ≤ g) (cs : Array Value) : Gr a (b.setRow g cs) := below_setRow h hg cs
theorem number_any (m : Int) (w : World) :
    Calls Tryz.prog 69 #[.int .i64 m] w fun e w' => e = .returned (.func (.func 106) #[] #[.pointer (some ⟨w.heap.size, 0, none⟩)]) ∧
      w' = w.alloc (.cells #[.int .i64 m] 3) := by
  go_enter Tryz.func69, Tryz.ntmps69
  go_wp2
  go_ret
  exact ⟨rfl, rfl⟩
theorem sizeDig : (Tryz.prog.info? 33).map (·.size) = some 32 := by kernel_rfl
theorem run_loadVar_at {P : Program} (w : World) (a : Addr) (ty : TypeId) (cs : List Value) (d : TypeDesc) (hc : ∀ j v, cs[j]? = some v → w.cell? (a.add j) = some v)
    (hu : P.underlying ty = some d) (hd : d.isRow = true) (hi : (P.info? ty).map (·.size) = some cs.length) :
    (loadVar ty a).run P w = .ok (.agg cs.toArray) w := by
  have hl : (loadCells a cs.length).run P w = .ok cs.toArray w := run_loadCells_list (P := P) w a cs hc
  cases hq : P.info? ty with
  | none => simp [hq] at hi
  | some i =>
    have hs : i.size = cs.length := by simpa [hq] using hi
    have hagg : (isAgg ty).run P w = .ok true w := by
      unfold isAgg
      rw [Sem.run_bind, run_underlying hu w]
      cases d <;> simp_all
    simp [loadVar, Sem.run_bind, hagg, sizeOf, typeInfo, hq, hs, hl]
theorem load32 (W : World) (g : Nat) (D : List UInt8) (hD : D.length = 32) (h : W.heap[g]? = some (.cells (digC D) 33 (0, 0))) : (loadVar 33 ⟨g, 0, none⟩).run Tryz.prog W = .ok (.agg (digC D)) W :=
  run_loadVar_at W ⟨g, 0, none⟩ 33 (digC D).toList _ (fun j v hj => by
    rw [Addr.add_mid]
    simp only [World.cell?, h]
    simpa using hj) Tryz.underlying33 rfl (by rw [Array.length_toList, digC_size, hD]; exact sizeDig)
end Go.Proofs.YtfobnemocodomaaGreat
