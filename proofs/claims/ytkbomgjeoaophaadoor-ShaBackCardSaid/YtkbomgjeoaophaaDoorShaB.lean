/- sha: words in the heap; spread. -/
import Derived.Test.YtkbomgjeoaophaaDoorShaA
import Derived.Deep.WholeRow
import Derived.BigRegion
import Derived.Great.Walk
import Derived.Laws.CopyOwn
import Derived.RangeFuncRecord
set_option linter.unusedVariables false
set_option linter.unusedSimpArgs false
set_option maxHeartbeats 400000
namespace Go.Proofs.YtkbomgjeoaophaaDoor
open Go.RowKit Go.Great

def wC (l : List W32) : Array Value := (l.map fun x => Value.int .u32 (x.toNat : Int)).toArray
def bC (l : List UInt8) : Array Value := (l.map fun x => Value.int .u8 (x.toNat : Int)).toArray
theorem wC_at (l : List W32) (j : Nat) (h : j < l.length) : (wC l)[j]? = some (.int .u32 (l[j].toNat : Int)) := by simp [wC, h]
theorem bC_at (l : List UInt8) (j : Nat) (h : j < l.length) : (bC l)[j]? = some (.int .u8 (l[j].toNat : Int)) := by simp [bC, h]
theorem wC_size (l : List W32) : (wC l).size = l.length := by simp [wC]
theorem bC_size (l : List UInt8) : (bC l).size = l.length := by simp [bC]
theorem wC_one (l : List W32) : (wC l).all (·.oneCell') = true := by
  rw [Array.all_eq_true_iff_forall_mem]
  intro v hv
  simp [wC] at hv
  obtain ⟨a, _, rfl⟩ := hv
  rfl
theorem bC_one (l : List UInt8) : (bC l).all (·.oneCell') = true := by
  rw [Array.all_eq_true_iff_forall_mem]
  intro v hv
  simp [bC] at hv
  obtain ⟨a, _, rfl⟩ := hv
  rfl
theorem wC_set (l : List W32) (k : Nat) (x : W32) : (wC l).setIfInBounds k (.int .u32 (x.toNat : Int)) = wC (l.set k x) := by
  simp [wC, List.map_set]
theorem heap_set_same {W : World} {b o : Nat} {cs : Array Value} {t : TypeId} {fr : Nat × Nat} (h : W.heap[b]? = some (.cells cs t fr)) (u : Value) : (W.setCell ⟨b, o, none⟩ u).heap[b]? = some (.cells (cs.setIfInBounds o u) t fr) := by
  simp [World.setCell, Array.getElem?_modify, h]
theorem heap_set_other {W : World} {b k o : Nat} (h : k ≠ b) (u : Value) : (W.setCell ⟨b, o, none⟩ u).heap[k]? = W.heap[k]? := Below.heap_setCell _ _ _ _ h
/-- a block of words -/
def Ws (W : World) (b : Nat) (t : TypeId) (l : List W32) : Prop := W.heap[b]? = some (.cells (wC l) t (0, 0))
theorem Ws.lt {W : World} {b : Nat} {t : TypeId} {l : List W32} (h : Ws W b t l) : b < W.heap.size := (Array.getElem?_eq_some_iff.1 h).1
theorem Ws.gr {W W' : World} {b : Nat} {t : TypeId} {l : List W32} (h : Ws W b t l) (g : Gr W W') : Ws W' b t l := (g.block b h.lt).trans h
theorem Ws.cell {W : World} {b : Nat} {t : TypeId} {l : List W32} (h : Ws W b t l) {j : Nat} (hj : j < l.length) : W.cell? ⟨b, j, none⟩ = some (.int .u32 (l[j].toNat : Int)) := by
  have h' : W.heap[b]? = some (.cells (wC l) t (0, 0)) := h
  simp only [World.cell?, h']; exact wC_at l j hj
theorem Ws.frz {W : World} {b : Nat} {t : TypeId} {l : List W32} (h : Ws W b t l) (j : Nat) : W.frozen? ⟨b, j, none⟩ = false := by
  have h' : W.heap[b]? = some (.cells (wC l) t (0, 0)) := h
  simp [World.frozen?, h']
theorem Ws.set {W : World} {b : Nat} {t : TypeId} {l : List W32} (h : Ws W b t l) (k : Nat) (x : W32) : Ws (W.setCell ⟨b, k, none⟩ (.int .u32 (x.toNat : Int))) b t (l.set k x) := by
  show _ = _
  rw [heap_set_same h _, wC_set]
/-- a block of bytes -/
def Bs (W : World) (b : Nat) (t : TypeId) (l : List UInt8) : Prop := W.heap[b]? = some (.cells (bC l) t (0, 0))
theorem Bs.lt {W : World} {b : Nat} {t : TypeId} {l : List UInt8} (h : Bs W b t l) : b < W.heap.size := (Array.getElem?_eq_some_iff.1 h).1
theorem Bs.gr {W W' : World} {b : Nat} {t : TypeId} {l : List UInt8} (h : Bs W b t l) (g : Gr W W') : Bs W' b t l := (g.block b h.lt).trans h
theorem Bs.cell {W : World} {b : Nat} {t : TypeId} {l : List UInt8} (h : Bs W b t l) {j : Nat} (hj : j < l.length) : W.cell? ⟨b, j, none⟩ = some (.int .u8 (l[j].toNat : Int)) := by
  have h' : W.heap[b]? = some (.cells (bC l) t (0, 0)) := h
  simp only [World.cell?, h']; exact bC_at l j hj

def Zw (n : Nat) : List W32 := List.replicate n 0
theorem Zw_info64 : (Tryd.prog.info? 45).map (fun i => (i.zero, i.size)) = some (some (.agg (wC (Zw 64))), 64) := by kernel_rfl
theorem Zw_info8 : (Tryd.prog.info? 30).map (fun i => (i.zero, i.size)) = some (some (.agg (wC (Zw 8))), 8) := by kernel_rfl
theorem allocZ {n : Nat} (t : TypeId) (hi : (Tryd.prog.info? t).map (fun i => (i.zero, i.size)) = some (some (.agg (wC (Zw n))), n)) {ops : Array Oper} {rest : List Oper} {o : Oper} {a : Act} {w : World} {Q : Exit → Act → World → Prop} (hg : o.guard = none) (ho : o.op = .alloc t)
    (h : wpList Tryd.prog ops Q rest (a.put o.dst (.pointer (some ⟨w.heap.size, 0, none⟩))) (w.alloc (.cells (wC (Zw n)) t))) : wpList Tryd.prog ops Q (o :: rest) a w := by
  refine wpList_allocTo hg o.dst rfl _ (.cells (wC (Zw n)) t) ?_ h
  have hz := (zero_of_info hi).1
  unfold execOp
  simp [ho, Instr.alloc, hz, Value.cells, go_sem]
/-- a whole block of words, stored over -/
theorem storeW {ops : Array Oper} {rest : List Oper} {o : Oper} {a : Act} {w : World} {Q : Exit → Act → World → Prop} (t : TypeId) (b n : Nat) (l l' : List W32) (hg : o.guard = none) (x y : Operand) (ho : o.op = .store t x y) (hd : o.dst = none)
    (hx : a.eval x = .pointer (some ⟨b, 0, none⟩)) (hy : a.eval y = .agg (wC l')) (hB : w.heap[b]? = some (.cells (wC l) t (0, 0))) (hn : (Tryd.prog.info? t).map (·.size) = some n) (hl : l.length = n) (hl' : l'.length = n)
    (h : wpList Tryd.prog ops Q rest a (w.setRow b (wC l'))) : wpList Tryd.prog ops Q (o :: rest) a w := by
  refine wpList_store_row hg t x y ho b (wC l') hx hy t (wC l) hB (by rw [wC_size, hl', hn]) (by rw [wC_size, wC_size, hl, hl']) (wC_one l') ?_
  rw [hd]
  exact h

theorem Ws.row {W : World} {b : Nat} {t : TypeId} {l : List W32} (h : Ws W b t l) (l' : List W32) : Ws (W.setRow b (wC l')) b t l' := setRow_heap _ _ _ _ _ _ h
theorem Ws.otherRow {W : World} {b k : Nat} {t : TypeId} {l : List W32} (h : Ws W k t l) (hk : k ≠ b) (cs : Array Value) : Ws (W.setRow b cs) k t l := (setRow_other _ _ _ _ hk).trans h
theorem Gr.row {a b : World} (h : Gr a b) {g : Nat} (hg : a.heap.size ≤ g) (cs : Array Value) : Gr a (b.setRow g cs) := below_setRow h hg cs
theorem Ws.new (w : World) (t : TypeId) (l : List W32) : Ws (w.alloc (.cells (wC l) t)) w.heap.size t l := World.alloc_heap_new _ _
theorem Bs.new (w : World) (t : TypeId) (l : List UInt8) : Bs (w.alloc (.cells (bC l) t)) w.heap.size t l := World.alloc_heap_new _ _

def gw (l : List W32) (j : Nat) : W32 := l.getD j 0
def gb (l : List UInt8) (j : Nat) : UInt8 := l.getD j 0
def b32 (x : UInt8) : W32 := BitVec.ofNat 32 x.toNat
/-- the word that four bytes make -/
def word4 (b : List UInt8) (k : Nat) : W32 := b32 (gb b (4 * k)) <<< 24 ||| b32 (gb b (4 * k + 1)) <<< 16 ||| b32 (gb b (4 * k + 2)) <<< 8 ||| b32 (gb b (4 * k + 3))
def lowS (x : W32) : W32 := rotR x 7 ^^^ rotR x 18 ^^^ x >>> 3
def highS (y : W32) : W32 := rotR y 17 ^^^ rotR y 19 ^^^ y >>> 10
/-- the first words, in a row of n -/
def spr16 (b : List UInt8) : Nat → List W32
  | 0 => Zw 64
  | k + 1 => (spr16 b k).set k (word4 b k)
/-- the next word -/
def nxt (l : List W32) (k : Nat) : W32 := gw l k + lowS (gw l (k + 1)) + gw l (k + 9) + highS (gw l (k + 14))
theorem nxt_def (l : List W32) (k : Nat) : gw l k + lowS (gw l (k + 1)) + gw l (k + 9) + highS (gw l (k + 14)) = nxt l k := rfl
def spr (b : List UInt8) : Nat → List W32
  | 0 => spr16 b 16
  | k + 1 => (spr b k).set (k + 16) (nxt (spr b k) k)
theorem spr16_len (b : List UInt8) : ∀ k, (spr16 b k).length = 64
  | 0 => by simp [spr16, Zw]
  | k + 1 => by simp [spr16, spr16_len b k]
theorem spr_len (b : List UInt8) : ∀ k, (spr b k).length = 64
  | 0 => spr16_len b 16
  | k + 1 => by simp [spr, spr_len b k]
theorem b32_cast (x : UInt8) : (x.toNat : Int) = ((b32 x).toNat : Int) := by
  unfold b32
  rw [BitVec.toNat_ofNat]
  have := x.toNat_lt
  omega
theorem u8w (x : UInt8) : (x.toNat : Int) % (4294967296 : Int) = ((b32 x).toNat : Int) := by
  unfold b32
  rw [BitVec.toNat_ofNat]; omega
theorem word4_def (b : List UInt8) (k : Nat) : b32 (gb b (4 * k)) <<< 24 ||| b32 (gb b (4 * k + 1)) <<< 16 ||| b32 (gb b (4 * k + 2)) <<< 8 ||| b32 (gb b (4 * k + 3)) = word4 b k := rfl
theorem lowS_def (x : W32) : rotR x 7 ^^^ rotR x 18 ^^^ x >>> 3 = lowS x := rfl
theorem highS_def (x : W32) : rotR x 17 ^^^ rotR x 19 ^^^ x >>> 10 = highS x := rfl
theorem gw_at {l : List W32} {j : Nat} (h : j < l.length) : l[j] = gw l j := by simp [gw, h]
theorem gb_at {l : List UInt8} {j : Nat} (h : j < l.length) : l[j] = gb l j := by simp [gb, h]
theorem Ws.cg {W : World} {b : Nat} {t : TypeId} {l : List W32} (h : Ws W b t l) {j : Nat} (hj : j < l.length) : W.cell? ⟨b, j, none⟩ = some (.int .u32 ((gw l j).toNat : Int)) := by rw [h.cell hj, gw_at]
theorem Bs.cg {W : World} {b : Nat} {t : TypeId} {l : List UInt8} (h : Bs W b t l) {j : Nat} (hj : j < l.length) : W.cell? ⟨b, j, none⟩ = some (.int .u8 ((gb l j).toNat : Int)) := by rw [h.cell hj, gb_at]

theorem sz64 : (Tryd.prog.info? 45).map (·.size) = some 64 := (zero_of_info Zw_info64).2
theorem sz8 : (Tryd.prog.info? 30).map (·.size) = some 8 := (zero_of_info Zw_info8).2
theorem loadW {ops : Array Oper} {rest : List Oper} {o : Oper} {a : Act} {w : World} {Q : Exit → Act → World → Prop} (t : TypeId) (n : Nat) (d : TypeDesc) (b : Nat) (l : List W32) (hg : o.guard = none) (x : Operand) (ho : o.op = .load t x)
    (hx : a.eval x = .pointer (some ⟨b, 0, none⟩)) (H : Ws w b t l) (hd : (match d with | .struct _ | .array _ _ => true | _ => false) = true) (hu : Tryd.prog.underlying t = some d) (hn : (Tryd.prog.info? t).map (·.size) = some n) (hl : l.length = n)
    (h : wpList Tryd.prog ops Q rest (a.put o.dst (.agg (wC l))) w) : wpList Tryd.prog ops Q (o :: rest) a w :=
  wpList_load_row hg t x ho b hx t (wC l) (0, 0) d H hu (by cases d <;> first | rfl | exact hd) (by rw [wC_size, hl, hn]) h
theorem u_add4 (x y z u : W32) : ((x.toNat : Int) + (y.toNat : Int) + (z.toNat : Int) + (u.toNat : Int)) % (4294967296 : Int) = ((x + y + z + u).toNat : Int) := by
  rw [BitVec.toNat_add, BitVec.toNat_add, BitVec.toNat_add]; omega

set_option maxRecDepth 100000 in
theorem spread_any (b : List UInt8) (hb : b.length = 64) (w : World) : Calls Tryd.prog 24 #[.agg (bC b)] w fun r w' => r = .returned (.agg (wC (spr b 48))) ∧ Gr w w' := by
  have HB := Lib.hid ((Bs.new w 51 b).gr (((Gr.rfl' _).al (.cells (wC (Zw 64)) 45)).al (.cells (wC (Zw 64)) 45)))
  have hg0 := Lib.hid ((((Gr.rfl' w).al (.cells (bC b) 51)).al (.cells (wC (Zw 64)) 45)).al (.cells (wC (Zw 64)) 45))
  have HS : Hid (Ws (((w.alloc (.cells (bC b) 51)).alloc (.cells (wC (Zw 64)) 45)).alloc (.cells (wC (Zw 64)) 45)) (w.heap.size + 2) 45 (spr16 b 0)) := by
    have := Ws.new ((w.alloc (.cells (bC b) 51)).alloc (.cells (wC (Zw 64)) 45)) 45 (Zw 64)
    rw [World.size_alloc, World.size_alloc] at this
    exact this
  have HR : Hid (Ws (((w.alloc (.cells (bC b) 51)).alloc (.cells (wC (Zw 64)) 45)).alloc (.cells (wC (Zw 64)) 45)) (w.heap.size + 1) 45 (Zw 64)) := by
    have := (Ws.new (w.alloc (.cells (bC b) 51)) 45 (Zw 64)).gr ((Gr.rfl' _).al (.cells (wC (Zw 64)) 45))
    rw [World.size_alloc] at this
    exact this
  go_enter Tryd.func24, Tryd.ntmps24
  go_wp2_with (first | refine allocZ 45 Zw_info64 rfl rfl ?_)
  go_loopw [10] (fun i wr => ∃ k : Nat, k ≤ 16 ∧ i = .int .i64 k ∧ Hid (Ws wr (w.heap.size + 2) 45 (spr16 b k)) ∧ Hid (Ws wr (w.heap.size + 1) 45 (Zw 64)) ∧ Hid (Bs wr w.heap.size 51 b) ∧ Hid (Gr w wr)) (fun i _ => 16 - (intOf i).toNat)
  case atStart => exact ⟨0, Nat.zero_le _, rfl, HS, HR, HB, hg0⟩
  case round =>
    clear HS HR HB hg0
    obtain ⟨k, hk, rfl, HS, HR, HB, HG⟩ := hrel
    by_cases hlt : k < 16
    · have hki : (k : Int) < 16 := by omega
      have c0 : wr.cell? ⟨w.heap.size, 4 * k, none⟩ = some (.int .u8 ((gb b (4 * k)).toNat : Int)) := HB.out.cg (by omega)
      have c1 : wr.cell? ⟨w.heap.size, 4 * k + 1, none⟩ = some (.int .u8 ((gb b (4 * k + 1)).toNat : Int)) := HB.out.cg (by omega)
      have c2 : wr.cell? ⟨w.heap.size, 4 * k + 2, none⟩ = some (.int .u8 ((gb b (4 * k + 2)).toNat : Int)) := HB.out.cg (by omega)
      have c3 : wr.cell? ⟨w.heap.size, 4 * k + 3, none⟩ = some (.int .u8 ((gb b (4 * k + 3)).toNat : Int)) := HB.out.cg (by omega)
      have d := HS.out.cg (j := k) (by rw [spr16_len]; omega)
      have f := HS.out.frz k
      go_wp2
      go_region
      rw [u8w, u8w, u8w, u8w, u_shl24, u_shl16, u_shl8, u_or, u_or, u_or, word4_def]
      have H2 : Hid (Ws ((wr.setCell ⟨w.heap.size + 2, k, none⟩ (.int .u32 ((word4 b k).toNat : Int))).drew) (w.heap.size + 2) 45 (spr16 b (k + 1))) := HS.out.set k (word4 b k)
      have R2 : Hid (Ws ((wr.setCell ⟨w.heap.size + 2, k, none⟩ (.int .u32 ((word4 b k).toNat : Int))).drew) (w.heap.size + 1) 45 (Zw 64)) := (heap_set_other (by omega) _).trans HR.out
      have B2 : Hid (Bs ((wr.setCell ⟨w.heap.size + 2, k, none⟩ (.int .u32 ((word4 b k).toNat : Int))).drew) w.heap.size 51 b) := (heap_set_other (by omega) _).trans HB.out
      have G2 := Lib.hid ((HG.out.set (p := ⟨w.heap.size + 2, k, none⟩) (by show w.heap.size ≤ w.heap.size + 2; omega) (.int .u32 ((word4 b k).toNat : Int))).dr)
      clear HS HR HB HG c0 c1 c2 c3 d f
      go_wp2
      go_roundw
      case rel => exact ⟨k + 1, by omega, by go_num, H2, R2, B2, G2⟩
      case measure => simp [intOf]; omega
    · have hki : ¬ (k : Int) < 16 := by omega
      have hkk : k = 16 := by omega
      subst hkk
      have H0 : Hid (Ws wr (w.heap.size + 2) 45 (spr b 0)) := HS
      clear HS
      go_wp2
      go_loopw [5] (fun i wx => ∃ k : Nat, k ≤ 48 ∧ i = .int .i64 ((k : Int) + 16) ∧ Hid (Ws wx (w.heap.size + 2) 45 (spr b k)) ∧ Hid (Ws wx (w.heap.size + 1) 45 (Zw 64)) ∧ Hid (Gr w wx)) (fun i _ => 64 - (intOf i).toNat)
      case atStart => exact ⟨0, Nat.zero_le _, rfl, H0, HR, HG⟩
      case round =>
        clear H0 HR HB HG
        obtain ⟨k, hk, rfl, HS, HR, HG⟩ := hrel
        by_cases hlt : k < 48
        · have hki : (k : Int) + 16 < 64 := by omega
          have l64 := spr_len b k
          have c0 : wr.cell? ⟨w.heap.size + 2, k, none⟩ = some (.int .u32 ((gw (spr b k) k).toNat : Int)) := HS.out.cg (by omega)
          have c1 : wr.cell? ⟨w.heap.size + 2, k + 1, none⟩ = some (.int .u32 ((gw (spr b k) (k + 1)).toNat : Int)) := HS.out.cg (by omega)
          have c2 : wr.cell? ⟨w.heap.size + 2, k + 9, none⟩ = some (.int .u32 ((gw (spr b k) (k + 9)).toNat : Int)) := HS.out.cg (by omega)
          have c3 : wr.cell? ⟨w.heap.size + 2, k + 14, none⟩ = some (.int .u32 ((gw (spr b k) (k + 14)).toNat : Int)) := HS.out.cg (by omega)
          have d := HS.out.cg (j := k + 16) (by omega)
          have f := HS.out.frz (k + 16)
          go_wp2
          refine wp_region_quiet_lit (by kernel_rfl) (by kernel_rfl) ?_
          repeat (first | go_big_quiet_step (fail) | quiet_step (fail))
          refine wpQuiet_nil ?_
          intro _ hw'
          obtain ⟨nq, hw''⟩ := hw'
          subst hw''
          go_wp2_with fail
          refine (turned_any _ 7 (by decide) (by decide) _).mono ?_
          rintro r w1 ⟨rfl, rfl⟩
          go_wp2_with fail
          refine (turned_any _ 18 (by decide) (by decide) _).mono ?_
          rintro r w1 ⟨rfl, rfl⟩
          go_wp2_with fail
          rw [u_xor, u_shr3, u_xor, lowS_def]
          refine (turned_any _ 17 (by decide) (by decide) _).mono ?_
          rintro r w1 ⟨rfl, rfl⟩
          go_wp2_with fail
          refine (turned_any _ 19 (by decide) (by decide) _).mono ?_
          rintro r w1 ⟨rfl, rfl⟩
          go_wp2
          rw [u_xor, u_shr10, u_xor, highS_def]
          go_region
          rw [u_add4 (gw (spr b k) k) (lowS (gw (spr b k) (k + 1))) (gw (spr b k) (k + 9)) (highS (gw (spr b k) (k + 14))), nxt_def]
          have H2 : Hid (Ws (((wr.drewN (nq + 1)).setCell ⟨w.heap.size + 2, k + 16, none⟩ (.int .u32 ((nxt (spr b k) k).toNat : Int)))) (w.heap.size + 2) 45 (spr b (k + 1))) := Ws.set (W := wr.drewN (nq + 1)) HS.out (k + 16) (nxt (spr b k) k)
          have R2 : Hid (Ws (((wr.drewN (nq + 1)).setCell ⟨w.heap.size + 2, k + 16, none⟩ (.int .u32 ((nxt (spr b k) k).toNat : Int)))) (w.heap.size + 1) 45 (Zw 64)) := (heap_set_other (by omega) _).trans HR.out
          have G2 := Lib.hid (((HG.out.drN (nq + 1)).set (p := ⟨w.heap.size + 2, k + 16, none⟩) (by show w.heap.size ≤ w.heap.size + 2; omega) (.int .u32 ((nxt (spr b k) k).toNat : Int))))
          clear HS HR HG c0 c1 c2 c3 d f
          go_wp2
          go_roundw
          case rel => exact ⟨k + 1, by omega, by go_num, H2, R2, G2⟩
          case measure => simp [intOf]; omega
        · have hki : ¬ (k : Int) + 16 < 64 := by omega
          have hkk : k = 48 := by omega
          subst hkk
          go_wp2_with (first | refine loadW 45 64 _ (w.heap.size + 2) (spr b 48) rfl _ rfl rfl HS.out rfl Tryd.underlying45 sz64 (spr_len b 48) ?_ | refine storeW 45 (w.heap.size + 1) 64 (Zw 64) (spr b 48) rfl _ _ rfl rfl rfl rfl HR.out sz64 (by simp [Zw]) (spr_len b 48) ?_)
          refine bodyPost_ret (v := .agg (wC (spr b 48))) ?_ rfl ⟨rfl, HG.out.row (by omega) _⟩
          simp [results, Tryd.results24, Act.put]
          exact run_loadVar_row _ _ 45 45 _ (0, 0) _ (HR.out.row (spr b 48)) Tryd.underlying45 rfl (by rw [wC_size, spr_len, sz64])
end Go.Proofs.YtkbomgjeoaophaaDoor
