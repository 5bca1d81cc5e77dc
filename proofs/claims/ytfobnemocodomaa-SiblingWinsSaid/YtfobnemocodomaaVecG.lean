/- The document's Join, Meet, With over the array of counts. -/
import Derived.Test.YtfobnemocodomaaVecF
import Derived.Deep.WholeRow
import Derived.Great.Walk
set_option linter.unusedVariables false
set_option linter.unusedSimpArgs false
set_option maxHeartbeats 4000000
namespace Go.Proofs.Ytfobnemocodomaa
open Go.RowKit Go.Great

def Z64 : Array Value := Array.replicate 64 (.int .i64 0)
theorem Z64_at (j : Nat) (h : j < 64) : Z64[j]? = some (.int .i64 0) := by simp [Z64, h]
theorem Z64_size : Z64.size = 64 := by simp [Z64]
theorem Z64_info : (Try.prog.info? 175).map (fun i => (i.zero, i.size)) = some (some (.agg Z64), 64) := by kernel_rfl
theorem Z64_built : Try.prog.built 175 [] = some Z64 := by kernel_rfl
theorem Z64_one : Z64.all (·.oneCell') = true := by kernel_rfl
theorem build64 {ops : Array Oper} {rest : List Oper} {o : Oper} {a : Act} {w : World} {Q : Exit → Act → World → Prop} (hg : o.guard = none) (ho : o.op = .build 175 #[])
    (h : wpList Try.prog ops Q rest (a.put o.dst (.agg Z64)) w) : wpList Try.prog ops Q (o :: rest) a w := by
  have e : ((#[] : Array (Nat × Operand)).map fun (i, x) => (i, a.eval x)).toList = [] := by simp
  refine wpList_build hg 175 #[] ho (by rw [e, Z64_built]; rfl) ?_
  rw [e, Z64_built]; exact h
theorem alloc64 {ops : Array Oper} {rest : List Oper} {o : Oper} {a : Act} {w : World} {Q : Exit → Act → World → Prop} (hg : o.guard = none) (ho : o.op = .alloc 175)
    (h : wpList Try.prog ops Q rest (a.put o.dst (.pointer (some ⟨w.heap.size, 0, none⟩))) (w.alloc (.cells Z64 175))) : wpList Try.prog ops Q (o :: rest) a w := by
  refine wpList_allocTo hg o.dst rfl _ (.cells Z64 175) ?_ h
  have hz := (zero_of_info Z64_info).1
  unfold execOp
  simp [ho, Instr.alloc, hz, Value.cells, go_sem]
theorem store64 {ops : Array Oper} {rest : List Oper} {o : Oper} {a : Act} {w : World} {Q : Exit → Act → World → Prop} (hg : o.guard = none) (x y : Operand) (ho : o.op = .store 175 x y) (hd : o.dst = none)
    (hx : a.eval x = .pointer (some ⟨w.heap.size, 0, none⟩)) (hy : a.eval y = .agg Z64)
    (h : wpList Try.prog ops Q rest a (w.alloc (.cells Z64 175))) : wpList Try.prog ops Q (o :: rest) a (w.alloc (.cells Z64 175)) := by
  refine wpList_store_row hg 175 x y ho w.heap.size Z64 hx hy 175 Z64 (World.alloc_heap_new w _) (by rw [(zero_of_info Z64_info).2, Z64_size]) rfl Z64_one ?_
  rw [World.setRow_alloc_new, hd]
  exact h

/-- the first k of the array have their counts -/
def Arr (W : World) (b : Nat) (f : Nat → Int) (k : Nat) : Prop := ∃ cs : Array Value, W.heap[b]? = some (.cells cs 175 (0, 0)) ∧ cs.size = 64 ∧ ∀ j, j < 64 → cs[j]? = some (.int .i64 (if j < k then f j else 0))
theorem Arr.start (w : World) (f : Nat → Int) : Arr (w.alloc (.cells Z64 175)) w.heap.size f 0 := ⟨Z64, World.alloc_heap_new w _, Z64_size, fun j hj => by rw [Z64_at j hj]; rfl⟩
theorem Arr.lt {W : World} {b : Nat} {f : Nat → Int} {k : Nat} (h : Arr W b f k) : b < W.heap.size := by
  obtain ⟨cs, h, _⟩ := h
  rcases Nat.lt_or_ge b W.heap.size with c | c
  · exact c
  · rw [Array.getElem?_eq_none c] at h; cases h
theorem Arr.gr {W W' : World} {b : Nat} {f : Nat → Int} {k : Nat} (h : Arr W b f k) (g : Gr W W') : Arr W' b f k := by
  have hl := h.lt
  obtain ⟨cs, h1, h2, h3⟩ := h
  exact ⟨cs, (g.block b hl).trans h1, h2, h3⟩
theorem Arr.facts {W : World} {b : Nat} {f : Nat → Int} {k j : Nat} (h : Arr W b f k) (hj : j < 64) : W.cell? ⟨b, j, none⟩ = some (.int .i64 (if j < k then f j else 0)) ∧ W.frozen? ⟨b, j, none⟩ = false := by
  obtain ⟨cs, h1, h2, h3⟩ := h
  exact ⟨by simp only [World.cell?, h1]; exact h3 j hj, by simp [World.frozen?, h1]⟩
theorem Arr.set {W : World} {b : Nat} {f : Nat → Int} {k : Nat} (h : Arr W b f k) (hk : k < 64) {x : Int} (hx : f k = x) : Arr (W.setCell ⟨b, k, none⟩ (.int .i64 x)) b f (k + 1) := by
  obtain ⟨cs, h1, h2, h3⟩ := h
  refine ⟨_, heap_set_same h1 _, by simpa using h2, fun j hj => ?_⟩
  rw [Array.getElem?_setIfInBounds]
  by_cases e : k = j
  · subst e; rw [if_pos rfl, if_pos (by omega), if_pos (by omega), hx]
  · rw [if_neg e, h3 j hj]
    by_cases c : j < k
    · rw [if_pos c, if_pos (by omega)]
    · rw [if_neg c, if_neg (by omega)]

def refJoinL (a b : List Dot) : List Dot := if chk a = 0 ∧ chk b = 0 then ofL (fun p => maxI (getV a p) (getV b p)) 64 else []
def refMeetL (a b : List Dot) : List Dot := ofL (fun p => minI (getV a p) (getV b p)) 64
set_option maxRecDepth 100000 in
theorem refJoin_any (A1 A2 : Option Addr) (c1 c2 : Nat) (a b : List Dot) (w : World) (h1 : Dots w A1 a) (h2 : Dots w A2 b) :
    Calls Try.prog 97 #[.slice A1 a.length c1, .slice A2 b.length c2] w fun e w' => ∃ v, e = .returned v ∧ OwnDots w' w.heap.size v (refJoinL a b) ∧ Gr w w' := by
  have H1 := Lib.hid h1; clear h1
  have H2 := Lib.hid h2; clear h2
  have HA := Lib.hid (Arr.start w fun p => maxI (getV a p) (getV b p))
  have hg0 : Gr w (w.alloc (.cells Z64 175)) := (Gr.rfl' w).al _
  go_enter Try.func97, Try.ntmps97
  go_wp2_with (first | refine build64 rfl rfl ?_ | refine alloc64 rfl rfl ?_ | refine store64 rfl _ _ rfl rfl rfl rfl ?_)
  go_loopw [6] (fun i wr => ∃ k : Nat, k ≤ 64 ∧ i = .int .i64 k ∧ Hid (Arr wr w.heap.size (fun p => maxI (getV a p) (getV b p)) k) ∧ Gr w wr) (fun i _ => 64 - (intOf i).toNat)
  case atStart => exact ⟨0, Nat.zero_le _, rfl, HA, hg0⟩
  case round =>
    clear HA hg0
    obtain ⟨k, hk, rfl, HA, hg⟩ := hrel
    have hbs : w.heap.size < wr.heap.size := HA.out.lt
    by_cases hlt : k < 64
    · have hlt' : (k : Int) < 64 := by omega
      have HW1 := Lib.hid (H1.out.gr hg)
      have HW2 := Lib.hid (H2.out.gr hg)
      go_wp2_with fail
      refine (refGet_any A1 c1 a k _ HW1.out).mono ?_
      rintro e w1 ⟨rfl, hg1⟩
      go_wp2_with fail
      refine (refGet_any A2 c2 b k _ (HW2.out.gr hg1)).mono ?_
      rintro e w2 ⟨rfl, hg2⟩
      have HA2 := Lib.hid ((HA.out.gr hg1).gr hg2)
      obtain ⟨hcl, hfz⟩ := HA2.out.facts hlt
      go_wp2
      all_goals
        go_roundw
        case rel => exact ⟨k + 1, by omega, by go_num, Lib.hid (HA2.out.set hlt (by unfold maxI; split <;> omega)), ((hg.tr hg1).tr hg2).set (Nat.le_refl _) _⟩
        case measure => simp [intOf]; omega
    · have hk' : k = 64 := by omega
      subst hk'
      obtain ⟨cs, hcs, hsz, hat⟩ := HA.out
      have HAT : Hid (∀ j, j < 64 → cs[j]? = some (.int .i64 (maxI (getV a j) (getV b j)))) := by
        intro j hj
        have := hat j hj
        rwa [if_pos hj] at this
      clear hat
      by_cases ha : chk a = 0
      · have ha' : (chk a != 0) = false := by simp [ha]
        by_cases hb : chk b = 0
        · have hb' : (chk b != 0) = false := by simp [hb]
          have HR : Hid (refJoinL a b = ofL (fun p => maxI (getV a p) (getV b p)) 64) := if_pos ⟨ha, hb⟩
          clear ha hb
          go_wp2_with fail
          refine (refCheck_any A1 c1 a _ (H1.out.gr hg)).mono ?_
          rintro e w1 ⟨rfl, hg1⟩
          go_wp2_with fail
          refine (refCheck_any A2 c2 b _ (H2.out.gr (hg.tr hg1))).mono ?_
          rintro e w2 ⟨rfl, hg2⟩
          have hcs2 : w2.heap[w.heap.size]? = some (.cells cs 175 (0, 0)) := ((hg1.tr hg2).block _ hbs).trans hcs
          go_wp2_with (first | refine wpList_load_row rfl 175 _ rfl w.heap.size rfl 175 cs (0, 0) _ hcs2 Try.underlying175 rfl (by rw [hsz, (zero_of_info Z64_info).2]) ?_)
          refine (of_any cs (fun j => maxI (getV a j) (getV b j)) hsz HAT.out _).mono ?_
          rintro e w3 ⟨v, rfl, ho, hg3⟩
          have hgs := (hg1.tr hg2).size
          go_wp2
          go_ret
          exact ⟨v, rfl, by rw [HR.out]; exact ho.lower (by omega), (hg.tr (hg1.tr hg2)).tr hg3⟩
        · have hb' : (chk b != 0) = true := by simp [hb]
          have HR : Hid (refJoinL a b = []) := if_neg (fun h => hb h.2)
          clear ha hb
          go_wp2_with fail
          refine (refCheck_any A1 c1 a _ (H1.out.gr hg)).mono ?_
          rintro e w1 ⟨rfl, hg1⟩
          go_wp2_with fail
          refine (refCheck_any A2 c2 b _ (H2.out.gr (hg.tr hg1))).mono ?_
          rintro e w2 ⟨rfl, hg2⟩
          go_wp2
          go_ret
          exact ⟨_, rfl, by rw [HR.out]; exact OwnDots.nil _ _, hg.tr (hg1.tr hg2)⟩
      · have ha' : (chk a != 0) = true := by simp [ha]
        have HR : Hid (refJoinL a b = []) := if_neg (fun h => ha h.1)
        clear ha
        go_wp2_with fail
        refine (refCheck_any A1 c1 a _ (H1.out.gr hg)).mono ?_
        rintro e w1 ⟨rfl, hg1⟩
        go_wp2
        go_ret
        exact ⟨_, rfl, by rw [HR.out]; exact OwnDots.nil _ _, hg.tr hg1⟩

theorem refWith_any (A1 : Option Addr) (c1 : Nat) (a : List Dot) (p c : Int) (w : World) (h1 : Dots w A1 a) :
    Calls Try.prog 98 #[.slice A1 a.length c1, .agg #[.int .i64 p, .int .i64 c]] w fun e w' => ∃ v, e = .returned v ∧ OwnDots w' w.heap.size v (refJoinL a [(p, c)]) ∧ Gr w w' := by
  have hg0 : Gr w ((w.alloc (.cells #[.int .i64 p, .int .i64 c] 47)).alloc (.cells #[.int .i64 p, .int .i64 c] 47)) := ((Gr.rfl' w).al _).al _
  have hD := Dots.one (w := w.alloc (.cells #[.int .i64 p, .int .i64 c] 47)) p c 47
  rw [World.size_alloc] at hD
  have HD := Lib.hid hD; clear hD
  have H1 := Lib.hid (h1.gr hg0); clear h1
  go_enter Try.func98, Try.ntmps98
  go_wp2_with fail
  refine (refJoin_any A1 _ c1 1 a [(p, c)] _ H1.out HD.out).mono ?_
  rintro e w1 ⟨v, rfl, ho, hg1⟩
  go_wp2
  go_ret
  exact ⟨v, rfl, ho.lower hg0.size, hg0.tr hg1⟩
end Go.Proofs.Ytfobnemocodomaa
