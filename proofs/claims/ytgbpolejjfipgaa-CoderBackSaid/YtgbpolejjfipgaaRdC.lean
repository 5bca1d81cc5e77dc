/- A coder.Reader: Digest. -/
import Derived.Test.YtgbpolejjfipgaaRdB
import Derived.Lib.BufferWrite
set_option linter.unusedVariables false
set_option linter.unusedSimpArgs false
set_option maxHeartbeats 400000
namespace Go.Proofs.Ytgbpolejjfipgaa
open Go.RowKit Go.Shelf Go.Great

theorem run_copy_head (w : World) (ty : TypeId) (g : Nat) (s : ByteArray) (h32 : 32 ≤ s.size) (cur : Array Value) (t : TypeId) (hg : w.heap[g]? = some (.cells cur t (0, 0))) (hcur : cur.size = 32) :
    (Builtin.copy_ #[27, 9] ty #[.slice (some ⟨g, 0, none⟩) 32 32, .string s]).run Try.prog w = .ok (goInt 32) (w.setRow g (digC (s.data.toList.take 32))) := by
  have hl : (s.data.toList.take 32).length = 32 := by rw [List.length_take, ← Lib.size_eq]; omega
  have hlen : (Lib.byteCells (s.data.toList.take 32)).length = 32 := by rw [Lib.byteCells_length, hl]
  have hst := run_storeCells_at Try.prog g 0 t (Lib.byteCells (s.data.toList.take 32)) 0 cur w hg (by rw [hlen, hcur]; omega) (Lib.byteCells_one _)
  have hmin : Nat.min s.size 32 = 32 := Nat.min_eq_right h32
  rw [hlen] at hst
  have hrow : (cur.toList.take (0 + 0) ++ Lib.byteCells (s.data.toList.take 32) ++ cur.toList.drop (0 + 0 + 32)).toArray = digC (s.data.toList.take 32) := by
    rw [List.drop_eq_nil_of_le (by rw [Array.length_toList, hcur]; omega)]
    simp [digC, Lib.byteCells]
  rw [hrow] at hst
  have htk : List.take 32 (List.map (fun b : UInt8 => Value.int IntKind.u8 (b.toNat : Int)) s.data.toList) = Lib.byteCells (s.data.toList.take 32) := by
    rw [← List.map_take]; rfl
  obtain ⟨i0, hi, hz0, hz1, hz2⟩ := info_parts infoByte
  simp [Builtin.copy_, run_underlying Try.underlying27, Builtin.lenOf, Builtin.firstCells, sizeOf, typeInfo, hi, hz1, hmin]
  rw [htk, hst]
  simp [Result.andThen]
theorem wpList_copy32 {ops : Array Oper} {rest : List Oper} {o : Oper} {a : Act} {w : World} {Q : Exit → Act → World → Prop} (hgd : o.guard = none) (d x : Operand)
    (ho : o.op = .call { callee := .builtin .copy, args := #[d, x], argTypes := #[27, 9] }) (g : Nat) (s : ByteArray) (hd : a.eval d = .slice (some ⟨g, 0, none⟩) 32 32) (hx : a.eval x = .string s)
    (h32 : 32 ≤ s.size) (cur : Array Value) (t : TypeId) (hg : w.heap[g]? = some (.cells cur t (0, 0))) (hcur : cur.size = 32)
    (h : wpList Try.prog ops Q rest (a.put o.dst (.int .i64 32)) (w.setRow g (digC (s.data.toList.take 32)))) : wpList Try.prog ops Q (o :: rest) a w := by
  refine wpList_plain hgd fun K hK => ?_
  have hr := run_copy_head w o.type g s h32 cur t hg hcur
  unfold Oper.wp execOp
  simp only [ho, resolve, invoke, builtin, Sem.run_bind, Sem.run_pure, Result.andThen_ok, List.map_toArray, List.map_cons, List.map_nil, hd, hx, hr]
  exact hK _ _ h
theorem store32 {ops : Array Oper} {rest : List Oper} {o : Oper} {a : Act} {w : World} {Q : Exit → Act → World → Prop} (D : List UInt8) (hD : D.length = 32) (hg : o.guard = none) (x y : Operand) (ho : o.op = .store 37 x y) (hd : o.dst = none)
    (hx : a.eval x = .pointer (some ⟨w.heap.size, 0, none⟩)) (hy : a.eval y = .agg (digC D))
    (h : wpList Try.prog ops Q rest a (w.alloc (.cells (digC D) 37))) : wpList Try.prog ops Q (o :: rest) a (w.alloc (.cells Z32 37)) := by
  have hsz : (digC D).size = 32 := by rw [digC_size, hD]
  refine wpList_store_row hg 37 x y ho w.heap.size (digC D) hx hy 37 Z32 (World.alloc_heap_new w _) (by rw [sizeDig, hsz]) (by rw [Z32_size, hsz]) (digC_one D) ?_
  rw [World.setRow_alloc_new, hd]
  exact h
theorem asA (g : Nat) (W : World) : (asAddr (.pointer (some ⟨g, 0, none⟩))).run Try.prog W = .ok ⟨g, 0, none⟩ W := rfl

/-- what the piece of a digest is -/
def digP (S : ByteArray) : List UInt8 × Nat × Int := if S.size < 32 then (Z32L, 0, 5) else (S.data.toList.take 32, 32, 0)
theorem digP_le (S : ByteArray) : (digP S).2.1 ≤ S.size := by
  unfold digP
  split
  · exact Nat.zero_le _
  · show 32 ≤ _; omega
theorem digP_len (S : ByteArray) : (digP S).1.length = 32 := by
  unfold digP
  split
  · exact Z32L_len
  · show (S.data.toList.take 32).length = 32
    rw [List.length_take, ← Lib.size_eq]; omega

set_option maxRecDepth 100000 in
theorem Digest1_any (S : ByteArray) (w : World) :
    Calls Try.prog 48 #[.string S] w fun r w' => r = .returned (.tuple #[.agg (digC (digP S).1), .int .i64 (digP S).2.1, .int .i64 (digP S).2.2]) ∧ Gr w w' := by
  by_cases hs : S.size < 32
  · have hX : Hid (digP S = (Z32L, 0, 5)) := by show _ = _; unfold digP; rw [if_pos hs]
    have hsi : (S.size : Int) < 32 := by omega
    go_enter Try.func48, Try.ntmps48
    go_upto_region 2 with (first | refine alloc32 rfl rfl ?_)
    obtain ⟨W, hW⟩ : ∃ W, (w.alloc (.cells Z32 37)).alloc (.cells Z32 37) = W := ⟨_, rfl⟩
    have hg : Gr w W := by rw [← hW]; exact ((Gr.rfl' _).al _).al _
    have h0 : W.heap[w.heap.size]? = some (.cells Z32 37 (0, 0)) := by
      rw [← hW]; exact (Below.heap_alloc _ _ _ (by simp)).trans (World.alloc_heap_new _ _)
    have h1 : W.heap[w.heap.size + 1]? = some (.cells Z32 37 (0, 0)) := by
      have := World.alloc_heap_new (w.alloc (.cells Z32 37)) (.cells Z32 37)
      rw [World.size_alloc] at this
      rw [← hW]; exact this
    rw [hW]
    clear hW
    go_wp2_with (first
      | refine wpList_load_row rfl 37 _ rfl (w.heap.size + 1) rfl 37 Z32 (0, 0) _ h1 Try.underlying37 rfl (by rw [Z32_size]; exact sizeDig) ?_
      | refine wpList_store_row rfl 37 _ _ rfl w.heap.size Z32 rfl rfl 37 Z32 h0 (by rw [Z32_size]; exact sizeDig) rfl (digC_one _) ?_)
    rw [setRow_self W _ Z32 _ _ h0]
    have hL := load32 W w.heap.size Z32L Z32L_len h0
    refine bodyPost_ret (v := .tuple #[.agg Z32, .int .i64 0, .int .i64 5]) ?_ rfl ⟨by rw [hX.out]; rfl, hg⟩
    simp [results, Try.results48, Act.put, asA, hL]
    rfl
  · have hX : Hid (digP S = (S.data.toList.take 32, 32, 0)) := by show _ = _; unfold digP; rw [if_neg hs]
    have hsi : decide ((S.size : Int) < 32) = false := decide_eq_false (by omega)
    have h32 : 32 ≤ S.size := by omega
    clear hs
    go_enter Try.func48, Try.ntmps48
    go_upto_region 2 with (first | refine alloc32 rfl rfl ?_)
    obtain ⟨W, hW⟩ : ∃ W, (w.alloc (.cells Z32 37)).alloc (.cells Z32 37) = W := ⟨_, rfl⟩
    have hg : Gr w W := by rw [← hW]; exact ((Gr.rfl' _).al _).al _
    have h0 : W.heap[w.heap.size]? = some (.cells Z32 37 (0, 0)) := by
      rw [← hW]; exact (Below.heap_alloc _ _ _ (by simp)).trans (World.alloc_heap_new _ _)
    have h1 : W.heap[w.heap.size + 1]? = some (.cells Z32 37 (0, 0)) := by
      have := World.alloc_heap_new (w.alloc (.cells Z32 37)) (.cells Z32 37)
      rw [World.size_alloc] at this
      rw [← hW]; exact this
    rw [hW]
    clear hW
    have hl : (S.data.toList.take 32).length = 32 := by rw [List.length_take, ← Lib.size_eq]; omega
    have h0' : (W.setRow (w.heap.size + 1) (digC (S.data.toList.take 32))).heap[w.heap.size]? = some (.cells Z32 37 (0, 0)) := (setRow_other _ _ _ _ (by omega)).trans h0
    have h1' := setRow_heap W (w.heap.size + 1) Z32 (digC (S.data.toList.take 32)) _ _ h1
    go_wp2_with (first
      | refine wpList_copy32 rfl _ _ rfl (w.heap.size + 1) S rfl rfl h32 Z32 37 h1 Z32_size ?_
      | refine wpList_load_row rfl 37 _ rfl (w.heap.size + 1) rfl 37 (digC (S.data.toList.take 32)) (0, 0) _ h1' Try.underlying37 rfl (by rw [digC_size, hl]; exact sizeDig) ?_
      | refine wpList_store_row rfl 37 _ _ rfl w.heap.size (digC (S.data.toList.take 32)) rfl rfl 37 Z32 h0' (by rw [digC_size, hl]; exact sizeDig) (by rw [Z32_size, digC_size, hl]) (digC_one _) ?_)
    have h2 := setRow_heap _ w.heap.size Z32 (digC (S.data.toList.take 32)) _ _ h0'
    have hL := load32 _ w.heap.size _ hl h2
    refine bodyPost_ret (v := .tuple #[.agg (digC (S.data.toList.take 32)), .int .i64 32, .int .i64 0]) ?_ rfl ⟨by rw [hX.out]; rfl, (hg.setRow (by omega) _).setRow (Nat.le_refl _) _⟩
    simp [results, Try.results48, Act.put, asA, hL]

def dgM (S : ByteArray) (e : Int) : List UInt8 × ByteArray × Int := if e ≠ 0 then (Z32L, S, e) else if (digP S).2.2 ≠ 0 then (Z32L, S, (digP S).2.2) else ((digP S).1, cutB S (digP S).2.1, 0)
theorem dgM_len (S : ByteArray) (e : Int) : (dgM S e).1.length = 32 := by
  unfold dgM
  split
  · exact Z32L_len
  split
  · exact Z32L_len
  · exact digP_len S
theorem Sr.setRow {t : TypeId} {c g : Nat} {S : ByteArray} {e : Int} {w : World} (h : Sr t c S e w) (hg : c ≠ g) (cs : Array Value) : Sr t c S e (w.setRow g cs) := (setRow_other _ _ _ _ hg).trans h
theorem Rm.setRow {c : Nat} {X Y : World} (h : Rm c X Y) {g : Nat} (hg : X.heap.size ≤ g) (cs : Array Value) : Rm c X (Y.setRow g cs) :=
  ⟨h.os, h.tape, h.output, by rw [size_setRow]; exact h.size, fun k hk hc => (setRow_other _ _ _ _ (by omega)).trans (h.keep k hk hc)⟩

set_option maxRecDepth 100000 in
set_option maxHeartbeats 1000000 in
theorem takeD_any (b : Nat) (S : ByteArray) (e : Int) (w : World) (h : Sr 62 b S e w) (hS : S.size ≤ 9223372036854775807) :
    Calls Try.prog 47 #[.pointer (some ⟨b, 0, none⟩), .func (.func 48) #[] #[]] w fun r w' =>
      r = .returned (.agg (digC (dgM S e).1)) ∧ Sr 62 b (dgM S e).2.1 (dgM S e).2.2 w' ∧ Rm b w w' := by
  have HH := Lib.hid h; clear h
  have hbl := HH.out.lt
  by_cases he : e = 0
  · subst he
    obtain ⟨D, k, c, hv⟩ : ∃ D k c, digP S = (D, k, c) := ⟨_, _, _, rfl⟩
    have hk : k ≤ S.size := by have := digP_le S; rw [hv] at this; exact this
    have hD : D.length = 32 := by have := digP_len S; rw [hv] at this; exact this
    have hki : (k : Int) ≤ S.size := by omega
    by_cases hn : c = 0
    · subst hn
      have hX : Hid (dgM S 0 = (D, cutB S k, 0)) := by show _ = _; unfold dgM; rw [hv, if_neg (by simp), if_neg (by simp)]
      have HV := Lib.hid hv; clear hv
      go_enter Try.func47, Try.ntmps47
      go_upto_region 2 with (first | refine alloc32 rfl rfl ?_)
      obtain ⟨W, hW⟩ : ∃ W, (w.alloc (.cells Z32 37)).alloc (.cells Z32 37) = W := ⟨_, rfl⟩
      have hg : Gr w W := by rw [← hW]; exact ((Gr.rfl' _).al _).al _
      have h0 : W.heap[w.heap.size]? = some (.cells Z32 37 (0, 0)) := by
        rw [← hW]; exact (Below.heap_alloc _ _ _ (by simp)).trans (World.alloc_heap_new _ _)
      have h1 : W.heap[w.heap.size + 1]? = some (.cells Z32 37 (0, 0)) := by
        have := World.alloc_heap_new (w.alloc (.cells Z32 37)) (.cells Z32 37)
        rw [World.size_alloc] at this
        rw [← hW]; exact this
      rw [hW]
      clear hW
      replace HH := Lib.hid (HH.out.gr hg)
      go_wp2_with fail
      refine (Err_any b S 0 _ HH.out).mono ?_
      rintro r w1 ⟨rfl, rfl⟩
      have c0 := HH.out.cell0
      go_wp2_with fail
      refine (Digest1_any S _).mono ?_
      rintro r w2 ⟨rfl, hg2⟩
      rw [HV.out]
      have h0' : (w2.alloc (.cells (digC D) 37)).heap[w.heap.size]? = some (.cells Z32 37 (0, 0)) := (((Gr.rfl' w2).al _).block _ (by have := hg2.size; have := (Array.getElem?_eq_some_iff.1 h0).1; omega)).trans ((hg2.block _ (Array.getElem?_eq_some_iff.1 h0).1).trans h0)
      have h6 : (w2.alloc (.cells (digC D) 37)).heap[w2.heap.size]? = some (.cells (digC D) 37 (0, 0)) := World.alloc_heap_new _ _
      have hHH := Lib.hid ((HH.out.gr hg2).gr ((Gr.rfl' w2).al (.cells (digC D) 37)))
      have hws : w.heap.size + 2 ≤ w2.heap.size := by have := hg2.size; have := (Array.getElem?_eq_some_iff.1 h1).1; omega
      have hgA : Gr w (w2.alloc (.cells (digC D) 37)) := (hg.tr hg2).al _
      go_upto_region 5 with (first | refine alloc32 rfl rfl ?_ | refine store32 D hD rfl _ _ rfl rfl rfl rfl ?_)
      obtain ⟨W2, hW2⟩ : ∃ W2, w2.alloc (.cells (digC D) 37) = W2 := ⟨_, rfl⟩
      obtain ⟨n6, hn6⟩ : ∃ n6, n6 = w2.heap.size := ⟨_, rfl⟩
      rw [hW2] at h0' h6 hHH hgA
      rw [hW2]
      rw [← hn6] at h6 hws
      rw [← hn6]
      clear hW2 hn6 h0 h1 hg2 c0 HH hg
      have c0 := hHH.out.cell0
      have f0 := hHH.out.frz 0
      have h0'' : (W2.setCell ⟨b, 0, none⟩ (.string (S.extract k S.size))).heap[w.heap.size]? = some (.cells Z32 37 (0, 0)) := (Below.heap_setCell _ _ _ _ (by show w.heap.size ≠ b; omega)).trans h0'
      have h6'' : (W2.setCell ⟨b, 0, none⟩ (.string (S.extract k S.size))).heap[n6]? = some (.cells (digC D) 37 (0, 0)) := (Below.heap_setCell _ _ _ _ (by show n6 ≠ b; omega)).trans h6
      go_wp2_with (first
        | refine wpList_load_row rfl 37 _ rfl n6 rfl 37 (digC D) (0, 0) _ h6'' Try.underlying37 rfl (by rw [digC_size, hD]; exact sizeDig) ?_
        | refine wpList_store_row rfl 37 _ _ rfl w.heap.size (digC D) rfl rfl 37 Z32 h0'' (by rw [digC_size, hD]; exact sizeDig) (by rw [Z32_size, digC_size, hD]) (digC_one _) ?_)
      have h2 := setRow_heap _ w.heap.size Z32 (digC D) _ _ h0''
      have hL := load32 _ w.heap.size _ hD h2
      refine bodyPost_ret (v := .agg (digC D)) ?_ rfl ?_
      · simp [results, Try.results47, Act.put, asA, hL]
      · rw [hX.out]
        exact ⟨rfl, (hHH.out.set0).setRow (by omega) _, ((Rm.of hgA).setCell _ _).setRow (Nat.le_refl _) _⟩
    · have hX : Hid (dgM S 0 = (Z32L, S, c)) := by show _ = _; unfold dgM; rw [hv, if_neg (by simp), if_pos hn]
      have hnb : (c != 0) = true := by simpa using hn
      have HV := Lib.hid hv; clear hv
      go_enter Try.func47, Try.ntmps47
      go_upto_region 2 with (first | refine alloc32 rfl rfl ?_)
      obtain ⟨W, hW⟩ : ∃ W, (w.alloc (.cells Z32 37)).alloc (.cells Z32 37) = W := ⟨_, rfl⟩
      have hg : Gr w W := by rw [← hW]; exact ((Gr.rfl' _).al _).al _
      have h0 : W.heap[w.heap.size]? = some (.cells Z32 37 (0, 0)) := by
        rw [← hW]; exact (Below.heap_alloc _ _ _ (by simp)).trans (World.alloc_heap_new _ _)
      have h1 : W.heap[w.heap.size + 1]? = some (.cells Z32 37 (0, 0)) := by
        have := World.alloc_heap_new (w.alloc (.cells Z32 37)) (.cells Z32 37)
        rw [World.size_alloc] at this
        rw [← hW]; exact this
      rw [hW]
      clear hW
      replace HH := Lib.hid (HH.out.gr hg)
      go_wp2_with fail
      refine (Err_any b S 0 _ HH.out).mono ?_
      rintro r w1 ⟨rfl, rfl⟩
      have c0 := HH.out.cell0
      go_wp2_with fail
      refine (Digest1_any S _).mono ?_
      rintro r w2 ⟨rfl, hg2⟩
      rw [HV.out]
      have h0' : (w2.alloc (.cells (digC D) 37)).heap[w.heap.size]? = some (.cells Z32 37 (0, 0)) := (((Gr.rfl' w2).al _).block _ (by have := hg2.size; have := (Array.getElem?_eq_some_iff.1 h0).1; omega)).trans ((hg2.block _ (Array.getElem?_eq_some_iff.1 h0).1).trans h0)
      have h6 : (w2.alloc (.cells (digC D) 37)).heap[w.heap.size + 1]? = some (.cells Z32 37 (0, 0)) := (((Gr.rfl' w2).al _).block _ (by have := hg2.size; have := (Array.getElem?_eq_some_iff.1 h1).1; omega)).trans ((hg2.block _ (Array.getElem?_eq_some_iff.1 h1).1).trans h1)
      have hHH := Lib.hid ((HH.out.gr hg2).gr ((Gr.rfl' w2).al (.cells (digC D) 37)))
      have hgA : Gr w (w2.alloc (.cells (digC D) 37)) := (hg.tr hg2).al _
      go_upto_region 5 with (first | refine alloc32 rfl rfl ?_ | refine store32 D hD rfl _ _ rfl rfl rfl rfl ?_)
      obtain ⟨W2, hW2⟩ : ∃ W2, w2.alloc (.cells (digC D) 37) = W2 := ⟨_, rfl⟩
      rw [hW2] at h0' h6 hHH hgA
      rw [hW2]
      clear hW2 h0 h1 hg2 c0 HH hg
      have c1 := hHH.out.cell1
      have f1 := hHH.out.frz 1
      have h0'' : (W2.setCell ⟨b, 1, none⟩ (.int .i64 c)).heap[w.heap.size]? = some (.cells Z32 37 (0, 0)) := (Below.heap_setCell _ _ _ _ (by show w.heap.size ≠ b; omega)).trans h0'
      have h6'' : (W2.setCell ⟨b, 1, none⟩ (.int .i64 c)).heap[w.heap.size + 1]? = some (.cells Z32 37 (0, 0)) := (Below.heap_setCell _ _ _ _ (by show w.heap.size + 1 ≠ b; omega)).trans h6
      go_wp2_with (first
        | refine wpList_load_row rfl 37 _ rfl (w.heap.size + 1) rfl 37 Z32 (0, 0) _ h6'' Try.underlying37 rfl (by rw [Z32_size]; exact sizeDig) ?_
        | refine wpList_store_row rfl 37 _ _ rfl w.heap.size Z32 rfl rfl 37 Z32 h0'' (by rw [Z32_size]; exact sizeDig) rfl (digC_one _) ?_)
      rw [setRow_self _ _ Z32 _ _ h0'']
      have hL := load32 _ w.heap.size Z32L Z32L_len h0''
      refine bodyPost_ret (v := .agg (digC Z32L)) ?_ rfl ?_
      · simp [results, Try.results47, Act.put, asA, hL]
      · rw [hX.out]
        exact ⟨rfl, hHH.out.set1, (Rm.of hgA).setCell _ _⟩
  · have hX : Hid (dgM S e = (Z32L, S, e)) := by show _ = _; unfold dgM; rw [if_pos he]
    have heb : (e != 0) = true := by simpa using he
    go_enter Try.func47, Try.ntmps47
    go_upto_region 2 with (first | refine alloc32 rfl rfl ?_)
    obtain ⟨W, hW⟩ : ∃ W, (w.alloc (.cells Z32 37)).alloc (.cells Z32 37) = W := ⟨_, rfl⟩
    have hg : Gr w W := by rw [← hW]; exact ((Gr.rfl' _).al _).al _
    have h0 : W.heap[w.heap.size]? = some (.cells Z32 37 (0, 0)) := by
      rw [← hW]; exact (Below.heap_alloc _ _ _ (by simp)).trans (World.alloc_heap_new _ _)
    have h1 : W.heap[w.heap.size + 1]? = some (.cells Z32 37 (0, 0)) := by
      have := World.alloc_heap_new (w.alloc (.cells Z32 37)) (.cells Z32 37)
      rw [World.size_alloc] at this
      rw [← hW]; exact this
    rw [hW]
    clear hW
    replace HH := Lib.hid (HH.out.gr hg)
    go_wp2_with fail
    refine (Err_any b S e _ HH.out).mono ?_
    rintro r w1 ⟨rfl, rfl⟩
    go_wp2_with (first
      | refine wpList_load_row rfl 37 _ rfl (w.heap.size + 1) rfl 37 Z32 (0, 0) _ h1 Try.underlying37 rfl (by rw [Z32_size]; exact sizeDig) ?_
      | refine wpList_store_row rfl 37 _ _ rfl w.heap.size Z32 rfl rfl 37 Z32 h0 (by rw [Z32_size]; exact sizeDig) rfl (digC_one _) ?_)
    rw [setRow_self _ _ Z32 _ _ h0]
    have hL := load32 _ w.heap.size Z32L Z32L_len h0
    refine bodyPost_ret (v := .agg (digC Z32L)) ?_ rfl ?_
    · simp [results, Try.results47, Act.put, asA, hL]
    · rw [hX.out]
      exact ⟨rfl, HH.out, Rm.of hg⟩

set_option maxRecDepth 100000 in
theorem dDigest_any (b : Nat) (S : ByteArray) (e : Int) (w : World) (h : Sr 62 b S e w) (hS : S.size ≤ 9223372036854775807) :
    Calls Try.prog 24 #[.pointer (some ⟨b, 0, none⟩)] w fun r w' =>
      r = .returned (.agg (digC (dgM S e).1)) ∧ Sr 62 b (dgM S e).2.1 (dgM S e).2.2 w' ∧ Rm b w w' := by
  have hbl := h.lt
  have HH := Lib.hid (h.gr ((Gr.rfl' w).al (.cells Z32 37))); clear h
  have hD := dgM_len S e
  go_enter Try.func24, Try.ntmps24
  go_wp2_with (first | refine alloc32 rfl rfl ?_)
  refine (takeD_any b S e _ HH.out hS).mono ?_
  rintro r w1 ⟨rfl, hs1, m1⟩
  have h0 : w1.heap[w.heap.size]? = some (.cells Z32 37 (0, 0)) := (m1.keep _ (by simp) (by omega)).trans (World.alloc_heap_new _ _)
  go_wp2_with (first
    | refine wpList_store_row rfl 37 _ _ rfl w.heap.size (digC (dgM S e).1) rfl rfl 37 Z32 h0 (by rw [digC_size, hD]; exact sizeDig) (by rw [Z32_size, digC_size, hD]) (digC_one _) ?_)
  have h2 := setRow_heap _ w.heap.size Z32 (digC (dgM S e).1) _ _ h0
  have hL := load32 _ w.heap.size _ hD h2
  refine bodyPost_ret (v := .agg (digC (dgM S e).1)) ?_ rfl ?_
  · simp [results, Try.results24, Act.put, asA, hL]
  · exact ⟨rfl, hs1.setRow (by omega) _, ((Rm.of ((Gr.rfl' w).al _)).trans m1).setRow (Nat.le_refl _) _⟩
end Go.Proofs.Ytgbpolejjfipgaa
