/- The document's reader R: Flag, Fail, Done, Digest. -/
import Derived.Test.YtgbpolejjfipgaaRsA
set_option linter.unusedVariables false
set_option linter.unusedSimpArgs false
set_option maxHeartbeats 400000
namespace Go.Proofs.Ytgbpolejjfipgaa
open Go.RowKit Go.Shelf Go.Great

set_option maxRecDepth 100000 in
theorem sFail_any (b : Nat) (S : ByteArray) (e : Int) (f : Int) (w : World) (h : Sr 51 b S e w) :
    Calls Try.prog 27 #[.pointer (some ⟨b, 0, none⟩), .int .i64 f] w fun r w' => r = .returned (.tuple #[]) ∧ Sr 51 b S (sfail f e) w' ∧ Rm b w w' := by
  have c1 := h.cell1
  have f1 := h.frz 1
  have HH := Lib.hid h; clear h
  by_cases he : e = 0
  · subst he
    go_enter Try.func27, Try.ntmps27
    go_wp2
    go_end0
    exact ⟨rfl, HH.out.set1, (Rm.refl _ _).setCell _ _⟩
  · have heb : (e == 0) = false := by simpa using he
    have hX : Hid (sfail f e = e) := by show _ = _; simp [sfail, he]
    go_enter Try.func27, Try.ntmps27
    go_wp2
    go_end0
    rw [hX.out]
    exact ⟨rfl, HH.out, Rm.refl _ _⟩
set_option maxRecDepth 100000 in
theorem sDone_any (b : Nat) (S : ByteArray) (e : Int) (w : World) (h : Sr 51 b S e w) : Calls Try.prog 31 #[.pointer (some ⟨b, 0, none⟩)] w fun r w' => r = .returned (.int .i64 (rdDone S e)) ∧ w' = w := by
  have c0 := h.cell0
  have c1 := h.cell1
  clear h
  by_cases he : e = 0
  · subst he
    by_cases hs : S.size = 0
    · have hX : Hid (rdDone S 0 = 0) := by show _ = _; simp [rdDone, hs]
      have hb : S.toList.isEmpty = true := by rw [isE_size]; exact decide_eq_true hs
      clear hs
      go_enter Try.func31, Try.ntmps31
      go_wp2
      go_ret
      exact ⟨ret_int hX.out.symm, rfl⟩
    · have hX : Hid (rdDone S 0 = 6) := by show _ = _; unfold rdDone; rw [if_neg (by simp), if_neg hs]
      have hb : S.toList.isEmpty = false := by rw [isE_size]; exact decide_eq_false hs
      clear hs
      go_enter Try.func31, Try.ntmps31
      go_wp2
      go_ret
      exact ⟨ret_int hX.out.symm, rfl⟩
  · have hX : Hid (rdDone S e = e) := by show _ = _; simp [rdDone, he]
    have heb : (e == 0) = false := by simpa using he
    go_enter Try.func31, Try.ntmps31
    go_wp2
    go_ret
    exact ⟨ret_int hX.out.symm, rfl⟩

theorem flgM_of (S : ByteArray) : flgM S 0 = if S.size = 0 then (false, S, 5) else if 1 < byt S 0 then (false, S, 7) else (decide (byt S 0 = 1), cutB S 1, 0) := by
  unfold flgM flgP
  rw [if_neg (by simp)]
  by_cases h0 : S.size = 0
  · rw [if_pos h0, if_pos h0, if_pos (by simp)]
  · rw [if_neg h0, if_neg h0]
    by_cases h1 : 1 < byt S 0
    · rw [if_pos h1, if_pos h1, if_pos (by simp)]
    · rw [if_neg h1, if_neg h1, if_neg (by simp)]

set_option maxRecDepth 100000 in
theorem sFlag_any (b : Nat) (S : ByteArray) (e : Int) (w : World) (h : Sr 51 b S e w) (hS : S.size ≤ 9223372036854775807) :
    Calls Try.prog 23 #[.pointer (some ⟨b, 0, none⟩)] w fun r w' =>
      r = .returned (.bool (flgM S e).1) ∧ Sr 51 b (flgM S e).2.1 (flgM S e).2.2 w' ∧ Rm b w w' := by
  have c0 := h.cell0
  have c1 := h.cell1
  have f0 := h.frz 0
  have f1 := h.frz 1
  have HH := Lib.hid h; clear h
  by_cases he : e = 0
  · subst he
    have hF := flgM_of S
    by_cases h0 : S.size = 0
    · have hb : S.toList.isEmpty = true := by rw [isE_size]; exact decide_eq_true h0
      have hX : Hid (flgM S 0 = (false, S, 5)) := by show _ = _; rw [hF, if_pos h0]
      clear h0 hF
      go_enter Try.func23, Try.ntmps23
      go_wp2
      go_ret
      rw [hX.out]
      exact ⟨rfl, HH.out.set1, (Rm.refl _ _).setCell _ _⟩
    · have hb : S.toList.isEmpty = false := by rw [isE_size]; exact decide_eq_false h0
      have hs : 0 < S.size := by omega
      have hsi : (0 : Int) < S.size := by omega
      have hsi2 : (1 : Int) ≤ S.size := by omega
      have hB := byt_at hs
      by_cases h1 : 1 < byt S 0
      · have hX : Hid (flgM S 0 = (false, S, 7)) := by show _ = _; rw [hF, if_neg h0, if_pos h1]
        rw [hB] at h1
        clear h0 hB hF
        go_enter Try.func23, Try.ntmps23
        go_wp2
        go_ret
        rw [hX.out]
        exact ⟨rfl, HH.out.set1, (Rm.refl _ _).setCell _ _⟩
      · have hX : Hid (flgM S 0 = (decide (byt S 0 = 1), cutB S 1, 0)) := by show _ = _; rw [hF, if_neg h0, if_neg h1]
        have HB := Lib.hid hB
        rw [hB] at h1
        have h1b : ¬ 1 < ((S[0]'hs).toNat : Int) := h1
        clear h0 hB hF
        go_enter Try.func23, Try.ntmps23
        go_wp2
        go_ret
        rw [hX.out, HB.out]
        exact ⟨rfl, HH.out.set0, (Rm.refl _ _).setCell _ _⟩
  · have hX : Hid (flgM S e = (false, S, e)) := by show _ = _; unfold flgM; rw [if_pos he]
    have heb : (e == 0) = false := by simpa using he
    have heb2 : (e != 0) = true := by simpa using he
    go_enter Try.func23, Try.ntmps23
    go_wp2
    go_ret
    rw [hX.out]
    exact ⟨rfl, HH.out, Rm.refl _ _⟩

/-- the first k of the array have come over -/
def Arr8 (W : World) (g : Nat) (S : ByteArray) (k : Nat) : Prop := ∃ cs : Array Value, W.heap[g]? = some (.cells cs 37 (0, 0)) ∧ cs.size = 32 ∧ ∀ j, j < 32 → cs[j]? = some (.int .u8 (if j < k then byt S j else 0))
theorem Arr8.lt {W : World} {g : Nat} {S : ByteArray} {k : Nat} (h : Arr8 W g S k) : g < W.heap.size := by
  obtain ⟨cs, h, _⟩ := h
  exact (Array.getElem?_eq_some_iff.1 h).1
theorem Arr8.set {W : World} {g : Nat} {S : ByteArray} {k : Nat} (h : Arr8 W g S k) (hk : k < 32) {x : Int} (hx : byt S k = x) : Arr8 (W.setCell ⟨g, k, none⟩ (.int .u8 x)) g S (k + 1) := by
  obtain ⟨cs, h1, h2, h3⟩ := h
  refine ⟨_, heap_set_sameW h1 _, by simpa using h2, fun j hj => ?_⟩
  rw [Array.getElem?_setIfInBounds]
  by_cases e : k = j
  · subst e; rw [if_pos rfl, if_pos (by omega), if_pos (by omega), hx]
  · rw [if_neg e, h3 j hj]
    by_cases c : j < k
    · rw [if_pos c, if_pos (by omega)]
    · rw [if_neg c, if_neg (by omega)]
theorem Arr8.facts {W : World} {g : Nat} {S : ByteArray} {k j : Nat} (h : Arr8 W g S k) (hj : j < 32) : (∃ v, W.cell? ⟨g, j, none⟩ = some v) ∧ W.frozen? ⟨g, j, none⟩ = false := by
  obtain ⟨cs, h1, h2, h3⟩ := h
  exact ⟨⟨_, by simp only [World.cell?, h1]; exact h3 j hj⟩, by simp [World.frozen?, h1]⟩
theorem Arr8.start (w : World) (S : ByteArray) : Arr8 (w.alloc (.cells Z32 37)) w.heap.size S 0 :=
  ⟨Z32, World.alloc_heap_new w _, Z32_size, fun j hj => by
    have hj' : j < Z32L.length := by rw [Z32L_len]; exact hj
    have := digC_at Z32L j hj'
    have e : Z32L[j] = 0 := List.getElem_replicate ..
    rw [show Z32 = digC Z32L from rfl, this, e]
    rfl⟩
theorem Arr8.done {W : World} {g : Nat} {S : ByteArray} (h : Arr8 W g S 32) (h32 : 32 ≤ S.size) : W.heap[g]? = some (.cells (digC (S.data.toList.take 32)) 37 (0, 0)) := by
  obtain ⟨cs, h1, h2, h3⟩ := h
  have : cs = digC (S.data.toList.take 32) := by
    apply Array.ext_getElem?
    intro j
    by_cases hj : j < 32
    · have hl : j < (S.data.toList.take 32).length := by rw [List.length_take, ← Lib.size_eq]; omega
      rw [h3 j hj, if_pos hj, digC_at _ j hl, byt_at (by omega)]
      simp only [List.getElem_take, Array.getElem_toList]
      rfl
    · rw [Array.getElem?_eq_none (by omega), Array.getElem?_eq_none (by rw [digC_size, List.length_take, ← Lib.size_eq]; omega)]
  rw [h1, this]

set_option maxRecDepth 100000 in
set_option maxHeartbeats 1000000 in
theorem sDigest_any (b : Nat) (S : ByteArray) (e : Int) (w : World) (h : Sr 51 b S e w) (hS : S.size ≤ 9223372036854775807) :
    Calls Try.prog 25 #[.pointer (some ⟨b, 0, none⟩)] w fun r w' =>
      r = .returned (.agg (digC (dgM S e).1)) ∧ Sr 51 b (dgM S e).2.1 (dgM S e).2.2 w' ∧ Rm b w w' := by
  have hbl := h.lt
  have HH0 := Lib.hid h; clear h
  by_cases he : e = 0
  · subst he
    by_cases hs : S.size < 32
    · have hX : Hid (dgM S 0 = (Z32L, S, 5)) := by show _ = _; unfold dgM digP; rw [if_neg (by simp), if_pos hs, if_pos (by simp)]
      have hsi : (S.size : Int) < 32 := by omega
      go_enter Try.func25, Try.ntmps25
      go_upto_region 2 with (first | refine alloc32 rfl rfl ?_ | refine build32 rfl rfl ?_ | refine store32 Z32L Z32L_len rfl _ _ rfl rfl rfl rfl ?_)
      obtain ⟨W, hW⟩ : ∃ W, (w.alloc (.cells Z32 37)).alloc (.cells Z32 37) = W := ⟨_, rfl⟩
      have hg : Gr w W := by rw [← hW]; exact ((Gr.rfl' _).al _).al _
      have h0 : W.heap[w.heap.size]? = some (.cells Z32 37 (0, 0)) := by
        rw [← hW]; exact (Below.heap_alloc _ _ _ (by simp)).trans (World.alloc_heap_new _ _)
      have h1 : W.heap[w.heap.size + 1]? = some (.cells Z32 37 (0, 0)) := by
        have := World.alloc_heap_new (w.alloc (.cells Z32 37)) (.cells Z32 37)
        rw [World.size_alloc] at this
        rw [← hW]; exact this
      have hW' : (w.alloc (.cells Z32 37)).alloc (.cells (digC Z32L) 37) = W := hW
      rw [hW']
      clear hW hW'
      have HH := Lib.hid (HH0.out.gr hg)
      have c0 := HH.out.cell0
      have c1 := HH.out.cell1
      have f1 := HH.out.frz 1
      have h0'' : (W.setCell ⟨b, 1, none⟩ (.int .i64 5)).heap[w.heap.size]? = some (.cells Z32 37 (0, 0)) := (Below.heap_setCell _ _ _ _ (by show w.heap.size ≠ b; omega)).trans h0
      have h6'' : (W.setCell ⟨b, 1, none⟩ (.int .i64 5)).heap[w.heap.size + 1]? = some (.cells Z32 37 (0, 0)) := (Below.heap_setCell _ _ _ _ (by show w.heap.size + 1 ≠ b; omega)).trans h1
      go_wp2_with (first
        | refine wpList_load_row rfl 37 _ rfl (w.heap.size + 1) rfl 37 Z32 (0, 0) _ h6'' Try.underlying37 rfl (by rw [Z32_size]; exact sizeDig) ?_
        | refine wpList_store_row rfl 37 _ _ rfl w.heap.size Z32 rfl rfl 37 Z32 h0'' (by rw [Z32_size]; exact sizeDig) rfl (digC_one _) ?_)
      rw [setRow_self _ _ Z32 _ _ h0'']
      have hL := load32 _ w.heap.size Z32L Z32L_len h0''
      refine bodyPost_ret (v := .agg (digC Z32L)) ?_ rfl ?_
      · simp [results, Try.results25, Act.put, asA, hL]
      · rw [hX.out]
        exact ⟨rfl, HH.out.set1, (Rm.of hg).setCell _ _⟩
    · have h32 : 32 ≤ S.size := by omega
      have hl : (S.data.toList.take 32).length = 32 := by rw [List.length_take, ← Lib.size_eq]; omega
      have hX : Hid (dgM S 0 = (S.data.toList.take 32, cutB S 32, 0)) := by show _ = _; unfold dgM digP; rw [if_neg (by simp), if_neg hs, if_neg (by simp)]
      have hsi : decide ((S.size : Int) < 32) = false := decide_eq_false (by omega)
      clear hs
      go_enter Try.func25, Try.ntmps25
      have hA0 := Arr8.start (w.alloc (.cells Z32 37)) S
      rw [World.size_alloc] at hA0
      go_upto_region 2 with (first | refine alloc32 rfl rfl ?_ | refine build32 rfl rfl ?_ | refine store32 Z32L Z32L_len rfl _ _ rfl rfl rfl rfl ?_)
      obtain ⟨W, hW⟩ : ∃ W, (w.alloc (.cells Z32 37)).alloc (.cells Z32 37) = W := ⟨_, rfl⟩
      have hg : Gr w W := by rw [← hW]; exact ((Gr.rfl' _).al _).al _
      have h0 : W.heap[w.heap.size]? = some (.cells Z32 37 (0, 0)) := by
        rw [← hW]; exact (Below.heap_alloc _ _ _ (by simp)).trans (World.alloc_heap_new _ _)
      rw [hW] at hA0
      have hW' : (w.alloc (.cells Z32 37)).alloc (.cells (digC Z32L) 37) = W := hW
      rw [hW']
      clear hW hW'
      have HA0 := Lib.hid hA0; clear hA0
      have HG := Lib.hid hg
      have H0 := Lib.hid h0
      have HH := Lib.hid (HH0.out.gr hg)
      have c0 := HH.out.cell0
      have c1 := HH.out.cell1
      clear hg h0
      go_wp2
      clear c0 c1 HH
      go_loopw [4] (fun i wr => ∃ k : Nat, k ≤ 32 ∧ i = .int .i64 k ∧ Hid (Arr8 wr (w.heap.size + 1) S k) ∧ Hid (wr.heap[w.heap.size]? = some (.cells Z32 37 (0, 0))) ∧ Hid (Gr w wr)) (fun i _ => 32 - (intOf i).toNat)
      case atStart => exact ⟨0, by omega, rfl, HA0, H0, HG⟩
      case round =>
        clear HA0 H0 HG
        obtain ⟨k, hk, rfl, hA, h0, hG⟩ := hrel
        have HH := HH0.out.gr hG.out
        have c0 := HH.cell0
        have HHs := Lib.hid HH; clear HH
        by_cases hk32 : k < 32
        · have hki : (k : Int) < 32 := by omega
          have hks : k < S.size := by omega
          have hksi : (k : Int) < S.size := by omega
          obtain ⟨⟨v, hv⟩, hfz⟩ := hA.out.facts hk32
          have hst := Lib.hid (hA.out.set hk32 (byt_at hks))
          go_wp2
          go_roundw
          case rel => exact ⟨k + 1, by omega, by go_num, hst, Lib.hid ((Below.heap_setCell _ _ _ _ (by show w.heap.size ≠ w.heap.size + 1; omega)).trans h0.out), Lib.hid (hG.out.set (by show w.heap.size ≤ w.heap.size + 1; omega) _)⟩
          case measure => simp [intOf]; omega
        · have hk2 : k = 32 := by omega
          subst hk2
          have h6 := hA.out.done h32
          have f0 := HHs.out.frz 0
          have h32i : (32 : Int) ≤ S.size := by omega
          have h0'' : (wr.setCell ⟨b, 0, none⟩ (.string (S.extract 32 S.size))).heap[w.heap.size]? = some (.cells Z32 37 (0, 0)) := (Below.heap_setCell _ _ _ _ (by show w.heap.size ≠ b; omega)).trans h0.out
          have h6'' : (wr.setCell ⟨b, 0, none⟩ (.string (S.extract 32 S.size))).heap[w.heap.size + 1]? = some (.cells (digC (S.data.toList.take 32)) 37 (0, 0)) := (Below.heap_setCell _ _ _ _ (by show w.heap.size + 1 ≠ b; omega)).trans h6
          go_wp2_with (first
            | refine wpList_load_row rfl 37 _ rfl (w.heap.size + 1) rfl 37 (digC (S.data.toList.take 32)) (0, 0) _ h6'' Try.underlying37 rfl (by rw [digC_size, hl]; exact sizeDig) ?_
            | refine wpList_store_row rfl 37 _ _ rfl w.heap.size (digC (S.data.toList.take 32)) rfl rfl 37 Z32 h0'' (by rw [digC_size, hl]; exact sizeDig) (by rw [Z32_size, digC_size, hl]) (digC_one _) ?_)
          have h2 := setRow_heap _ w.heap.size Z32 (digC (S.data.toList.take 32)) _ _ h0''
          have hL := load32 _ w.heap.size _ hl h2
          refine bodyPost_ret (v := .agg (digC (S.data.toList.take 32))) ?_ rfl ?_
          · simp [results, Try.results25, Act.put, asA, hL]
          · rw [hX.out]
            exact ⟨rfl, (HHs.out.set0).setRow (by omega) _, ((Rm.of hG.out).setCell _ _).setRow (Nat.le_refl _) _⟩
  · have hX : Hid (dgM S e = (Z32L, S, e)) := by show _ = _; unfold dgM; rw [if_pos he]
    have heb : (e == 0) = false := by simpa using he
    have heb2 : (e != 0) = true := by simpa using he
    go_enter Try.func25, Try.ntmps25
    go_upto_region 2 with (first | refine alloc32 rfl rfl ?_ | refine build32 rfl rfl ?_ | refine store32 Z32L Z32L_len rfl _ _ rfl rfl rfl rfl ?_)
    obtain ⟨W, hW⟩ : ∃ W, (w.alloc (.cells Z32 37)).alloc (.cells Z32 37) = W := ⟨_, rfl⟩
    have hg : Gr w W := by rw [← hW]; exact ((Gr.rfl' _).al _).al _
    have h0 : W.heap[w.heap.size]? = some (.cells Z32 37 (0, 0)) := by
      rw [← hW]; exact (Below.heap_alloc _ _ _ (by simp)).trans (World.alloc_heap_new _ _)
    have h1 : W.heap[w.heap.size + 1]? = some (.cells Z32 37 (0, 0)) := by
      have := World.alloc_heap_new (w.alloc (.cells Z32 37)) (.cells Z32 37)
      rw [World.size_alloc] at this
      rw [← hW]; exact this
    have hW' : (w.alloc (.cells Z32 37)).alloc (.cells (digC Z32L) 37) = W := hW
    rw [hW']
    clear hW hW'
    have HH := Lib.hid (HH0.out.gr hg)
    have c0 := HH.out.cell0
    have c1 := HH.out.cell1
    go_wp2_with (first
      | refine wpList_load_row rfl 37 _ rfl (w.heap.size + 1) rfl 37 Z32 (0, 0) _ h1 Try.underlying37 rfl (by rw [Z32_size]; exact sizeDig) ?_
      | refine wpList_store_row rfl 37 _ _ rfl w.heap.size Z32 rfl rfl 37 Z32 h0 (by rw [Z32_size]; exact sizeDig) rfl (digC_one _) ?_)
    rw [setRow_self _ _ Z32 _ _ h0]
    have hL := load32 _ w.heap.size Z32L Z32L_len h0
    refine bodyPost_ret (v := .agg (digC Z32L)) ?_ rfl ?_
    · simp [results, Try.results25, Act.put, asA, hL]
    · rw [hX.out]
      exact ⟨rfl, HH.out, Rm.of hg⟩
end Go.Proofs.Ytgbpolejjfipgaa
