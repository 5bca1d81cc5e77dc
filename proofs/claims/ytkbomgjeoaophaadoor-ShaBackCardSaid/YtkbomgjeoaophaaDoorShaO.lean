/- sha: ShaHexes, ShaPieces. -/
import Derived.Test.YtkbomgjeoaophaaDoorShaN
set_option linter.unusedVariables false
set_option linter.unusedSimpArgs false
set_option maxHeartbeats 4000000
namespace Go.Proofs.YtkbomgjeoaophaaDoor
open Go.RowKit Go.Great

theorem run_eqlStr (s : ByteArray) (w : World) : (binOp .eql 9 (.string s) (.string s)).run Tryd.prog w = .ok (.bool true) w := by
  go_simp
set_option maxRecDepth 100000 in
theorem shaHexes_walk (d : List UInt8) (hd : d.length = 32) (w : World) (hK : Keys w 1) (hw : 1 < w.heap.size) : Calls Tryd.prog 5 #[.agg (bC d)] w fun r w' => r = .returned (.bool true) ∧ Gr w w' := by
  have HK := Lib.hid hK; clear hK
  have HW : Hid (∀ W, Gr w W → Calls Tryd.prog 8 #[] W fun r w' => r = .returned (.bool true) ∧ Gr W w') := Lib.hid (fun W g => wide_any W (HK.out.gr g) (Nat.lt_of_lt_of_le hw g.size))
  have HG := Lib.hid (Gr.rfl' w)
  obtain ⟨s, hs⟩ : ∃ s : ByteArray, (⟨(hexS d).toArray⟩ : ByteArray) = s := ⟨_, rfl⟩
  have HX : Hid (∀ W, Calls Tryd.prog 13 #[.agg (bC d)] W fun r w' => r = .returned (.string s) ∧ Gr W w') := Lib.hid (fun W => by rw [← hs]; exact Hex_any d hd W)
  have HY : Hid (∀ W, Calls Tryd.prog 14 #[.agg (bC d)] W fun r w' => r = .returned (.string s) ∧ Gr W w') := Lib.hid (fun W => by rw [← hs]; exact rHex_any d hd W)
  clear hs
  obtain ⟨w0, e0⟩ : ∃ w0, w.alloc (.cells (bC d) 24) = w0 := ⟨_, rfl⟩
  have g0 : Gr w w0 := by rw [← e0]; exact (Gr.rfl' _).al _
  have HRG : Hid (∀ W, Gr w0 W → W.rangeAt w.heap.size 0 (bC d).toList) := Lib.hid (fun W g => by
    have h0 : Bs w0 w.heap.size 24 d := by rw [← e0]; exact Bs.new _ _ _
    have := World.rangeAt_of_block (w := W) (h0.gr g) 0 (bC d).size
    simpa using this)
  replace HG := Lib.hid g0
  have HWx : Hid (∀ W, Gr w0 W → Calls Tryd.prog 8 #[] W fun r w' => r = .returned (.bool true) ∧ Gr W w') := Lib.hid (fun W g => HW.out W (g0.tr g))
  have hgd : Gr w0 w0.drew := (Gr.rfl' _).dr
  have hu := Tryd.underlying24
  have hs32 : (Tryd.prog.info? 24).map (·.size) = some (bC d).toList.length := by rw [sz32]; simp [bC, hd]
  clear g0
  go_enter Tryd.func5, Tryd.ntmps5
  go_wp2_with (rw [e0])
  refine region_T 8 (fun w' => Gr w0 w') (by kernel_rfl) ?_
  have hSS : Gr w0 w0.drew := hgd
  refine anyT_take (i := 0) (some 3) rfl rfl (by kernel_rfl) (fun _ _ _ h => h) (yieldsIf_load_mid (by rfl) _ _ rfl _ _ rfl (bC d).toList _ (fun w' hSw => HRG.out _ hSw) hu rfl hs32) hSS ?_
  simp only [Act.put, List.setIfInBounds_toArray, List.set_cons_zero, List.set_cons_succ, Array.toArray_toList]
  refine anyT_take (i := 2) (some 5) rfl rfl (by kernel_rfl) (fun _ _ _ h => h) (yieldsIf_load_mid (by rfl) _ _ rfl _ _ rfl (bC d).toList _ (fun w' hSw => HRG.out _ hSw) hu rfl hs32) hSS ?_
  simp only [Act.put, List.setIfInBounds_toArray, List.set_cons_zero, List.set_cons_succ, Array.toArray_toList]
  refine anyT_call (i := 1) (some 4) 13 #[.agg (bC d)] (by kernel_rfl) rfl rfl rfl (by kernel_rfl) ?_
  refine (HX.out _).mono ?_
  rintro r wc ⟨rfl, hgc⟩
  replace hSS := hSS.tr hgc
  refine ⟨_, rfl, fun _ => hSS, ?_⟩
  simp only [Act.put, List.setIfInBounds_toArray, List.set_cons_zero, List.set_cons_succ]
  refine anyT_call (i := 3) (some 6) 14 #[.agg (bC d)] (by kernel_rfl) rfl rfl rfl (by kernel_rfl) ?_
  refine (HY.out _).mono ?_
  rintro r wd ⟨rfl, hgd2⟩
  replace hSS := hSS.tr hgd2
  refine ⟨_, rfl, fun _ => hSS, ?_⟩
  simp only [Act.put, List.setIfInBounds_toArray, List.set_cons_zero, List.set_cons_succ]
  refine anyT_take (i := 4) (v := ?_) (some 7) rfl rfl (by kernel_rfl) (fun _ _ _ h => h) (Or.inl ⟨by rfl, ?_⟩) hSS ?_
  rotate_left
  · intro w' hSw; go_simp; (try with_reducible rfl)
  simp only [Act.put, List.setIfInBounds_toArray, List.set_cons_zero, List.set_cons_succ]
  refine anyT_take (i := 5) (v := ?_) (some 8) rfl rfl (by kernel_rfl) (fun _ _ _ h => h) (Or.inl ⟨by rfl, ?_⟩) hSS ?_
  rotate_left
  · intro w' hSw; go_simp; (try with_reducible rfl)
  simp only [Act.put, List.setIfInBounds_toArray, List.set_cons_zero, List.set_cons_succ]
  refine anyT_callG (i := 6) (some 9) 8 #[] (by kernel_rfl) rfl (by rfl) rfl (by kernel_rfl) ?_
  refine (HWx.out _ hSS).mono ?_
  rintro r we ⟨rfl, hge2⟩
  replace hSS := hSS.tr hge2
  refine ⟨_, rfl, fun _ => hSS, ?_⟩
  simp only [Act.put, List.setIfInBounds_toArray, List.set_cons_zero, List.set_cons_succ]
  refine anyT_take (i := 7) (v := ?_) (some 10) rfl rfl (by kernel_rfl) (fun _ _ _ h => h) (Or.inl ⟨by rfl, ?_⟩) hSS ?_
  rotate_left
  · intro w' hSw; go_simp; (try with_reducible rfl)
  simp only [Act.put, List.setIfInBounds_toArray, List.set_cons_zero, List.set_cons_succ]
  refine anyT_last (some 2) (.bool true) (by kernel_rfl) (by kernel_rfl) rfl (by rfl) rfl (by kernel_rfl) ?_
  replace hgd := hSS
  go_wp2
  go_ret
  exact ⟨rfl, HG.out.tr hgd⟩

/-- A Sum that has had l -/
def SumSt (w : World) (B b : Nat) (l : List UInt8) : Prop :=
  ∃ bg h v, h.length = 8 ∧ SumAt w b bg h v ((l.length : Nat) : Int) ∧ OwnB w B v (l.drop (64 * (l.length / 64))) ∧ effH bg h = blks startL l (l.length / 64)
theorem SumSt.lt {w : World} {B b : Nat} {l : List UInt8} (h : SumSt w B b l) : b < w.heap.size := by
  obtain ⟨_, _, _, _, h1, _⟩ := h; exact h1.lt
theorem SumSt.gr {w w' : World} {B b : Nat} {l : List UInt8} (h : SumSt w B b l) (g : Gr w w') : SumSt w' B b l := by
  obtain ⟨bg, hh, v, h0, h1, h2, h3⟩ := h
  exact ⟨bg, hh, v, h0, h1.gr g, h2.gr g, h3⟩
theorem SumSt.new (w : World) : SumSt (w.alloc (.cells (sumC false (Zw 8) (.slice none 0 0) 0) 34)) w.heap.size w.heap.size [] :=
  ⟨false, Zw 8, .slice none 0 0, rfl, World.alloc_heap_new _ _, OwnB.nil _ _, by simp; rfl⟩
theorem blks_more (l t : List UInt8) : blks startL (l ++ t) ((l ++ t).length / 64) = blks (blks startL l (l.length / 64)) (l.drop (64 * (l.length / 64)) ++ t) ((l.drop (64 * (l.length / 64)) ++ t).length / 64) := by
  have e : l = l.take (64 * (l.length / 64)) ++ l.drop (64 * (l.length / 64)) := (List.take_append_drop _ _).symm
  have hq : (l.take (64 * (l.length / 64))).length = 64 * (l.length / 64) := by rw [List.length_take]; omega
  have hb : blks startL l (l.length / 64) = blks startL (l.take (64 * (l.length / 64))) (l.length / 64) := by
    have := blks_app startL (l.take (64 * (l.length / 64))) (l.drop (64 * (l.length / 64))) (l.length / 64) hq 0
    rw [← e] at this
    exact this
  have h1 : l ++ t = l.take (64 * (l.length / 64)) ++ (l.drop (64 * (l.length / 64)) ++ t) := by rw [← List.append_assoc, ← e]
  have h2 : (l ++ t).length / 64 = l.length / 64 + (l.drop (64 * (l.length / 64)) ++ t).length / 64 := by
    rw [h1, List.length_append, hq]; omega
  rw [h2, h1, hb]
  exact blks_app startL _ _ _ hq _
theorem drop_app (a x : List UInt8) (q n : Nat) (h : a.length = 64 * q) : (a ++ x).drop (64 * (q + n)) = x.drop (64 * n) := by
  rw [List.drop_append, List.drop_of_length_le (by omega), List.nil_append]
  congr 1
  omega
theorem drop_more (l t : List UInt8) : (l ++ t).drop (64 * ((l ++ t).length / 64)) = (l.drop (64 * (l.length / 64)) ++ t).drop (64 * ((l.drop (64 * (l.length / 64)) ++ t).length / 64)) := by
  have e : l = l.take (64 * (l.length / 64)) ++ l.drop (64 * (l.length / 64)) := (List.take_append_drop _ _).symm
  have hq : (l.take (64 * (l.length / 64))).length = 64 * (l.length / 64) := by rw [List.length_take]; omega
  have h1 : l ++ t = l.take (64 * (l.length / 64)) ++ (l.drop (64 * (l.length / 64)) ++ t) := by rw [← List.append_assoc, ← e]
  have h2 : (l ++ t).length / 64 = l.length / 64 + (l.drop (64 * (l.length / 64)) ++ t).length / 64 := by
    rw [h1, List.length_append, hq]; omega
  rw [h2]
  conv => lhs; rw [h1]
  exact drop_app _ _ _ _ hq
theorem SumSt.write {w : World} {B b : Nat} {l : List UInt8} (h : SumSt w B b l) (t : ByteArray) (hK : Keys w 1) (hBb : B ≤ b) (hB1 : 1 < B) (hlen : l.length + t.size ≤ 1000000) :
    Calls Tryd.prog 11 #[.pointer (some ⟨b, 0, none⟩), .string t] w fun r w' => r = .returned (.tuple #[]) ∧ SumSt w' B b (l ++ t.data.toList) ∧ Below B w w' := by
  obtain ⟨bg, hh, v, h0, h1, h2, h3⟩ := h
  refine (Write_any B b bg hh _ v _ t w h0 hK h1 h2 hBb hB1 (by rw [List.length_drop]; omega) (by omega) (by omega)).mono ?_
  rintro r w' ⟨rfl, ⟨v', hS, hO⟩, hB⟩
  refine ⟨rfl, ⟨true, _, v', blks_len (effH_len h0) _ _, ?_, ?_, by show blks (effH bg hh) _ _ = _; rw [h3, blks_more]⟩, hB⟩
  · rw [h3, ← blks_more] at hS
    have e : ((l.length : Int) + (t.size : Int)) = (((l ++ t.data.toList).length : Nat) : Int) := by rw [List.length_append, ← Lib.size_eq]; omega
    rw [e] at hS
    rw [h3, ← blks_more]
    exact hS
  · rw [drop_more]; exact hO
theorem SumSt.value {w : World} {B b : Nat} {l : List UInt8} (h : SumSt w B b l) (hK : Keys w 1) (hlen : l.length ≤ 1000000) :
    Calls Tryd.prog 12 #[.pointer (some ⟨b, 0, none⟩)] w fun r w' => r = .returned (.agg (bC (shaV l))) ∧ Gr w w' := by
  obtain ⟨bg, hh, v, h0, h1, h2, h3⟩ := h
  have := Value_any b bg hh _ v l.length B w h0 hK h1 h2 (by omega) (by rw [List.length_drop]; omega)
  rw [h3, valV_rest] at this
  exact this
theorem Write_nil (t : ByteArray) (w : World) : Calls Tryd.prog 11 #[.pointer none, .string t] w fun r w' => r = .returned (.tuple #[]) ∧ w' = w := by
  go_enter Tryd.func11, Tryd.ntmps11
  go_wp2
  refine bodyPost_ret (results_none rfl _ _ _) rfl ?_
  exact ⟨rfl, rfl⟩
/-- texts in a slice -/
def Txts (w : World) (A : Option Addr) (l : List ByteArray) : Prop := ∀ i (h : i < l.length), ∃ ad, A = some ad ∧ w.cell? (ad.add i) = some (.string l[i])
theorem Txts.gr {w w' : World} {A : Option Addr} {l : List ByteArray} (h : Txts w A l) (g : Gr w w') : Txts w' A l := fun i hi => let ⟨ad, e, a⟩ := h i hi; ⟨ad, e, g.cell a⟩
def catB (l : List ByteArray) : List UInt8 := l.flatMap fun s => s.data.toList
theorem catB_snoc (l : List ByteArray) (s : ByteArray) : catB (l ++ [s]) = catB l ++ s.data.toList := by simp [catB]

theorem ZbC : bC Zb = #[.int .u8 0, .int .u8 0, .int .u8 0, .int .u8 0, .int .u8 0, .int .u8 0, .int .u8 0, .int .u8 0, .int .u8 0, .int .u8 0, .int .u8 0, .int .u8 0, .int .u8 0, .int .u8 0, .int .u8 0, .int .u8 0, .int .u8 0, .int .u8 0, .int .u8 0, .int .u8 0, .int .u8 0, .int .u8 0, .int .u8 0, .int .u8 0, .int .u8 0, .int .u8 0, .int .u8 0, .int .u8 0, .int .u8 0, .int .u8 0, .int .u8 0, .int .u8 0] := by kernel_rfl
theorem run_neqZ (w : World) : (binOp .neq 24 (.agg (bC Zb)) (.agg #[.int .u8 0, .int .u8 0, .int .u8 0, .int .u8 0, .int .u8 0, .int .u8 0, .int .u8 0, .int .u8 0, .int .u8 0, .int .u8 0, .int .u8 0, .int .u8 0, .int .u8 0, .int .u8 0, .int .u8 0, .int .u8 0, .int .u8 0, .int .u8 0, .int .u8 0, .int .u8 0, .int .u8 0, .int .u8 0, .int .u8 0, .int .u8 0, .int .u8 0, .int .u8 0, .int .u8 0, .int .u8 0, .int .u8 0, .int .u8 0, .int .u8 0, .int .u8 0])).run Tryd.prog w = .ok (.bool false) w := by
  have := run_neqDig Zb Zb rfl rfl w
  rw [show (!decide (Zb = Zb)) = false by simp] at this
  conv at this => lhs; arg 2; arg 4; rw [ZbC]
  exact this
set_option maxRecDepth 100000 in
theorem shaPieces_walk (A : Option Addr) (l : List ByteArray) (cap : Nat) (w : World) (hT : Txts w A l) (hl : l.length ≤ 9223372036854775807) (hK : Keys w 1) (hK0 : Keys w 0) (hw : 1 < w.heap.size) :
    Calls Tryd.prog 4 #[.slice A l.length cap] w fun r w' => r = .returned (.bool true) ∧ Gr w w' := by
  have HK := Lib.hid hK; clear hK
  have HK0 := Lib.hid hK0; clear hK0
  have HT := Lib.hid hT; clear hT
  have HW : Hid (∀ W, Gr w W → Calls Tryd.prog 8 #[] W fun r w' => r = .returned (.bool true) ∧ Gr W w') := Lib.hid (fun W g => wide_any W (HK.out.gr g) (Nat.lt_of_lt_of_le hw g.size))
  go_enter Tryd.func4, Tryd.ntmps4
  obtain ⟨w0, e0⟩ : ∃ w0, w.alloc (.cells (sumC false (Zw 8) (.slice none 0 0) 0) 34) = w0 := ⟨_, rfl⟩
  have g0 : Gr w w0 := by rw [← e0]; exact (Gr.rfl' _).al _
  have HS0 : Hid (SumSt w0 w.heap.size w.heap.size (catB (l.take 0))) := by
    rw [← e0]
    exact Lib.hid (SumSt.new w)
  have HG0 := Lib.hid g0
  have e0' : w.alloc (.cells #[.bool false, .int .u32 0, .int .u32 0, .int .u32 0, .int .u32 0, .int .u32 0, .int .u32 0, .int .u32 0, .int .u32 0, .slice none 0 0, .int .u64 0] 34) = w0 := e0
  clear g0 e0
  go_upto_region 3 with (rw [e0'])
  clear e0'
  go_upto_block 0 with fail
  go_wp2
  go_loopw [5, 6] (fun v i wx => ∃ k : Nat, k ≤ l.length ∧ k ≤ 20 ∧ i = .int .i64 k ∧ v = .string ⟨(catB (l.take k)).toArray⟩ ∧ Hid ((catB (l.take k)).length ≤ 200 * k) ∧ Hid (SumSt wx w.heap.size w.heap.size (catB (l.take k))) ∧ Hid (Gr w wx)) (fun _ i _ => l.length - (intOf i).toNat)
  case atStart => exact ⟨0, Nat.zero_le _, Nat.zero_le _, rfl, rfl, Lib.hid (by simp [catB]), HS0, HG0⟩
  case round =>
    clear HS0 HG0
    obtain ⟨k, hk, hk20, rfl, rfl, HLC, HS, HG⟩ := hrel
    obtain ⟨all, hall⟩ : ∃ all, catB (l.take k) = all := ⟨_, rfl⟩
    rw [hall] at HS HLC
    rw [hall]
    have HALL := Lib.hid hall
    clear hall
    by_cases hlt : k < l.length ∧ k < 20
    · obtain ⟨hkl, hk2⟩ := hlt
      have h1 : (k : Int) < (l.length : Int) := by omega
      have h2 : (k : Int) < 20 := by omega
      obtain ⟨ad, rfl, hc⟩ := HT.out k hkl
      have hcr : wr.cell? (ad.add k) = some (.string l[k]) := HG.out.cell hc
      have hca : catB (l.take (k + 1)) = all ++ l[k].data.toList := by rw [List.take_succ_eq_append_getElem hkl, catB_snoc, HALL.out]
      obtain ⟨t, ht⟩ : ∃ t, l[k] = t := ⟨_, rfl⟩
      rw [ht] at hca hcr
      have HCA := Lib.hid hca
      have hBw : 1 < w.heap.size := hw
      have hlc := HLC.out
      have HCR : Hid (∀ W, Gr w W → W.cell? (ad.add k) = some (.string t)) := Lib.hid (fun W g => by rw [← ht]; exact g.cell hc)
      clear hca ht hc hk20
      by_cases hbig : 200 < t.size
      · have hb : (200 : Int) < (t.size : Int) := by omega
        go_wp2_with fail
        refine (HW.out _ HG.out).mono ?_
        rintro r w1 ⟨rfl, g1⟩
        replace HG := Lib.hid (HG.out.tr g1)
        clear g1
        go_wp2
        go_ret
        exact ⟨rfl, HG.out⟩
      · have hb : ¬ (200 : Int) < (t.size : Int) := by omega
        go_wp2_with fail
        refine (HS.out.write t (HK.out.gr HG.out) (Nat.le_refl _) hBw (by omega)).mono ?_
        rintro r w1 ⟨rfl, hS1, hB1⟩
        have HS1 := Lib.hid hS1
        replace HG : Hid (Gr w w1) := Lib.hid (HG.out.trans hB1)
        have c1 := HCR.out _ HG.out
        clear hS1 hB1 hcr
        go_wp2_with fail
        refine (Write_nil t _).mono ?_
        rintro r w2 ⟨rfl, rfl⟩
        go_wp2_with fail
        refine (HS1.out.value (HK.out.gr HG.out) (by rw [List.length_append, ← Lib.size_eq]; omega)).mono ?_
        rintro r w2 ⟨rfl, g2⟩
        replace HG := Lib.hid (HG.out.tr g2)
        replace HS1 := Lib.hid (HS1.out.gr g2)
        clear g2 c1
        have hcat : (⟨all.toArray⟩ : ByteArray) ++ t = ⟨(catB (l.take (k + 1))).toArray⟩ := by
          rw [HCA.out]
          apply ByteArray.ext
          simp [ByteArray.data_append]
        rw [← HCA.out] at HS1
        obtain ⟨nx, hnx⟩ : ∃ nx, catB (l.take (k + 1)) = nx := ⟨_, rfl⟩
        rw [← HCA.out, hcat]
        rw [hnx]
        rw [hnx] at HS1 HCA
        have HLN : Hid (nx.length ≤ 200 * (k + 1)) := by rw [HCA.out, List.length_append, ← Lib.size_eq]; exact Lib.hid (by omega)
        have HNX := Lib.hid hnx
        have hneq := run_neqDig (shaV nx) (shaV nx) (valV_len _ _ _) (valV_len _ _ _)
        rw [show decide (shaV nx = shaV nx) = true from decide_eq_true rfl] at hneq
        have hneq2 := run_neqZ
        have hrr : (⟨nx.toArray⟩ : ByteArray).size + 200 ≤ 140737488355328 := by
          have e : (⟨nx.toArray⟩ : ByteArray).size = nx.length := by show nx.toArray.size = _; simp
          have := HLN.out
          omega
        have hrr2 : (⟨nx.toArray⟩ : ByteArray).data.toList = nx := by simp
        have HRO : Hid (∀ W, Gr w W → Calls Tryd.prog 10 #[.string ⟨nx.toArray⟩] W fun r w' => r = .returned (.agg (bC (shaV nx))) ∧ Gr W w') := Lib.hid (fun W g => by
          have := rOf_any ⟨nx.toArray⟩ W (HK0.out.gr g) hrr
          rw [hrr2] at this
          exact this)
        clear hnx hcat hrr hrr2
        go_wp2_with fail
        refine (HRO.out _ HG.out).mono ?_
        rintro r w3 ⟨rfl, g3⟩
        replace HG := Lib.hid (HG.out.tr g3)
        replace HS1 := Lib.hid (HS1.out.gr g3)
        clear g3
        go_wp2_with fail
        refine (Value_nil _).mono ?_
        rintro r w4 ⟨rfl, g4⟩
        replace HG := Lib.hid (HG.out.tr g4)
        replace HS1 := Lib.hid (HS1.out.gr g4)
        clear g4
        go_wp2
        go_roundw
        case rel => exact ⟨k + 1, by omega, by omega, by go_num, by rw [HNX.out], by rw [HNX.out]; exact HLN, by rw [HNX.out]; exact HS1, HG⟩
        case measure => simp [intOf]; omega
    · have hex : ¬ ((k : Int) < (l.length : Int)) ∨ ((k : Int) < (l.length : Int)) ∧ ¬ ((k : Int) < 20) := by omega
      have hlc := HLC.out
      have heq := run_eqlDig (shaV all) (shaV all) (valV_len _ _ _) (valV_len _ _ _)
      rw [show decide (shaV all = shaV all) = true from decide_eq_true rfl] at heq
      have hrr : (⟨all.toArray⟩ : ByteArray).size + 200 ≤ 140737488355328 := by
        have e : (⟨all.toArray⟩ : ByteArray).size = all.length := by show all.toArray.size = _; simp
        omega
      have hrr2 : (⟨all.toArray⟩ : ByteArray).data.toList = all := by simp
      have HRO : Hid (∀ W, Gr w W → Calls Tryd.prog 10 #[.string ⟨all.toArray⟩] W fun r w' => r = .returned (.agg (bC (shaV all))) ∧ Gr W w') := Lib.hid (fun W g => by
        have := rOf_any ⟨all.toArray⟩ W (HK0.out.gr g) hrr
        rw [hrr2] at this
        exact this)
      clear hrr hrr2 hlt
      rcases hex with h1 | ⟨h1, h2⟩
      all_goals
        go_wp2_with fail
        refine (HS.out.value (HK.out.gr HG.out) (by omega)).mono ?_
        rintro r w2 ⟨rfl, g2⟩
        replace HG : Hid (Gr w w2) := Lib.hid (HG.out.tr g2)
        clear g2
        go_wp2_with fail
        refine (HRO.out _ HG.out).mono ?_
        rintro r w3 ⟨rfl, g3⟩
        replace HG : Hid (Gr w w3) := Lib.hid (HG.out.tr g3)
        clear g3
        go_wp2_with fail
        refine (HW.out _ HG.out).mono ?_
        rintro r w4 ⟨rfl, g4⟩
        replace HG : Hid (Gr w w4) := Lib.hid (HG.out.tr g4)
        clear g4
        go_wp2
        go_ret
        exact ⟨rfl, HG.out⟩
end Go.Proofs.YtkbomgjeoaophaaDoor
