/- ops.put. -/
import Derived.Test.YtjjdgmabgiembaaDoorOpsB
import Derived.Great.Walk
set_option linter.unusedVariables false
set_option linter.unusedSimpArgs false
set_option maxHeartbeats 400000
namespace Go.Proofs.YtjjdgmabgiembaaDoor
open Go.RowKit Go.Shelf

def wnum (n : Int) (s : List UInt8 × Int) : List UInt8 × Int := wput (numOk n) (putS n).data.toList s
def wtxt (t : ByteArray) (s : List UInt8 × Int) : List UInt8 × Int := wput (decide (t.size ≤ 65536)) ((putS t.size).data.toList ++ t.data.toList) s
def cwnum (b : Bool) (n : Int) (s : List UInt8 × Int) : List UInt8 × Int := if b = true then wnum n s else s
def cwtxt (b : Bool) (t : ByteArray) (s : List UInt8 × Int) : List UInt8 × Int := if b = true then wtxt t s else s
theorem wputL (is : Bool) (t : List UInt8) (s : List UInt8 × Int) (n : Nat) (h : is = true → t.length ≤ n) : (wput is t s).1.length ≤ s.1.length + n := by
  unfold wput
  split
  · omega
  · cases is with
    | true => have := h rfl; simp; omega
    | false => simp
theorem wnum_len (n : Int) (s : List UInt8 × Int) : (wnum n s).1.length ≤ s.1.length + 5 := wputL _ _ _ _ (fun _ => putS_len n)
theorem wtxt_len (t : ByteArray) (s : List UInt8 × Int) : (wtxt t s).1.length ≤ s.1.length + 65541 := wputL _ _ _ _ (fun h => by have h := of_decide_eq_true h; have := putS_len t.size; rw [List.length_append, ← Lib.size_eq t]; omega)
theorem cwnum_len (b : Bool) (n : Int) (s : List UInt8 × Int) : (cwnum b n s).1.length ≤ s.1.length + 5 := by
  unfold cwnum; split
  · exact wnum_len _ _
  · omega
theorem cwtxt_len (b : Bool) (t : ByteArray) (s : List UInt8 × Int) : (cwtxt b t s).1.length ≤ s.1.length + 65541 := by
  unfold cwtxt; split
  · exact wtxt_len _ _
  · omega
/-- whether a kind has a field -/
def bitB (fl : Int) (d : Int) : Bool := bits .and .i64 (fl / d) 1 == 1
/-- the numbers that are put, up to the i-th -/
def nTo (fl : Int) (v : List Int) (s : List UInt8 × Int) : Nat → List UInt8 × Int
  | 0 => s
  | i + 1 => cwnum (bitB fl (2 ^ i)) (v.getD i 0) (nTo fl v s i)
def tTo (fl : Int) (v : List ByteArray) (s : List UInt8 × Int) : Nat → List UInt8 × Int
  | 0 => s
  | i + 1 => cwtxt (bitB fl (2 ^ (4 + i))) (v.getD i ⟨#[]⟩) (tTo fl v s i)
theorem nTo_len (fl : Int) (v : List Int) (s : List UInt8 × Int) : ∀ i, (nTo fl v s i).1.length ≤ s.1.length + 5 * i
  | 0 => by simp [nTo]
  | i + 1 => by
    have h1 := cwnum_len (bitB fl (2 ^ i)) (v.getD i 0) (nTo fl v s i)
    have h2 := nTo_len fl v s i
    simp only [nTo]; omega
theorem tTo_len (fl : Int) (v : List ByteArray) (s : List UInt8 × Int) : ∀ i, (tTo fl v s i).1.length ≤ s.1.length + 65541 * i
  | 0 => by simp [tTo]
  | i + 1 => by
    have h1 := cwtxt_len (bitB fl (2 ^ (4 + i))) (v.getD i ⟨#[]⟩) (tTo fl v s i)
    have h2 := tTo_len fl v s i
    exact Nat.le_trans h1 (by omega)
theorem nTo_t {fl : Int} {v : List Int} {s : List UInt8 × Int} {i : Nat} (h : bitB fl (2 ^ i) = true) : nTo fl v s (i + 1) = wnum (v.getD i 0) (nTo fl v s i) := by rw [nTo, h]; rfl
theorem nTo_f {fl : Int} {v : List Int} {s : List UInt8 × Int} {i : Nat} (h : bitB fl (2 ^ i) = false) : nTo fl v s (i + 1) = nTo fl v s i := by rw [nTo, h]; rfl
theorem tTo_t {fl : Int} {v : List ByteArray} {s : List UInt8 × Int} {i : Nat} (h : bitB fl (2 ^ (4 + i)) = true) : tTo fl v s (i + 1) = wtxt (v.getD i ⟨#[]⟩) (tTo fl v s i) := by rw [tTo, h]; rfl
theorem tTo_f {fl : Int} {v : List ByteArray} {s : List UInt8 × Int} {i : Nat} (h : bitB fl (2 ^ (4 + i)) = false) : tTo fl v s (i + 1) = tTo fl v s i := by rw [tTo, h]; rfl
/-- what an operation put comes to -/
def oput (x : Opx) (s : List UInt8 × Int) : List UInt8 × Int :=
  if ochk x ≠ 0 then wfail (ochk x) s
  else tTo (flds.getD x.K.toNat 0) [x.Pa, x.Da] (nTo (flds.getD x.K.toNat 0) [x.T, x.N, x.A, x.M] (wnum x.P (wnum x.K s)) 4) 2
theorem ochk_kind {x : Opx} (h : ochk x = 0) : 0 ≤ x.K ∧ x.K < 13 := by
  unfold ochk at h
  by_cases hk : decide (0 ≤ x.K ∧ x.K < 13) = false
  · rw [if_pos hk] at h; cases h
  · simpa using hk

theorem wNum2 (B b : Nat) (s : List UInt8 × Int) (n : Int) (w : World) (h : Wr B b s.1 s.2 w) (hlen : s.1.length + 5 ≤ 140737488355328) :
    Calls Tryd.prog 25 #[.pointer (some ⟨b, 0, none⟩), .int .i64 n] w fun r w' => r = .returned (.tuple #[]) ∧ Wr B b (wnum n s).1 (wnum n s).2 w' ∧ Wm B b w w' := wNumber_any B b s.1 s.2 n w h hlen
theorem wTxt2 (B b : Nat) (s : List UInt8 × Int) (t : ByteArray) (w : World) (h : Wr B b s.1 s.2 w) (hlen : s.1.length + 65541 ≤ 140737488355328) :
    Calls Tryd.prog 43 #[.pointer (some ⟨b, 0, none⟩), .string t] w fun r w' => r = .returned (.tuple #[]) ∧ Wr B b (wtxt t s).1 (wtxt t s).2 w' ∧ Wm B b w w' := wText_any B b s.1 s.2 t w h hlen

/-- the operation in its box, behind a writer's method -/
theorem oAt {B b g : Nat} {x : Opx} {w w' : World} (h : w.heap[g]? = some (.cells x.cells 23 (0, 0))) (hg : g ≠ b) (m : Wm B b w w') : w'.heap[g]? = some (.cells x.cells 23 (0, 0)) := m.typ g _ h hg (by simp [isU8])
theorem oCell {g j : Nat} {x : Opx} {w : World} {v : Value} (h : w.heap[g]? = some (.cells x.cells 23 (0, 0))) (hv : x.cells[j]? = some v) : w.cell? ⟨g, j, none⟩ = some v := by
  simp only [World.cell?, h]; exact hv

set_option maxRecDepth 100000 in
set_option maxHeartbeats 2000000 in
theorem put_any (B b : Nat) (s : List UInt8 × Int) (x : Opx) (w0 w : World) (hF : Fl w0) (hg0 : Gr w0 w) (hB : w0.heap.size ≤ B) (h : Wr B b s.1 s.2 w) (hlen : s.1.length + 200000 ≤ 140737488355328) :
    Calls Tryd.prog 26 #[.pointer (some ⟨b, 0, none⟩), .agg x.cells] w fun r w' => r = .returned (.tuple #[]) ∧ Wr B b (oput x s).1 (oput x s).2 w' ∧ Wm B b w w' := by
  have hbl := h.lt
  have hga := Lib.hid ((Gr.rfl' w).al (.cells x.cells 23))
  have HB0 := Lib.hid (World.alloc_heap_new w (.cells x.cells 23))
  have HH := Lib.hid (h.gr hga.out)
  have HF := Lib.hid hF
  clear h hF
  by_cases hc : ochk x = 0
  · have hk := ochk_kind hc
    obtain ⟨k, hkk⟩ : ∃ k : Nat, x.K = k := ⟨x.K.toNat, by omega⟩
    have hk13 : k < 13 := by omega
    obtain ⟨fl, hfl⟩ : ∃ fl, fl = flds[k]'hk13 := ⟨_, rfl⟩
    have hX : Hid (oput x s = tTo fl [x.Pa, x.Da] (nTo fl [x.T, x.N, x.A, x.M] (wnum x.P (wnum x.K s)) 4) 2) := by
      show _ = _
      unfold oput
      rw [if_neg (by simpa using hc)]
      have : flds.getD x.K.toNat 0 = fl := by
        rw [hkk, Int.toNat_natCast, List.getD_eq_getElem?_getD, List.getElem?_eq_getElem (show k < flds.length from hk13), hfl]; rfl
      rw [this]
    have HFk : Hid (∀ W, Gr w0 W → W.cell? ⟨0, k, none⟩ = some (.int .i64 fl)) := fun W hW => by rw [hfl]; exact (HF.out.gr hW) k hk13
    have hki : (k : Int) < 13 := by omega
    have HK := Lib.hid hkk
    have hl1 := wnum_len x.K s
    have hl2 := wnum_len x.P (wnum x.K s)
    clear hfl hk hkk
    go_enter Tryd.func26, Tryd.ntmps26
    go_wp2_with (first | refine wpList_load_row rfl 23 _ rfl w.heap.size rfl 23 x.cells (0, 0) _ HB0.out Tryd.underlying23 rfl (by kernel_rfl) ?_)
    refine (oCheck_any x _ (HF.out.gr (hg0.tr hga.out))).mono ?_
    rintro r w1 ⟨rfl, hg1⟩
    rw [hc]
    have HB1 := Lib.hid ((hg1.block _ (Array.getElem?_eq_some_iff.1 HB0.out).1).trans HB0.out)
    have H1 := Lib.hid (HH.out.gr hg1)
    have hgb : w.heap.size ≠ b := by omega
    have hG1 := Lib.hid ((hg0.tr hga.out).tr hg1)
    have M1 := Lib.hid ((Wm.refl B b w).gr (hga.out.tr hg1))
    clear hg1 HH HB0
    have q0 : w1.cell? ⟨w.heap.size, 0, none⟩ = some (.int .i64 x.K) := oCell HB1.out rfl
    go_wp2_with fail
    refine (wNum2 B b s x.K _ H1.out (by omega)).mono ?_
    rintro r w2 ⟨rfl, h2, m2⟩
    have H2 := Lib.hid h2
    have HB2 := Lib.hid (oAt HB1.out hgb m2)
    have M2 := Lib.hid (M1.out.trans m2)
    have hG2 := Lib.hid (m2.below hG1.out hB)
    clear h2 m2 q0 H1 HB1 M1 hG1
    have q1 : w2.cell? ⟨w.heap.size, 1, none⟩ = some (.int .i64 x.P) := oCell HB2.out rfl
    go_wp2_with fail
    refine (wNum2 B b _ x.P _ H2.out (by omega)).mono ?_
    rintro r w3 ⟨rfl, h3, m3⟩
    have H3 := Lib.hid h3
    have HB3 := Lib.hid (oAt HB2.out hgb m3)
    have M3 := Lib.hid (M2.out.trans m3)
    have hG3 := Lib.hid (m3.below hG2.out hB)
    clear h3 m3 q1 H2 HB2 M2 hG2
    have q0 : w3.cell? ⟨w.heap.size, 0, none⟩ = some (.int .i64 k) := by rw [← HK.out]; exact oCell HB3.out rfl
    have q2 : w3.cell? ⟨w.heap.size, 2, none⟩ = some (.int .i64 x.T) := oCell HB3.out rfl
    have q3 : w3.cell? ⟨w.heap.size, 3, none⟩ = some (.int .i64 x.N) := oCell HB3.out rfl
    have q4 : w3.cell? ⟨w.heap.size, 4, none⟩ = some (.int .i64 x.A) := oCell HB3.out rfl
    have q5 : w3.cell? ⟨w.heap.size, 5, none⟩ = some (.int .i64 x.M) := oCell HB3.out rfl
    have qf := HFk.out _ hG3.out
    have i0 : ∀ w, (Instr.index 69 (.agg #[.int .i64 x.T, .int .i64 x.N, .int .i64 x.A, .int .i64 x.M]) (.int .i64 0)).run Tryd.prog w = .ok (.int .i64 x.T) w := fun _ => by kernel_rfl
    have i1 : ∀ w, (Instr.index 69 (.agg #[.int .i64 x.T, .int .i64 x.N, .int .i64 x.A, .int .i64 x.M]) (.int .i64 1)).run Tryd.prog w = .ok (.int .i64 x.N) w := fun _ => by kernel_rfl
    have i2 : ∀ w, (Instr.index 69 (.agg #[.int .i64 x.T, .int .i64 x.N, .int .i64 x.A, .int .i64 x.M]) (.int .i64 2)).run Tryd.prog w = .ok (.int .i64 x.A) w := fun _ => by kernel_rfl
    have i3 : ∀ w, (Instr.index 69 (.agg #[.int .i64 x.T, .int .i64 x.N, .int .i64 x.A, .int .i64 x.M]) (.int .i64 3)).run Tryd.prog w = .ok (.int .i64 x.M) w := fun _ => by kernel_rfl
    obtain ⟨s2, hs2⟩ : ∃ s2, s2 = wnum x.P (wnum x.K s) := ⟨_, rfl⟩
    rw [← hs2] at H3 hX hl2
    clear hs2
    have hNL := Lib.hid (nTo_len fl [x.T, x.N, x.A, x.M] s2)
    go_wp2
    clear q0 q2 q3 q4 q5 qf
    go_loopw [38] (fun i wr => ∃ j : Nat, ∃ q : Int, j ≤ 4 ∧ i = .int .i64 q ∧ q = j ∧ Hid (Wr B b (nTo fl [x.T, x.N, x.A, x.M] s2 j).1 (nTo fl [x.T, x.N, x.A, x.M] s2 j).2 wr) ∧ Hid (wr.heap[w.heap.size]? = some (.cells x.cells 23 (0, 0))) ∧ Hid (Wm B b w wr)) (fun i _ => 4 - (intOf i).toNat)
    case atStart => exact ⟨0, 0, by omega, rfl, rfl, H3, HB3, M3⟩
    case round =>
      clear H3 HB3 M3 hG3
      obtain ⟨j, q, hj, rfl, hq, HW, HBr, HM⟩ := hrel
      have h5 : j = 0 ∨ j = 1 ∨ j = 2 ∨ j = 3 ∨ j = 4 := by omega
      rcases h5 with rfl | rfl | rfl | rfl | rfl
      · obtain rfl : q = 0 := by omega
        clear hq
        have hnl := hNL.out 0
        have hbe : Hid (bitB fl (2 ^ 0) = (bits .and .i64 (fl) 1 == 1)) := by show _ = _; unfold bitB; rw [show (2 : Int) ^ 0 = 1 from rfl, Int.ediv_one]
        cases hb : (bits .and .i64 (fl) 1 == 1) with
        | true =>
          go_wp2_with fail
          refine (wNum2 B b _ x.T _ HW.out (by omega)).mono ?_
          rintro r w4 ⟨rfl, h4, m4⟩
          have H4 : Hid (Wr B b (nTo fl [x.T, x.N, x.A, x.M] s2 (0 + 1)).1 (nTo fl [x.T, x.N, x.A, x.M] s2 (0 + 1)).2 w4) := by show Wr _ _ _ _ _; rw [nTo_t (hbe.out.trans hb)]; exact h4
          have HB4 := Lib.hid (oAt HBr.out hgb m4)
          have M4 := Lib.hid (HM.out.trans m4)
          clear h4 m4
          go_wp2
          go_roundw
          case rel => exact ⟨1, 1, by omega, rfl, rfl, H4, HB4, M4⟩
          case measure => simp [intOf]
        | false =>
          have H4 : Hid (Wr B b (nTo fl [x.T, x.N, x.A, x.M] s2 (0 + 1)).1 (nTo fl [x.T, x.N, x.A, x.M] s2 (0 + 1)).2 wr) := by show Wr _ _ _ _ _; rw [nTo_f (hbe.out.trans hb)]; exact HW.out
          go_wp2
          go_roundw
          case rel => exact ⟨1, 1, by omega, rfl, rfl, H4, HBr, HM⟩
          case measure => simp [intOf]
      · obtain rfl : q = 1 := by omega
        clear hq
        have hnl := hNL.out 1
        have hbe : Hid (bitB fl (2 ^ 1) = (bits .and .i64 (fl / 2) 1 == 1)) := by show _ = _; unfold bitB; rfl
        cases hb : (bits .and .i64 (fl / 2) 1 == 1) with
        | true =>
          go_wp2_with fail
          refine (wNum2 B b _ x.N _ HW.out (by omega)).mono ?_
          rintro r w4 ⟨rfl, h4, m4⟩
          have H4 : Hid (Wr B b (nTo fl [x.T, x.N, x.A, x.M] s2 (1 + 1)).1 (nTo fl [x.T, x.N, x.A, x.M] s2 (1 + 1)).2 w4) := by show Wr _ _ _ _ _; rw [nTo_t (hbe.out.trans hb)]; exact h4
          have HB4 := Lib.hid (oAt HBr.out hgb m4)
          have M4 := Lib.hid (HM.out.trans m4)
          clear h4 m4
          go_wp2
          go_roundw
          case rel => exact ⟨2, 2, by omega, rfl, rfl, H4, HB4, M4⟩
          case measure => simp [intOf]
        | false =>
          have H4 : Hid (Wr B b (nTo fl [x.T, x.N, x.A, x.M] s2 (1 + 1)).1 (nTo fl [x.T, x.N, x.A, x.M] s2 (1 + 1)).2 wr) := by show Wr _ _ _ _ _; rw [nTo_f (hbe.out.trans hb)]; exact HW.out
          go_wp2
          go_roundw
          case rel => exact ⟨2, 2, by omega, rfl, rfl, H4, HBr, HM⟩
          case measure => simp [intOf]
      · obtain rfl : q = 2 := by omega
        clear hq
        have hnl := hNL.out 2
        have hbe : Hid (bitB fl (2 ^ 2) = (bits .and .i64 (fl / 4) 1 == 1)) := by show _ = _; unfold bitB; rfl
        cases hb : (bits .and .i64 (fl / 4) 1 == 1) with
        | true =>
          go_wp2_with fail
          refine (wNum2 B b _ x.A _ HW.out (by omega)).mono ?_
          rintro r w4 ⟨rfl, h4, m4⟩
          have H4 : Hid (Wr B b (nTo fl [x.T, x.N, x.A, x.M] s2 (2 + 1)).1 (nTo fl [x.T, x.N, x.A, x.M] s2 (2 + 1)).2 w4) := by show Wr _ _ _ _ _; rw [nTo_t (hbe.out.trans hb)]; exact h4
          have HB4 := Lib.hid (oAt HBr.out hgb m4)
          have M4 := Lib.hid (HM.out.trans m4)
          clear h4 m4
          go_wp2
          go_roundw
          case rel => exact ⟨3, 3, by omega, rfl, rfl, H4, HB4, M4⟩
          case measure => simp [intOf]
        | false =>
          have H4 : Hid (Wr B b (nTo fl [x.T, x.N, x.A, x.M] s2 (2 + 1)).1 (nTo fl [x.T, x.N, x.A, x.M] s2 (2 + 1)).2 wr) := by show Wr _ _ _ _ _; rw [nTo_f (hbe.out.trans hb)]; exact HW.out
          go_wp2
          go_roundw
          case rel => exact ⟨3, 3, by omega, rfl, rfl, H4, HBr, HM⟩
          case measure => simp [intOf]
      · obtain rfl : q = 3 := by omega
        clear hq
        have hnl := hNL.out 3
        have hbe : Hid (bitB fl (2 ^ 3) = (bits .and .i64 (fl / 8) 1 == 1)) := by show _ = _; unfold bitB; rfl
        cases hb : (bits .and .i64 (fl / 8) 1 == 1) with
        | true =>
          go_wp2_with fail
          refine (wNum2 B b _ x.M _ HW.out (by omega)).mono ?_
          rintro r w4 ⟨rfl, h4, m4⟩
          have H4 : Hid (Wr B b (nTo fl [x.T, x.N, x.A, x.M] s2 (3 + 1)).1 (nTo fl [x.T, x.N, x.A, x.M] s2 (3 + 1)).2 w4) := by show Wr _ _ _ _ _; rw [nTo_t (hbe.out.trans hb)]; exact h4
          have HB4 := Lib.hid (oAt HBr.out hgb m4)
          have M4 := Lib.hid (HM.out.trans m4)
          clear h4 m4
          go_wp2
          go_roundw
          case rel => exact ⟨4, 4, by omega, rfl, rfl, H4, HB4, M4⟩
          case measure => simp [intOf]
        | false =>
          have H4 : Hid (Wr B b (nTo fl [x.T, x.N, x.A, x.M] s2 (3 + 1)).1 (nTo fl [x.T, x.N, x.A, x.M] s2 (3 + 1)).2 wr) := by show Wr _ _ _ _ _; rw [nTo_f (hbe.out.trans hb)]; exact HW.out
          go_wp2
          go_roundw
          case rel => exact ⟨4, 4, by omega, rfl, rfl, H4, HBr, HM⟩
          case measure => simp [intOf]
      · obtain rfl : q = 4 := by omega
        clear hq i0 i1 i2 i3
        have hnl := hNL.out 4
        have q6 : wr.cell? ⟨w.heap.size, 6, none⟩ = some (.string x.Pa) := oCell HBr.out rfl
        have q7 : wr.cell? ⟨w.heap.size, 7, none⟩ = some (.string x.Da) := oCell HBr.out rfl
        have j0 : ∀ w, (Instr.index 70 (.agg #[.string x.Pa, .string x.Da]) (.int .i64 0)).run Tryd.prog w = .ok (.string x.Pa) w := fun _ => by kernel_rfl
        have j1 : ∀ w, (Instr.index 70 (.agg #[.string x.Pa, .string x.Da]) (.int .i64 1)).run Tryd.prog w = .ok (.string x.Da) w := fun _ => by kernel_rfl
        obtain ⟨s3, hs3⟩ : ∃ s3, s3 = nTo fl [x.T, x.N, x.A, x.M] s2 4 := ⟨_, rfl⟩
        rw [← hs3] at HW hX hnl
        clear hs3
        have hTL := Lib.hid (tTo_len fl [x.Pa, x.Da] s3)
        go_wp2
        clear q6 q7
        have HW0 := HW
        have HM0 := HM
        go_loopw [56] (fun i wr => ∃ j : Nat, ∃ q : Int, j ≤ 2 ∧ i = .int .i64 q ∧ q = j ∧ Hid (Wr B b (tTo fl [x.Pa, x.Da] s3 j).1 (tTo fl [x.Pa, x.Da] s3 j).2 wr) ∧ Hid (Wm B b w wr)) (fun i _ => 2 - (intOf i).toNat)
        case atStart => exact ⟨0, 0, by omega, rfl, rfl, HW0, HM0⟩
        case round =>
          clear HW HM HW0 HM0 HBr
          obtain ⟨j, q, hj, rfl, hq, HW, HM⟩ := hrel
          have h3 : j = 0 ∨ j = 1 ∨ j = 2 := by omega
          rcases h3 with rfl | rfl | rfl
          · obtain rfl : q = 0 := by omega
            clear hq
            have htl := hTL.out 0
            have hbe : Hid (bitB fl (2 ^ (4 + 0)) = (bits .and .i64 (fl / 16) 1 == 1)) := by show _ = _; unfold bitB; rfl
            cases hb : (bits .and .i64 (fl / 16) 1 == 1) with
            | true =>
              go_wp2_with fail
              refine (wTxt2 B b _ x.Pa _ HW.out (by omega)).mono ?_
              rintro r w4 ⟨rfl, h4, m4⟩
              have H4 : Hid (Wr B b (tTo fl [x.Pa, x.Da] s3 (0 + 1)).1 (tTo fl [x.Pa, x.Da] s3 (0 + 1)).2 w4) := by show Wr _ _ _ _ _; rw [tTo_t (hbe.out.trans hb)]; exact h4
              have M4 := Lib.hid (HM.out.trans m4)
              clear h4 m4
              go_wp2
              go_roundw
              case rel => exact ⟨1, 1, by omega, rfl, rfl, H4, M4⟩
              case measure => simp [intOf]
            | false =>
              have H4 : Hid (Wr B b (tTo fl [x.Pa, x.Da] s3 (0 + 1)).1 (tTo fl [x.Pa, x.Da] s3 (0 + 1)).2 wr) := by show Wr _ _ _ _ _; rw [tTo_f (hbe.out.trans hb)]; exact HW.out
              go_wp2
              go_roundw
              case rel => exact ⟨1, 1, by omega, rfl, rfl, H4, HM⟩
              case measure => simp [intOf]
          · obtain rfl : q = 1 := by omega
            clear hq
            have htl := hTL.out 1
            have hbe : Hid (bitB fl (2 ^ (4 + 1)) = (bits .and .i64 (fl / 32) 1 == 1)) := by show _ = _; unfold bitB; rfl
            cases hb : (bits .and .i64 (fl / 32) 1 == 1) with
            | true =>
              go_wp2_with fail
              refine (wTxt2 B b _ x.Da _ HW.out (by omega)).mono ?_
              rintro r w4 ⟨rfl, h4, m4⟩
              have H4 : Hid (Wr B b (tTo fl [x.Pa, x.Da] s3 (1 + 1)).1 (tTo fl [x.Pa, x.Da] s3 (1 + 1)).2 w4) := by show Wr _ _ _ _ _; rw [tTo_t (hbe.out.trans hb)]; exact h4
              have M4 := Lib.hid (HM.out.trans m4)
              clear h4 m4
              go_wp2
              go_roundw
              case rel => exact ⟨2, 2, by omega, rfl, rfl, H4, M4⟩
              case measure => simp [intOf]
            | false =>
              have H4 : Hid (Wr B b (tTo fl [x.Pa, x.Da] s3 (1 + 1)).1 (tTo fl [x.Pa, x.Da] s3 (1 + 1)).2 wr) := by show Wr _ _ _ _ _; rw [tTo_f (hbe.out.trans hb)]; exact HW.out
              go_wp2
              go_roundw
              case rel => exact ⟨2, 2, by omega, rfl, rfl, H4, HM⟩
              case measure => simp [intOf]
          · obtain rfl : q = 2 := by omega
            clear hq
            go_wp2
            go_end0
            rw [hX.out]
            exact ⟨rfl, HW.out, HM.out⟩
  · have hX : Hid (oput x s = wfail (ochk x) s) := by show _ = _; unfold oput; rw [if_pos hc]
    have hcb : (ochk x != 0) = true := by simpa using hc
    go_enter Tryd.func26, Tryd.ntmps26
    go_wp2_with (first | refine wpList_load_row rfl 23 _ rfl w.heap.size rfl 23 x.cells (0, 0) _ HB0.out Tryd.underlying23 rfl (by kernel_rfl) ?_)
    refine (oCheck_any x _ (HF.out.gr (hg0.tr hga.out))).mono ?_
    rintro r w1 ⟨rfl, hg1⟩
    go_wp2_with fail
    refine (wFail_any B b s.1 s.2 (ochk x) _ (HH.out.gr hg1)).mono ?_
    rintro r w2 ⟨rfl, h2, m2⟩
    go_wp2
    refine bodyPost_ret (results_none rfl _ _ _) rfl ?_
    rw [hX.out]
    exact ⟨rfl, h2, ((Wm.refl _ _ _).gr (hga.out.tr hg1)).trans m2⟩
end Go.Proofs.YtjjdgmabgiembaaDoor
