/- hearsaylaw10.CoderWrites. -/
import Derived.Test.YtgbpolejjfipgaaLwB
set_option linter.unusedVariables false
set_option linter.unusedSimpArgs false
set_option maxHeartbeats 800000
namespace Go.Proofs.Ytgbpolejjfipgaa
open Go.RowKit Go.Shelf Go.Great

def Z35 : Array Value := (([Value.int .i64 0, Value.int .i64 0, Value.string ⟨#[]⟩] : List Value) ++ List.replicate 32 (Value.int .u8 0)).toArray
theorem Z35_info : (Try.prog.info? 39).map (fun i => (i.zero, i.size)) = some (some (.agg Z35), 35) := by kernel_rfl
theorem Z35_size : Z35.size = 35 := by kernel_rfl
theorem alloc35 {ops : Array Oper} {rest : List Oper} {o : Oper} {a : Act} {w : World} {Q : Exit → Act → World → Prop} (hg : o.guard = none) (ho : o.op = .alloc 39)
    (h : wpList Try.prog ops Q rest (a.put o.dst (.pointer (some ⟨w.heap.size, 0, none⟩))) (w.alloc (.cells Z35 39))) : wpList Try.prog ops Q (o :: rest) a w := by
  refine wpList_allocTo hg o.dst rfl _ (.cells Z35 39) ?_ h
  have hz := (zero_of_info Z35_info).1
  unfold execOp
  simp [ho, Instr.alloc, hz, Value.cells, go_sem]
theorem one35 (x : Pc) : (x.cells.toArray).all (·.oneCell') = true := by
  rw [Array.all_eq_true_iff_forall_mem]
  intro v hv
  simp [Pc.cells] at hv
  rcases hv with rfl | rfl | rfl | ⟨a, _, rfl⟩ <;> rfl
theorem store35 {ops : Array Oper} {rest : List Oper} {o : Oper} {a : Act} {w : World} {Q : Exit → Act → World → Prop} (c : Pc) (hc : c.ok) (hg : o.guard = none) (x y : Operand) (ho : o.op = .store 39 x y) (hd : o.dst = none)
    (hx : a.eval x = .pointer (some ⟨w.heap.size, 0, none⟩)) (hy : a.eval y = .agg c.cells.toArray)
    (h : wpList Try.prog ops Q rest a (w.alloc (.cells c.cells.toArray 39))) : wpList Try.prog ops Q (o :: rest) a (w.alloc (.cells Z35 39)) := by
  have hsz : c.cells.toArray.size = 35 := by rw [List.size_toArray]; exact Pc.len hc
  refine wpList_store_row hg 39 x y ho w.heap.size c.cells.toArray hx hy 39 Z35 (World.alloc_heap_new w _) (by rw [(zero_of_info Z35_info).2, hsz]) (by rw [Z35_size, hsz]) (one35 c) ?_
  rw [World.setRow_alloc_new, hd]
  exact h

theorem bapp (l : List UInt8) (t : ByteArray) : ((⟨l.toArray⟩ : ByteArray) ++ t) = ⟨(l ++ t.data.toList).toArray⟩ := by
  apply ByteArray.ext
  simp [ByteArray.data_append]
theorem rput_eq (is : Bool) (t : ByteArray) (s : List UInt8 × Int) : rput is t (⟨s.1.toArray⟩, s.2) = (⟨(wput is t.data.toList s).1.toArray⟩, (wput is t.data.toList s).2) := by
  unfold rput wput
  simp only []
  split
  · rfl
  split
  · rw [bapp]
  · rfl
theorem rfail_eq (f : Int) (s : List UInt8 × Int) : rfail f (⟨s.1.toArray⟩, s.2) = (⟨(wfail f s).1.toArray⟩, (wfail f s).2) := by
  unfold rfail wfail
  simp only []
  split <;> rfl
theorem rdone_eq (s : List UInt8 × Int) : rdone (⟨s.1.toArray⟩, s.2) = (⟨(doneV s).1.toArray⟩, (doneV s).2) := by
  unfold rdone doneV
  simp only []
  split <;> rfl
theorem sizeL (l : List UInt8) : (⟨l.toArray⟩ : ByteArray).size = l.length := by simp [ByteArray.size]
theorem Rw.new (w : World) : Rw w.heap.size ⟨#[]⟩ 0 (w.alloc (.cells #[.string ⟨#[]⟩, .int .i64 0] 35)) := World.alloc_heap_new _ _
theorem PcAt.wm {B b : Nat} {w w' : World} {g : Nat} {x : Pc} (h : w.heap[g]? = some (.cells x.cells.toArray 39 (0, 0))) (hx : x.ok) (hg : g ≠ b) (m : Wm B b w w') : PcAt w' ⟨g, 0, none⟩ x := by
  have h' := m.typ g _ h hg (by simp [isU8])
  refine ⟨hx, fun j v hj => ?_⟩
  rw [Addr.add_mid]
  simp only [World.cell?, h']
  simpa using hj

set_option maxRecDepth 100000 in
set_option maxHeartbeats 4000000 in
theorem CoderWrites_any (A : Option Addr) (c0 : Nat) (l : List Pc) (w : World) (h : Pcs w A l) :
    Calls Try.prog 3 #[.slice A l.length c0] w fun r w' => r = .returned (.bool true) ∧ Gr w w' := by
  have H := Lib.hid h; clear h
  have hll := H.out.1
  rcases hm : greatGo 0 0 l with _ | _
  · have hl60 := greatGo_no l 0 0 (by omega) hm
    go_enter Try.func3, Try.ntmps3
    go_wp2_with fail
    refine (great_any A c0 l _ H.out).mono ?_
    rintro r wq ⟨rfl, rfl⟩
    rw [hm]
    clear hm
    have HWr0 := Lib.hid (Wr.new wq wq (Gr.rfl' wq))
    have HRw0 := Lib.hid (Rw.new (wq.alloc (.cells #[.pointer none, .slice none 0 0, .int .i64 0] 32)))
    rw [World.size_alloc] at HRw0
    have hgw := Lib.hid (((Gr.rfl' wq).al (.cells #[.pointer none, .slice none 0 0, .int .i64 0] 32)).al (.cells #[.string ⟨#[]⟩, .int .i64 0] 35))
    have hcb : wq.heap.size + 1 ≠ wq.heap.size := by omega
    have hwb : wq.heap.size ≤ wq.heap.size := Nat.le_refl _
    go_wp2
    go_loopw [5] (fun i wr => ∃ k : Nat, ∃ st : List UInt8 × Int, k ≤ l.length ∧ i = .int .i64 k ∧ Hid (Wr wq.heap.size wq.heap.size st.1 st.2 wr) ∧ Hid (Rw (wq.heap.size + 1) ⟨st.1.toArray⟩ st.2 wr) ∧ Hid (st.1.length ≤ 65541 * k) ∧ Hid (Gr wq wr)) (fun i _ => l.length - (intOf i).toNat)
    case atStart => exact ⟨0, ([], 0), Nat.zero_le _, rfl, Lib.hid (HWr0.out.gr ((Gr.rfl' _).al _)), HRw0, Lib.hid (by simp), hgw⟩
    case round =>
      obtain ⟨k, st, hk, rfl, HWr, HRw, hl, HG⟩ := hrel
      clear HWr0 HRw0 hgw
      by_cases hlt : k < l.length
      · have hki : (k : Int) < l.length := by omega
        have hlen1 : st.1.length + 65541 ≤ 140737488355328 := by have := hl.out; omega
        obtain ⟨ad, rfl, hp⟩ := (H.out.gr HG.out).get k hlt
        have HPk := Lib.hid hp; clear hp
        have hga := Lib.hid ((Gr.rfl' wr).al (.cells l[k].cells.toArray 39))
        by_cases e0 : l[k].K = 0
        · have hk : (l[k].K == 0) = true := by simp [e0]
          have hX : Hid (pput l[k] st = wput (numOk l[k].N) (putS l[k].N).data.toList st) := by show _ = _; unfold pput; rw [if_pos e0]
          clear e0
          go_wp2_with (first | refine wpList_load_at rfl 39 _ rfl _ rfl l[k].cells _ HPk.out.at' Try.underlying39 rfl (by rw [Pc.len HPk.out.ok]; exact sizePc) ?_ | refine alloc35 rfl rfl ?_ | refine store35 l[k] HPk.out.ok rfl _ _ rfl rfl rfl rfl ?_ | refine wpList_load_row rfl 39 _ rfl wr.heap.size rfl 39 l[k].cells.toArray (0, 0) _ (World.alloc_heap_new wr _) Try.underlying39 rfl (by rw [List.size_toArray, Pc.len HPk.out.ok]; exact sizePc) ?_)
          refine (put_any wq.heap.size wq.heap.size st.1 st.2 l[k] HPk.out.ok _ (HWr.out.gr hga.out) hlen1).mono ?_
          rintro r w1 ⟨rfl, h1, m1⟩
          have HP1 := Lib.hid (PcAt.wm (World.alloc_heap_new wr (.cells l[k].cells.toArray 39)) HPk.out.ok (by have := HWr.out.lt; omega) m1)
          have k0 := HP1.out.c0
          have k1 := HP1.out.c1
          have k2 := HP1.out.c2
          have HR1 := Lib.hid ((HRw.out.gr hga.out).wm m1 hcb)
          have HW1 := Lib.hid h1
          have HM1 := Lib.hid m1
          clear h1 m1
          go_wp2_with fail
          refine (rNumber_any (wq.heap.size + 1) ⟨st.1.toArray⟩ st.2 l[k].N _ HR1.out (by rw [sizeL]; omega)).mono ?_
          rintro r w2 ⟨rfl, h2, m2⟩
          have HW2 := Lib.hid (HW1.out.rm HR1.out m2)
          have HG2 := Lib.hid (m2.below (HM1.out.below (HG.out.tr hga.out) hwb) (by omega))
          go_wp2
          go_roundw
          case rel =>
            refine ⟨k + 1, pput l[k] st, by omega, by go_num, HW2, ?_, ?_, HG2⟩
            · rw [hX.out]
              first
                | rw [rput_eq] at h2; exact h2
                | rw [rfail_eq] at h2; exact h2
            · have := pput_len l[k] HPk.out.ok st
              show _ ≤ _
              have h3 := hl.out
              omega
          case measure => simp [intOf]; omega
        have b0 : (l[k].K == 0) = false := by simpa using e0
        by_cases e1 : l[k].K = 1
        · have hk : (l[k].K == 1) = true := by simp [e1]
          have hX : Hid (pput l[k] st = wput (decide (l[k].S.size ≤ 65536)) ((putS l[k].S.size).data.toList ++ l[k].S.data.toList) st) := by show _ = _; unfold pput; rw [if_neg e0, if_pos e1]
          clear e0 e1
          go_wp2_with (first | refine wpList_load_at rfl 39 _ rfl _ rfl l[k].cells _ HPk.out.at' Try.underlying39 rfl (by rw [Pc.len HPk.out.ok]; exact sizePc) ?_ | refine alloc35 rfl rfl ?_ | refine store35 l[k] HPk.out.ok rfl _ _ rfl rfl rfl rfl ?_ | refine wpList_load_row rfl 39 _ rfl wr.heap.size rfl 39 l[k].cells.toArray (0, 0) _ (World.alloc_heap_new wr _) Try.underlying39 rfl (by rw [List.size_toArray, Pc.len HPk.out.ok]; exact sizePc) ?_)
          refine (put_any wq.heap.size wq.heap.size st.1 st.2 l[k] HPk.out.ok _ (HWr.out.gr hga.out) hlen1).mono ?_
          rintro r w1 ⟨rfl, h1, m1⟩
          have HP1 := Lib.hid (PcAt.wm (World.alloc_heap_new wr (.cells l[k].cells.toArray 39)) HPk.out.ok (by have := HWr.out.lt; omega) m1)
          have k0 := HP1.out.c0
          have k1 := HP1.out.c1
          have k2 := HP1.out.c2
          have HR1 := Lib.hid ((HRw.out.gr hga.out).wm m1 hcb)
          have HW1 := Lib.hid h1
          have HM1 := Lib.hid m1
          clear h1 m1
          go_wp2_with fail
          refine (rText_any (wq.heap.size + 1) ⟨st.1.toArray⟩ st.2 l[k].S _ HR1.out (by rw [sizeL]; omega) HPk.out.ok.s).mono ?_
          rintro r w2 ⟨rfl, h2, m2⟩
          have HW2 := Lib.hid (HW1.out.rm HR1.out m2)
          have HG2 := Lib.hid (m2.below (HM1.out.below (HG.out.tr hga.out) hwb) (by omega))
          go_wp2
          go_roundw
          case rel =>
            refine ⟨k + 1, pput l[k] st, by omega, by go_num, HW2, ?_, ?_, HG2⟩
            · rw [hX.out]
              first
                | rw [rput_eq] at h2; exact h2
                | rw [rfail_eq] at h2; exact h2
            · have := pput_len l[k] HPk.out.ok st
              show _ ≤ _
              have h3 := hl.out
              omega
          case measure => simp [intOf]; omega
        have b1 : (l[k].K == 1) = false := by simpa using e1
        by_cases e2 : l[k].K = 2
        · have hk : (l[k].K == 2) = true := by simp [e2]
          have hX : Hid (pput l[k] st = wput true [if (l[k].N == 1) = true then 1 else 0] st) := by show _ = _; unfold pput; rw [if_neg e0, if_neg e1, if_pos e2]
          clear e0 e1 e2
          go_wp2_with (first | refine wpList_load_at rfl 39 _ rfl _ rfl l[k].cells _ HPk.out.at' Try.underlying39 rfl (by rw [Pc.len HPk.out.ok]; exact sizePc) ?_ | refine alloc35 rfl rfl ?_ | refine store35 l[k] HPk.out.ok rfl _ _ rfl rfl rfl rfl ?_ | refine wpList_load_row rfl 39 _ rfl wr.heap.size rfl 39 l[k].cells.toArray (0, 0) _ (World.alloc_heap_new wr _) Try.underlying39 rfl (by rw [List.size_toArray, Pc.len HPk.out.ok]; exact sizePc) ?_)
          refine (put_any wq.heap.size wq.heap.size st.1 st.2 l[k] HPk.out.ok _ (HWr.out.gr hga.out) hlen1).mono ?_
          rintro r w1 ⟨rfl, h1, m1⟩
          have HP1 := Lib.hid (PcAt.wm (World.alloc_heap_new wr (.cells l[k].cells.toArray 39)) HPk.out.ok (by have := HWr.out.lt; omega) m1)
          have k0 := HP1.out.c0
          have k1 := HP1.out.c1
          have k2 := HP1.out.c2
          have HR1 := Lib.hid ((HRw.out.gr hga.out).wm m1 hcb)
          have HW1 := Lib.hid h1
          have HM1 := Lib.hid m1
          clear h1 m1
          go_wp2_with fail
          refine (rFlag_any (wq.heap.size + 1) ⟨st.1.toArray⟩ st.2 (l[k].N == 1) _ HR1.out (by rw [sizeL]; omega)).mono ?_
          rintro r w2 ⟨rfl, h2, m2⟩
          have HW2 := Lib.hid (HW1.out.rm HR1.out m2)
          have HG2 := Lib.hid (m2.below (HM1.out.below (HG.out.tr hga.out) hwb) (by omega))
          go_wp2
          go_roundw
          case rel =>
            refine ⟨k + 1, pput l[k] st, by omega, by go_num, HW2, ?_, ?_, HG2⟩
            · rw [hX.out]
              first
                | rw [rput_eq] at h2; exact h2
                | rw [rfail_eq] at h2; exact h2
            · have := pput_len l[k] HPk.out.ok st
              show _ ≤ _
              have h3 := hl.out
              omega
          case measure => simp [intOf]; omega
        have b2 : (l[k].K == 2) = false := by simpa using e2
        by_cases e3 : l[k].K = 3
        · have hk : (l[k].K == 3) = true := by simp [e3]
          have hX : Hid (pput l[k] st = wput true l[k].D st) := by show _ = _; unfold pput; rw [if_neg e0, if_neg e1, if_neg e2, if_pos e3]
          clear e0 e1 e2 e3
          go_wp2_with (first | refine wpList_load_at rfl 39 _ rfl _ rfl l[k].cells _ HPk.out.at' Try.underlying39 rfl (by rw [Pc.len HPk.out.ok]; exact sizePc) ?_ | refine alloc35 rfl rfl ?_ | refine store35 l[k] HPk.out.ok rfl _ _ rfl rfl rfl rfl ?_ | refine wpList_load_row rfl 39 _ rfl wr.heap.size rfl 39 l[k].cells.toArray (0, 0) _ (World.alloc_heap_new wr _) Try.underlying39 rfl (by rw [List.size_toArray, Pc.len HPk.out.ok]; exact sizePc) ?_)
          refine (put_any wq.heap.size wq.heap.size st.1 st.2 l[k] HPk.out.ok _ (HWr.out.gr hga.out) hlen1).mono ?_
          rintro r w1 ⟨rfl, h1, m1⟩
          have HP1 := Lib.hid (PcAt.wm (World.alloc_heap_new wr (.cells l[k].cells.toArray 39)) HPk.out.ok (by have := HWr.out.lt; omega) m1)
          have k0 := HP1.out.c0
          have k1 := HP1.out.c1
          have k2 := HP1.out.c2
          have HR1 := Lib.hid ((HRw.out.gr hga.out).wm m1 hcb)
          have HW1 := Lib.hid h1
          have HM1 := Lib.hid m1
          clear h1 m1
          go_wp2_with (refine wpList_load_mid rfl 37 _ rfl wr.heap.size 3 rfl (l[k].D.map fun c => Value.int .u8 c.toNat) _ (by simpa using HP1.out.dig) Try.underlying37 rfl (by rw [List.length_map, HPk.out.ok.d]; exact sizeDig) ?_)
          go_wp2_with fail
          refine (rDigest_any (wq.heap.size + 1) ⟨st.1.toArray⟩ st.2 l[k].D HPk.out.ok.d _ HR1.out (by rw [sizeL]; omega)).mono ?_
          rintro r w2 ⟨rfl, h2, m2⟩
          have HW2 := Lib.hid (HW1.out.rm HR1.out m2)
          have HG2 := Lib.hid (m2.below (HM1.out.below (HG.out.tr hga.out) hwb) (by omega))
          go_wp2
          go_roundw
          case rel =>
            refine ⟨k + 1, pput l[k] st, by omega, by go_num, HW2, ?_, ?_, HG2⟩
            · rw [hX.out]
              first
                | rw [rput_eq] at h2; exact h2
                | rw [rfail_eq] at h2; exact h2
            · have := pput_len l[k] HPk.out.ok st
              show _ ≤ _
              have h3 := hl.out
              omega
          case measure => simp [intOf]; omega
        have b3 : (l[k].K == 3) = false := by simpa using e3
        by_cases e4 : l[k].K = 4
        · have hk : (l[k].K == 4) = true := by simp [e4]
          have hX : Hid (pput l[k] st = wfail (bits .and .i64 l[k].N 15) st) := by show _ = _; unfold pput; rw [if_neg e0, if_neg e1, if_neg e2, if_neg e3, if_pos e4]
          clear e0 e1 e2 e3 e4
          go_wp2_with (first | refine wpList_load_at rfl 39 _ rfl _ rfl l[k].cells _ HPk.out.at' Try.underlying39 rfl (by rw [Pc.len HPk.out.ok]; exact sizePc) ?_ | refine alloc35 rfl rfl ?_ | refine store35 l[k] HPk.out.ok rfl _ _ rfl rfl rfl rfl ?_ | refine wpList_load_row rfl 39 _ rfl wr.heap.size rfl 39 l[k].cells.toArray (0, 0) _ (World.alloc_heap_new wr _) Try.underlying39 rfl (by rw [List.size_toArray, Pc.len HPk.out.ok]; exact sizePc) ?_)
          refine (put_any wq.heap.size wq.heap.size st.1 st.2 l[k] HPk.out.ok _ (HWr.out.gr hga.out) hlen1).mono ?_
          rintro r w1 ⟨rfl, h1, m1⟩
          have HP1 := Lib.hid (PcAt.wm (World.alloc_heap_new wr (.cells l[k].cells.toArray 39)) HPk.out.ok (by have := HWr.out.lt; omega) m1)
          have k0 := HP1.out.c0
          have k1 := HP1.out.c1
          have k2 := HP1.out.c2
          have HR1 := Lib.hid ((HRw.out.gr hga.out).wm m1 hcb)
          have HW1 := Lib.hid h1
          have HM1 := Lib.hid m1
          clear h1 m1
          go_wp2_with fail
          refine (rFail_any (wq.heap.size + 1) ⟨st.1.toArray⟩ st.2 (bits .and .i64 l[k].N 15) _ HR1.out).mono ?_
          rintro r w2 ⟨rfl, h2, m2⟩
          have HW2 := Lib.hid (HW1.out.rm HR1.out m2)
          have HG2 := Lib.hid (m2.below (HM1.out.below (HG.out.tr hga.out) hwb) (by omega))
          go_wp2
          go_roundw
          case rel =>
            refine ⟨k + 1, pput l[k] st, by omega, by go_num, HW2, ?_, ?_, HG2⟩
            · rw [hX.out]
              first
                | rw [rput_eq] at h2; exact h2
                | rw [rfail_eq] at h2; exact h2
            · have := pput_len l[k] HPk.out.ok st
              show _ ≤ _
              have h3 := hl.out
              omega
          case measure => simp [intOf]; omega
        have b4 : (l[k].K == 4) = false := by simpa using e4
        have hX : Hid (pput l[k] st = st) := by show _ = _; unfold pput; rw [if_neg e0, if_neg e1, if_neg e2, if_neg e3, if_neg e4]
        clear e0 e1 e2 e3 e4
        go_wp2_with (first | refine wpList_load_at rfl 39 _ rfl _ rfl l[k].cells _ HPk.out.at' Try.underlying39 rfl (by rw [Pc.len HPk.out.ok]; exact sizePc) ?_ | refine alloc35 rfl rfl ?_ | refine store35 l[k] HPk.out.ok rfl _ _ rfl rfl rfl rfl ?_ | refine wpList_load_row rfl 39 _ rfl wr.heap.size rfl 39 l[k].cells.toArray (0, 0) _ (World.alloc_heap_new wr _) Try.underlying39 rfl (by rw [List.size_toArray, Pc.len HPk.out.ok]; exact sizePc) ?_)
        refine (put_any wq.heap.size wq.heap.size st.1 st.2 l[k] HPk.out.ok _ (HWr.out.gr hga.out) hlen1).mono ?_
        rintro r w1 ⟨rfl, h1, m1⟩
        have HP1 := Lib.hid (PcAt.wm (World.alloc_heap_new wr (.cells l[k].cells.toArray 39)) HPk.out.ok (by have := HWr.out.lt; omega) m1)
        have k0 := HP1.out.c0
        have k1 := HP1.out.c1
        have k2 := HP1.out.c2
        have HR1 := Lib.hid ((HRw.out.gr hga.out).wm m1 hcb)
        have HW1 := Lib.hid h1
        have HM1 := Lib.hid m1
        clear h1 m1
        have HG2 := Lib.hid (HM1.out.below (HG.out.tr hga.out) hwb)
        go_wp2
        go_roundw
        case rel =>
          refine ⟨k + 1, pput l[k] st, by omega, by go_num, HW1, ?_, ?_, HG2⟩
          · rw [hX.out]; exact HR1.out
          · have h3 := hl.out
            rw [hX.out]
            show _ ≤ _
            omega
        case measure => simp [intOf]; omega
      · have hkk : k = l.length := by omega
        subst hkk
        go_wp2_with fail
        refine (wDone_any _ _ st.1 st.2 _ HWr.out).mono ?_
        rintro r w2 ⟨rfl, m2⟩
        have HR2 := Lib.hid (HRw.out.wm m2 hcb)
        have HG2 := Lib.hid (m2.below HG.out hwb)
        clear m2
        go_wp2_with fail
        refine (rDone_any _ ⟨st.1.toArray⟩ st.2 _ HR2.out).mono ?_
        rintro r w3 ⟨rfl, hg3⟩
        rw [rdone_eq]
        go_wp2_with fail
        refine (awake_any _).mono ?_
        rintro r w4 ⟨rfl, hg4⟩
        go_wp2
        go_ret
        exact ⟨rfl, (HG2.out.tr hg3).tr hg4⟩
  · go_enter Try.func3, Try.ntmps3
    go_wp2_with fail
    refine (great_any A c0 l _ H.out).mono ?_
    rintro r w1 ⟨rfl, rfl⟩
    rw [hm]
    go_wp2_with fail
    refine (awake_any _).mono ?_
    rintro r w2 ⟨rfl, hg⟩
    go_wp2
    go_ret
    exact ⟨rfl, hg⟩
end Go.Proofs.Ytgbpolejjfipgaa
