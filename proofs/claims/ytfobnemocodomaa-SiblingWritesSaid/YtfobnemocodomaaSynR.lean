/- hearsaylaw07.SiblingWrites. -/
import Derived.Test.YtfobnemocodomaaSynO
set_option linter.unusedVariables false
set_option linter.unusedSimpArgs false
set_option maxHeartbeats 2000000
namespace Go.Proofs.Ytfobnemocodomaa
open Go.RowKit Go.Great

theorem Made1.gr {w w' : World} {A : Option Addr} {c : Nat} {l : List Vx} (h : Made1 w A c l) (g : Gr w w') : Made1 w' A c l := ⟨h.1.gr g, h.2⟩
set_option maxRecDepth 100000 in
theorem SiblingWrites_any (A : Option Addr) (cap : Nat) (l : List Vx) (P C : Int) (T : ByteArray) (w : World) (h : Vers w A l) (hcp : ∀ z ∈ l, z.pl.length ≤ z.pc) (hT : T.size ≤ 9223372036854775807) :
    Calls Try.prog 9 #[.slice A l.length cap, .agg #[.int .i64 P, .int .i64 C], .string T] w fun r w' => r = .returned (.bool true) ∧ Gr w w' := by
  have H := Lib.hid h
  have HCP := Lib.hid hcp
  have HTT := Lib.hid hT
  have hn := World.alloc_heap_new w (.cells #[.int .i64 P, .int .i64 C] 47)
  have hga : Gr w (w.alloc (.cells #[.int .i64 P, .int .i64 C] 47)) := (Gr.rfl' w).al _
  obtain ⟨W, hW⟩ : ∃ V, w.alloc (.cells #[.int .i64 P, .int .i64 C] 47) = V := ⟨_, rfl⟩
  have HWE := Lib.hid hW
  rw [hW] at hn hga
  have HN := Lib.hid hn
  have HG := Lib.hid hga
  have hv1 := VRows.one (cap := cap) (h.gr hga) 22
  have HV := Lib.hid hv1
  have HGA := Lib.hid ((Gr.rfl' W).al (.cells #[.slice A l.length cap] 22))
  clear hn hga hv1 h hcp hT hW
  by_cases h200 : 200 < T.size
  · have h2i : (200 : Int) < T.size := by omega
    have h2g : (T.size : Int) > 200 := by omega
    go_enter Try.func9, Try.ntmps9
    go_upto_region 1 with (fail)
    rw [HWE.out]
    go_wp2_with fail
    refine (vGreat_any _ 1 [⟨A, cap, l⟩] _ HV.out).mono ?_
    rintro r w0 ⟨hr0, hg0⟩
    have GW : Hid (Gr w w0) := Lib.hid (HG.out.tr (HGA.out.tr hg0))
    clear hg0
    rcases hr0 with ⟨rfl, h70⟩ | rfl
    · clear h70
      go_wp2_with fail
      refine (sAwake_any _).mono ?_
      rintro r w3 ⟨rfl, hg3⟩
      go_wp2
      go_ret
      exact ⟨rfl, GW.out.tr hg3⟩
    · skip
      go_wp2_with fail
      refine (sAwake_any _).mono ?_
      rintro r w3 ⟨rfl, hg3⟩
      go_wp2
      go_ret
      exact ⟨rfl, GW.out.tr hg3⟩
  · have h2i : ¬ (200 : Int) < T.size := by omega
    have h2g : ¬ (T.size : Int) > 200 := by omega
    go_enter Try.func9, Try.ntmps9
    go_upto_region 1 with (fail)
    rw [HWE.out]
    obtain ⟨gb, hgb⟩ : ∃ g, w.heap.size = g := ⟨_, rfl⟩
    rw [hgb] at HN ⊢
    clear hgb
    go_wp2_with fail
    refine (vGreat_any _ 1 [⟨A, cap, l⟩] _ HV.out).mono ?_
    rintro r w0 ⟨hr0, hg0⟩
    have G0 := Lib.hid (HGA.out.tr hg0)
    have GW : Hid (Gr w w0) := Lib.hid (HG.out.tr G0.out)
    clear hg0
    rcases hr0 with ⟨rfl, h70⟩ | rfl
    · have H70 : Hid (l.length ≤ 1000000) := Lib.hid (by have := h70 ⟨A, cap, l⟩ (by simp); simp at this; omega)
      clear h70
      have HB : Hid (∀ V, Gr w0 V → V.heap[gb]? = some (.cells #[.int .i64 P, .int .i64 C] 47 (0, 0))) := Lib.hid (fun V g => (g.block _ (Nat.lt_of_lt_of_le (Array.getElem?_eq_some_iff.1 HN.out).1 G0.out.size)).trans ((G0.out.block _ (Array.getElem?_eq_some_iff.1 HN.out).1).trans HN.out))
      have HB0 := Lib.hid (HB.out w0 (Gr.rfl' w0))
      go_wp2_with (refine wpList_load_row rfl 47 (.tmp 4) rfl gb rfl 47 #[.int .i64 P, .int .i64 C] (0, 0) _ HB0.out Try.underlying47 rfl (by kernel_rfl) ?_)
      refine (write1_any A cap l P C T _ (H.out.gr GW.out) HCP.out HTT.out).mono ?_
      rintro r w1 ⟨⟨e1, r1, B1, c1, rfl, hw1, hm1⟩, hg1⟩
      have HW1 := Lib.hid hw1
      have M1 := Lib.hid hm1
      have G1 := Lib.hid hg1
      have HB1 := Lib.hid (HB.out w1 G1.out)
      clear hw1 hm1 hg1 HB0
      go_wp2_with (refine wpList_load_row rfl 47 (.tmp 4) rfl gb rfl 47 #[.int .i64 P, .int .i64 C] (0, 0) _ HB1.out Try.underlying47 rfl (by kernel_rfl) ?_)
      refine (write2_any A cap l P C T _ (H.out.gr (GW.out.tr G1.out)) HTT.out).mono ?_
      rintro r w2 ⟨⟨e2, r2, B2, c2, rfl, hw2, hm2⟩, hg2⟩
      obtain ⟨rfl, hss⟩ := HW1.out.same hw2
      have HSW := Lib.hid hss
      have M2 := Lib.hid hm2
      have G2 := Lib.hid (G1.out.tr hg2)
      have M12 := Lib.hid (M1.out.gr hg2)
      have HB2 := Lib.hid (HB.out w2 G2.out)
      clear hss hw2 hm2 hg2 HB1 M1 HW1
      go_wp2_with (refine wpList_load_row rfl 47 (.tmp 4) rfl gb rfl 47 #[.int .i64 P, .int .i64 C] (0, 0) _ HB2.out Try.underlying47 rfl (by kernel_rfl) ?_)
      refine (erase1_any A cap l P C _ (H.out.gr (GW.out.tr G2.out)) HCP.out H70.out).mono ?_
      rintro r w3 ⟨⟨e3, r3, B3, c3, rfl, hw3, hm3⟩, hg3⟩
      have HW3 := Lib.hid hw3
      have M3 := Lib.hid hm3
      have M13 := Lib.hid (M12.out.gr hg3)
      have M23 := Lib.hid (M2.out.gr hg3)
      have G3 := Lib.hid (G2.out.tr hg3)
      have HB3 := Lib.hid (HB.out w3 G3.out)
      clear hw3 hm3 hg3 HB2 M12 M2
      go_wp2_with (refine wpList_load_row rfl 47 (.tmp 4) rfl gb rfl 47 #[.int .i64 P, .int .i64 C] (0, 0) _ HB3.out Try.underlying47 rfl (by kernel_rfl) ?_)
      refine (erase2_any A cap l P C _ (H.out.gr (GW.out.tr G3.out)) H70.out).mono ?_
      rintro r w4 ⟨⟨e4, r4, B4, c4, rfl, hw4, hm4⟩, hg4⟩
      obtain ⟨rfl, hss⟩ := HW3.out.same hw4
      have HSE := Lib.hid hss
      have M4 := Lib.hid hm4
      have M14 := Lib.hid (M13.out.gr hg4)
      have M24 := Lib.hid (M23.out.gr hg4)
      have M34 := Lib.hid (M3.out.gr hg4)
      have G4 := Lib.hid (G3.out.tr hg4)
      clear hss hw4 hm4 hg4 HB3 M13 M23 M3 HW3
      have hsa := vSames2_any B1 B2 c1 c2 r1 r2 w4 M14.out.1 M24.out.1
      rw [HSW.out] at hsa
      have HSA := Lib.hid hsa
      clear hsa HSW
      go_wp2_with fail
      refine (HSA.out).mono ?_
      rintro r w5 ⟨rfl, hg5⟩
      have hsb := vSames2_any B3 B4 c3 c4 r3 r4 w5 (M34.out.1.gr hg5) (M4.out.1.gr hg5)
      rw [HSE.out] at hsb
      have HSB := Lib.hid hsb
      have G5 := Lib.hid (G4.out.tr hg5)
      clear hsb HSE hg5 HSA
      go_wp2_with fail
      refine (HSB.out).mono ?_
      rintro r w6 ⟨rfl, hg6⟩
      have G6 := Lib.hid (G5.out.tr hg6)
      clear hg6 HSB
      go_wp2_with fail
      refine (sAwake_any _).mono ?_
      rintro r w7 ⟨rfl, hg7⟩
      go_wp2
      go_ret
      exact ⟨rfl, GW.out.tr (G6.out.tr hg7)⟩
    · skip
      go_wp2_with fail
      refine (sAwake_any _).mono ?_
      rintro r w3 ⟨rfl, hg3⟩
      go_wp2
      go_ret
      exact ⟨rfl, GW.out.tr hg3⟩
end Go.Proofs.Ytfobnemocodomaa
