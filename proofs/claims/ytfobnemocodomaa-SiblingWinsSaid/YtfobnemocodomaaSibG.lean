/- Versions: whether one may be. -/
import Derived.Test.YtfobnemocodomaaSibF
set_option linter.unusedVariables false
set_option linter.unusedSimpArgs false
set_option maxHeartbeats 2000000
namespace Go.Proofs.Ytfobnemocodomaa
open Go.RowKit Go.Great

theorem chk_one (p c : Int) : chk [(p, c)] = dotChk p c := by
  unfold chk chkGo chkGo
  by_cases h : dotChk p c = 0
  · rw [if_neg (by simpa using h), h]
    have : ¬ p ≤ -1 := by
      intro hp
      unfold dotChk at h
      rw [if_pos (by omega)] at h
      exact absurd h (by decide)
    rw [if_neg this]
  · rw [if_pos h]
theorem dots_oneV {w : World} (p c : Int) (t : TypeId) : Dots (w.alloc (.cells #[.int .i64 p, .int .i64 c] t)) (some ⟨w.heap.size, 0, none⟩) [(p, c)] := by
  have hn := World.alloc_heap_new w (.cells #[.int .i64 p, .int .i64 c] t)
  refine ⟨by simp, fun i hi => ⟨_, rfl, ?_, ?_⟩⟩
  · obtain rfl : i = 0 := by simpa using hi
    have e : (⟨w.heap.size, 0, none⟩ : Addr).add (0 * 2) = ⟨w.heap.size, 0, none⟩ := by unfold Addr.add; rw [if_pos rfl]
    rw [e]
    simp only [World.cell?, hn]; rfl
  · obtain rfl : i = 0 := by simpa using hi
    have e : (⟨w.heap.size, 0, none⟩ : Addr).add (0 * 2) = ⟨w.heap.size, 0, none⟩ := by unfold Addr.add; rw [if_pos rfl]
    rw [e]
    simp only [World.cell?, hn]; rfl
theorem cellV3 {W : World} {b : Nat} {t : TypeId} {v0 v1 v2 v3 v4 : Value} (h : W.heap[b]? = some (.cells #[v0, v1, v2, v3, v4] t (0, 0))) : W.cell? ⟨b, 3, none⟩ = some v3 := by simp only [World.cell?, h]; rfl
theorem cellV4 {W : World} {b : Nat} {t : TypeId} {v0 v1 v2 v3 v4 : Value} (h : W.heap[b]? = some (.cells #[v0, v1, v2, v3, v4] t (0, 0))) : W.cell? ⟨b, 4, none⟩ = some v4 := by simp only [World.cell?, h]; rfl
theorem tEmp {T : ByteArray} (c4 : T ≠ ⟨#[]⟩) : T.toList.isEmpty = false := by
  rw [Lib.toList_data]
  cases h : T.data.toList.isEmpty
  · rfl
  · exact absurd (by apply ByteArray.ext; apply Array.ext'; simpa using h) c4
/-- why a version may not be -/
def verChk (x : Vx) : Int :=
  if dotChk x.P x.C ≠ 0 then dotChk x.P x.C
  else if chk x.pl ≠ 0 then chk x.pl
  else if hasV x.pl x.P x.C = true then 8
  else if 48 < x.T.size then 2
  else if x.D = true ∧ x.T ≠ ⟨#[]⟩ then 7 else 0
theorem tNe (T : ByteArray) : (T.toList == (⟨#[]⟩ : ByteArray).toList) = decide (T = ⟨#[]⟩) := by
  rw [Bool.eq_iff_iff]
  simp only [beq_iff_eq, decide_eq_true_eq]
  constructor
  · intro h
    rw [Lib.toList_data, Lib.toList_data] at h
    exact ByteArray.ext (Array.ext' h)
  · rintro rfl; rfl

set_option maxRecDepth 100000 in
theorem vCheck1_any (x : Vx) (w : World) (hx : VxOk w x) :
    Calls Try.prog 39 #[.agg x.cells] w fun r w' => r = .returned (.int .i64 (verChk x)) ∧ Gr w w' := by
  have HX := Lib.hid hx
  have hts := hx.2
  obtain ⟨P, C, A, pl, pc, D, T⟩ := x
  clear hx
  unfold Vx.cells
  dsimp only at hts ⊢
  have hg0 : Gr w (w.alloc (.cells #[.int .i64 P, .int .i64 C, .slice A pl.length pc, .bool D, .string T] 49)) := (Gr.rfl' w).al _
  have hn := World.alloc_heap_new w (.cells #[.int .i64 P, .int .i64 C, .slice A pl.length pc, .bool D, .string T] 49)
  have HBX : Hid (∀ W, Gr (w.alloc (.cells #[.int .i64 P, .int .i64 C, .slice A pl.length pc, .bool D, .string T] 49)) W → W.heap[w.heap.size]? = some (.cells #[.int .i64 P, .int .i64 C, .slice A pl.length pc, .bool D, .string T] 49 (0, 0))) := Lib.hid fun W g => (g.block _ (Array.getElem?_eq_some_iff.1 hn).1).trans hn
  have HG := Lib.hid hg0
  clear hn hg0
  have hd1 := dots_oneV (w := w.alloc (.cells #[.int .i64 P, .int .i64 C, .slice A pl.length pc, .bool D, .string T] 49)) P C 47
  have hsz : (w.alloc (.cells #[.int .i64 P, .int .i64 C, .slice A pl.length pc, .bool D, .string T] 49)).heap.size = w.heap.size + 1 := by simp
  rw [hsz] at hd1
  have HC1 := Lib.hid (Check_any _ 1 [(P, C)] _ hd1)
  have HGA : Hid (Gr (w.alloc (.cells #[.int .i64 P, .int .i64 C, .slice A pl.length pc, .bool D, .string T] 49)) ((w.alloc (.cells #[.int .i64 P, .int .i64 C, .slice A pl.length pc, .bool D, .string T] 49)).alloc (.cells #[.int .i64 P, .int .i64 C] 47))) := Lib.hid ((Gr.rfl' _).al _)
  rw [chk_one] at HC1
  simp only [List.length_cons, List.length_nil, Nat.zero_add] at HC1
  clear hd1 hsz
  by_cases c0 : dotChk P C = 0
  · have h0 : (dotChk P C != 0) = false := by simp [c0]
    rw [c0] at HC1
    by_cases c1 : chk pl = 0
    · by_cases c2 : hasV pl P C = true
      · have HV : Hid (verChk ⟨P, C, A, pl, pc, D, T⟩ = 8) := Lib.hid (by unfold verChk; rw [if_neg (by simp [c0]), if_neg (by simp [c1]), if_pos c2])
        go_enter Try.func39, Try.ntmps39
        go_wp2_with fail
        refine (HC1.out).mono ?_
        rintro r w1 ⟨rfl, g1⟩
        have GB := Lib.hid (HGA.out.tr g1)
        have hb1 := HBX.out _ GB.out
        have q0 : w1.cell? ⟨w.heap.size, 0, none⟩ = some (.int .i64 P) := by simp only [World.cell?, hb1]; rfl
        have q1 : w1.cell? ⟨w.heap.size, 1, none⟩ = some (.int .i64 C) := by simp only [World.cell?, hb1]; rfl
        have q2 : w1.cell? ⟨w.heap.size, 2, none⟩ = some (.slice A pl.length pc) := by simp only [World.cell?, hb1]; rfl
        clear hb1 g1
        go_wp2_with fail
        refine (Check_any A pc pl _ (HX.out.1.gr (HG.out.tr GB.out))).mono ?_
        rintro r w2 ⟨rfl, g2⟩
        replace GB := Lib.hid (GB.out.tr g2)
        have GA := Lib.hid (HG.out.tr GB.out)
        clear g2 q0 q1 q2
        rw [c1]
        have hb1 := HBX.out _ GB.out
        have q0 : w2.cell? ⟨w.heap.size, 0, none⟩ = some (.int .i64 P) := by simp only [World.cell?, hb1]; rfl
        have q1 : w2.cell? ⟨w.heap.size, 1, none⟩ = some (.int .i64 C) := by simp only [World.cell?, hb1]; rfl
        have q2 : w2.cell? ⟨w.heap.size, 2, none⟩ = some (.slice A pl.length pc) := by simp only [World.cell?, hb1]; rfl
        clear hb1
        go_wp2_with fail
        refine (Has_any A pc pl P C _ (HX.out.1.gr GA.out)).mono ?_
        rintro r w3 ⟨rfl, g3⟩
        replace GB := Lib.hid (GB.out.tr g3)
        replace GA := Lib.hid (HG.out.tr GB.out)
        have hb1 := HBX.out _ GB.out
        clear q0 q1 q2
        have q3 := cellV3 hb1
        have q4 := cellV4 hb1
        clear hb1 g3
        rw [c2]
        go_wp2
        go_ret
        rw [HV.out]
        exact ⟨rfl, GA.out⟩
      · have c2 : hasV pl P C = false := by simpa using c2
        by_cases c3 : 48 < T.size
        · have c3i : (48 : Int) < T.size := by omega
          have HV : Hid (verChk ⟨P, C, A, pl, pc, D, T⟩ = 2) := Lib.hid (by unfold verChk; rw [if_neg (by simp [c0]), if_neg (by simp [c1]), if_neg (by simp [c2]), if_pos c3])
          go_enter Try.func39, Try.ntmps39
          go_wp2_with fail
          refine (HC1.out).mono ?_
          rintro r w1 ⟨rfl, g1⟩
          have GB := Lib.hid (HGA.out.tr g1)
          have hb1 := HBX.out _ GB.out
          have q0 : w1.cell? ⟨w.heap.size, 0, none⟩ = some (.int .i64 P) := by simp only [World.cell?, hb1]; rfl
          have q1 : w1.cell? ⟨w.heap.size, 1, none⟩ = some (.int .i64 C) := by simp only [World.cell?, hb1]; rfl
          have q2 : w1.cell? ⟨w.heap.size, 2, none⟩ = some (.slice A pl.length pc) := by simp only [World.cell?, hb1]; rfl
          clear hb1 g1
          go_wp2_with fail
          refine (Check_any A pc pl _ (HX.out.1.gr (HG.out.tr GB.out))).mono ?_
          rintro r w2 ⟨rfl, g2⟩
          replace GB := Lib.hid (GB.out.tr g2)
          have GA := Lib.hid (HG.out.tr GB.out)
          clear g2 q0 q1 q2
          rw [c1]
          have hb1 := HBX.out _ GB.out
          have q0 : w2.cell? ⟨w.heap.size, 0, none⟩ = some (.int .i64 P) := by simp only [World.cell?, hb1]; rfl
          have q1 : w2.cell? ⟨w.heap.size, 1, none⟩ = some (.int .i64 C) := by simp only [World.cell?, hb1]; rfl
          have q2 : w2.cell? ⟨w.heap.size, 2, none⟩ = some (.slice A pl.length pc) := by simp only [World.cell?, hb1]; rfl
          clear hb1
          go_wp2_with fail
          refine (Has_any A pc pl P C _ (HX.out.1.gr GA.out)).mono ?_
          rintro r w3 ⟨rfl, g3⟩
          replace GB := Lib.hid (GB.out.tr g3)
          replace GA := Lib.hid (HG.out.tr GB.out)
          have hb1 := HBX.out _ GB.out
          clear q0 q1 q2
          have q3 := cellV3 hb1
          have q4 := cellV4 hb1
          clear hb1 g3
          rw [c2]
          go_wp2
          go_ret
          rw [HV.out]
          exact ⟨rfl, GA.out⟩
        · have c3i : ¬ (48 : Int) < T.size := by omega
          cases D
          · have HV : Hid (verChk ⟨P, C, A, pl, pc, false, T⟩ = 0) := Lib.hid (by unfold verChk; rw [if_neg (by simp [c0]), if_neg (by simp [c1]), if_neg (by simp [c2]), if_neg c3, if_neg (by simp)])
            go_enter Try.func39, Try.ntmps39
            go_wp2_with fail
            refine (HC1.out).mono ?_
            rintro r w1 ⟨rfl, g1⟩
            have GB := Lib.hid (HGA.out.tr g1)
            have hb1 := HBX.out _ GB.out
            have q0 : w1.cell? ⟨w.heap.size, 0, none⟩ = some (.int .i64 P) := by simp only [World.cell?, hb1]; rfl
            have q1 : w1.cell? ⟨w.heap.size, 1, none⟩ = some (.int .i64 C) := by simp only [World.cell?, hb1]; rfl
            have q2 : w1.cell? ⟨w.heap.size, 2, none⟩ = some (.slice A pl.length pc) := by simp only [World.cell?, hb1]; rfl
            clear hb1 g1
            go_wp2_with fail
            refine (Check_any A pc pl _ (HX.out.1.gr (HG.out.tr GB.out))).mono ?_
            rintro r w2 ⟨rfl, g2⟩
            replace GB := Lib.hid (GB.out.tr g2)
            have GA := Lib.hid (HG.out.tr GB.out)
            clear g2 q0 q1 q2
            rw [c1]
            have hb1 := HBX.out _ GB.out
            have q0 : w2.cell? ⟨w.heap.size, 0, none⟩ = some (.int .i64 P) := by simp only [World.cell?, hb1]; rfl
            have q1 : w2.cell? ⟨w.heap.size, 1, none⟩ = some (.int .i64 C) := by simp only [World.cell?, hb1]; rfl
            have q2 : w2.cell? ⟨w.heap.size, 2, none⟩ = some (.slice A pl.length pc) := by simp only [World.cell?, hb1]; rfl
            clear hb1
            go_wp2_with fail
            refine (Has_any A pc pl P C _ (HX.out.1.gr GA.out)).mono ?_
            rintro r w3 ⟨rfl, g3⟩
            replace GB := Lib.hid (GB.out.tr g3)
            replace GA := Lib.hid (HG.out.tr GB.out)
            have hb1 := HBX.out _ GB.out
            clear q0 q1 q2
            have q3 := cellV3 hb1
            have q4 := cellV4 hb1
            clear hb1 g3
            rw [c2]
            go_wp2
            go_ret
            rw [HV.out]
            exact ⟨rfl, GA.out⟩
          · by_cases c4 : T = ⟨#[]⟩
            · subst c4
              have HV : Hid (verChk ⟨P, C, A, pl, pc, true, ⟨#[]⟩⟩ = 0) := Lib.hid (by unfold verChk; rw [if_neg (by simp [c0]), if_neg (by simp [c1]), if_neg (by simp [c2]), if_neg c3, if_neg (by simp)])
              go_enter Try.func39, Try.ntmps39
              go_wp2_with fail
              refine (HC1.out).mono ?_
              rintro r w1 ⟨rfl, g1⟩
              have GB := Lib.hid (HGA.out.tr g1)
              have hb1 := HBX.out _ GB.out
              have q0 : w1.cell? ⟨w.heap.size, 0, none⟩ = some (.int .i64 P) := by simp only [World.cell?, hb1]; rfl
              have q1 : w1.cell? ⟨w.heap.size, 1, none⟩ = some (.int .i64 C) := by simp only [World.cell?, hb1]; rfl
              have q2 : w1.cell? ⟨w.heap.size, 2, none⟩ = some (.slice A pl.length pc) := by simp only [World.cell?, hb1]; rfl
              clear hb1 g1
              go_wp2_with fail
              refine (Check_any A pc pl _ (HX.out.1.gr (HG.out.tr GB.out))).mono ?_
              rintro r w2 ⟨rfl, g2⟩
              replace GB := Lib.hid (GB.out.tr g2)
              have GA := Lib.hid (HG.out.tr GB.out)
              clear g2 q0 q1 q2
              rw [c1]
              have hb1 := HBX.out _ GB.out
              have q0 : w2.cell? ⟨w.heap.size, 0, none⟩ = some (.int .i64 P) := by simp only [World.cell?, hb1]; rfl
              have q1 : w2.cell? ⟨w.heap.size, 1, none⟩ = some (.int .i64 C) := by simp only [World.cell?, hb1]; rfl
              have q2 : w2.cell? ⟨w.heap.size, 2, none⟩ = some (.slice A pl.length pc) := by simp only [World.cell?, hb1]; rfl
              clear hb1
              go_wp2_with fail
              refine (Has_any A pc pl P C _ (HX.out.1.gr GA.out)).mono ?_
              rintro r w3 ⟨rfl, g3⟩
              replace GB := Lib.hid (GB.out.tr g3)
              replace GA := Lib.hid (HG.out.tr GB.out)
              have hb1 := HBX.out _ GB.out
              clear q0 q1 q2
              have q3 := cellV3 hb1
              have q4 := cellV4 hb1
              clear hb1 g3
              rw [c2]
              go_wp2
              go_ret
              rw [HV.out]
              exact ⟨rfl, GA.out⟩
            · have HV : Hid (verChk ⟨P, C, A, pl, pc, true, T⟩ = 7) := Lib.hid (by unfold verChk; rw [if_neg (by simp [c0]), if_neg (by simp [c1]), if_neg (by simp [c2]), if_neg c3, if_pos ⟨rfl, c4⟩])
              have c4b : T.toList.isEmpty = false := tEmp c4
              have c4s : (0 : Int) < T.size := by
                have : T.size ≠ 0 := fun h => c4 (by apply ByteArray.ext; exact Array.eq_empty_of_size_eq_zero h)
                omega
              go_enter Try.func39, Try.ntmps39
              go_wp2_with fail
              refine (HC1.out).mono ?_
              rintro r w1 ⟨rfl, g1⟩
              have GB := Lib.hid (HGA.out.tr g1)
              have hb1 := HBX.out _ GB.out
              have q0 : w1.cell? ⟨w.heap.size, 0, none⟩ = some (.int .i64 P) := by simp only [World.cell?, hb1]; rfl
              have q1 : w1.cell? ⟨w.heap.size, 1, none⟩ = some (.int .i64 C) := by simp only [World.cell?, hb1]; rfl
              have q2 : w1.cell? ⟨w.heap.size, 2, none⟩ = some (.slice A pl.length pc) := by simp only [World.cell?, hb1]; rfl
              clear hb1 g1
              go_wp2_with fail
              refine (Check_any A pc pl _ (HX.out.1.gr (HG.out.tr GB.out))).mono ?_
              rintro r w2 ⟨rfl, g2⟩
              replace GB := Lib.hid (GB.out.tr g2)
              have GA := Lib.hid (HG.out.tr GB.out)
              clear g2 q0 q1 q2
              rw [c1]
              have hb1 := HBX.out _ GB.out
              have q0 : w2.cell? ⟨w.heap.size, 0, none⟩ = some (.int .i64 P) := by simp only [World.cell?, hb1]; rfl
              have q1 : w2.cell? ⟨w.heap.size, 1, none⟩ = some (.int .i64 C) := by simp only [World.cell?, hb1]; rfl
              have q2 : w2.cell? ⟨w.heap.size, 2, none⟩ = some (.slice A pl.length pc) := by simp only [World.cell?, hb1]; rfl
              clear hb1
              go_wp2_with fail
              refine (Has_any A pc pl P C _ (HX.out.1.gr GA.out)).mono ?_
              rintro r w3 ⟨rfl, g3⟩
              replace GB := Lib.hid (GB.out.tr g3)
              replace GA := Lib.hid (HG.out.tr GB.out)
              have hb1 := HBX.out _ GB.out
              clear q0 q1 q2
              have q3 := cellV3 hb1
              have q4 := cellV4 hb1
              clear hb1 g3
              rw [c2]
              go_wp2
              go_ret
              rw [HV.out]
              exact ⟨rfl, GA.out⟩
    · have c1b : (chk pl != 0) = true := by simp [c1]
      have HV : Hid (verChk ⟨P, C, A, pl, pc, D, T⟩ = chk pl) := Lib.hid (by unfold verChk; rw [if_neg (by simp [c0]), if_pos c1])
      go_enter Try.func39, Try.ntmps39
      go_wp2_with fail
      refine (HC1.out).mono ?_
      rintro r w1 ⟨rfl, g1⟩
      have GB := Lib.hid (HGA.out.tr g1)
      have hb1 := HBX.out _ GB.out
      have q0 : w1.cell? ⟨w.heap.size, 0, none⟩ = some (.int .i64 P) := by simp only [World.cell?, hb1]; rfl
      have q1 : w1.cell? ⟨w.heap.size, 1, none⟩ = some (.int .i64 C) := by simp only [World.cell?, hb1]; rfl
      have q2 : w1.cell? ⟨w.heap.size, 2, none⟩ = some (.slice A pl.length pc) := by simp only [World.cell?, hb1]; rfl
      clear hb1 g1
      go_wp2_with fail
      refine (Check_any A pc pl _ (HX.out.1.gr (HG.out.tr GB.out))).mono ?_
      rintro r w2 ⟨rfl, g2⟩
      replace GB := Lib.hid (GB.out.tr g2)
      have GA := Lib.hid (HG.out.tr GB.out)
      clear g2 q0 q1 q2
      go_wp2
      go_ret
      rw [HV.out]
      exact ⟨rfl, GA.out⟩
  · have h0 : (dotChk P C != 0) = true := by simp [c0]
    have HV : Hid (verChk ⟨P, C, A, pl, pc, D, T⟩ = dotChk P C) := Lib.hid (by unfold verChk; rw [if_pos c0])
    go_enter Try.func39, Try.ntmps39
    go_wp2_with fail
    refine (HC1.out).mono ?_
    rintro r w1 ⟨rfl, g1⟩
    have GA := Lib.hid (HG.out.tr (HGA.out.tr g1))
    go_wp2
    go_ret
    rw [HV.out]
    exact ⟨rfl, GA.out⟩

set_option maxRecDepth 100000 in
theorem vCheck2_any (x : Vx) (w : World) (hx : VxOk w x) :
    Calls Try.prog 40 #[.agg x.cells] w fun r w' => r = .returned (.int .i64 (verChk x)) ∧ Gr w w' := by
  have HX := Lib.hid hx
  have hts := hx.2
  obtain ⟨P, C, A, pl, pc, D, T⟩ := x
  clear hx
  unfold Vx.cells
  dsimp only at hts ⊢
  have hg0 : Gr w (w.alloc (.cells #[.int .i64 P, .int .i64 C, .slice A pl.length pc, .bool D, .string T] 49)) := (Gr.rfl' w).al _
  have hn := World.alloc_heap_new w (.cells #[.int .i64 P, .int .i64 C, .slice A pl.length pc, .bool D, .string T] 49)
  have HBX : Hid (∀ W, Gr (w.alloc (.cells #[.int .i64 P, .int .i64 C, .slice A pl.length pc, .bool D, .string T] 49)) W → W.heap[w.heap.size]? = some (.cells #[.int .i64 P, .int .i64 C, .slice A pl.length pc, .bool D, .string T] 49 (0, 0))) := Lib.hid fun W g => (g.block _ (Array.getElem?_eq_some_iff.1 hn).1).trans hn
  have HG := Lib.hid hg0
  clear hn hg0
  have HC1 := Lib.hid (refDot_any P C (w.alloc (.cells #[.int .i64 P, .int .i64 C, .slice A pl.length pc, .bool D, .string T] 49)))
  have HGA := Lib.hid (Gr.rfl' (w.alloc (.cells #[.int .i64 P, .int .i64 C, .slice A pl.length pc, .bool D, .string T] 49)))
  by_cases c0 : dotChk P C = 0
  · have h0 : (dotChk P C != 0) = false := by simp [c0]
    rw [c0] at HC1
    by_cases c1 : chk pl = 0
    · by_cases c2 : hasV pl P C = true
      · have HV : Hid (verChk ⟨P, C, A, pl, pc, D, T⟩ = 8) := Lib.hid (by unfold verChk; rw [if_neg (by simp [c0]), if_neg (by simp [c1]), if_pos c2])
        go_enter Try.func40, Try.ntmps40
        go_wp2_with fail
        refine (HC1.out).mono ?_
        rintro r w1 ⟨rfl, g1⟩
        have GB := Lib.hid (HGA.out.tr g1)
        have hb1 := HBX.out _ GB.out
        have q0 : w1.cell? ⟨w.heap.size, 0, none⟩ = some (.int .i64 P) := by simp only [World.cell?, hb1]; rfl
        have q1 : w1.cell? ⟨w.heap.size, 1, none⟩ = some (.int .i64 C) := by simp only [World.cell?, hb1]; rfl
        have q2 : w1.cell? ⟨w.heap.size, 2, none⟩ = some (.slice A pl.length pc) := by simp only [World.cell?, hb1]; rfl
        clear hb1 g1
        go_wp2_with fail
        refine (refCheck_any A pc pl _ (HX.out.1.gr (HG.out.tr GB.out))).mono ?_
        rintro r w2 ⟨rfl, g2⟩
        replace GB := Lib.hid (GB.out.tr g2)
        have GA := Lib.hid (HG.out.tr GB.out)
        clear g2 q0 q1 q2
        rw [c1]
        have hb1 := HBX.out _ GB.out
        have q0 : w2.cell? ⟨w.heap.size, 0, none⟩ = some (.int .i64 P) := by simp only [World.cell?, hb1]; rfl
        have q1 : w2.cell? ⟨w.heap.size, 1, none⟩ = some (.int .i64 C) := by simp only [World.cell?, hb1]; rfl
        have q2 : w2.cell? ⟨w.heap.size, 2, none⟩ = some (.slice A pl.length pc) := by simp only [World.cell?, hb1]; rfl
        clear hb1
        go_wp2_with fail
        refine (refHas_any A pc pl P C _ (HX.out.1.gr GA.out)).mono ?_
        rintro r w3 ⟨rfl, g3⟩
        replace GB := Lib.hid (GB.out.tr g3)
        replace GA := Lib.hid (HG.out.tr GB.out)
        have hb1 := HBX.out _ GB.out
        clear q0 q1 q2
        have q3 := cellV3 hb1
        have q4 := cellV4 hb1
        clear hb1 g3
        rw [c2]
        go_wp2
        go_ret
        rw [HV.out]
        exact ⟨rfl, GA.out⟩
      · have c2 : hasV pl P C = false := by simpa using c2
        by_cases c3 : 48 < T.size
        · have c3i : (48 : Int) < T.size := by omega
          have HV : Hid (verChk ⟨P, C, A, pl, pc, D, T⟩ = 2) := Lib.hid (by unfold verChk; rw [if_neg (by simp [c0]), if_neg (by simp [c1]), if_neg (by simp [c2]), if_pos c3])
          go_enter Try.func40, Try.ntmps40
          go_wp2_with fail
          refine (HC1.out).mono ?_
          rintro r w1 ⟨rfl, g1⟩
          have GB := Lib.hid (HGA.out.tr g1)
          have hb1 := HBX.out _ GB.out
          have q0 : w1.cell? ⟨w.heap.size, 0, none⟩ = some (.int .i64 P) := by simp only [World.cell?, hb1]; rfl
          have q1 : w1.cell? ⟨w.heap.size, 1, none⟩ = some (.int .i64 C) := by simp only [World.cell?, hb1]; rfl
          have q2 : w1.cell? ⟨w.heap.size, 2, none⟩ = some (.slice A pl.length pc) := by simp only [World.cell?, hb1]; rfl
          clear hb1 g1
          go_wp2_with fail
          refine (refCheck_any A pc pl _ (HX.out.1.gr (HG.out.tr GB.out))).mono ?_
          rintro r w2 ⟨rfl, g2⟩
          replace GB := Lib.hid (GB.out.tr g2)
          have GA := Lib.hid (HG.out.tr GB.out)
          clear g2 q0 q1 q2
          rw [c1]
          have hb1 := HBX.out _ GB.out
          have q0 : w2.cell? ⟨w.heap.size, 0, none⟩ = some (.int .i64 P) := by simp only [World.cell?, hb1]; rfl
          have q1 : w2.cell? ⟨w.heap.size, 1, none⟩ = some (.int .i64 C) := by simp only [World.cell?, hb1]; rfl
          have q2 : w2.cell? ⟨w.heap.size, 2, none⟩ = some (.slice A pl.length pc) := by simp only [World.cell?, hb1]; rfl
          clear hb1
          go_wp2_with fail
          refine (refHas_any A pc pl P C _ (HX.out.1.gr GA.out)).mono ?_
          rintro r w3 ⟨rfl, g3⟩
          replace GB := Lib.hid (GB.out.tr g3)
          replace GA := Lib.hid (HG.out.tr GB.out)
          have hb1 := HBX.out _ GB.out
          clear q0 q1 q2
          have q3 := cellV3 hb1
          have q4 := cellV4 hb1
          clear hb1 g3
          rw [c2]
          go_wp2
          go_ret
          rw [HV.out]
          exact ⟨rfl, GA.out⟩
        · have c3i : ¬ (48 : Int) < T.size := by omega
          cases D
          · have HV : Hid (verChk ⟨P, C, A, pl, pc, false, T⟩ = 0) := Lib.hid (by unfold verChk; rw [if_neg (by simp [c0]), if_neg (by simp [c1]), if_neg (by simp [c2]), if_neg c3, if_neg (by simp)])
            go_enter Try.func40, Try.ntmps40
            go_wp2_with fail
            refine (HC1.out).mono ?_
            rintro r w1 ⟨rfl, g1⟩
            have GB := Lib.hid (HGA.out.tr g1)
            have hb1 := HBX.out _ GB.out
            have q0 : w1.cell? ⟨w.heap.size, 0, none⟩ = some (.int .i64 P) := by simp only [World.cell?, hb1]; rfl
            have q1 : w1.cell? ⟨w.heap.size, 1, none⟩ = some (.int .i64 C) := by simp only [World.cell?, hb1]; rfl
            have q2 : w1.cell? ⟨w.heap.size, 2, none⟩ = some (.slice A pl.length pc) := by simp only [World.cell?, hb1]; rfl
            clear hb1 g1
            go_wp2_with fail
            refine (refCheck_any A pc pl _ (HX.out.1.gr (HG.out.tr GB.out))).mono ?_
            rintro r w2 ⟨rfl, g2⟩
            replace GB := Lib.hid (GB.out.tr g2)
            have GA := Lib.hid (HG.out.tr GB.out)
            clear g2 q0 q1 q2
            rw [c1]
            have hb1 := HBX.out _ GB.out
            have q0 : w2.cell? ⟨w.heap.size, 0, none⟩ = some (.int .i64 P) := by simp only [World.cell?, hb1]; rfl
            have q1 : w2.cell? ⟨w.heap.size, 1, none⟩ = some (.int .i64 C) := by simp only [World.cell?, hb1]; rfl
            have q2 : w2.cell? ⟨w.heap.size, 2, none⟩ = some (.slice A pl.length pc) := by simp only [World.cell?, hb1]; rfl
            clear hb1
            go_wp2_with fail
            refine (refHas_any A pc pl P C _ (HX.out.1.gr GA.out)).mono ?_
            rintro r w3 ⟨rfl, g3⟩
            replace GB := Lib.hid (GB.out.tr g3)
            replace GA := Lib.hid (HG.out.tr GB.out)
            have hb1 := HBX.out _ GB.out
            clear q0 q1 q2
            have q3 := cellV3 hb1
            have q4 := cellV4 hb1
            clear hb1 g3
            rw [c2]
            go_wp2
            go_ret
            rw [HV.out]
            exact ⟨rfl, GA.out⟩
          · by_cases c4 : T = ⟨#[]⟩
            · subst c4
              have HV : Hid (verChk ⟨P, C, A, pl, pc, true, ⟨#[]⟩⟩ = 0) := Lib.hid (by unfold verChk; rw [if_neg (by simp [c0]), if_neg (by simp [c1]), if_neg (by simp [c2]), if_neg c3, if_neg (by simp)])
              go_enter Try.func40, Try.ntmps40
              go_wp2_with fail
              refine (HC1.out).mono ?_
              rintro r w1 ⟨rfl, g1⟩
              have GB := Lib.hid (HGA.out.tr g1)
              have hb1 := HBX.out _ GB.out
              have q0 : w1.cell? ⟨w.heap.size, 0, none⟩ = some (.int .i64 P) := by simp only [World.cell?, hb1]; rfl
              have q1 : w1.cell? ⟨w.heap.size, 1, none⟩ = some (.int .i64 C) := by simp only [World.cell?, hb1]; rfl
              have q2 : w1.cell? ⟨w.heap.size, 2, none⟩ = some (.slice A pl.length pc) := by simp only [World.cell?, hb1]; rfl
              clear hb1 g1
              go_wp2_with fail
              refine (refCheck_any A pc pl _ (HX.out.1.gr (HG.out.tr GB.out))).mono ?_
              rintro r w2 ⟨rfl, g2⟩
              replace GB := Lib.hid (GB.out.tr g2)
              have GA := Lib.hid (HG.out.tr GB.out)
              clear g2 q0 q1 q2
              rw [c1]
              have hb1 := HBX.out _ GB.out
              have q0 : w2.cell? ⟨w.heap.size, 0, none⟩ = some (.int .i64 P) := by simp only [World.cell?, hb1]; rfl
              have q1 : w2.cell? ⟨w.heap.size, 1, none⟩ = some (.int .i64 C) := by simp only [World.cell?, hb1]; rfl
              have q2 : w2.cell? ⟨w.heap.size, 2, none⟩ = some (.slice A pl.length pc) := by simp only [World.cell?, hb1]; rfl
              clear hb1
              go_wp2_with fail
              refine (refHas_any A pc pl P C _ (HX.out.1.gr GA.out)).mono ?_
              rintro r w3 ⟨rfl, g3⟩
              replace GB := Lib.hid (GB.out.tr g3)
              replace GA := Lib.hid (HG.out.tr GB.out)
              have hb1 := HBX.out _ GB.out
              clear q0 q1 q2
              have q3 := cellV3 hb1
              have q4 := cellV4 hb1
              clear hb1 g3
              rw [c2]
              go_wp2
              go_ret
              rw [HV.out]
              exact ⟨rfl, GA.out⟩
            · have HV : Hid (verChk ⟨P, C, A, pl, pc, true, T⟩ = 7) := Lib.hid (by unfold verChk; rw [if_neg (by simp [c0]), if_neg (by simp [c1]), if_neg (by simp [c2]), if_neg c3, if_pos ⟨rfl, c4⟩])
              have c4b : T.toList.isEmpty = false := tEmp c4
              have c4s : (0 : Int) < T.size := by
                have : T.size ≠ 0 := fun h => c4 (by apply ByteArray.ext; exact Array.eq_empty_of_size_eq_zero h)
                omega
              go_enter Try.func40, Try.ntmps40
              go_wp2_with fail
              refine (HC1.out).mono ?_
              rintro r w1 ⟨rfl, g1⟩
              have GB := Lib.hid (HGA.out.tr g1)
              have hb1 := HBX.out _ GB.out
              have q0 : w1.cell? ⟨w.heap.size, 0, none⟩ = some (.int .i64 P) := by simp only [World.cell?, hb1]; rfl
              have q1 : w1.cell? ⟨w.heap.size, 1, none⟩ = some (.int .i64 C) := by simp only [World.cell?, hb1]; rfl
              have q2 : w1.cell? ⟨w.heap.size, 2, none⟩ = some (.slice A pl.length pc) := by simp only [World.cell?, hb1]; rfl
              clear hb1 g1
              go_wp2_with fail
              refine (refCheck_any A pc pl _ (HX.out.1.gr (HG.out.tr GB.out))).mono ?_
              rintro r w2 ⟨rfl, g2⟩
              replace GB := Lib.hid (GB.out.tr g2)
              have GA := Lib.hid (HG.out.tr GB.out)
              clear g2 q0 q1 q2
              rw [c1]
              have hb1 := HBX.out _ GB.out
              have q0 : w2.cell? ⟨w.heap.size, 0, none⟩ = some (.int .i64 P) := by simp only [World.cell?, hb1]; rfl
              have q1 : w2.cell? ⟨w.heap.size, 1, none⟩ = some (.int .i64 C) := by simp only [World.cell?, hb1]; rfl
              have q2 : w2.cell? ⟨w.heap.size, 2, none⟩ = some (.slice A pl.length pc) := by simp only [World.cell?, hb1]; rfl
              clear hb1
              go_wp2_with fail
              refine (refHas_any A pc pl P C _ (HX.out.1.gr GA.out)).mono ?_
              rintro r w3 ⟨rfl, g3⟩
              replace GB := Lib.hid (GB.out.tr g3)
              replace GA := Lib.hid (HG.out.tr GB.out)
              have hb1 := HBX.out _ GB.out
              clear q0 q1 q2
              have q3 := cellV3 hb1
              have q4 := cellV4 hb1
              clear hb1 g3
              rw [c2]
              go_wp2
              go_ret
              rw [HV.out]
              exact ⟨rfl, GA.out⟩
    · have c1b : (chk pl != 0) = true := by simp [c1]
      have HV : Hid (verChk ⟨P, C, A, pl, pc, D, T⟩ = chk pl) := Lib.hid (by unfold verChk; rw [if_neg (by simp [c0]), if_pos c1])
      go_enter Try.func40, Try.ntmps40
      go_wp2_with fail
      refine (HC1.out).mono ?_
      rintro r w1 ⟨rfl, g1⟩
      have GB := Lib.hid (HGA.out.tr g1)
      have hb1 := HBX.out _ GB.out
      have q0 : w1.cell? ⟨w.heap.size, 0, none⟩ = some (.int .i64 P) := by simp only [World.cell?, hb1]; rfl
      have q1 : w1.cell? ⟨w.heap.size, 1, none⟩ = some (.int .i64 C) := by simp only [World.cell?, hb1]; rfl
      have q2 : w1.cell? ⟨w.heap.size, 2, none⟩ = some (.slice A pl.length pc) := by simp only [World.cell?, hb1]; rfl
      clear hb1 g1
      go_wp2_with fail
      refine (refCheck_any A pc pl _ (HX.out.1.gr (HG.out.tr GB.out))).mono ?_
      rintro r w2 ⟨rfl, g2⟩
      replace GB := Lib.hid (GB.out.tr g2)
      have GA := Lib.hid (HG.out.tr GB.out)
      clear g2 q0 q1 q2
      go_wp2
      go_ret
      rw [HV.out]
      exact ⟨rfl, GA.out⟩
  · have h0 : (dotChk P C != 0) = true := by simp [c0]
    have HV : Hid (verChk ⟨P, C, A, pl, pc, D, T⟩ = dotChk P C) := Lib.hid (by unfold verChk; rw [if_pos c0])
    go_enter Try.func40, Try.ntmps40
    go_wp2_with fail
    refine (HC1.out).mono ?_
    rintro r w1 ⟨rfl, g1⟩
    have GA := Lib.hid (HG.out.tr (HGA.out.tr g1))
    go_wp2
    go_ret
    rw [HV.out]
    exact ⟨rfl, GA.out⟩

end Go.Proofs.Ytfobnemocodomaa
