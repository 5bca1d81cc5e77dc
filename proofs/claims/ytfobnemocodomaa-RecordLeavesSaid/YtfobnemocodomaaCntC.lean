/- The document's Take. -/
import Derived.Test.YtfobnemocodomaaCntB
set_option linter.unusedVariables false
set_option linter.unusedSimpArgs false
set_option maxHeartbeats 400000
namespace Go.Proofs.Ytfobnemocodomaa
open Go.RowKit

theorem numFrom_snoc (s : ByteArray) : ∀ f i, numFrom s i (f + 1) = numFrom s i f + byt s (i + f) % 128 * 128 ^ f
  | 0, i => by simp [numFrom]
  | f + 1, i => by
    rw [numFrom, numFrom_snoc s f (i + 1), numFrom]
    have h3 : (128 : Int) ^ (f + 1) = 128 ^ f * 128 := Int.pow_succ ..
    rw [h3, show i + 1 + f = i + (f + 1) by omega, Int.mul_add, ← Int.mul_assoc (byt s (i + (f + 1)) % 128)]
    generalize byt s (i + (f + 1)) % 128 * 128 ^ f = X
    omega
theorem endOf_at {s : ByteArray} {k : Nat} (h : ∀ j, j < k → 128 ≤ byt s j) (h1 : k < s.size) (h2 : k < 5) (h3 : byt s k < 128) : endOf s = k := by
  rcases endOf_spec s with ⟨e, h4⟩ | ⟨e, h4, h5, h6, h7, h8⟩
  · have := h4 k h1 h2; omega
  · rw [h4]
    rcases Nat.lt_trichotomy e k with c | c | c
    · have := h e c; omega
    · rw [c]
    · have := h8 k c; omega
theorem endOf_none {s : ByteArray} (h : ∀ j, j < s.size → j < 5 → 128 ≤ byt s j) : endOf s = -1 := by
  rcases endOf_spec s with ⟨e, h4⟩ | ⟨e, h4, h5, h6, h7, h8⟩
  · exact e
  · have := h e h5 h6; omega
theorem pow_bd (k : Nat) (h : k ≤ 4) : 1 ≤ (128 : Int) ^ k ∧ (128 : Int) ^ k ≤ 268435456 := by
  have : k = 0 ∨ k = 1 ∨ k = 2 ∨ k = 3 ∨ k = 4 := by omega
  rcases this with rfl | rfl | rfl | rfl | rfl <;> decide

theorem wrap64_byte {x : Int} (h0 : 0 ≤ x) (h1 : x < 256) : wrap64 x = x := by unfold wrap64; omega
theorem step_bd (x m P : Int) (h0 : 0 ≤ x) (h1 : x < 256) (hm1 : 0 ≤ m) (hm2 : m < 268435456) (hP1 : 1 ≤ P) (hP2 : P ≤ 268435456) :
    wrap64 (m + wrap64 (x % 128 * P)) = m + x % 128 * P ∧ x.tmod 128 = x % 128 ∧ wrap64 (P * 128) = P * 128 := by
  have hx1 : 0 ≤ x % 128 := by omega
  have hx2 : x % 128 ≤ 127 := by omega
  have h1 : 0 ≤ x % 128 * P := Int.mul_nonneg hx1 (by omega)
  have h2 : x % 128 * P ≤ 127 * 268435456 := Int.mul_le_mul hx2 hP2 (by omega) (by omega)
  generalize x % 128 * P = Y at *
  refine ⟨?_, Int.tmod_eq_emod_of_nonneg (by omega), ?_⟩ <;> (unfold wrap64; omega)

set_option maxRecDepth 100000 in
theorem refTake_any (s : ByteArray) (hs : s.size ≤ 9223372036854775807) (w : World) : Calls Try.prog 193 #[.string s] w fun r w' => r = takeE s ∧ w' = w := by
  go_enter Try.func193, Try.ntmps193
  go_wp2
  go_loopw [5,6,7] (fun n u i wr => ∃ k : Nat, ∃ m P : Int, k ≤ 5 ∧ i = .int .i64 k ∧ n = .int .i64 m ∧ u = .int .i64 P ∧ k ≤ s.size ∧ Hid (m = numFrom s 0 k ∧ P = 128 ^ k ∧ ∀ j, j < k → 128 ≤ byt s j) ∧ wr = w) (fun _ _ i _ => 5 - (intOf i).toNat)
  case atStart => exact ⟨0, 0, 1, by omega, rfl, rfl, rfl, Nat.zero_le _, Lib.hid ⟨rfl, rfl, fun j h => by omega⟩, rfl⟩
  case round =>
    obtain ⟨k, m, P, hk, rfl, rfl, rfl, hks, hI, rfl⟩ := hrel
    by_cases h5 : k < 5
    · have h5i : (k : Int) < 5 := by omega
      by_cases hsz : k = s.size
      · have hszb : ((k : Int) == s.size) = true := by simp [hsz]
        have HG : Hid (takeV s = (0, 0, 5)) := by
          show _ = _
          unfold takeV
          rw [endOf_none (fun j h1 h2 => hI.out.2.2 j (by omega)), if_pos (by omega), if_pos (by omega)]
        clear hsz hI hks
        go_wp2
        refine bodyPost_ret (v := .tuple #[.int .i64 0, .int .i64 0, .int .i64 5]) (by simp [results, Try.results193, go_sem]) rfl ?_
        exact ⟨(takeE_of HG.out).symm, rfl⟩
      · have hszb : ((k : Int) == s.size) = false := by simp; omega
        have hks1 : k < s.size := by omega
        have hks2 : (k : Int) < s.size := by omega
        obtain ⟨hm, hP, hall⟩ := hI.out
        obtain ⟨hm1, hm2⟩ := numFrom_bd4 s k 0 (by omega)
        obtain ⟨hP1, hP2⟩ := pow_bd k (by omega)
        rw [← hm] at hm1 hm2
        rw [← hP] at hP1 hP2
        have hsn := numFrom_snoc s k 0
        rw [← hm, ← hP, Nat.zero_add, byt_at hks1] at hsn
        have hk0m : k = 0 → m = 0 ∧ P = 1 := fun h => by subst h; exact ⟨by rw [hm]; rfl, by rw [hP]; rfl⟩
        have hP1' : Hid (P * 128 = 128 ^ (k + 1)) := by show _ = _; rw [hP, Int.pow_succ]
        have HSN := Lib.hid hsn
        have hbt := Lib.hid (byt_at hks1)
        have HALL := Lib.hid hall
        replace hk0m := Lib.hid hk0m
        clear hm hP hsn hall hI
        have hX : ((s[k]'hks1).toNat : Int) < 256 := by have := (s[k]'hks1).toNat_lt; omega
        obtain ⟨hb1, hb2, hb3⟩ := step_bd ((s[k]'hks1).toNat : Int) m P (by omega) hX hm1 hm2 hP1 hP2
        have hw1 : wrap64 ((s[k]'hks1).toNat : Int) = ((s[k]'hks1).toNat : Int) := wrap64_byte (by omega) hX
        replace hb1 := Lib.hid hb1
        replace hb3 := Lib.hid hb3
        clear hm1 hm2 hP1 hP2 hb2 hszb
        have hszb : ((k : Int) == s.size) = false := by simp; omega
        by_cases c1 : 128 ≤ ((s[k]'hks1).toNat : Int)
        · have hA : 128 ≤ wrap64 ((s[k]'hks1).toNat : Int) := by omega
          have hall2 : Hid (∀ j, j < k + 1 → 128 ≤ byt s j) := fun j hj => by
            by_cases c : j = k
            · subst c; rw [hbt.out]; exact c1
            · exact HALL.out j (by omega)
          have HW1 := Lib.hid hw1
          clear hw1 HALL hX c1 hbt hk0m
          go_wp2
          go_roundw
          case rel =>
            refine ⟨k + 1, _, _, by omega, rfl, rfl, rfl, by omega, Lib.hid ⟨?_, ?_, hall2.out⟩, trivial⟩
            · rw [HSN.out, ← hb1.out, HW1.out]
            · rw [hb3.out]; exact hP1'.out
          case measure => simp [intOf]; omega
        · have hA : wrap64 ((s[k]'hks1).toNat : Int) < 128 := by omega
          have hE : Hid (endOf s = k) := endOf_at HALL.out hks1 h5 (by rw [hbt.out]; omega)
          by_cases c2 : ((s[k]'hks1).toNat : Int) = 0 ∧ 0 < k
          · have HG : Hid (takeV s = (0, 0, 7)) := by
              show _ = _
              unfold takeV
              rw [hE.out, if_neg (by omega), if_pos ⟨by rw [show ((k : Int).toNat) = k by omega, hbt.out]; exact c2.1, by omega⟩]
            have hz : wrap64 ((s[k]'hks1).toNat : Int) = 0 := by rw [hw1]; exact c2.1
            have hk0 : (0 : Int) < k := by omega
            clear hb1 hb3 hw1 HSN HALL hX c1 hP1' hbt hE c2 hk0m
            go_wp2
            refine bodyPost_ret (v := .tuple #[.int .i64 0, .int .i64 0, .int .i64 7]) (by simp [results, Try.results193, go_sem]) rfl ?_
            exact ⟨(takeE_of HG.out).symm, rfl⟩
          · skip
            have HV : Hid (takeV s = if 1073741824 < numFrom s 0 (k + 1) then (0, 0, 2) else (numFrom s 0 (k + 1), (k : Int) + 1, 0)) := by
              show _ = _
              unfold takeV
              rw [hE.out, if_neg (by omega), if_neg (fun h => c2 ⟨by rw [← hbt.out]; exact h.1, by have := h.2; omega⟩)]
              rfl
            have hNE : Hid (wrap64 (m + wrap64 (wrap64 ((s[k]'hks1).toNat : Int) % 128 * P)) = numFrom s 0 (k + 1)) := by
              show _ = _
              rw [hw1, hb1.out, HSN.out]
            have h0X : 0 ≤ wrap64 ((s[k]'hks1).toNat : Int) := by omega
            have HW1 := Lib.hid hw1
            by_cases hz : wrap64 ((s[k]'hks1).toNat : Int) = 0
            · have hk0 : k = 0 := by
                rcases Nat.eq_zero_or_pos k with h | h
                · exact h
                · exact absurd ⟨by rw [← hw1]; exact hz, h⟩ c2
              obtain ⟨rfl, rfl⟩ := hk0m.out hk0
              subst hk0
              have hx0 : ((s[0]'hks1).toNat : Int) = 0 := by rw [← hw1]; exact hz
              have hN0 : numFrom s 0 (0 + 1) = 0 := by
                rw [HSN.out, hx0]; rfl
              have HG : Hid (takeV s = (0, 1, 0)) := by show _ = _; rw [HV.out, hN0]; rfl
              clear hw1 c1 c2 hb1 hb3 HSN HALL hX hP1' hbt hE HV hNE hN0 hk0m HW1 hx0
              go_wp2
              refine bodyPost_ret (v := .tuple #[.int .i64 0, .int .i64 1, .int .i64 0]) (by simp [results, Try.results193, go_sem]) rfl ?_
              exact ⟨(takeE_of HG.out).symm, rfl⟩
            · have hA : ((s[k]'hks1).toNat : Int) < 128 := by omega
              have hz : ¬((s[k]'hks1).toNat : Int) = 0 := by rw [← hw1]; exact hz
              rw [hw1] at hNE
              clear hw1 c1 c2 hk0m
              by_cases cb : 1073741824 < numFrom s 0 (k + 1)
              · have HG : Hid (takeV s = (0, 0, 2)) := by show _ = _; rw [HV.out, if_pos cb]
                rw [← hNE.out] at cb
                have cbb := decide_eq_true cb
                clear cb hb1 hb3 HW1 HSN HALL hP1' hbt hE HV hNE
                go_wp2
                refine bodyPost_ret (v := .tuple #[.int .i64 0, .int .i64 0, .int .i64 2]) (by simp [results, Try.results193, go_sem]) rfl ?_
                exact ⟨(takeE_of HG.out).symm, rfl⟩
              · have HG : Hid (takeV s = (wrap64 (m + wrap64 (((s[k]'hks1).toNat : Int) % 128 * P)), (k : Int) + 1, 0)) := by show _ = _; rw [HV.out, if_neg cb, hNE.out]
                rw [← hNE.out] at cb
                have cbb := decide_eq_false cb
                clear hb1 hb3 HW1 HSN HALL hP1' hbt hE HV hNE cb
                go_wp2
                refine bodyPost_ret (v := .tuple #[.int .i64 (wrap64 (m + wrap64 (((s[k]'hks1).toNat : Int) % 128 * P))), .int .i64 ((k : Int) + 1), .int .i64 0]) (by simp [results, Try.results193, go_sem]) rfl ?_
                exact ⟨(takeE_of HG.out).symm, rfl⟩
    · have hk5 : k = 5 := by omega
      subst hk5
      have HG : Hid (takeV s = (0, 0, 2)) := by
        show _ = _
        unfold takeV
        rw [endOf_none (fun j h1 h2 => hI.out.2.2 j h2), if_pos (by omega), if_neg (by omega)]
      clear hI
      go_wp2
      refine bodyPost_ret (v := .tuple #[.int .i64 0, .int .i64 0, .int .i64 2]) (by simp [results, Try.results193, go_sem]) rfl ?_
      exact ⟨(takeE_of HG.out).symm, rfl⟩
end Go.Proofs.Ytfobnemocodomaa
