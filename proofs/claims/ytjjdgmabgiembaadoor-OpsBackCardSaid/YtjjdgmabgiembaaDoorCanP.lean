/- What is taken is what is put: the plain law. -/
import Derived.Test.YtjjdgmabgiembaaDoorBackP
set_option linter.unusedVariables false
set_option linter.unusedSimpArgs false
set_option maxHeartbeats 400000
namespace Go.Proofs.YtjjdgmabgiembaaDoor
open Go.RowKit Go.Shelf

theorem numFrom_pos (S : ByteArray) : ∀ e i, byt S (i + e) < 128 → byt S (i + e) ≠ 0 → 0 < numFrom S i (e + 1)
  | 0, i, h1, h2 => by
    have := byt_bd S i
    rw [Nat.add_zero] at h1 h2
    simp only [numFrom]; omega
  | e + 1, i, h1, h2 => by
    have h := numFrom_pos S e (i + 1) (by rw [show i + 1 + e = i + (e + 1) by omega]; exact h1) (by rw [show i + 1 + e = i + (e + 1) by omega]; exact h2)
    have := byt_bd S i
    show 0 < byt S i % 128 + 128 * numFrom S (i + 1) (e + 1)
    omega
theorem grp_numFrom (S : ByteArray) : ∀ e i, (∀ j, j < e → 128 ≤ byt S (i + j)) → byt S (i + e) < 128 → (0 < e → byt S (i + e) ≠ 0) → grpN (numFrom S i (e + 1)).toNat = (List.range (e + 1)).map fun j => byt S (i + j)
  | 0, i, _, h1, _ => by
    have hb := byt_bd S i
    rw [Nat.add_zero] at h1
    have e0 : numFrom S i 1 = byt S i := by simp only [numFrom]; omega
    rw [e0, grpN_small (by omega)]
    show [((byt S i).toNat : Int)] = [byt S (i + 0)]
    rw [Nat.add_zero]
    congr 1; omega
  | e + 1, i, h0, h1, h2 => by
    have ih := grp_numFrom S e (i + 1) (fun j hj => by rw [show i + 1 + j = i + (j + 1) by omega]; exact h0 (j + 1) (by omega)) (by rw [show i + 1 + e = i + (e + 1) by omega]; exact h1) (fun _ => by rw [show i + 1 + e = i + (e + 1) by omega]; exact h2 (by omega))
    have hp := numFrom_pos S e (i + 1) (by rw [show i + 1 + e = i + (e + 1) by omega]; exact h1) (by rw [show i + 1 + e = i + (e + 1) by omega]; exact h2 (by omega))
    have hb := byt_bd S i
    have hb0 := h0 0 (by omega)
    rw [Nat.add_zero] at hb0
    have hn : numFrom S i (e + 1 + 1) = byt S i % 128 + 128 * numFrom S (i + 1) (e + 1) := rfl
    obtain ⟨m, hm⟩ : ∃ m, numFrom S (i + 1) (e + 1) = m := ⟨_, rfl⟩
    rw [hm] at ih hp hn
    have hbig : 128 ≤ (numFrom S i (e + 1 + 1)).toNat := by omega
    rw [grpN_big hbig]
    have hdiv : (numFrom S i (e + 1 + 1)).toNat / 128 = m.toNat := by omega
    have hmod : ((numFrom S i (e + 1 + 1)).toNat : Int) % 128 + 128 = byt S i := by omega
    rw [hdiv, hmod, ih, List.range_succ_eq_map (n := e + 1), List.map_cons, List.map_map, Nat.add_zero]
    congr 1
    apply List.map_congr_left
    intro j _
    simp only [Function.comp_apply]
    rw [show i + 1 + j = i + (j + 1) by omega]
theorem byt_ofNat (S : ByteArray) (j : Nat) (h : j < S.size) : UInt8.ofNat (byt S j).toNat = S.data.toList[j]'(by simpa using h) := by
  rw [byt_at h, Int.toNat_natCast]
  show UInt8.ofNat (S[j]).toNat = _
  rw [UInt8.ofNat_toNat]
  rfl
theorem cutB_list (S : ByteArray) (k : Nat) : (cutB S k).data.toList = S.data.toList.drop k := by
  unfold cutB
  rw [Lib.extract_data]
  apply List.take_of_length_le
  simp
/-- the bytes of a number that was taken -/
theorem can_take {S : ByteArray} {a k : Int} (hv : takeV S = (a, k, 0)) : (putS a).data.toList = S.data.toList.take k.toNat := by
  rcases endOf_spec S with ⟨h, _⟩ | ⟨e, h, he, he5, hl, hlo⟩
  · unfold takeV at hv
    rw [h, if_pos (by omega)] at hv
    split at hv <;> simp at hv
  · unfold takeV at hv
    rw [h, if_neg (by omega)] at hv
    split at hv
    · simp at hv
    · rename_i h0
      split at hv
      · simp at hv
      · rename_i h1
        simp only [Prod.mk.injEq, Int.toNat_natCast, and_true] at hv h0 h1
        obtain ⟨rfl, rfl⟩ := hv
        have hb0 := (numFrom_bd5 S (e + 1) 0 (by omega)).1
        have hg := grp_numFrom S e 0 (fun j hj => by rw [Nat.zero_add]; exact hlo j hj) (by rw [Nat.zero_add]; exact hl) (fun hp h => h0 ⟨by rw [Nat.zero_add] at h; exact h, by omega⟩)
        simp only [Nat.zero_add] at hg
        have hput : putS (numFrom S 0 (e + 1)) = strOfNums (grpN (numFrom S 0 (e + 1)).toNat) := by unfold putS; rw [if_pos (by omega)]
        rw [hput, strOfNums_data, hg, List.map_map, show ((e : Int) + 1).toNat = e + 1 by omega]
        apply List.ext_getElem
        · simp; omega
        · intro j h2 h3
          simp only [List.length_map, List.length_range] at h2
          simp only [List.getElem_map, List.getElem_range, Function.comp_apply, List.getElem_take]
          exact byt_ofNat S j (by omega)
theorem numM_of {m : Int} {S : ByteArray} (h : (numM m S 0).2.2 = 0) : ∃ k, takeV S = ((numM m S 0).1, k, 0) ∧ (numM m S 0).1 ≤ m ∧ (numM m S 0).2.1 = cutB S k.toNat := by
  unfold numM at h ⊢
  rw [if_neg (by simp)] at h ⊢
  obtain ⟨a, k, c, hv⟩ : ∃ a k c, takeV S = (a, k, c) := ⟨_, _, _, rfl⟩
  rw [hv] at h ⊢
  simp only at h ⊢
  split at h
  · rename_i hn; exact absurd h hn
  · rename_i hn
    simp only [ne_eq, Decidable.not_not] at hn
    have hc0 : c = 0 ∧ a ≤ m := by
      unfold numE at hn
      split at hn <;> omega
    rw [if_neg (by simpa using hn)]
    exact ⟨k, by rw [hc0.1], hc0.2, rfl⟩
/-- a number taken: its bytes stand first -/
theorem can_num {m : Int} {S : ByteArray} (h : (numM m S 0).2.2 = 0) : S.data.toList = (putS (numM m S 0).1).data.toList ++ (numM m S 0).2.1.data.toList ∧ 0 ≤ (numM m S 0).1 ∧ (numM m S 0).1 ≤ m ∧ (numM m S 0).1 ≤ 1073741824 := by
  obtain ⟨k, hv, hm, hc⟩ := numM_of h
  refine ⟨?_, (numM_bd m S).1, hm, (numM_bd m S).2.1⟩
  rw [can_take hv, hc, cutB_list, List.take_append_drop]
theorem can_txt {m : Int} {S : ByteArray} (h : (txtM m S 0).2.2 = 0) : S.data.toList = (putS (txtM m S 0).1.size).data.toList ++ (txtM m S 0).1.data.toList ++ (txtM m S 0).2.1.data.toList ∧ ((txtM m S 0).1.size : Int) ≤ m := by
  rw [txtM_of] at h ⊢
  by_cases h1 : (numM m S 0).2.2 = 0
  · rw [if_neg (by simpa using h1)] at h ⊢
    obtain ⟨c1, c2, c3, _⟩ := can_num h1
    obtain ⟨n, hn⟩ : ∃ n : Nat, (numM m S 0).1 = n := ⟨(numM m S 0).1.toNat, by omega⟩
    rw [hn] at h c1 c3 ⊢
    split at h
    · simp at h
    · rename_i h2
      rw [if_neg h2]
      simp only [Int.toNat_natCast]
      have hsz : ((numM m S 0).2.1.extract 0 n).size = n := by rw [ByteArray.size_extract]; omega
      rw [hsz]
      refine ⟨?_, c3⟩
      rw [Lib.extract_data, Lib.extract_data, List.drop_zero, Nat.sub_zero, List.append_assoc, List.take_of_length_le (l := (numM m S 0).2.1.data.toList.drop n) (by simp), List.take_append_drop]
      exact c1
  · rw [if_pos (by simpa using h1)] at h
    exact absurd h h1
theorem can_flg {S : ByteArray} (h : (flgM S 0).2.2 = 0) : S.data.toList = (if (flgM S 0).1 then 1 else 0) :: (flgM S 0).2.1.data.toList := by
  rw [flgM_of] at h ⊢
  split at h
  · simp at h
  · rename_i h0
    rw [if_neg h0]
    split at h
    · simp at h
    · rename_i h1
      rw [if_neg h1]
      simp only
      rw [cutB_list]
      obtain ⟨c, r, hl⟩ : ∃ c r, S.data.toList = c :: r := by
        cases hd : S.data.toList with
        | nil =>
          exfalso; apply h0
          have := congrArg List.length hd
          simpa using this
        | cons c r => exact ⟨c, r, rfl⟩
      have hS : S = ⟨(c :: r).toArray⟩ := by rw [← hl]
      have hb : byt S 0 = (c.toNat : Int) := by rw [hS]; exact byt_list (c :: r) 0 (by simp)
      clear hS
      rw [hl, hb]
      rw [hb] at h1
      simp only [List.drop_succ_cons, List.drop_zero, List.cons.injEq, and_true]
      have h3 : c.toNat = 0 ∨ c.toNat = 1 := by omega
      rcases h3 with h3 | h3
      · have : c = 0 := UInt8.toNat_inj.1 h3
        subst this; rfl
      · have : c = 1 := UInt8.toNat_inj.1 h3
        subst this; rfl
theorem can_dig {S : ByteArray} (h : (dgM S 0).2.2 = 0) : S.data.toList = (dgM S 0).1 ++ (dgM S 0).2.1.data.toList := by
  unfold dgM at h ⊢
  rw [if_neg (by simp)] at h ⊢
  unfold digP at h ⊢
  by_cases h0 : S.size < 32
  · rw [if_pos h0] at h; simp at h
  · rw [if_neg h0]
    simp only [ne_eq, not_true_eq_false, if_false]
    rw [cutB_list, List.take_append_drop]
end Go.Proofs.YtjjdgmabgiembaaDoor
