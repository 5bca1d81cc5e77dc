/- A row of versions of one's own: sorting by insertion. -/
import Derived.Test.YtfobnemocodomaaSrtA
set_option linter.unusedVariables false
set_option linter.unusedSimpArgs false
set_option maxHeartbeats 2000000
namespace Go.Proofs.Ytfobnemocodomaa
open Go.RowKit Go.Great

abbrev ltV (x y : Vx) : Bool := ltk Vx.P Vx.C x y
abbrev MrgV (r l : List Vx) : Prop := Mrg Vx.P Vx.C r l
theorem synC_lt (x y : Vx) : synC x y < 0 ↔ ltV x y = true := by
  unfold synC orC cmpC ltV ltk
  simp only [decide_eq_true_eq]
  by_cases h1 : x.P < y.P
  · rw [if_pos h1]; simp; omega
  · rw [if_neg h1]
    by_cases h2 : y.P < x.P
    · rw [if_pos h2]; simp; omega
    · rw [if_neg h2]
      by_cases h3 : y.C < x.C
      · rw [if_pos h3]; simp; omega
      · rw [if_neg h3]
        by_cases h4 : x.C < y.C
        · rw [if_pos h4]; simp; omega
        · rw [if_neg h4]; simp; omega
theorem set_swap2 (x z : List Vx) (p q : Vx) : ((x ++ p :: q :: z).set (x.length + 1) p).set x.length q = x ++ q :: p :: z := by
  have e : x ++ p :: q :: z = (x ++ [p]) ++ q :: z := by simp
  have h : (x ++ [p]).length = x.length + 1 := by simp
  rw [e, ← h, set_mid, show x ++ [p] ++ p :: z = x ++ p :: p :: z by simp, set_mid]
theorem get_at0 (x z : List Vx) (p q : Vx) : (x ++ p :: q :: z)[x.length]? = some p ∧ (x ++ p :: q :: z)[x.length + 1]? = some q := by
  refine ⟨get_mid _ _ _, ?_⟩
  have e : x ++ p :: q :: z = (x ++ [p]) ++ q :: z := by simp
  have h : (x ++ [p]).length = x.length + 1 := by simp
  rw [e, ← h, get_mid]
/-- one more is set into its place -/
theorem ins_step {S1 S2 U : List Vx} {x : Vx} {k : Nat} (hx0 : U[k]? = some x) (hM : MrgV (S1 ++ S2) (U.take k)) (h2 : ∀ y ∈ S2, ltV x y = true) (h1 : S1 = [] ∨ ∃ T y, S1 = T ++ [y] ∧ ltV x y = false) :
    MrgV (S1 ++ x :: S2) (U.take (k + 1)) := by
  obtain ⟨hk, hx⟩ := List.getElem?_eq_some_iff.1 hx0
  have hs := hM.srt
  have ha : ∀ z ∈ S1, ltV x z = false := by
    intro z hz
    rcases h1 with rfl | ⟨T, y, rfl, hy⟩
    · cases hz
    · rcases List.mem_append.1 hz with hz | hz
      · exact ltk_trans1 (Srt.cross (Srt.left hs) z hz y (by simp)) hy
      · simp at hz; subst hz; exact hy
  have hi := Mrg.ins2 (v := x) hs (i := S1.length) (by simp) (by rw [List.take_left]; exact ha) (by rw [List.drop_left]; exact h2)
  rw [List.take_left, List.drop_left] at hi
  have hU : U.take (k + 1) = U.take k ++ [x] := by rw [List.take_succ_eq_append_getElem hk, hx]
  rw [hU]
  refine ⟨?_, hi.srt, hi.stb.trans (hM.stb.app (Stb.refl _))⟩
  have a := hi.len
  have b := hM.len
  simp only [List.length_append, List.length_cons, List.length_nil] at *
  omega
set_option maxRecDepth 100000 in
theorem insert_any (gl n cap a b : Nat) (X U Z : List Vx) (w0 w : World) (hR : RS w0 gl (X ++ (U ++ Z)) w) (ha : X.length = a) (hb : a + U.length = b) (hn : (X ++ (U ++ Z)).length = n) (hlb : n ≤ 1000000) :
    Calls Try.prog 198 #[.slice (some ⟨gl, 0, none⟩) n cap, .int .i64 a, .int .i64 b, synF] w fun r w' => r = .returned (.tuple #[]) ∧ ∃ R, MrgV R U ∧ RS w0 gl (X ++ (R ++ Z)) w' := by
  have hlen : n = X.length + (U.length + Z.length) := by rw [← hn]; simp
  have R0 := Lib.hid hR
  obtain ⟨ad, had⟩ : ∃ ad, (⟨gl, 0, none⟩ : Addr) = ad := ⟨_, rfl⟩
  have HAD : Hid (ad = ⟨gl, 0, none⟩) := Lib.hid had.symm
  rw [had]
  have hb6 : b ≤ n := by omega
  have hab : a ≤ b := by omega
  have hb7 : b ≤ 1000000 := by omega
  have HX := Lib.hid ha
  have HU := Lib.hid hb
  have HN := Lib.hid hn
  clear hR ha hb hn hlen had
  have v1 : IntKind.i64.wrap ((a : Int) + 1) = ((a + 1 : Nat) : Int) := wrapk _ _ (by omega) (by omega)
  go_enter Try.func198, Try.ntmps198
  go_wp2
  go_loopw [8] (fun s wr => ∃ i : Nat, s = .int .i64 i ∧ a + 1 ≤ i ∧ i ≤ b + 1 ∧ Hid (∃ S, MrgV S (U.take (i - a)) ∧ RS w0 gl (X ++ (S ++ (U.drop (i - a) ++ Z))) wr)) (fun s _ => b + 1 - (intOf s).toNat)
  case atStart =>
    refine ⟨a + 1, rfl, Nat.le_refl _, by omega, Lib.hid ⟨U.take 1, ?_, ?_⟩⟩
    · rw [show a + 1 - a = 1 by omega]
      refine Mrg.refl ?_
      cases U with
      | nil => exact List.Pairwise.nil
      | cons u r => simp [Srt]
    · rw [show a + 1 - a = 1 by omega, ← List.append_assoc (U.take 1), List.take_append_drop]
      exact R0.out
  case round =>
    clear R0 v1
    obtain ⟨i, rfl, hi1, hi2, HS⟩ := hrel
    by_cases hlt : i < b
    · have hib : (i : Int) < b := by omega
      have hk : i - a < U.length := by have := HU.out; omega
      obtain ⟨x, hx⟩ : ∃ x, U[i - a] = x := ⟨_, rfl⟩
      have HUX : Hid (U[i - a]? = some x) := Lib.hid (by rw [← hx]; exact List.getElem?_eq_getElem hk)
      have ed : U.drop (i - a) = x :: U.drop (i - a + 1) := by rw [List.drop_eq_getElem_cons hk, hx]
      have HS0 : Hid (∃ S1 S2, a + S1.length = i ∧ MrgV (S1 ++ S2) (U.take (i - a)) ∧ (∀ y ∈ S2, ltV x y = true) ∧ RS w0 gl (X ++ (S1 ++ (x :: (S2 ++ (U.drop (i - a + 1) ++ Z))))) wr) := Lib.hid (by
        obtain ⟨S, hM, hR⟩ := HS.out
        have hl := hM.len
        rw [List.length_take] at hl
        refine ⟨S, [], by omega, by simpa using hM, by simp, ?_⟩
        rw [ed] at hR
        simpa using hR)
      clear HS hx ed hk
      go_wp2
      go_loopw [9] (fun s wi => ∃ j : Nat, s = .int .i64 j ∧ a ≤ j ∧ j ≤ i ∧ Hid (∃ S1 S2, a + S1.length = j ∧ MrgV (S1 ++ S2) (U.take (i - a)) ∧ (∀ y ∈ S2, ltV x y = true) ∧ RS w0 gl (X ++ (S1 ++ (x :: (S2 ++ (U.drop (i - a + 1) ++ Z))))) wi)) (fun s _ => (intOf s).toNat)
      case atStart => exact ⟨i, rfl, by omega, Nat.le_refl _, HS0⟩
      case round =>
        clear HS0
        obtain ⟨j, rfl, hj1, hj2, HJ⟩ := hrel
        by_cases hja : j = a
        · subst hja
          have hgt : ¬ ((j : Int) > (j : Int)) := by omega
          have HE : Hid (∃ S, MrgV S (U.take (i + 1 - j)) ∧ RS w0 gl (X ++ (S ++ (U.drop (i + 1 - j) ++ Z))) wr.drew) := Lib.hid (by
            obtain ⟨S1, S2, h1, hM, h2, hR⟩ := HJ.out
            obtain rfl : S1 = [] := List.eq_nil_of_length_eq_zero (by omega)
            rw [show i + 1 - j = i - j + 1 by omega]
            exact ⟨x :: S2, ins_step HUX.out hM h2 (Or.inl rfl), by simpa using hR.next (Gr.rfl' wr).dr⟩)
          clear HJ
          go_upto_region 4 with (fail)
          have hSS : Gr wr wr.drew := (Gr.rfl' _).dr
          refine region_T 16 (fun w' => Gr wr w') (by kernel_rfl) ?_
          refine anyT_take (i := 0) (v := ?_) (some 18) rfl rfl (by kernel_rfl) (fun _ _ _ h => h) (Or.inl ⟨by rfl, ?_⟩) hSS ?_
          rotate_left
          · intro w' hSw; go_simp; (try with_reducible rfl)
          simp only [Act.put, List.setIfInBounds_toArray, List.set_cons_zero, List.set_cons_succ]
          refine anyT_take (i := 1) (v := ?_) (some 19) rfl rfl (by kernel_rfl) (fun _ _ _ h => h) (Or.inl ⟨by rfl, ?_⟩) hSS ?_
          rotate_left
          · intro w' hSw; go_simp; (try with_reducible rfl)
          simp only [Act.put, List.setIfInBounds_toArray, List.set_cons_zero, List.set_cons_succ]
          refine anyT_take (i := 2) (v := ?_) (some 20) rfl rfl (by kernel_rfl) (fun _ _ _ h => h) (Or.inl ⟨by rfl, ?_⟩) hSS ?_
          rotate_left
          · intro w' hSw; go_simp; (try with_reducible rfl)
          simp only [Act.put, List.setIfInBounds_toArray, List.set_cons_zero, List.set_cons_succ]
          refine anyT_take (i := 3) (v := ?_) (some 21) rfl rfl (by kernel_rfl) (fun _ _ _ h => h) (Or.inl ⟨by rfl, ?_⟩) hSS ?_
          rotate_left
          · intro w' hSw; go_simp; (try with_reducible rfl)
          simp only [Act.put, List.setIfInBounds_toArray, List.set_cons_zero, List.set_cons_succ]
          refine anyT_take (i := 4) (v := undef) (some 22) rfl rfl (by kernel_rfl) (fun _ _ _ h => h) (Or.inr ⟨by rfl, rfl⟩) hSS ?_
          simp only [Act.put, List.setIfInBounds_toArray, List.set_cons_zero, List.set_cons_succ]
          refine anyT_take (i := 5) (v := undef) (some 23) rfl rfl (by kernel_rfl) (fun _ _ _ h => h) (Or.inr ⟨by rfl, rfl⟩) hSS ?_
          simp only [Act.put, List.setIfInBounds_toArray, List.set_cons_zero, List.set_cons_succ]
          refine anyT_take (i := 6) (v := undef) (some 24) rfl rfl (by kernel_rfl) (fun _ _ _ h => h) (Or.inr ⟨by rfl, rfl⟩) hSS ?_
          simp only [Act.put, List.setIfInBounds_toArray, List.set_cons_zero, List.set_cons_succ]
          refine anyT_take (i := 7) (v := undef) (some 25) rfl rfl (by kernel_rfl) (fun _ _ _ h => h) (Or.inr ⟨by rfl, rfl⟩) hSS ?_
          simp only [Act.put, List.setIfInBounds_toArray, List.set_cons_zero, List.set_cons_succ]
          refine anyT_take (i := 8) (v := undef) (some 26) rfl rfl (by kernel_rfl) (fun _ _ _ h => h) (Or.inr ⟨by rfl, rfl⟩) hSS ?_
          simp only [Act.put, List.setIfInBounds_toArray, List.set_cons_zero, List.set_cons_succ]
          refine anyT_take (i := 9) (v := undef) (some 27) rfl rfl (by kernel_rfl) (fun _ _ _ h => h) (Or.inr ⟨by rfl, rfl⟩) hSS ?_
          simp only [Act.put, List.setIfInBounds_toArray, List.set_cons_zero, List.set_cons_succ]
          refine anyT_take (i := 10) (v := undef) (some 28) rfl rfl (by kernel_rfl) (fun _ _ _ h => h) (Or.inr ⟨by rfl, rfl⟩) hSS ?_
          simp only [Act.put, List.setIfInBounds_toArray, List.set_cons_zero, List.set_cons_succ]
          refine anyT_take (i := 11) (v := undef) (some 29) rfl rfl (by kernel_rfl) (fun _ _ _ h => h) (Or.inr ⟨by rfl, rfl⟩) hSS ?_
          simp only [Act.put, List.setIfInBounds_toArray, List.set_cons_zero, List.set_cons_succ]
          refine anyT_take (i := 12) (v := undef) (some 30) rfl rfl (by kernel_rfl) (fun _ _ _ h => h) (Or.inr ⟨by rfl, rfl⟩) hSS ?_
          simp only [Act.put, List.setIfInBounds_toArray, List.set_cons_zero, List.set_cons_succ]
          refine anyT_take (i := 13) (v := undef) (some 31) rfl rfl (by kernel_rfl) (fun _ _ _ h => h) (Or.inr ⟨by rfl, rfl⟩) hSS ?_
          simp only [Act.put, List.setIfInBounds_toArray, List.set_cons_zero, List.set_cons_succ]
          refine anyT_take (i := 14) (v := undef) (some 32) rfl rfl (by kernel_rfl) (fun _ _ _ h => h) (Or.inr ⟨by rfl, rfl⟩) hSS ?_
          simp only [Act.put, List.setIfInBounds_toArray, List.set_cons_zero, List.set_cons_succ]
          refine anyT_take (i := 15) (v := undef) (some 33) rfl rfl (by kernel_rfl) (fun _ _ _ h => h) (Or.inr ⟨by rfl, rfl⟩) hSS ?_
          simp only [Act.put, List.setIfInBounds_toArray, List.set_cons_zero, List.set_cons_succ]
          refine anyT_last (some 34) (.bool false) (by kernel_rfl) (by kernel_rfl) rfl (by kernel_rfl) rfl (by kernel_rfl) ?_
          simp only [Act.put, List.setIfInBounds_toArray, List.set_cons_zero, List.set_cons_succ]
          go_wp2
          go_roundw
          case rel => exact ⟨i + 1, by go_num, by omega, by omega, HE⟩
          case measure => simp [intOf]; omega
        · obtain ⟨jp, rfl⟩ : ∃ jp, j = jp + 1 := ⟨j - 1, by omega⟩
          have hgt : ((jp + 1 : Nat) : Int) > (a : Int) := by omega
          obtain ⟨S1, S2, h1, hM, h2, hR⟩ := HJ.out
          obtain ⟨T, y, rfl⟩ : ∃ T y, S1 = T ++ [y] := by
            have hne : S1 ≠ [] := fun e => by rw [e] at h1; simp at h1; omega
            exact ⟨S1.dropLast, S1.getLast hne, (List.dropLast_concat_getLast hne).symm⟩
          have hform : X ++ ((T ++ [y]) ++ (x :: (S2 ++ (U.drop (i - a + 1) ++ Z)))) = (X ++ T) ++ y :: x :: (S2 ++ (U.drop (i - a + 1) ++ Z)) := by simp
          rw [hform] at hR
          have hl : (X ++ T).length = jp := by rw [List.length_append, HX.out]; simp at h1; omega
          have hg0 := get_at0 (X ++ T) (S2 ++ (U.drop (i - a + 1) ++ Z)) y x
          rw [hl] at hg0
          have LX : Hid (∀ w', Gr wr w' → ∀ q v, x.cells.toList[q]? = some v → w'.cell? ((ad.add ((jp + 1) * 5)).add q) = some v) := Lib.hid (fun w' g q v hq => (hR.next g).ld HAD.out hg0.2 q v hq)
          have LY : Hid (∀ w', Gr wr w' → ∀ q v, y.cells.toList[q]? = some v → w'.cell? ((ad.add (jp * 5)).add q) = some v) := Lib.hid (fun w' g q v hq => (hR.next g).ld HAD.out hg0.1 q v hq)
          have z1 : (0 : Int) ≤ ((jp + 1 : Nat) : Int) := by omega
          have z2 : ((jp + 1 : Nat) : Int) < n := by omega
          have z3 : (0 : Int) ≤ (jp : Int) := by omega
          have z4 : (jp : Int) < n := by omega
          have v2 : IntKind.i64.wrap (((jp + 1 : Nat) : Int) - 1) = (jp : Int) := wrapk _ _ (by omega) (by omega)
          have hiff := synC_lt x y
          obtain ⟨J, hJ⟩ : ∃ J, jp + 1 = J := ⟨_, rfl⟩
          rw [hJ] at LX hgt z1 z2 v2 hj1 hj2 ⊢
          have HJJ := Lib.hid hJ
          by_cases hlv : ltV x y = true
          · have hlt9 := hiff.2 hlv
            have HL : Hid (((X ++ T) ++ y :: x :: (S2 ++ (U.drop (i - a + 1) ++ Z))).length = n) := Lib.hid (by
              have hl2 := hM.len
              have hn2 := HN.out
              have hu2 := (List.getElem?_eq_some_iff.1 HUX.out).1
              simp only [List.length_append, List.length_take, List.length_cons, List.length_drop, List.length_nil] at *
              omega)
            have HSW : Hid ((((X ++ T) ++ y :: x :: (S2 ++ (U.drop (i - a + 1) ++ Z))).set J y).set jp x = (X ++ T) ++ x :: y :: (S2 ++ (U.drop (i - a + 1) ++ Z))) := Lib.hid (by rw [← hJ, ← hl]; exact set_swap2 _ _ _ _)
            have HNX : Hid (a + T.length = jp ∧ MrgV (T ++ (y :: S2)) (U.take (i - a)) ∧ (∀ z ∈ y :: S2, ltV x z = true)) := Lib.hid ⟨by simp at h1; omega, by simpa using hM, fun z hz => by
              rcases List.mem_cons.1 hz with rfl | hz
              · exact hlv
              · exact h2 z hz⟩
            have HR := Lib.hid hR
            clear hR hM h2 h1 hform hl hg0 hiff hlv HJ hJ
            go_upto_region 4 with (fail)
            have hSS : Gr wr wr.drew := (Gr.rfl' _).dr
            refine region_T 16 (fun w' => Gr wr w') (by kernel_rfl) ?_
            refine anyT_take (i := 0) (v := ?_) (some 18) rfl rfl (by kernel_rfl) (fun _ _ _ h => h) (Or.inl ⟨by rfl, ?_⟩) hSS ?_
            rotate_left
            · intro w' hSw; go_simp; (try with_reducible rfl)
            simp only [Act.put, List.setIfInBounds_toArray, List.set_cons_zero, List.set_cons_succ]
            refine anyT_take (i := 1) (v := ?_) (some 19) rfl rfl (by kernel_rfl) (fun _ _ _ h => h) (Or.inl ⟨by rfl, ?_⟩) hSS ?_
            rotate_left
            · intro w' hSw; go_simp; (try with_reducible rfl)
            simp only [Act.put, List.setIfInBounds_toArray, List.set_cons_zero, List.set_cons_succ]
            refine anyT_take (i := 2) (v := ?_) (some 20) rfl rfl (by kernel_rfl) (fun _ _ _ h => h) (Or.inl ⟨by rfl, ?_⟩) hSS ?_
            rotate_left
            · intro w' hSw; go_simp; (try with_reducible rfl)
            simp only [Act.put, List.setIfInBounds_toArray, List.set_cons_zero, List.set_cons_succ]
            refine anyT_take (i := 3) (v := ?_) (some 21) rfl rfl (by kernel_rfl) (fun _ _ _ h => h) (Or.inl ⟨by rfl, ?_⟩) hSS ?_
            rotate_left
            · intro w' hSw; go_simp; (try with_reducible rfl)
            simp only [Act.put, List.setIfInBounds_toArray, List.set_cons_zero, List.set_cons_succ]
            refine anyT_take (i := 4) (v := ?_) (some 22) rfl rfl (by kernel_rfl) (fun _ _ _ h => h) (Or.inl ⟨by rfl, ?_⟩) hSS ?_
            rotate_left
            · intro w' hSw; go_simp; (try with_reducible rfl)
            simp only [Act.put, List.setIfInBounds_toArray, List.set_cons_zero, List.set_cons_succ]
            refine anyT_take (i := 5) (v := ?_) (some 23) rfl rfl (by kernel_rfl) (fun _ _ _ h => h) (Or.inl ⟨by rfl, ?_⟩) hSS ?_
            rotate_left
            · intro w' hSw; go_simp; (try with_reducible rfl)
            simp only [Act.put, List.setIfInBounds_toArray, List.set_cons_zero, List.set_cons_succ]
            refine anyT_take (i := 6) (v := ?_) (some 24) rfl rfl (by kernel_rfl) (fun _ _ _ h => h) (Or.inl ⟨by rfl, ?_⟩) hSS ?_
            rotate_left
            · intro w' hSw; go_simp; (try with_reducible rfl)
            simp only [Act.put, List.setIfInBounds_toArray, List.set_cons_zero, List.set_cons_succ]
            refine anyT_take (i := 7) (v := ?_) (some 25) rfl rfl (by kernel_rfl) (fun _ _ _ h => h) (Or.inl ⟨by rfl, ?_⟩) hSS ?_
            rotate_left
            · intro w' hSw; go_simp; (try with_reducible rfl)
            simp only [Act.put, List.setIfInBounds_toArray, List.set_cons_zero, List.set_cons_succ]
            refine anyT_take (i := 8) (some 26) rfl rfl (by kernel_rfl) (fun _ _ _ h => h) (yieldsIf_ld (by rfl) 49 (.tmp 25) rfl (ad.add (J * 5)) rfl x.cells.toList _ (fun w' hSw => LX.out w' hSw) Try.underlying49 rfl (by kernel_rfl)) hSS ?_
            simp only [Act.put, List.setIfInBounds_toArray, List.set_cons_zero, List.set_cons_succ]
            refine anyT_take (i := 9) (v := ?_) (some 27) rfl rfl (by kernel_rfl) (fun _ _ _ h => h) (Or.inl ⟨by rfl, ?_⟩) hSS ?_
            rotate_left
            · intro w' hSw; go_simp; (try with_reducible rfl)
            simp only [Act.put, List.setIfInBounds_toArray, List.set_cons_zero, List.set_cons_succ]
            refine anyT_take (i := 10) (v := ?_) (some 28) rfl rfl (by kernel_rfl) (fun _ _ _ h => h) (Or.inl ⟨by rfl, ?_⟩) hSS ?_
            rotate_left
            · intro w' hSw; go_simp; (try with_reducible rfl)
            simp only [Act.put, List.setIfInBounds_toArray, List.set_cons_zero, List.set_cons_succ]
            refine anyT_take (i := 11) (v := ?_) (some 29) rfl rfl (by kernel_rfl) (fun _ _ _ h => h) (Or.inl ⟨by rfl, ?_⟩) hSS ?_
            rotate_left
            · intro w' hSw; go_simp; (try with_reducible rfl)
            simp only [Act.put, List.setIfInBounds_toArray, List.set_cons_zero, List.set_cons_succ]
            refine anyT_take (i := 12) (v := ?_) (some 30) rfl rfl (by kernel_rfl) (fun _ _ _ h => h) (Or.inl ⟨by rfl, ?_⟩) hSS ?_
            rotate_left
            · intro w' hSw; go_simp; (try with_reducible rfl)
            simp only [Act.put, List.setIfInBounds_toArray, List.set_cons_zero, List.set_cons_succ]
            refine anyT_take (i := 13) (some 31) rfl rfl (by kernel_rfl) (fun _ _ _ h => h) (yieldsIf_ld (by rfl) 49 (.tmp 30) rfl (ad.add (jp * 5)) rfl y.cells.toList _ (fun w' hSw => LY.out w' hSw) Try.underlying49 rfl (by kernel_rfl)) hSS ?_
            simp only [Act.put, List.setIfInBounds_toArray, List.set_cons_zero, List.set_cons_succ]
            refine anyT_callG (i := 14) (some 32) 107 #[.agg x.cells, .agg y.cells] (by kernel_rfl) rfl (by kernel_rfl) rfl (by kernel_rfl) ?_
            refine (sync1_any x y _).mono ?_
            rintro e wd ⟨rfl, hgd⟩
            replace hSS := hSS.tr hgd
            refine ⟨_, rfl, fun _ => hSS, ?_⟩
            simp only [Act.put, List.setIfInBounds_toArray, List.set_cons_zero, List.set_cons_succ]
            clear hgd
            obtain ⟨sv, hsv⟩ : ∃ s, synC x y = s := ⟨_, rfl⟩
            rw [hsv] at hlt9
            rw [hsv]
            clear hsv
            refine anyT_take (i := 15) (v := ?_) (some 33) rfl rfl (by kernel_rfl) (fun _ _ _ h => h) (Or.inl ⟨by rfl, ?_⟩) hSS ?_
            rotate_left
            · intro w' hSw; go_simp; (try with_reducible rfl)
            simp only [Act.put, List.setIfInBounds_toArray, List.set_cons_zero, List.set_cons_succ]
            refine anyT_last (some 34) (.bool true) (by kernel_rfl) (by kernel_rfl) rfl (by kernel_rfl) rfl (by kernel_rfl) ?_
            simp only [Act.put, List.setIfInBounds_toArray, List.set_cons_zero, List.set_cons_succ]
            have HR2 := Lib.hid (HR.out.next hSS)
            have LX2 : Hid (∀ q v, x.cells.toList[q]? = some v → wd.drew.cell? ((ad.add (J * 5)).add q) = some v) := Lib.hid (fun q v hq => LX.out _ (hSS.tr ((Gr.rfl' _).dr)) q v hq)
            have LY2 : Hid (∀ q v, y.cells.toList[q]? = some v → wd.drew.cell? ((ad.add (jp * 5)).add q) = some v) := Lib.hid (fun q v hq => LY.out _ (hSS.tr ((Gr.rfl' _).dr)) q v hq)
            clear HR LX LY hSS hlt9
            go_upto_region 6 with (fail)
            obtain ⟨wq, hwq⟩ : ∃ wq, wd.drew = wq := ⟨_, rfl⟩
            have HQ := Lib.hid (HR2.out.next (hwq ▸ (Gr.rfl' wd).dr))
            rw [hwq] at LX2 LY2
            refine region_F [15, 17] (fun w' => w' = wq) (by kernel_rfl) ?_
            rw [hwq]
            clear hwq HR2
            have hSS : wq = wq := rfl
            refine anyF_take (i := 0) (v := ?_) (some 37) rfl rfl (by kernel_rfl) (fun _ _ _ h => h) (Or.inl ⟨by rfl, ?_⟩) (fun _ => hSS) ?_
            rotate_left
            · intro w' _; go_simp; (try with_reducible rfl)
            simp only [Act.put, List.setIfInBounds_toArray, List.set_cons_zero, List.set_cons_succ]
            refine anyF_take (i := 1) (v := ?_) (some 38) rfl rfl (by kernel_rfl) (fun _ _ _ h => h) (Or.inl ⟨by rfl, ?_⟩) (fun _ => hSS) ?_
            rotate_left
            · intro w' _; go_simp; (try with_reducible rfl)
            simp only [Act.put, List.setIfInBounds_toArray, List.set_cons_zero, List.set_cons_succ]
            refine anyF_take (i := 2) (v := ?_) (some 39) rfl rfl (by kernel_rfl) (fun _ _ _ h => h) (Or.inl ⟨by rfl, ?_⟩) (fun _ => hSS) ?_
            rotate_left
            · intro w' _; go_simp; (try with_reducible rfl)
            simp only [Act.put, List.setIfInBounds_toArray, List.set_cons_zero, List.set_cons_succ]
            refine anyF_take (i := 3) (v := ?_) (some 40) rfl rfl (by kernel_rfl) (fun _ _ _ h => h) (Or.inl ⟨by rfl, ?_⟩) (fun _ => hSS) ?_
            rotate_left
            · intro w' _; go_simp; (try with_reducible rfl)
            simp only [Act.put, List.setIfInBounds_toArray, List.set_cons_zero, List.set_cons_succ]
            refine anyF_take (i := 4) (v := ?_) (some 41) rfl rfl (by kernel_rfl) (fun _ _ _ h => h) (Or.inl ⟨by rfl, ?_⟩) (fun _ => hSS) ?_
            rotate_left
            · intro w' _; go_simp; (try with_reducible rfl)
            simp only [Act.put, List.setIfInBounds_toArray, List.set_cons_zero, List.set_cons_succ]
            refine anyF_take (i := 5) (v := ?_) (some 42) rfl rfl (by kernel_rfl) (fun _ _ _ h => h) (Or.inl ⟨by rfl, ?_⟩) (fun _ => hSS) ?_
            rotate_left
            · intro w' _; go_simp; (try with_reducible rfl)
            simp only [Act.put, List.setIfInBounds_toArray, List.set_cons_zero, List.set_cons_succ]
            refine anyF_take (i := 6) (v := ?_) (some 43) rfl rfl (by kernel_rfl) (fun _ _ _ h => h) (Or.inl ⟨by rfl, ?_⟩) (fun _ => hSS) ?_
            rotate_left
            · intro w' _; go_simp; (try with_reducible rfl)
            simp only [Act.put, List.setIfInBounds_toArray, List.set_cons_zero, List.set_cons_succ]
            refine anyF_take (i := 7) (v := ?_) (some 44) rfl rfl (by kernel_rfl) (fun _ _ _ h => h) (Or.inl ⟨by rfl, ?_⟩) (fun _ => hSS) ?_
            rotate_left
            · intro w' _; go_simp; (try with_reducible rfl)
            simp only [Act.put, List.setIfInBounds_toArray, List.set_cons_zero, List.set_cons_succ]
            refine anyF_take (i := 8) (v := ?_) (some 45) rfl rfl (by kernel_rfl) (fun _ _ _ h => h) (Or.inl ⟨by rfl, ?_⟩) (fun _ => hSS) ?_
            rotate_left
            · intro w' _; go_simp; (try with_reducible rfl)
            simp only [Act.put, List.setIfInBounds_toArray, List.set_cons_zero, List.set_cons_succ]
            refine anyF_read (i := 9) (some 46) rfl rfl (by kernel_rfl) (by kernel_rfl) (fun _ _ _ h => h) (yieldsIf_ld (by rfl) 49 (.tmp 45) rfl (ad.add (jp * 5)) rfl y.cells.toList _ (fun w' hSw => by rw [hSw]; exact LY2.out) Try.underlying49 rfl (by kernel_rfl)) hSS ?_
            simp only [Act.put, List.setIfInBounds_toArray, List.set_cons_zero, List.set_cons_succ]
            refine anyF_take (i := 10) (v := ?_) (some 47) rfl rfl (by kernel_rfl) (fun _ _ _ h => h) (Or.inl ⟨by rfl, ?_⟩) (fun _ => hSS) ?_
            rotate_left
            · intro w' _; go_simp; (try with_reducible rfl)
            simp only [Act.put, List.setIfInBounds_toArray, List.set_cons_zero, List.set_cons_succ]
            refine anyF_take (i := 11) (v := ?_) (some 48) rfl rfl (by kernel_rfl) (fun _ _ _ h => h) (Or.inl ⟨by rfl, ?_⟩) (fun _ => hSS) ?_
            rotate_left
            · intro w' _; go_simp; (try with_reducible rfl)
            simp only [Act.put, List.setIfInBounds_toArray, List.set_cons_zero, List.set_cons_succ]
            refine anyF_take (i := 12) (v := ?_) (some 49) rfl rfl (by kernel_rfl) (fun _ _ _ h => h) (Or.inl ⟨by rfl, ?_⟩) (fun _ => hSS) ?_
            rotate_left
            · intro w' _; go_simp; (try with_reducible rfl)
            simp only [Act.put, List.setIfInBounds_toArray, List.set_cons_zero, List.set_cons_succ]
            refine anyF_read (i := 13) (some 50) rfl rfl (by kernel_rfl) (by kernel_rfl) (fun _ _ _ h => h) (yieldsIf_ld (by rfl) 49 (.tmp 49) rfl (ad.add (J * 5)) rfl x.cells.toList _ (fun w' hSw => by rw [hSw]; exact LX2.out) Try.underlying49 rfl (by kernel_rfl)) hSS ?_
            simp only [Act.put, List.setIfInBounds_toArray, List.set_cons_zero, List.set_cons_succ]
            refine anyF_take (i := 14) (v := ?_) (some 51) rfl rfl (by kernel_rfl) (fun _ _ _ h => h) (Or.inl ⟨by rfl, ?_⟩) (fun _ => hSS) ?_
            rotate_left
            · intro w' _; go_simp; (try with_reducible rfl)
            simp only [Act.put, List.setIfInBounds_toArray, List.set_cons_zero, List.set_cons_succ]
            refine anyF_its (i := 15) (by kernel_rfl) ?_
            refine wpOp_storeR y ad J HAD.out rfl rfl (.tmp 51) (.tmp 46) rfl rfl rfl rfl HQ.out (by rw [HL.out]; have := HJJ.out; omega) ?_
            intro w2 hR2 _
            refine ⟨fun hn => absurd' (by kernel_rfl) hn, ?_⟩
            have HR3 := Lib.hid hR2
            clear hR2 hSS HQ LX2 LY2
            refine anyF_take (i := 16) (v := ?_) (some 52) rfl rfl (by kernel_rfl) (fun _ _ _ h => h) (Or.inl ⟨by rfl, ?_⟩) (fun hn => absurd' (by kernel_rfl) hn) ?_
            rotate_left
            · intro w' _; go_simp; (try with_reducible rfl)
            simp only [Act.put, List.setIfInBounds_toArray, List.set_cons_zero, List.set_cons_succ]
            refine anyF_its (i := 17) (by kernel_rfl) ?_
            refine wpOp_storeR x ad jp HAD.out rfl rfl (.tmp 52) (.tmp 50) rfl rfl rfl rfl HR3.out (by rw [List.length_set, HL.out]; omega) ?_
            intro w3 hR3 _
            refine ⟨fun hn => absurd' (by kernel_rfl) hn, ?_⟩
            rw [HSW.out] at hR3
            have HR4 : Hid (RS w0 gl (X ++ (T ++ (x :: ((y :: S2) ++ (U.drop (i - a + 1) ++ Z))))) w3) := Lib.hid (by simpa using hR3)
            clear hR3 HR3 HSW HL
            refine anyF_done (by kernel_rfl) ?_ _
            go_wp2
            go_roundw
            case rel => exact ⟨jp, by go_num, by have := HJJ.out; have := HNX.out.1; omega, by have := HJJ.out; omega, Lib.hid ⟨T, y :: S2, HNX.out.1, HNX.out.2.1, HNX.out.2.2, HR4.out⟩⟩
            case measure => have := HJJ.out; simp [intOf]; omega
          · have hlt9 : ¬ synC x y < 0 := fun k => hlv (hiff.1 k)
            have HE : Hid (∃ S, MrgV S (U.take (i + 1 - a)) ∧ ∀ w', Gr wr w' → RS w0 gl (X ++ (S ++ (U.drop (i + 1 - a) ++ Z))) w') := Lib.hid (by
              rw [show i + 1 - a = i - a + 1 by omega]
              refine ⟨(T ++ [y]) ++ x :: S2, ins_step HUX.out hM h2 (Or.inr ⟨T, y, rfl, by simpa using hlv⟩), fun w' g => ?_⟩
              have := hR.next g
              rw [← hform] at this
              simpa using this)
            clear hR hM h2 h1 hform hl hg0 hiff hlv HJ hJ
            go_upto_region 4 with (fail)
            have hSS : Gr wr wr.drew := (Gr.rfl' _).dr
            refine region_T 16 (fun w' => Gr wr w') (by kernel_rfl) ?_
            refine anyT_take (i := 0) (v := ?_) (some 18) rfl rfl (by kernel_rfl) (fun _ _ _ h => h) (Or.inl ⟨by rfl, ?_⟩) hSS ?_
            rotate_left
            · intro w' hSw; go_simp; (try with_reducible rfl)
            simp only [Act.put, List.setIfInBounds_toArray, List.set_cons_zero, List.set_cons_succ]
            refine anyT_take (i := 1) (v := ?_) (some 19) rfl rfl (by kernel_rfl) (fun _ _ _ h => h) (Or.inl ⟨by rfl, ?_⟩) hSS ?_
            rotate_left
            · intro w' hSw; go_simp; (try with_reducible rfl)
            simp only [Act.put, List.setIfInBounds_toArray, List.set_cons_zero, List.set_cons_succ]
            refine anyT_take (i := 2) (v := ?_) (some 20) rfl rfl (by kernel_rfl) (fun _ _ _ h => h) (Or.inl ⟨by rfl, ?_⟩) hSS ?_
            rotate_left
            · intro w' hSw; go_simp; (try with_reducible rfl)
            simp only [Act.put, List.setIfInBounds_toArray, List.set_cons_zero, List.set_cons_succ]
            refine anyT_take (i := 3) (v := ?_) (some 21) rfl rfl (by kernel_rfl) (fun _ _ _ h => h) (Or.inl ⟨by rfl, ?_⟩) hSS ?_
            rotate_left
            · intro w' hSw; go_simp; (try with_reducible rfl)
            simp only [Act.put, List.setIfInBounds_toArray, List.set_cons_zero, List.set_cons_succ]
            refine anyT_take (i := 4) (v := ?_) (some 22) rfl rfl (by kernel_rfl) (fun _ _ _ h => h) (Or.inl ⟨by rfl, ?_⟩) hSS ?_
            rotate_left
            · intro w' hSw; go_simp; (try with_reducible rfl)
            simp only [Act.put, List.setIfInBounds_toArray, List.set_cons_zero, List.set_cons_succ]
            refine anyT_take (i := 5) (v := ?_) (some 23) rfl rfl (by kernel_rfl) (fun _ _ _ h => h) (Or.inl ⟨by rfl, ?_⟩) hSS ?_
            rotate_left
            · intro w' hSw; go_simp; (try with_reducible rfl)
            simp only [Act.put, List.setIfInBounds_toArray, List.set_cons_zero, List.set_cons_succ]
            refine anyT_take (i := 6) (v := ?_) (some 24) rfl rfl (by kernel_rfl) (fun _ _ _ h => h) (Or.inl ⟨by rfl, ?_⟩) hSS ?_
            rotate_left
            · intro w' hSw; go_simp; (try with_reducible rfl)
            simp only [Act.put, List.setIfInBounds_toArray, List.set_cons_zero, List.set_cons_succ]
            refine anyT_take (i := 7) (v := ?_) (some 25) rfl rfl (by kernel_rfl) (fun _ _ _ h => h) (Or.inl ⟨by rfl, ?_⟩) hSS ?_
            rotate_left
            · intro w' hSw; go_simp; (try with_reducible rfl)
            simp only [Act.put, List.setIfInBounds_toArray, List.set_cons_zero, List.set_cons_succ]
            refine anyT_take (i := 8) (some 26) rfl rfl (by kernel_rfl) (fun _ _ _ h => h) (yieldsIf_ld (by rfl) 49 (.tmp 25) rfl (ad.add (J * 5)) rfl x.cells.toList _ (fun w' hSw => LX.out w' hSw) Try.underlying49 rfl (by kernel_rfl)) hSS ?_
            simp only [Act.put, List.setIfInBounds_toArray, List.set_cons_zero, List.set_cons_succ]
            refine anyT_take (i := 9) (v := ?_) (some 27) rfl rfl (by kernel_rfl) (fun _ _ _ h => h) (Or.inl ⟨by rfl, ?_⟩) hSS ?_
            rotate_left
            · intro w' hSw; go_simp; (try with_reducible rfl)
            simp only [Act.put, List.setIfInBounds_toArray, List.set_cons_zero, List.set_cons_succ]
            refine anyT_take (i := 10) (v := ?_) (some 28) rfl rfl (by kernel_rfl) (fun _ _ _ h => h) (Or.inl ⟨by rfl, ?_⟩) hSS ?_
            rotate_left
            · intro w' hSw; go_simp; (try with_reducible rfl)
            simp only [Act.put, List.setIfInBounds_toArray, List.set_cons_zero, List.set_cons_succ]
            refine anyT_take (i := 11) (v := ?_) (some 29) rfl rfl (by kernel_rfl) (fun _ _ _ h => h) (Or.inl ⟨by rfl, ?_⟩) hSS ?_
            rotate_left
            · intro w' hSw; go_simp; (try with_reducible rfl)
            simp only [Act.put, List.setIfInBounds_toArray, List.set_cons_zero, List.set_cons_succ]
            refine anyT_take (i := 12) (v := ?_) (some 30) rfl rfl (by kernel_rfl) (fun _ _ _ h => h) (Or.inl ⟨by rfl, ?_⟩) hSS ?_
            rotate_left
            · intro w' hSw; go_simp; (try with_reducible rfl)
            simp only [Act.put, List.setIfInBounds_toArray, List.set_cons_zero, List.set_cons_succ]
            refine anyT_take (i := 13) (some 31) rfl rfl (by kernel_rfl) (fun _ _ _ h => h) (yieldsIf_ld (by rfl) 49 (.tmp 30) rfl (ad.add (jp * 5)) rfl y.cells.toList _ (fun w' hSw => LY.out w' hSw) Try.underlying49 rfl (by kernel_rfl)) hSS ?_
            simp only [Act.put, List.setIfInBounds_toArray, List.set_cons_zero, List.set_cons_succ]
            refine anyT_callG (i := 14) (some 32) 107 #[.agg x.cells, .agg y.cells] (by kernel_rfl) rfl (by kernel_rfl) rfl (by kernel_rfl) ?_
            refine (sync1_any x y _).mono ?_
            rintro e wd ⟨rfl, hgd⟩
            replace hSS := hSS.tr hgd
            refine ⟨_, rfl, fun _ => hSS, ?_⟩
            simp only [Act.put, List.setIfInBounds_toArray, List.set_cons_zero, List.set_cons_succ]
            clear hgd
            obtain ⟨sv, hsv⟩ : ∃ s, synC x y = s := ⟨_, rfl⟩
            rw [hsv] at hlt9
            rw [hsv]
            clear hsv
            refine anyT_take (i := 15) (v := ?_) (some 33) rfl rfl (by kernel_rfl) (fun _ _ _ h => h) (Or.inl ⟨by rfl, ?_⟩) hSS ?_
            rotate_left
            · intro w' hSw; go_simp; (try with_reducible rfl)
            simp only [Act.put, List.setIfInBounds_toArray, List.set_cons_zero, List.set_cons_succ]
            refine anyT_last (some 34) (.bool false) (by kernel_rfl) (by kernel_rfl) rfl (by kernel_rfl) rfl (by kernel_rfl) ?_
            simp only [Act.put, List.setIfInBounds_toArray, List.set_cons_zero, List.set_cons_succ]
            go_wp2
            go_roundw
            case rel => exact ⟨i + 1, by go_num, by omega, by omega, Lib.hid (by obtain ⟨S, a1, a2⟩ := HE.out; exact ⟨S, a1, a2 _ hSS⟩)⟩
            case measure => simp [intOf]; omega
    · have hib : ¬ (i : Int) < b := by omega
      have HE : Hid (∃ R, MrgV R U ∧ RS w0 gl (X ++ (R ++ Z)) wr) := Lib.hid (by
        obtain ⟨S, hM, hR⟩ := HS.out
        have hu := HU.out
        rw [List.take_of_length_le (by omega)] at hM
        rw [List.drop_of_length_le (by omega), List.nil_append] at hR
        exact ⟨S, hM, hR⟩)
      clear HS
      go_wp2
      go_end0
      exact ⟨rfl, HE.out⟩
end Go.Proofs.Ytfobnemocodomaa
