/- slices.CompactFunc of sorted versions: of each run of one peer the first is kept. -/
import Derived.Test.YtfobnemocodomaaSynJ
import Derived.Test.YtfobnemocodomaaSrtC
set_option linter.unusedVariables false
set_option linter.unusedSimpArgs false
set_option maxHeartbeats 2000000
namespace Go.Proofs.Ytfobnemocodomaa
open Go.RowKit Go.Great

theorem cgo_take : ∀ (l : List Vx) (prev : Vx) (k : Nat) (h : k < l.length), cgo prev (l.take (k + 1)) = cgo prev (l.take k) ++ (if l[k].P = ((prev :: l)[k]'(by simp; omega)).P then [] else [l[k]])
  | [], _, _, h => by simp at h
  | y :: r, prev, 0, _ => by simp [cgo]
  | y :: r, prev, k + 1, h => by
    have ih := cgo_take r y k (by simpa using h)
    rw [List.take_succ_cons, List.take_succ_cons]
    unfold cgo
    by_cases e : y.P = prev.P
    · rw [if_pos e, if_pos e, ih]; simp
    · rw [if_neg e, if_neg e, ih]; simp
theorem cmp_take {l : List Vx} {k : Nat} (h : k + 1 < l.length) : cmpV (l.take (k + 2)) = cmpV (l.take (k + 1)) ++ (if l[k + 1].P = l[k].P then [] else [l[k + 1]]) := by
  cases l with
  | nil => simp at h
  | cons x r =>
    have := cgo_take r x k (by simpa using h)
    rw [List.take_succ_cons, List.take_succ_cons]
    show x :: cgo x (r.take (k + 1)) = (x :: cgo x (r.take k)) ++ _
    rw [this]; simp
abbrev synE : Value := .func (.func 109) #[] #[]
set_option maxRecDepth 100000 in
theorem compNil_any (w : World) : Calls Try.prog 108 #[.slice none 0 0, synE] w fun r w' => r = .returned (.slice none 0 0) ∧ w' = w := by
  go_enter Try.func108, Try.ntmps108
  go_wp2
  go_ret
  exact ⟨rfl, rfl⟩
theorem two_at {R : List Vx} {p : Nat} (h : p + 1 < R.length) {x y : Vx} (hx : R[p + 1] = x) (hy : R[p] = y) : R.drop p = y :: x :: R.drop (p + 2) := by
  rw [List.drop_eq_getElem_cons (by omega), hy, List.drop_eq_getElem_cons h, hx]
/-- one step of the inner loop -/
theorem cmp_step {R : List Vx} {m : Nat} {kept mid : List Vx} {x y : Vx} (h : m + 1 < R.length) (hx : R[m + 1] = x) (hy : R[m] = y) (hk : kept = cmpV (R.take (m + 1))) (hm : kept.length + mid.length = m) :
    (x.P = y.P → kept = cmpV (R.take (m + 2))) ∧ (x.P ≠ y.P → ∃ t, t.length = mid.length ∧ kept ++ [x] = cmpV (R.take (m + 2)) ∧ (kept ++ (mid ++ R.drop m)).set kept.length x = (kept ++ [x]) ++ (t ++ R.drop (m + 1))) := by
  have hc := cmp_take h
  rw [hx, hy, ← hk] at hc
  constructor
  · intro e; rw [hc, if_pos e, List.append_nil]
  · intro e
    rw [if_neg e] at hc
    have ed : R.drop m = y :: R.drop (m + 1) := by rw [List.drop_eq_getElem_cons (by omega), hy]
    cases hmid : mid ++ [y] with
    | nil => simp at hmid
    | cons a t =>
      have hl := congrArg List.length hmid
      simp at hl
      refine ⟨t, by omega, hc.symm, ?_⟩
      have e1 : mid ++ R.drop m = a :: (t ++ R.drop (m + 1)) := by
        rw [ed, show mid ++ y :: R.drop (m + 1) = (mid ++ [y]) ++ R.drop (m + 1) by simp, hmid]; rfl
      rw [e1, set_mid]; simp
set_option maxRecDepth 100000 in
theorem comp_any (gl n cap : Nat) (l : List Vx) (w0 w : World) (hR : RS w0 gl l w) (hn : l.length = n) (hnc : n ≤ cap) (hlb : n ≤ 1000000) :
    Calls Try.prog 108 #[.slice (some ⟨gl, 0, none⟩) n cap, synE] w fun r w' =>
      r = .returned (.slice (some ⟨gl, 0, none⟩) (cmpV l).length cap) ∧ RS w0 gl (cmpV l) w' := by
  have R0 := Lib.hid hR
  have HN := Lib.hid hn
  obtain ⟨ad, had⟩ : ∃ ad, (⟨gl, 0, none⟩ : Addr) = ad := ⟨_, rfl⟩
  have HAD : Hid (ad = ⟨gl, 0, none⟩) := Lib.hid had.symm
  rw [had]
  clear hR had
  by_cases h2 : n < 2
  · have h2i : (n : Int) < 2 := by omega
    have HC : Hid (cmpV l = l) := Lib.hid (by
      match l, hn with
      | [], _ => rfl
      | [x], _ => rfl
      | _ :: _ :: _, h => simp at h; omega)
    clear hn
    go_enter Try.func108, Try.ntmps108
    go_wp2
    go_ret
    rw [HC.out, HN.out]
    exact ⟨rfl, R0.out⟩
  · have h2i : ¬ (n : Int) < 2 := by omega
    have hk0 : Hid (cmpV (l.take 1) = l.take 1) := Lib.hid (by
      match l, hn with
      | [], _ => rfl
      | x :: r, _ => rfl)
    clear hn
    go_enter Try.func108, Try.ntmps108
    go_wp2
    go_loopw [5] (fun s wr => ∃ k : Nat, s = .int .i64 k ∧ 1 ≤ k ∧ k ≤ n ∧ Hid (cmpV (l.take k) = l.take k) ∧ Hid (RS w0 gl l wr)) (fun s _ => n - (intOf s).toNat)
    case atStart => exact ⟨1, rfl, Nat.le_refl _, by omega, hk0, R0⟩
    case round =>
      clear hk0 R0
      obtain ⟨k, rfl, hk1, hkn, HK, HR⟩ := hrel
      by_cases hlt : k < n
      · have hki : (k : Int) < n := by omega
        obtain ⟨jp, hjp⟩ : ∃ jp, k = jp + 1 := ⟨k - 1, by omega⟩
        have hkl : jp + 1 < l.length := by rw [HN.out]; omega
        obtain ⟨x, hx⟩ : ∃ x, l[jp + 1] = x := ⟨_, rfl⟩
        obtain ⟨y, hy⟩ : ∃ y, l[jp] = y := ⟨_, rfl⟩
        have hc := cmp_take hkl
        rw [hx, hy] at hc
        have LX : Hid (∀ w', Gr wr w' → ∀ q v, x.cells.toList[q]? = some v → w'.cell? ((ad.add (k * 5)).add q) = some v) := Lib.hid (fun w' g q v hq => by rw [hjp]; exact (HR.out.next g).ld HAD.out (by rw [List.getElem?_eq_getElem hkl, hx]) q v hq)
        have LY : Hid (∀ w', Gr wr w' → ∀ q v, y.cells.toList[q]? = some v → w'.cell? ((ad.add (jp * 5)).add q) = some v) := Lib.hid (fun w' g q v hq => (HR.out.next g).ld HAD.out (by rw [List.getElem?_eq_getElem (by omega), hy]) q v hq)
        have z1 : (0 : Int) ≤ (k : Int) := by omega
        have z3 : (0 : Int) ≤ (jp : Int) := by omega
        have z4 : (jp : Int) < n := by omega
        have v2 : IntKind.i64.wrap ((k : Int) - 1) = (jp : Int) := wrapk _ _ (by omega) (by omega)
        have HJ := Lib.hid hjp
        by_cases hq : (x.P == y.P) = true
        · have HM0 : Hid (∃ kept mid, kept = cmpV (l.take (jp + 2)) ∧ kept.length = k ∧ mid.length = 0 ∧ RS w0 gl (kept ++ (mid ++ l.drop (jp + 1))) wr) := Lib.hid (by
            have e : x.P = y.P := by simpa using hq
            rw [if_pos e, List.append_nil] at hc
            refine ⟨l.take k, [], by rw [hc, ← hjp]; exact HK.out.symm, by rw [List.length_take]; omega, rfl, ?_⟩
            rw [List.nil_append, ← hjp, List.take_append_drop]
            exact HR.out)
          clear hc hx hy hkl HK hjp
          have c1 : (k : Int) ≤ n := by omega
          have c2 : (k : Int) ≤ cap := by omega
          have c2' : (n : Int) ≤ cap := by omega
          have c3 : ¬ (cap - k = 0) := by omega
          have c4 : ¬ (cap = k) := by omega
          go_upto_region 6 with (fail)
          have hSS : Gr wr wr.drew := (Gr.rfl' _).dr
          refine region_T 10 (fun w' => Gr wr w') (by kernel_rfl) ?_
          refine anyT_take (i := 0) (v := ?_) (some 18) rfl rfl (by kernel_rfl) (fun _ _ _ h => h) (Or.inl ⟨by rfl, ?_⟩) hSS ?_
          rotate_left
          · intro w' hSw; go_simp; (try with_reducible rfl)
          simp only [Act.put, List.setIfInBounds_toArray, List.set_cons_zero, List.set_cons_succ]
          refine anyT_take (i := 1) (v := ?_) (some 19) rfl rfl (by kernel_rfl) (fun _ _ _ h => h) (Or.inl ⟨by rfl, ?_⟩) hSS ?_
          rotate_left
          · intro w' hSw; go_simp; (try with_reducible rfl)
          simp only [Act.put, List.setIfInBounds_toArray, List.set_cons_zero, List.set_cons_succ]
          refine anyT_take (i := 2) (v := ?_) (some 20) rfl rfl (by kernel_rfl) (fun _ _ _ h => h) (Or.inl ⟨by rfl, ?_⟩) hSS ?_
          rotate_left
          · intro w' hSw; go_simp; (try with_reducible rfl)
          simp only [Act.put, List.setIfInBounds_toArray, List.set_cons_zero, List.set_cons_succ]
          refine anyT_take (i := 3) (v := ?_) (some 21) rfl rfl (by kernel_rfl) (fun _ _ _ h => h) (Or.inl ⟨by rfl, ?_⟩) hSS ?_
          rotate_left
          · intro w' hSw; go_simp; (try with_reducible rfl)
          simp only [Act.put, List.setIfInBounds_toArray, List.set_cons_zero, List.set_cons_succ]
          refine anyT_take (i := 4) (some 22) rfl rfl (by kernel_rfl) (fun _ _ _ h => h) (yieldsIf_ld (by rfl) 49 (.tmp 21) rfl (ad.add (k * 5)) rfl x.cells.toList _ (fun w' hSw => LX.out w' hSw) Try.underlying49 rfl (by kernel_rfl)) hSS ?_
          simp only [Act.put, List.setIfInBounds_toArray, List.set_cons_zero, List.set_cons_succ]
          refine anyT_take (i := 5) (v := ?_) (some 23) rfl rfl (by kernel_rfl) (fun _ _ _ h => h) (Or.inl ⟨by rfl, ?_⟩) hSS ?_
          rotate_left
          · intro w' hSw; go_simp; (try with_reducible rfl)
          simp only [Act.put, List.setIfInBounds_toArray, List.set_cons_zero, List.set_cons_succ]
          refine anyT_take (i := 6) (v := ?_) (some 24) rfl rfl (by kernel_rfl) (fun _ _ _ h => h) (Or.inl ⟨by rfl, ?_⟩) hSS ?_
          rotate_left
          · intro w' hSw; go_simp; (try with_reducible rfl)
          simp only [Act.put, List.setIfInBounds_toArray, List.set_cons_zero, List.set_cons_succ]
          refine anyT_take (i := 7) (v := ?_) (some 25) rfl rfl (by kernel_rfl) (fun _ _ _ h => h) (Or.inl ⟨by rfl, ?_⟩) hSS ?_
          rotate_left
          · intro w' hSw; go_simp; (try with_reducible rfl)
          simp only [Act.put, List.setIfInBounds_toArray, List.set_cons_zero, List.set_cons_succ]
          refine anyT_take (i := 8) (v := ?_) (some 26) rfl rfl (by kernel_rfl) (fun _ _ _ h => h) (Or.inl ⟨by rfl, ?_⟩) hSS ?_
          rotate_left
          · intro w' hSw; go_simp; (try with_reducible rfl)
          simp only [Act.put, List.setIfInBounds_toArray, List.set_cons_zero, List.set_cons_succ]
          refine anyT_take (i := 9) (some 27) rfl rfl (by kernel_rfl) (fun _ _ _ h => h) (yieldsIf_ld (by rfl) 49 (.tmp 26) rfl (ad.add (jp * 5)) rfl y.cells.toList _ (fun w' hSw => LY.out w' hSw) Try.underlying49 rfl (by kernel_rfl)) hSS ?_
          simp only [Act.put, List.setIfInBounds_toArray, List.set_cons_zero, List.set_cons_succ]
          refine anyT_callG (i := 10) (some 28) 109 #[.agg x.cells, .agg y.cells] (by kernel_rfl) rfl (by kernel_rfl) rfl (by kernel_rfl) ?_
          refine (sync2_any x y _).mono ?_
          rintro e wd ⟨rfl, hgd⟩
          replace hSS := hSS.tr hgd
          refine ⟨_, rfl, fun _ => hSS, ?_⟩
          simp only [Act.put, List.setIfInBounds_toArray, List.set_cons_zero, List.set_cons_succ]
          clear hgd
          refine anyT_done (by kernel_rfl) ?_ _
          rw [hq]
          simp only [Array.toArray_toList]
          have HM1 : Hid (∃ kept mid, kept = cmpV (l.take (jp + 2)) ∧ kept.length = k ∧ mid.length = 0 ∧ RS w0 gl (kept ++ (mid ++ l.drop (jp + 1))) wd) := Lib.hid (by
            obtain ⟨a, b, d1, d2, d3, d4⟩ := HM0.out
            exact ⟨a, b, d1, d2, d3, d4.next hSS⟩)
          clear HM0 HR LX LY hSS z1 z3 z4 v2 hq
          obtain ⟨M, hM⟩ : ∃ M, n - k = M := ⟨_, rfl⟩
          have hM2 : 1 ≤ M := by omega
          go_wp2
          have HMM := Lib.hid hM
          clear hM
          obtain ⟨ad2, hd2⟩ : ∃ ad2, ad.add (k * 5) = ad2 := ⟨_, rfl⟩
          have HD2 := Lib.hid hd2.symm
          rw [hd2]
          clear hd2
          have hMn : k + M = n := by have := HMM.out; omega
          have HMN := Lib.hid hMn
          clear hMn
          go_loopw [5, 7] (fun s t wr => ∃ i p q : Nat, s = .int .i64 i ∧ t = .int .i64 q ∧ Hid (q = p + 1) ∧ q ≤ M ∧ Hid (∃ kept mid, kept = cmpV (l.take (k + p + 1)) ∧ kept.length = i ∧ kept.length + mid.length = k + p ∧ RS w0 gl (kept ++ (mid ++ l.drop (k + p))) wr)) (fun _ t _ => M - (intOf t).toNat)
          case atStart =>
            refine ⟨k, 0, 1, rfl, rfl, Lib.hid rfl, hM2, Lib.hid ?_⟩
            obtain ⟨a, b, d1, d2, d3, d4⟩ := HM1.out
            have hj := HJ.out
            exact ⟨a, b, by rw [d1]; congr 2; omega, d2, by omega, by rw [show k + 0 = jp + 1 by omega]; exact d4⟩
          case round =>
            clear HM1 hM2
            obtain ⟨i, p, q, rfl, rfl, HQ, hqM, HU⟩ := hrel
            by_cases hqlt : q < M
            · have hqi : (q : Int) < M := by omega
              obtain ⟨kept, mid, hk, hkl, hml, hR⟩ := HU.out
              have hql : k + p + 1 < l.length := by have := HQ.out; have := HMN.out; rw [HN.out]; omega
              obtain ⟨x, hx⟩ : ∃ x, l[k + p + 1] = x := ⟨_, rfl⟩
              obtain ⟨y, hy⟩ : ∃ y, l[k + p] = y := ⟨_, rfl⟩
              have hst := cmp_step hql hx hy hk hml
              have ed := two_at hql hx hy
              have hg0 := get_at0 (kept ++ mid) (l.drop (k + p + 2)) y x
              have hform : kept ++ (mid ++ l.drop (k + p)) = (kept ++ mid) ++ y :: x :: l.drop (k + p + 2) := by rw [ed]; simp
              have hlm : (kept ++ mid).length = k + p := by rw [List.length_append]; exact hml
              rw [hlm, ← hform] at hg0
              have hAX : ad2.add (q * 5) = ad.add ((k + p + 1) * 5) := by rw [HD2.out, HAD.out, add_mid', add_mid', add_mid', HQ.out]; congr 1; omega
              have hAY : ad2.add (p * 5) = ad.add ((k + p) * 5) := by rw [HD2.out, HAD.out, add_mid', add_mid', add_mid']; congr 1; omega
              have LX : Hid (∀ w', Gr wr w' → ∀ j v, x.cells.toList[j]? = some v → w'.cell? ((ad2.add (q * 5)).add j) = some v) := Lib.hid (fun w' g j v hj => by rw [hAX]; exact (hR.next g).ld HAD.out hg0.2 j v hj)
              have LY : Hid (∀ w', Gr wr w' → ∀ j v, y.cells.toList[j]? = some v → w'.cell? ((ad2.add (p * 5)).add j) = some v) := Lib.hid (fun w' g j v hj => by rw [hAY]; exact (hR.next g).ld HAD.out hg0.1 j v hj)
              have HL : Hid (i < (kept ++ (mid ++ l.drop (k + p))).length) := Lib.hid (by rw [hform]; simp only [List.length_append, List.length_cons] at *; omega)
              have z1 : (0 : Int) ≤ (q : Int) := by omega
              have z3 : (0 : Int) ≤ (p : Int) := by omega
              have z4 : (p : Int) < M := by have := HQ.out; omega
              have v2 : IntKind.i64.wrap ((q : Int) - 1) = (p : Int) := wrapk _ _ (by have := HQ.out; omega) (by have := HQ.out; have := HMN.out; omega)
              have z5 : (0 : Int) ≤ (i : Int) := by omega
              have z7 : q ≤ 1000000 := by have := HMN.out; omega
              have z8 : i ≤ 1000000 := by have := HMN.out; have := HQ.out; omega
              have z6 : (i : Int) < n := by have := HMN.out; have := HQ.out; omega
              have HR := Lib.hid hR
              by_cases hq : (x.P == y.P) = true
              · have HE : Hid (∀ W', RS w0 gl (kept ++ (mid ++ l.drop (k + p))) W' → ∃ kept mid, kept = cmpV (l.take (k + (p + 1) + 1)) ∧ kept.length = i ∧ kept.length + mid.length = k + (p + 1) ∧ RS w0 gl (kept ++ (mid ++ l.drop (k + (p + 1)))) W') := Lib.hid (fun W' h => by
                  have e : x.P = y.P := by simpa using hq
                  refine ⟨kept, mid ++ [y], hst.1 e, hkl, by rw [List.length_append, List.length_singleton]; omega, ?_⟩
                  rw [List.drop_eq_getElem_cons (by omega), hy] at h
                  rw [List.append_assoc]; exact h)
                clear hst ed hg0 hform hlm hAX hAY hR hx hy hql hk hkl hml HU HL z5 z6
                go_upto_region 11 with (fail)
                have hSS : Gr wr wr.drew := (Gr.rfl' _).dr
                refine region_T 11 (fun w' => Gr wr w') (by kernel_rfl) ?_
                refine anyT_take (i := 0) (v := ?_) (some 38) rfl rfl (by kernel_rfl) (fun _ _ _ h => h) (Or.inl ⟨by rfl, ?_⟩) hSS ?_
                rotate_left
                · intro w' hSw; go_simp; (try with_reducible rfl)
                simp only [Act.put, List.setIfInBounds_toArray, List.set_cons_zero, List.set_cons_succ]
                refine anyT_take (i := 1) (v := ?_) (some 39) rfl rfl (by kernel_rfl) (fun _ _ _ h => h) (Or.inl ⟨by rfl, ?_⟩) hSS ?_
                rotate_left
                · intro w' hSw; go_simp; (try with_reducible rfl)
                simp only [Act.put, List.setIfInBounds_toArray, List.set_cons_zero, List.set_cons_succ]
                refine anyT_take (i := 2) (v := ?_) (some 40) rfl rfl (by kernel_rfl) (fun _ _ _ h => h) (Or.inl ⟨by rfl, ?_⟩) hSS ?_
                rotate_left
                · intro w' hSw; go_simp; (try with_reducible rfl)
                simp only [Act.put, List.setIfInBounds_toArray, List.set_cons_zero, List.set_cons_succ]
                refine anyT_take (i := 3) (v := ?_) (some 41) rfl rfl (by kernel_rfl) (fun _ _ _ h => h) (Or.inl ⟨by rfl, ?_⟩) hSS ?_
                rotate_left
                · intro w' hSw; go_simp; (try with_reducible rfl)
                simp only [Act.put, List.setIfInBounds_toArray, List.set_cons_zero, List.set_cons_succ]
                refine anyT_take (i := 4) (some 42) rfl rfl (by kernel_rfl) (fun _ _ _ h => h) (yieldsIf_ld (by rfl) 49 (.tmp 41) rfl (ad2.add (q * 5)) rfl x.cells.toList _ (fun w' hSw => LX.out w' hSw) Try.underlying49 rfl (by kernel_rfl)) hSS ?_
                simp only [Act.put, List.setIfInBounds_toArray, List.set_cons_zero, List.set_cons_succ]
                refine anyT_take (i := 5) (v := ?_) (some 43) rfl rfl (by kernel_rfl) (fun _ _ _ h => h) (Or.inl ⟨by rfl, ?_⟩) hSS ?_
                rotate_left
                · intro w' hSw; go_simp; (try with_reducible rfl)
                simp only [Act.put, List.setIfInBounds_toArray, List.set_cons_zero, List.set_cons_succ]
                refine anyT_take (i := 6) (v := ?_) (some 44) rfl rfl (by kernel_rfl) (fun _ _ _ h => h) (Or.inl ⟨by rfl, ?_⟩) hSS ?_
                rotate_left
                · intro w' hSw; go_simp; (try with_reducible rfl)
                simp only [Act.put, List.setIfInBounds_toArray, List.set_cons_zero, List.set_cons_succ]
                refine anyT_take (i := 7) (v := ?_) (some 45) rfl rfl (by kernel_rfl) (fun _ _ _ h => h) (Or.inl ⟨by rfl, ?_⟩) hSS ?_
                rotate_left
                · intro w' hSw; go_simp; (try with_reducible rfl)
                simp only [Act.put, List.setIfInBounds_toArray, List.set_cons_zero, List.set_cons_succ]
                refine anyT_take (i := 8) (v := ?_) (some 46) rfl rfl (by kernel_rfl) (fun _ _ _ h => h) (Or.inl ⟨by rfl, ?_⟩) hSS ?_
                rotate_left
                · intro w' hSw; go_simp; (try with_reducible rfl)
                simp only [Act.put, List.setIfInBounds_toArray, List.set_cons_zero, List.set_cons_succ]
                refine anyT_take (i := 9) (some 47) rfl rfl (by kernel_rfl) (fun _ _ _ h => h) (yieldsIf_ld (by rfl) 49 (.tmp 46) rfl (ad2.add (p * 5)) rfl y.cells.toList _ (fun w' hSw => LY.out w' hSw) Try.underlying49 rfl (by kernel_rfl)) hSS ?_
                simp only [Act.put, List.setIfInBounds_toArray, List.set_cons_zero, List.set_cons_succ]
                refine anyT_callG (i := 10) (some 48) 109 #[.agg x.cells, .agg y.cells] (by kernel_rfl) rfl (by kernel_rfl) rfl (by kernel_rfl) ?_
                refine (sync2_any x y _).mono ?_
                rintro e wd ⟨rfl, hgd⟩
                replace hSS := hSS.tr hgd
                refine ⟨_, rfl, fun _ => hSS, ?_⟩
                simp only [Act.put, List.setIfInBounds_toArray, List.set_cons_zero, List.set_cons_succ]
                clear hgd
                rw [hq]
                refine anyT_last (some 49) (.bool false) (by kernel_rfl) (by kernel_rfl) rfl (by kernel_rfl) rfl (by kernel_rfl) ?_
                simp only [Act.put, List.setIfInBounds_toArray, List.set_cons_zero, List.set_cons_succ]
                go_wp2
                go_roundw
                case rel => exact ⟨i, p + 1, q + 1, rfl, by go_num, Lib.hid (by rw [HQ.out]), by omega, Lib.hid (HE.out _ (HR.out.next hSS))⟩
                case measure => simp [intOf]; omega
              · have hq : (x.P == y.P) = false := by simpa using hq
                have HE : Hid (∀ W', RS w0 gl ((kept ++ (mid ++ l.drop (k + p))).set i x) W' → ∃ kept mid, kept = cmpV (l.take (k + (p + 1) + 1)) ∧ kept.length = i + 1 ∧ kept.length + mid.length = k + (p + 1) ∧ RS w0 gl (kept ++ (mid ++ l.drop (k + (p + 1)))) W') := Lib.hid (fun W' h => by
                  have e : ¬ x.P = y.P := by simpa using hq
                  obtain ⟨t, t1, t2, t3⟩ := hst.2 e
                  rw [← hkl, t3] at h
                  exact ⟨kept ++ [x], t, t2, by simp; omega, by rw [List.length_append, List.length_singleton]; omega, h⟩)
                clear hst ed hg0 hform hlm hAX hAY hR hx hy hql hk hkl hml HU
                go_upto_region 11 with (fail)
                have hSS : Gr wr wr.drew := (Gr.rfl' _).dr
                refine region_T 11 (fun w' => Gr wr w') (by kernel_rfl) ?_
                refine anyT_take (i := 0) (v := ?_) (some 38) rfl rfl (by kernel_rfl) (fun _ _ _ h => h) (Or.inl ⟨by rfl, ?_⟩) hSS ?_
                rotate_left
                · intro w' hSw; go_simp; (try with_reducible rfl)
                simp only [Act.put, List.setIfInBounds_toArray, List.set_cons_zero, List.set_cons_succ]
                refine anyT_take (i := 1) (v := ?_) (some 39) rfl rfl (by kernel_rfl) (fun _ _ _ h => h) (Or.inl ⟨by rfl, ?_⟩) hSS ?_
                rotate_left
                · intro w' hSw; go_simp; (try with_reducible rfl)
                simp only [Act.put, List.setIfInBounds_toArray, List.set_cons_zero, List.set_cons_succ]
                refine anyT_take (i := 2) (v := ?_) (some 40) rfl rfl (by kernel_rfl) (fun _ _ _ h => h) (Or.inl ⟨by rfl, ?_⟩) hSS ?_
                rotate_left
                · intro w' hSw; go_simp; (try with_reducible rfl)
                simp only [Act.put, List.setIfInBounds_toArray, List.set_cons_zero, List.set_cons_succ]
                refine anyT_take (i := 3) (v := ?_) (some 41) rfl rfl (by kernel_rfl) (fun _ _ _ h => h) (Or.inl ⟨by rfl, ?_⟩) hSS ?_
                rotate_left
                · intro w' hSw; go_simp; (try with_reducible rfl)
                simp only [Act.put, List.setIfInBounds_toArray, List.set_cons_zero, List.set_cons_succ]
                refine anyT_take (i := 4) (some 42) rfl rfl (by kernel_rfl) (fun _ _ _ h => h) (yieldsIf_ld (by rfl) 49 (.tmp 41) rfl (ad2.add (q * 5)) rfl x.cells.toList _ (fun w' hSw => LX.out w' hSw) Try.underlying49 rfl (by kernel_rfl)) hSS ?_
                simp only [Act.put, List.setIfInBounds_toArray, List.set_cons_zero, List.set_cons_succ]
                refine anyT_take (i := 5) (v := ?_) (some 43) rfl rfl (by kernel_rfl) (fun _ _ _ h => h) (Or.inl ⟨by rfl, ?_⟩) hSS ?_
                rotate_left
                · intro w' hSw; go_simp; (try with_reducible rfl)
                simp only [Act.put, List.setIfInBounds_toArray, List.set_cons_zero, List.set_cons_succ]
                refine anyT_take (i := 6) (v := ?_) (some 44) rfl rfl (by kernel_rfl) (fun _ _ _ h => h) (Or.inl ⟨by rfl, ?_⟩) hSS ?_
                rotate_left
                · intro w' hSw; go_simp; (try with_reducible rfl)
                simp only [Act.put, List.setIfInBounds_toArray, List.set_cons_zero, List.set_cons_succ]
                refine anyT_take (i := 7) (v := ?_) (some 45) rfl rfl (by kernel_rfl) (fun _ _ _ h => h) (Or.inl ⟨by rfl, ?_⟩) hSS ?_
                rotate_left
                · intro w' hSw; go_simp; (try with_reducible rfl)
                simp only [Act.put, List.setIfInBounds_toArray, List.set_cons_zero, List.set_cons_succ]
                refine anyT_take (i := 8) (v := ?_) (some 46) rfl rfl (by kernel_rfl) (fun _ _ _ h => h) (Or.inl ⟨by rfl, ?_⟩) hSS ?_
                rotate_left
                · intro w' hSw; go_simp; (try with_reducible rfl)
                simp only [Act.put, List.setIfInBounds_toArray, List.set_cons_zero, List.set_cons_succ]
                refine anyT_take (i := 9) (some 47) rfl rfl (by kernel_rfl) (fun _ _ _ h => h) (yieldsIf_ld (by rfl) 49 (.tmp 46) rfl (ad2.add (p * 5)) rfl y.cells.toList _ (fun w' hSw => LY.out w' hSw) Try.underlying49 rfl (by kernel_rfl)) hSS ?_
                simp only [Act.put, List.setIfInBounds_toArray, List.set_cons_zero, List.set_cons_succ]
                refine anyT_callG (i := 10) (some 48) 109 #[.agg x.cells, .agg y.cells] (by kernel_rfl) rfl (by kernel_rfl) rfl (by kernel_rfl) ?_
                refine (sync2_any x y _).mono ?_
                rintro e wd ⟨rfl, hgd⟩
                replace hSS := hSS.tr hgd
                refine ⟨_, rfl, fun _ => hSS, ?_⟩
                simp only [Act.put, List.setIfInBounds_toArray, List.set_cons_zero, List.set_cons_succ]
                clear hgd
                rw [hq]
                refine anyT_last (some 49) (.bool true) (by kernel_rfl) (by kernel_rfl) rfl (by kernel_rfl) rfl (by kernel_rfl) ?_
                simp only [Act.put, List.setIfInBounds_toArray, List.set_cons_zero, List.set_cons_succ]
                have LX2 : Hid (∀ j v, x.cells.toList[j]? = some v → wd.cell? ((ad2.add (q * 5)).add j) = some v) := Lib.hid (LX.out wd hSS)
                have HR2 := Lib.hid (HR.out.next hSS)
                clear HR LX LY hSS
                go_wp2_with (first
                  | refine ld_at rfl 49 (.tmp 54) rfl _ rfl x.cells.toList _ LX2.out Try.underlying49 rfl (by kernel_rfl) ?_
                  | (refine storeR x ad i HAD.out rfl (.tmp 56) (.tmp 55) rfl rfl rfl rfl HR2.out HL.out ?_; intro w5 hR5 _; have HR5 := Lib.hid hR5; clear hR5))
                go_roundw
                case rel => exact ⟨i + 1, p + 1, q + 1, by go_num, by go_num, Lib.hid (by rw [HQ.out]), by omega, Lib.hid (HE.out _ HR5.out)⟩
                case measure => simp [intOf]; omega
            · have hqi : ¬ (q : Int) < M := by omega
              have HF : Hid (∃ mid, (cmpV l).length = i ∧ i + mid.length = n ∧ 0 < mid.length ∧ RS w0 gl (cmpV l ++ mid) wr) := Lib.hid (by
                obtain ⟨kept, mid, hk, hkl, hml, hR⟩ := HU.out
                have a := HQ.out; have b := HMN.out; have c := HN.out
                rw [List.take_of_length_le (by omega)] at hk
                rw [hk] at hR hkl hml
                refine ⟨mid ++ l.drop (k + p), hkl, ?_, ?_, hR⟩
                · rw [List.length_append, List.length_drop]; omega
                · rw [List.length_append, List.length_drop]; omega)
              have hin : i < n := by obtain ⟨mid, h1, h2, h3, _⟩ := HF.out; omega
              clear HU
              have y1 : (0 : Int) ≤ i := by omega
              have y2 : (i : Int) ≤ n := by omega
              have y3 : (n : Int) ≤ cap := by omega
              have y4 : (i : Int) ≤ cap := by omega
              have hc1 : ¬ (cap - i = 0) := by omega
              have hc2 : ¬ (cap = i) := by omega
              have hh := HAD.out
              subst hh
              obtain ⟨mid, hf1, hf2, hf4, hf3⟩ := HF.out
              obtain ⟨uu, huu⟩ : ∃ u, cmpV l = u := ⟨_, rfl⟩
              rw [huu] at hf1 hf3
              have HUU := Lib.hid huu
              have HX := Lib.hid hf3
              have HLN : Hid (0 < n - i ∧ i + (n - i) = (uu ++ mid).length) := Lib.hid (by rw [List.length_append]; omega)
              have HT : Hid ((uu ++ mid).take i = uu) := Lib.hid (by rw [← hf1, List.take_left])
              have HU := Lib.hid hf1
              clear hf1 hf2 hf3 hf4 huu HF
              go_wp2_with (refine clearR i (n - i) (cap - i) rfl (.tmp 61) rfl rfl rfl HX.out HLN.out.1 HLN.out.2 ?_; intro w5 hR5 _; rw [HT.out] at hR5; have HR5 := Lib.hid hR5; clear hR5)
              go_ret
              rw [HUU.out, HU.out]
              exact ⟨rfl, HR5.out⟩
        · have hq : (x.P == y.P) = false := by simpa using hq
          have HK2 : Hid (cmpV (l.take (k + 1)) = l.take (k + 1)) := Lib.hid (by
            have e : ¬ x.P = y.P := by simpa using hq
            have hK := HK.out
            rw [if_neg e, ← hjp, hK] at hc
            rw [hjp] at hc ⊢
            rw [hc, List.take_succ_eq_append_getElem hkl, hx])
          clear hc hx hy hkl hjp
          go_upto_region 6 with (fail)
          have hSS : Gr wr wr.drew := (Gr.rfl' _).dr
          refine region_T 10 (fun w' => Gr wr w') (by kernel_rfl) ?_
          refine anyT_take (i := 0) (v := ?_) (some 18) rfl rfl (by kernel_rfl) (fun _ _ _ h => h) (Or.inl ⟨by rfl, ?_⟩) hSS ?_
          rotate_left
          · intro w' hSw; go_simp; (try with_reducible rfl)
          simp only [Act.put, List.setIfInBounds_toArray, List.set_cons_zero, List.set_cons_succ]
          refine anyT_take (i := 1) (v := ?_) (some 19) rfl rfl (by kernel_rfl) (fun _ _ _ h => h) (Or.inl ⟨by rfl, ?_⟩) hSS ?_
          rotate_left
          · intro w' hSw; go_simp; (try with_reducible rfl)
          simp only [Act.put, List.setIfInBounds_toArray, List.set_cons_zero, List.set_cons_succ]
          refine anyT_take (i := 2) (v := ?_) (some 20) rfl rfl (by kernel_rfl) (fun _ _ _ h => h) (Or.inl ⟨by rfl, ?_⟩) hSS ?_
          rotate_left
          · intro w' hSw; go_simp; (try with_reducible rfl)
          simp only [Act.put, List.setIfInBounds_toArray, List.set_cons_zero, List.set_cons_succ]
          refine anyT_take (i := 3) (v := ?_) (some 21) rfl rfl (by kernel_rfl) (fun _ _ _ h => h) (Or.inl ⟨by rfl, ?_⟩) hSS ?_
          rotate_left
          · intro w' hSw; go_simp; (try with_reducible rfl)
          simp only [Act.put, List.setIfInBounds_toArray, List.set_cons_zero, List.set_cons_succ]
          refine anyT_take (i := 4) (some 22) rfl rfl (by kernel_rfl) (fun _ _ _ h => h) (yieldsIf_ld (by rfl) 49 (.tmp 21) rfl (ad.add (k * 5)) rfl x.cells.toList _ (fun w' hSw => LX.out w' hSw) Try.underlying49 rfl (by kernel_rfl)) hSS ?_
          simp only [Act.put, List.setIfInBounds_toArray, List.set_cons_zero, List.set_cons_succ]
          refine anyT_take (i := 5) (v := ?_) (some 23) rfl rfl (by kernel_rfl) (fun _ _ _ h => h) (Or.inl ⟨by rfl, ?_⟩) hSS ?_
          rotate_left
          · intro w' hSw; go_simp; (try with_reducible rfl)
          simp only [Act.put, List.setIfInBounds_toArray, List.set_cons_zero, List.set_cons_succ]
          refine anyT_take (i := 6) (v := ?_) (some 24) rfl rfl (by kernel_rfl) (fun _ _ _ h => h) (Or.inl ⟨by rfl, ?_⟩) hSS ?_
          rotate_left
          · intro w' hSw; go_simp; (try with_reducible rfl)
          simp only [Act.put, List.setIfInBounds_toArray, List.set_cons_zero, List.set_cons_succ]
          refine anyT_take (i := 7) (v := ?_) (some 25) rfl rfl (by kernel_rfl) (fun _ _ _ h => h) (Or.inl ⟨by rfl, ?_⟩) hSS ?_
          rotate_left
          · intro w' hSw; go_simp; (try with_reducible rfl)
          simp only [Act.put, List.setIfInBounds_toArray, List.set_cons_zero, List.set_cons_succ]
          refine anyT_take (i := 8) (v := ?_) (some 26) rfl rfl (by kernel_rfl) (fun _ _ _ h => h) (Or.inl ⟨by rfl, ?_⟩) hSS ?_
          rotate_left
          · intro w' hSw; go_simp; (try with_reducible rfl)
          simp only [Act.put, List.setIfInBounds_toArray, List.set_cons_zero, List.set_cons_succ]
          refine anyT_take (i := 9) (some 27) rfl rfl (by kernel_rfl) (fun _ _ _ h => h) (yieldsIf_ld (by rfl) 49 (.tmp 26) rfl (ad.add (jp * 5)) rfl y.cells.toList _ (fun w' hSw => LY.out w' hSw) Try.underlying49 rfl (by kernel_rfl)) hSS ?_
          simp only [Act.put, List.setIfInBounds_toArray, List.set_cons_zero, List.set_cons_succ]
          refine anyT_callG (i := 10) (some 28) 109 #[.agg x.cells, .agg y.cells] (by kernel_rfl) rfl (by kernel_rfl) rfl (by kernel_rfl) ?_
          refine (sync2_any x y _).mono ?_
          rintro e wd ⟨rfl, hgd⟩
          replace hSS := hSS.tr hgd
          refine ⟨_, rfl, fun _ => hSS, ?_⟩
          simp only [Act.put, List.setIfInBounds_toArray, List.set_cons_zero, List.set_cons_succ]
          clear hgd
          refine anyT_done (by kernel_rfl) ?_ _
          rw [hq]
          go_wp2
          go_roundw
          case rel => exact ⟨k + 1, by go_num, by omega, by omega, HK2, Lib.hid (HR.out.next hSS)⟩
          case measure => simp [intOf]; omega
      · have hki : ¬ (k : Int) < n := by omega
        have HE : Hid (cmpV l = l) := Lib.hid (by
          have h := HK.out
          rw [List.take_of_length_le (by rw [HN.out]; omega)] at h
          exact h)
        go_wp2
        go_ret
        rw [HE.out, HN.out]
        exact ⟨rfl, HR.out⟩
end Go.Proofs.Ytfobnemocodomaa
