/- What readers see: the document's Winner. -/
import Derived.Test.YtfobnemocodomaaSynE
set_option linter.unusedVariables false
set_option linter.unusedSimpArgs false
set_option maxHeartbeats 2000000
namespace Go.Proofs.Ytfobnemocodomaa
open Go.RowKit Go.Great

def unb (X : List Vx) (x : Vx) : Bool := !(X.any fun y => winsV y x)
theorem find_first {p : List Vx} {q q' : Vx → Bool} {m : Vx} (h : p.find? q = some m) (hq : ∀ x, q x = false → q' x = false) (hm : q' m = true) : p.find? q' = some m := by
  induction p with
  | nil => cases h
  | cons x r ih =>
    rw [List.find?_cons] at h ⊢
    cases hx : q x with
    | true => rw [hx] at h; cases h; rw [hm]
    | false => rw [hx] at h; rw [hq x hx]; exact ih h
theorem find_none' {p : List Vx} {q : Vx → Bool} (h : ∀ x ∈ p, q x = false) : p.find? q = none := by
  rw [List.find?_eq_none]; intro x hx; rw [h x hx]; simp
theorem wins_live {x y : Vx} (hx : x.D = false) (hy : y.D = false) : winsV x y = later x y := by unfold winsV; rw [if_neg (by rw [hx, hy]; simp)]
theorem unb_iff (X : List Vx) (x : Vx) : unb X x = true ↔ ∀ y ∈ X, winsV y x = false := by
  unfold unb
  rw [Bool.not_eq_true', List.any_eq_false]
  constructor
  · intro h y hy; have := h y hy; simpa using this
  · intro h y hy; rw [h y hy]; simp
theorem bestP_find : ∀ (r : List Vx) (p : List Vx) (m : Vx), (∀ x ∈ p ++ r, x.D = false) → m ∈ p → p.find? (unb p) = some m → (p ++ r).find? (unb (p ++ r)) = some (bestP m r)
  | [], p, m, _, _, h => by rw [List.append_nil]; exact h
  | v :: r, p, m, hd, hmp, h => by
    have hdm : m.D = false := hd m (by simp [hmp])
    have hdv : v.D = false := hd v (by simp)
    have e : p ++ v :: r = (p ++ [v]) ++ r := by simp
    have eb : bestP m (v :: r) = bestP (if winsV v m = true then v else m) r := rfl
    have hmu := (unb_iff p m).1 (by have := List.find?_some h; exact this)
    rw [e, eb]
    rw [e] at hd
    by_cases hw : winsV v m = true
    · rw [if_pos hw]
      have key : ∀ x ∈ p, winsV v x = true := fun x hx => by
        have h1 := hmu x hx
        have hdx : x.D = false := hd x (by simp [hx])
        rw [wins_live hdx hdm] at h1
        rw [wins_live hdv hdm] at hw
        rw [wins_live hdv hdx]
        unfold later at *
        simp only [decide_eq_false_iff_not, decide_eq_true_eq] at *
        omega
      refine bestP_find r (p ++ [v]) v hd (by simp) ?_
      rw [List.find?_append, find_none' (fun x hx => by
        unfold unb
        rw [Bool.not_eq_false', List.any_eq_true]
        exact ⟨v, by simp, key x hx⟩)]
      have : unb (p ++ [v]) v = true := by
        rw [unb_iff]
        intro y hy
        rcases List.mem_append.1 hy with hy | hy
        · have := key y hy
          have hdy : y.D = false := hd y (by simp [hy])
          rw [wins_live hdv hdy] at this
          rw [wins_live hdy hdv]
          unfold later at *
          simp only [decide_eq_false_iff_not, decide_eq_true_eq] at *
          omega
        · simp at hy; subst hy
          rw [wins_live hdv hdv]; unfold later; simp
      simp [this]
    · rw [if_neg hw]
      have hw : winsV v m = false := by simpa using hw
      refine bestP_find r (p ++ [v]) m hd (by simp [hmp]) ?_
      rw [List.find?_append]
      have : p.find? (unb (p ++ [v])) = some m := by
        refine find_first h (fun x hx => ?_) ?_
        · unfold unb at hx ⊢
          rw [Bool.not_eq_false', List.any_eq_true] at hx ⊢
          obtain ⟨y, hy, k⟩ := hx
          exact ⟨y, by simp [hy], k⟩
        · rw [unb_iff]
          intro y hy
          rcases List.mem_append.1 hy with hy | hy
          · exact hmu y hy
          · simp at hy; subst hy; exact hw
      rw [this]; rfl
theorem winL_find (l : List Vx) : winL l = (liveL l).find? (unb (liveL l)) := by
  unfold winL
  have hd : ∀ x ∈ liveL l, x.D = false := fun x hx => by
    have := (List.mem_filter.1 hx).2
    simpa using this
  cases hl : liveL l with
  | nil => rfl
  | cons b r =>
    rw [hl] at hd
    have h0 : [b].find? (unb [b]) = some b := by
      have : unb [b] b = true := by
        rw [unb_iff]
        intro y hy
        simp at hy; subst hy
        have hb := hd y (by simp)
        rw [wins_live hb hb]; unfold later; simp
      simp [this]
    exact (bestP_find r [b] b hd (by simp) h0).symm
/-- a variable of several cells, read whole, in a region of any order -/
theorem yieldsIf_ld {P : Program} {ops : Array Oper} {S : World → Prop} {o : Oper} {a : Act} (hw : Region.wanted o (yielded ops a.tmps) = true) (ty : TypeId) (x : Operand) (ho : o.op = .load ty x)
    (ad : Addr) (hx : a.eval x = .pointer (some ad)) (cs : List Value) (d : TypeDesc) (hc : ∀ w, S w → ∀ j v, cs[j]? = some v → w.cell? (ad.add j) = some v)
    (hu : P.underlying ty = some d) (hd : d.isRow = true) (hi : (P.info? ty).map (·.size) = some cs.length) : YieldsIf P ops S o (.agg cs.toArray) a := by
  refine Or.inl ⟨hw, fun w hw' => ?_⟩
  unfold execOp
  simp only [ho, hx, Instr.loadAt, Instr.sureAddr, Sem.run_bind, Sem.run_pure, Result.andThen_ok, ldv_run w ad ty cs d (hc w hw') hu hd hi]
theorem any_take {X : List Vx} {q : Vx → Bool} {k : Nat} (h : k < X.length) : (X.take (k + 1)).any q = ((X.take k).any q || q X[k]) := by
  rw [List.take_succ_eq_append_getElem h, List.any_append]; simp
set_option maxRecDepth 100000 in
theorem winner2_any (A : Option Addr) (cap : Nat) (l : List Vx) (w : World) (h : Vers w A l) (hlb : l.length ≤ 1000000) :
    Calls Try.prog 46 #[.slice A l.length cap] w fun r w' => r = .returned (winT (winL l)) ∧ Gr w w' := by
  have H := Lib.hid h; clear h
  have hga : Gr w (w.alloc (.cells Zx.cells 49)) := (Gr.rfl' w).al _
  have hn := World.alloc_heap_new w (.cells Zx.cells 49)
  have HN := Lib.hid hn
  have HG := Lib.hid hga
  have hll := live_len l
  have HL := Lib.hid (vLive2_any A cap l _ (H.out.gr hga) (by omega))
  have HWF := Lib.hid (winL_find l)
  clear hn hga
  go_enter Try.func46, Try.ntmps46
  go_upto_region 1 with (first | refine allocV rfl rfl ?_)
  rw [← Zx_cells]
  obtain ⟨W, hW⟩ : ∃ W, w.alloc (.cells Zx.cells 49) = W := ⟨_, rfl⟩
  rw [hW] at HN HG HL ⊢
  clear hW
  go_wp2_with fail
  refine (HL.out).mono ?_
  rintro r w1 ⟨⟨v, rfl, ho⟩, hg1⟩
  have N1 := Lib.hid ((hg1.block _ (Array.getElem?_eq_some_iff.1 HN.out).1).trans HN.out)
  have G1 := Lib.hid (HG.out.tr hg1)
  obtain ⟨A1, c1, rfl, _, hv⟩ := ho.vers (fun x hx => (H.out.gr G1.out).oks x (List.mem_filter.1 hx).1)
  obtain ⟨X, hX⟩ : ∃ X, liveL l = X := ⟨_, rfl⟩
  rw [hX] at hv hll HWF ⊢
  have HV := Lib.hid hv
  have g0 := Lib.hid (Gr.rfl' w1)
  clear ho hg1 HL HN hv hX HG
  go_wp2
  go_loopw [5] (fun i wr => ∃ k : Nat, k ≤ X.length ∧ i = .int .i64 k ∧ Hid (X.find? (unb X) = (X.drop k).find? (unb X)) ∧ Hid (Gr w1 wr)) (fun i _ => X.length - (intOf i).toNat)
  case atStart => exact ⟨0, Nat.zero_le _, rfl, Lib.hid rfl, g0⟩
  case round =>
    clear g0
    obtain ⟨k, hk, rfl, HF, HK⟩ := hrel
    by_cases hlt : k < X.length
    · have hki : (k : Int) < X.length := by omega
      obtain ⟨ad, rfl, _, _⟩ := HV.out.2 k hlt
      have hcw : ∀ W, Gr w1 W → ∀ j v, X[k].cells.toList[j]? = some v → W.cell? ((ad.add (k * 5)).add j) = some v := fun W g j v hj => by
        obtain ⟨ad2, e2, _, h⟩ := (HV.out.gr g).2 k hlt
        cases e2
        exact h j v (by simpa using hj)
      have hst : (X.drop k).find? (unb X) = if unb X X[k] = true then some X[k] else (X.drop (k + 1)).find? (unb X) := by
        rw [List.drop_eq_getElem_cons hlt, List.find?_cons]
        cases unb X X[k] <;> rfl
      rw [← HF.out] at hst
      obtain ⟨x, hx⟩ : ∃ x, X[k] = x := ⟨_, rfl⟩
      rw [hx] at hst hcw
      have HST := Lib.hid hst
      have HCW := Lib.hid hcw
      have g1 := Lib.hid (HK.out)
      clear hst hcw hx HF
      go_wp2
      go_loopw [6, 7] (fun b i wi => ∃ q : Nat, q ≤ X.length ∧ b = .bool ((X.take q).any fun y => winsV y x) ∧ i = .int .i64 q ∧ Hid (Gr w1 wi)) (fun _ i _ => X.length - (intOf i).toNat)
      case atStart => exact ⟨0, Nat.zero_le _, rfl, rfl, g1⟩
      case round =>
        clear g1
        obtain ⟨q, hq, rfl, rfl, HQ⟩ := hrel
        by_cases hlq : q < X.length
        · have hqi : (q : Int) < X.length := by omega
          have hat := any_take (q := fun y => winsV y x) hlq
          obtain ⟨ad2, e2, _, hcy⟩ := (HV.out.gr HQ.out).2 q hlq
          cases e2
          obtain ⟨y, hy⟩ : ∃ y, X[q] = y := ⟨_, rfl⟩
          rw [hy] at hat hcy
          have HAT := Lib.hid hat
          have HCY : Hid (∀ W, Gr wr W → ∀ j v, y.cells.toList[j]? = some v → W.cell? ((ad.add (q * 5)).add j) = some v) := Lib.hid fun W g j v hj => g.cell (hcy j v (by simpa using hj))
          have HCX : Hid (∀ W, Gr wr W → ∀ j v, x.cells.toList[j]? = some v → W.cell? ((ad.add (k * 5)).add j) = some v) := Lib.hid fun W g => HCW.out W (HQ.out.tr g)
          clear hat hcy hy
          obtain ⟨bt, hbt⟩ : ∃ b, ((X.take q).any fun y => winsV y x) = b := ⟨_, rfl⟩
          rw [hbt] at HAT ⊢
          clear hbt
          cases bt with
          | true =>
            go_upto_region 9 with (fail)
            have hSS : Gr wr wr.drew := (Gr.rfl' _).dr
            refine region_T 12 (fun w' => Gr wr w') (by kernel_rfl) ?_
            refine anyT_take (i := 0) (v := ?_) (some 22) rfl rfl (by kernel_rfl) (fun _ _ _ h => h) (Or.inl ⟨by rfl, ?_⟩) hSS ?_
            rotate_left
            · intro w' hSw; go_simp; (try with_reducible rfl)
            simp only [Act.put, List.setIfInBounds_toArray, List.set_cons_zero, List.set_cons_succ]
            refine anyT_take (i := 1) (v := ?_) (some 23) rfl rfl (by kernel_rfl) (fun _ _ _ h => h) (Or.inl ⟨by rfl, ?_⟩) hSS ?_
            rotate_left
            · intro w' hSw; go_simp; (try with_reducible rfl)
            simp only [Act.put, List.setIfInBounds_toArray, List.set_cons_zero, List.set_cons_succ]
            refine anyT_take (i := 2) (v := undef) (some 24) rfl rfl (by kernel_rfl) (fun _ _ _ h => h) (Or.inr ⟨by rfl, rfl⟩) hSS ?_
            simp only [Act.put, List.setIfInBounds_toArray, List.set_cons_zero, List.set_cons_succ]
            refine anyT_take (i := 3) (v := undef) (some 25) rfl rfl (by kernel_rfl) (fun _ _ _ h => h) (Or.inr ⟨by rfl, rfl⟩) hSS ?_
            simp only [Act.put, List.setIfInBounds_toArray, List.set_cons_zero, List.set_cons_succ]
            refine anyT_take (i := 4) (v := undef) (some 26) rfl rfl (by kernel_rfl) (fun _ _ _ h => h) (Or.inr ⟨by rfl, rfl⟩) hSS ?_
            simp only [Act.put, List.setIfInBounds_toArray, List.set_cons_zero, List.set_cons_succ]
            refine anyT_take (i := 5) (v := undef) (some 27) rfl rfl (by kernel_rfl) (fun _ _ _ h => h) (Or.inr ⟨by rfl, rfl⟩) hSS ?_
            simp only [Act.put, List.setIfInBounds_toArray, List.set_cons_zero, List.set_cons_succ]
            refine anyT_take (i := 6) (v := undef) (some 28) rfl rfl (by kernel_rfl) (fun _ _ _ h => h) (Or.inr ⟨by rfl, rfl⟩) hSS ?_
            simp only [Act.put, List.setIfInBounds_toArray, List.set_cons_zero, List.set_cons_succ]
            refine anyT_take (i := 7) (v := undef) (some 29) rfl rfl (by kernel_rfl) (fun _ _ _ h => h) (Or.inr ⟨by rfl, rfl⟩) hSS ?_
            simp only [Act.put, List.setIfInBounds_toArray, List.set_cons_zero, List.set_cons_succ]
            refine anyT_take (i := 8) (v := undef) (some 30) rfl rfl (by kernel_rfl) (fun _ _ _ h => h) (Or.inr ⟨by rfl, rfl⟩) hSS ?_
            simp only [Act.put, List.setIfInBounds_toArray, List.set_cons_zero, List.set_cons_succ]
            refine anyT_take (i := 9) (v := undef) (some 31) rfl rfl (by kernel_rfl) (fun _ _ _ h => h) (Or.inr ⟨by rfl, rfl⟩) hSS ?_
            simp only [Act.put, List.setIfInBounds_toArray, List.set_cons_zero, List.set_cons_succ]
            refine anyT_take (i := 10) (v := undef) (some 32) rfl rfl (by kernel_rfl) (fun _ _ _ h => h) (Or.inr ⟨by rfl, rfl⟩) hSS ?_
            simp only [Act.put, List.setIfInBounds_toArray, List.set_cons_zero, List.set_cons_succ]
            refine anyT_take (i := 11) (v := ?_) (some 33) rfl rfl (by kernel_rfl) (fun _ _ _ h => h) (Or.inl ⟨by rfl, ?_⟩) hSS ?_
            rotate_left
            · intro w' hSw; go_simp; (try with_reducible rfl)
            simp only [Act.put, List.setIfInBounds_toArray, List.set_cons_zero, List.set_cons_succ]
            refine anyT_last (some 6) (.bool true) (by kernel_rfl) (by kernel_rfl) rfl (by kernel_rfl) rfl (by kernel_rfl) ?_
            simp only [Act.put, List.setIfInBounds_toArray, List.set_cons_zero, List.set_cons_succ]
            go_wp2
            go_roundw
            case rel => exact ⟨q + 1, by omega, by rw [HAT.out]; rfl, by go_num, Lib.hid (HQ.out.tr hSS)⟩
            case measure => simp [intOf]; omega
          | false =>
            go_upto_region 9 with (fail)
            have hSS : Gr wr wr.drew := (Gr.rfl' _).dr
            refine region_T 12 (fun w' => Gr wr w') (by kernel_rfl) ?_
            refine anyT_take (i := 0) (v := ?_) (some 22) rfl rfl (by kernel_rfl) (fun _ _ _ h => h) (Or.inl ⟨by rfl, ?_⟩) hSS ?_
            rotate_left
            · intro w' hSw; go_simp; (try with_reducible rfl)
            simp only [Act.put, List.setIfInBounds_toArray, List.set_cons_zero, List.set_cons_succ]
            refine anyT_take (i := 1) (v := ?_) (some 23) rfl rfl (by kernel_rfl) (fun _ _ _ h => h) (Or.inl ⟨by rfl, ?_⟩) hSS ?_
            rotate_left
            · intro w' hSw; go_simp; (try with_reducible rfl)
            simp only [Act.put, List.setIfInBounds_toArray, List.set_cons_zero, List.set_cons_succ]
            refine anyT_take (i := 2) (v := ?_) (some 24) rfl rfl (by kernel_rfl) (fun _ _ _ h => h) (Or.inl ⟨by rfl, ?_⟩) hSS ?_
            rotate_left
            · intro w' hSw; go_simp; (try with_reducible rfl)
            simp only [Act.put, List.setIfInBounds_toArray, List.set_cons_zero, List.set_cons_succ]
            refine anyT_take (i := 3) (v := ?_) (some 25) rfl rfl (by kernel_rfl) (fun _ _ _ h => h) (Or.inl ⟨by rfl, ?_⟩) hSS ?_
            rotate_left
            · intro w' hSw; go_simp; (try with_reducible rfl)
            simp only [Act.put, List.setIfInBounds_toArray, List.set_cons_zero, List.set_cons_succ]
            refine anyT_take (i := 4) (v := ?_) (some 26) rfl rfl (by kernel_rfl) (fun _ _ _ h => h) (Or.inl ⟨by rfl, ?_⟩) hSS ?_
            rotate_left
            · intro w' hSw; go_simp; (try with_reducible rfl)
            simp only [Act.put, List.setIfInBounds_toArray, List.set_cons_zero, List.set_cons_succ]
            refine anyT_take (i := 5) (some 27) rfl rfl (by kernel_rfl) (fun _ _ _ h => h) (yieldsIf_ld (by rfl) 49 (.tmp 26) rfl (ad.add (q * 5)) rfl y.cells.toList _ (fun w' hSw => HCY.out w' hSw) Try.underlying49 rfl (by kernel_rfl)) hSS ?_
            simp only [Act.put, List.setIfInBounds_toArray, List.set_cons_zero, List.set_cons_succ]
            refine anyT_take (i := 6) (v := ?_) (some 28) rfl rfl (by kernel_rfl) (fun _ _ _ h => h) (Or.inl ⟨by rfl, ?_⟩) hSS ?_
            rotate_left
            · intro w' hSw; go_simp; (try with_reducible rfl)
            simp only [Act.put, List.setIfInBounds_toArray, List.set_cons_zero, List.set_cons_succ]
            refine anyT_take (i := 7) (v := ?_) (some 29) rfl rfl (by kernel_rfl) (fun _ _ _ h => h) (Or.inl ⟨by rfl, ?_⟩) hSS ?_
            rotate_left
            · intro w' hSw; go_simp; (try with_reducible rfl)
            simp only [Act.put, List.setIfInBounds_toArray, List.set_cons_zero, List.set_cons_succ]
            refine anyT_take (i := 8) (v := ?_) (some 30) rfl rfl (by kernel_rfl) (fun _ _ _ h => h) (Or.inl ⟨by rfl, ?_⟩) hSS ?_
            rotate_left
            · intro w' hSw; go_simp; (try with_reducible rfl)
            simp only [Act.put, List.setIfInBounds_toArray, List.set_cons_zero, List.set_cons_succ]
            refine anyT_take (i := 9) (some 31) rfl rfl (by kernel_rfl) (fun _ _ _ h => h) (yieldsIf_ld (by rfl) 49 (.tmp 30) rfl (ad.add (k * 5)) rfl x.cells.toList _ (fun w' hSw => HCX.out w' hSw) Try.underlying49 rfl (by kernel_rfl)) hSS ?_
            simp only [Act.put, List.setIfInBounds_toArray, List.set_cons_zero, List.set_cons_succ]
            refine anyT_callG (i := 10) (some 32) 50 #[.agg y.cells, .agg x.cells] (by kernel_rfl) rfl (by kernel_rfl) rfl (by kernel_rfl) ?_
            refine (wins2_any y x _).mono ?_
            rintro e wd ⟨rfl, hgd⟩
            replace hSS := hSS.tr hgd
            refine ⟨_, rfl, fun _ => hSS, ?_⟩
            simp only [Act.put, List.setIfInBounds_toArray, List.set_cons_zero, List.set_cons_succ]
            clear hgd
            refine anyT_take (i := 11) (v := ?_) (some 33) rfl rfl (by kernel_rfl) (fun _ _ _ h => h) (Or.inl ⟨by rfl, ?_⟩) hSS ?_
            rotate_left
            · intro w' hSw; go_simp; (try with_reducible rfl)
            simp only [Act.put, List.setIfInBounds_toArray, List.set_cons_zero, List.set_cons_succ]
            refine anyT_last (some 6) (.bool (winsV y x)) (by kernel_rfl) (by kernel_rfl) rfl (by kernel_rfl) rfl (by kernel_rfl) ?_
            simp only [Act.put, List.setIfInBounds_toArray, List.set_cons_zero, List.set_cons_succ]
            go_wp2
            go_roundw
            case rel => exact ⟨q + 1, by omega, by rw [HAT.out]; rfl, by go_num, Lib.hid (HQ.out.tr hSS)⟩
            case measure => simp [intOf]; omega
        · have hqi : ¬ (q : Int) < X.length := by omega
          have hqq : q = X.length := by omega
          subst hqq
          rw [List.take_length]
          have hun : unb X x = !(X.any fun y => winsV y x) := rfl
          obtain ⟨bt, hbt⟩ : ∃ b, (X.any fun y => winsV y x) = b := ⟨_, rfl⟩
          rw [hbt] at hun ⊢
          have HUN := Lib.hid hun
          clear hbt hun
          cases bt with
          | true =>
            go_wp2
            go_roundw
            case rel => exact ⟨k + 1, by omega, by go_num, Lib.hid (by rw [HST.out, HUN.out]; rfl), HQ⟩
            case measure => simp [intOf]; omega
          | false =>
            have HCX : Hid (∀ j v, x.cells.toList[j]? = some v → wr.cell? ((ad.add (k * 5)).add j) = some v) := Lib.hid (HCW.out _ HQ.out)
            have NQ := Lib.hid ((HQ.out.block _ (Array.getElem?_eq_some_iff.1 N1.out).1).trans N1.out)
            have HW : Hid (winL l = some x) := Lib.hid (by rw [HWF.out, HST.out, HUN.out]; rfl)
            go_wp2_with (first
              | refine ld_at rfl 49 (.tmp 38) rfl _ rfl x.cells.toList _ HCX.out Try.underlying49 rfl (by kernel_rfl) ?_
              | (refine storeW x Zx w.heap.size rfl (.tmp 2) _ rfl rfl rfl rfl NQ.out ?_; intro w5 hx5 hs5; have HX5 := Lib.hid hx5; have G5 := Lib.hid (hs5.gr (G1.out.tr HQ.out) (Nat.le_refl _)); clear hx5 hs5))
            obtain ⟨c0, c1, c2, c3, c4⟩ := bcells HX5.out
            refine bodyPost_ret (v := .tuple #[.agg x.cells, .bool true]) (by simp [results, Try.results46, go_sem, c0, c1, c2, c3, c4]; rfl) rfl ?_
            rw [HW.out]
            exact ⟨rfl, G5.out⟩
    · have hkk : k = X.length := by omega
      have hki : ¬ (k : Int) < X.length := by omega
      subst hkk
      have NQ := Lib.hid ((HK.out.block _ (Array.getElem?_eq_some_iff.1 N1.out).1).trans N1.out)
      have HW : Hid (winL l = none) := Lib.hid (by rw [HWF.out, HF.out, List.drop_length]; rfl)
      go_wp2_with (first
        | refine buildZ rfl rfl ?_
        | (refine storeW Zx Zx w.heap.size rfl (.tmp 2) _ rfl rfl rfl rfl NQ.out ?_; intro w2 hx2 hs2; have HX2 := Lib.hid hx2; have G2 := Lib.hid (hs2.gr (G1.out.tr HK.out) (Nat.le_refl _)); clear hx2 hs2))
      obtain ⟨c0, c1, c2, c3, c4⟩ := bcells HX2.out
      refine bodyPost_ret (v := .tuple #[.agg Zx.cells, .bool false]) (by simp [results, Try.results46, go_sem, c0, c1, c2, c3, c4]; rfl) rfl ?_
      rw [HW.out]
      exact ⟨rfl, G2.out⟩
end Go.Proofs.Ytfobnemocodomaa
