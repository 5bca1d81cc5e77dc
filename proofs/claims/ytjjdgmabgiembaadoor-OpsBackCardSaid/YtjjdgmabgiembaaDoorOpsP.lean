/- Scripts: what is put is taken, and what is taken is put: the plain law. -/
import Derived.Test.YtjjdgmabgiembaaDoorOpsM
import Derived.Test.YtjjdgmabgiembaaDoorCanP
set_option linter.unusedVariables false
set_option linter.unusedSimpArgs false
set_option maxHeartbeats 1000000
namespace Go.Proofs.YtjjdgmabgiembaaDoor
open Go.RowKit Go.Shelf

abbrev putL (n : Int) : List UInt8 := (putS n).data.toList
abbrev txL (t : ByteArray) : List UInt8 := putL t.size ++ t.data.toList
abbrev onl (p : Prop) [Decidable p] (l : List UInt8) : List UInt8 := if p then l else []
/-- an operation's bytes -/
def encO (x : Opx) : List UInt8 :=
  putL x.K ++ (putL x.P ++ (onl (4 ≤ x.K ∧ x.K ≤ 7) (putL x.T) ++ (onl (2 ≤ x.K ∧ x.K ≤ 9) (putL x.N) ++ (onl (x.K = 7 ∨ x.K = 9) (putL x.A) ++ (onl (x.K = 7) (putL x.M) ++ (onl (x.K < 2) (txL x.Pa) ++ onl (x.K = 0) (txL x.Da)))))))
/-- an operation that may be -/
structure GoodO (x : Opx) : Prop where
  k : 0 ≤ x.K ∧ x.K < 13
  p : 0 ≤ x.P ∧ x.P < 64
  t : 0 ≤ x.T ∧ x.T < 64
  n : 0 ≤ x.N ∧ x.N ≤ 1073741824
  a : 0 ≤ x.A ∧ x.A ≤ 1073741824
  m : 0 ≤ x.M ∧ x.M ≤ 1073741824
  pa : x.Pa.size ≤ 255
  da : x.Da.size ≤ 255
  t0 : ¬ (4 ≤ x.K ∧ x.K ≤ 7) → x.T = 0
  n0 : ¬ (2 ≤ x.K ∧ x.K ≤ 9) → x.N = 0
  a0 : ¬ (x.K = 7 ∨ x.K = 9) → x.A = 0
  m0 : ¬ (x.K = 7) → x.M = 0
  pa0 : ¬ (x.K < 2) → x.Pa = ⟨#[]⟩
  da0 : ¬ (x.K = 0) → x.Da = ⟨#[]⟩
theorem toList_nil (s : ByteArray) : s.toList.isEmpty = true ↔ s = ⟨#[]⟩ := by
  rw [Lib.toList_data]
  constructor
  · intro h
    apply ByteArray.ext
    apply Array.ext'
    simpa using h
  · rintro rfl; rfl
theorem spare_iff (x : Opx) (h : 0 ≤ x.K ∧ x.K < 13) : spareB x = false ↔ (¬ (4 ≤ x.K ∧ x.K ≤ 7) → x.T = 0) ∧ (¬ (2 ≤ x.K ∧ x.K ≤ 9) → x.N = 0) ∧ (¬ (x.K = 7 ∨ x.K = 9) → x.A = 0) ∧ (¬ (x.K = 7) → x.M = 0) ∧ (¬ (x.K < 2) → x.Pa = ⟨#[]⟩) ∧ (¬ (x.K = 0) → x.Da = ⟨#[]⟩) := by
  obtain ⟨K, P, T, N, A, M, Pa, Da⟩ := x
  simp only at h ⊢
  obtain ⟨k, rfl⟩ : ∃ k : Nat, K = k := ⟨K.toNat, by omega⟩
  have hs := spare_bad ⟨k, by omega⟩ (T != 0) (N != 0) (A != 0) (M != 0) (!Pa.toList.isEmpty) (!Da.toList.isEmpty)
  have hsp : spareB ⟨k, P, T, N, A, M, Pa, Da⟩ = badB k (T != 0) (N != 0) (A != 0) (M != 0) (!Pa.toList.isEmpty) (!Da.toList.isEmpty) := hs
  rw [hsp]
  have eP := toList_nil Pa
  have eD := toList_nil Da
  unfold badB
  simp only [Bool.or_eq_false_iff, Bool.and_eq_false_iff, bne_eq_false_iff_eq, Bool.not_eq_false', Bool.and_eq_true, Bool.or_eq_true, decide_eq_true_eq, eP, eD]
  constructor
  · rintro ⟨⟨⟨⟨⟨h0, h1⟩, h2⟩, h3⟩, h4⟩, h5⟩
    exact ⟨fun c => h0.resolve_right (by omega), fun c => h1.resolve_right (by omega), fun c => h2.resolve_right (by omega), fun c => h3.resolve_right (by omega), fun c => h4.resolve_right (by omega), fun c => h5.resolve_right (by omega)⟩
  · rintro ⟨h0, h1, h2, h3, h4, h5⟩
    refine ⟨⟨⟨⟨⟨?_, ?_⟩, ?_⟩, ?_⟩, ?_⟩, ?_⟩
    · by_cases c : 4 ≤ (k : Int) ∧ (k : Int) ≤ 7
      · right; omega
      · exact Or.inl (h0 c)
    · by_cases c : 2 ≤ (k : Int) ∧ (k : Int) ≤ 9
      · right; omega
      · exact Or.inl (h1 c)
    · by_cases c : (k : Int) = 7 ∨ (k : Int) = 9
      · right; omega
      · exact Or.inl (h2 c)
    · by_cases c : (k : Int) = 7
      · right; omega
      · exact Or.inl (h3 c)
    · by_cases c : (k : Int) < 2
      · right; omega
      · exact Or.inl (h4 c)
    · by_cases c : (k : Int) = 0
      · right; omega
      · exact Or.inl (h5 c)
theorem ochk_good (x : Opx) : ochk x = 0 ↔ GoodO x := by
  unfold ochk
  constructor
  · intro h
    split at h
    · cases h
    rename_i h1
    split at h
    · cases h
    rename_i h2
    split at h
    · cases h
    rename_i h3
    split at h
    · cases h
    rename_i h4
    split at h
    · cases h
    rename_i h5
    split at h
    · cases h
    rename_i h6
    split at h
    · cases h
    rename_i h7
    split at h
    · cases h
    rename_i h8
    split at h
    · cases h
    rename_i h9
    simp only [numOk, decide_eq_false_iff_not, Decidable.not_not, Bool.not_eq_false, Bool.not_eq_true, decide_eq_true_eq] at h1 h2 h3 h4 h5 h6 h7 h8 h9
    obtain ⟨s0, s1, s2, s3, s4, s5⟩ := (spare_iff x h1).1 h9
    exact ⟨h1, h2, h3, h4, h5, h6, h7, h8, s0, s1, s2, s3, s4, s5⟩
  · intro h
    have h9 := (spare_iff x h.k).2 ⟨h.t0, h.n0, h.a0, h.m0, h.pa0, h.da0⟩
    rw [if_neg (by simpa using h.k), if_neg (by simpa using h.p), if_neg (by simpa using h.t), if_neg (by simpa [numOk] using h.n), if_neg (by simpa [numOk] using h.a), if_neg (by simpa [numOk] using h.m), if_neg (by simpa using h.pa), if_neg (by simpa using h.da), if_neg (by rw [h9]; simp)]
theorem wnum_ok (L : List UInt8) (n : Int) (h : 0 ≤ n ∧ n ≤ 1073741824) : wnum n (L, 0) = (L ++ putL n, 0) := by
  unfold wnum wput
  have : numOk n = true := by simpa [numOk] using h
  rw [if_neg (by simp), if_pos this]
theorem wtxt_ok (L : List UInt8) (t : ByteArray) (h : t.size ≤ 255) : wtxt t (L, 0) = (L ++ txL t, 0) := by
  unfold wtxt wput
  rw [if_neg (by simp), if_pos (by simp; omega)]
theorem cn_ok (p : Prop) [Decidable p] (L : List UInt8) (n : Int) (h : 0 ≤ n ∧ n ≤ 1073741824) : cn p n (L, 0) = (L ++ onl p (putL n), 0) := by
  unfold cn onl
  split
  · exact wnum_ok L n h
  · simp
theorem ct_ok (p : Prop) [Decidable p] (L : List UInt8) (t : ByteArray) (h : t.size ≤ 255) : ct p t (L, 0) = (L ++ onl p (txL t), 0) := by
  unfold ct onl
  split
  · exact wtxt_ok L t h
  · simp
/-- an operation that may be is put -/
theorem oput_ok (x : Opx) (h : GoodO x) (L : List UInt8) : oput x (L, 0) = (L ++ encO x, 0) := by
  rw [← oputR_eq]
  unfold oputR encO
  have hk := h.k
  have hp := h.p
  have ht := h.t
  rw [(ochk_good x).2 h, wfail_0, wnum_ok _ _ ⟨hk.1, by omega⟩, wnum_ok _ _ ⟨hp.1, by omega⟩, cn_ok _ _ _ ⟨ht.1, by omega⟩, cn_ok _ _ _ h.n, cn_ok _ _ _ h.a, cn_ok _ _ _ h.m, ct_ok _ _ _ h.pa, ct_ok _ _ _ h.da]
  simp only [List.append_assoc]
theorem num_backM (m : Int) (n : Int) (h : 0 ≤ n ∧ n ≤ 1073741824) (hm : n ≤ m) (t : List UInt8) : numM m ⟨(putL n ++ t).toArray⟩ 0 = (n, ⟨t.toArray⟩, 0) := by
  obtain ⟨k, rfl⟩ : ∃ k : Nat, n = k := ⟨n.toNat, by omega⟩
  unfold numM
  rw [take_put k (by omega), if_neg (by simp)]
  have hE : numE m (k : Int) 0 = 0 := by unfold numE; rw [if_neg (by omega)]
  simp only [hE, ne_eq, not_true_eq_false, if_false, Int.toNat_natCast, cut_app]
theorem txt_backM (m : Int) (s : ByteArray) (h : s.size ≤ 65536) (hm : (s.size : Int) ≤ m) (t : List UInt8) : txtM m ⟨(txL s ++ t).toArray⟩ 0 = (s, ⟨t.toArray⟩, 0) := by
  rw [txtM_of, List.append_assoc, num_backM m s.size (by omega) hm]
  simp only [ne_eq, not_true_eq_false, if_false, Int.toNat_natCast]
  have hsz : (⟨(s.data.toList ++ t).toArray⟩ : ByteArray).size = s.size + t.length := by rw [sizeL, List.length_append, ← Lib.size_eq s]
  rw [hsz, if_neg (by omega)]
  have e1 : (⟨(s.data.toList ++ t).toArray⟩ : ByteArray).extract 0 s.size = s := by
    have := ext_app [] s.data.toList t
    simp only [List.nil_append, List.length_nil, Nat.zero_add, ← Lib.size_eq s] at this
    rw [this, Lib.mk_data]
  have e2 : (⟨(s.data.toList ++ t).toArray⟩ : ByteArray).extract s.size (s.size + t.length) = ⟨t.toArray⟩ := by
    have := cut_app s.data.toList t
    unfold cutB at this
    rw [hsz, ← Lib.size_eq s] at this
    exact this
  rw [e1, e2]
def bsq (l : List UInt8) : ByteArray := ⟨l.toArray⟩
theorem ctnum_back (p : Prop) [Decidable p] (i : Nat) (m : Int) (x : Opx) (v : Int) (t : List UInt8) (h : p → 0 ≤ v ∧ v ≤ 1073741824 ∧ v ≤ m) :
    ctnum (decide p) i m (x, bsq (onl p (putL v) ++ t), 0) = (if p then setN i v x else x, bsq t, 0) := by
  unfold ctnum onl
  by_cases hp : p
  · rw [if_pos (decide_eq_true hp), if_pos hp, if_pos hp]
    unfold tnum bsq
    simp only [num_backM m v ⟨(h hp).1, (h hp).2.1⟩ (h hp).2.2 t]
  · rw [if_neg (by simpa using hp), if_neg hp, if_neg hp]; rfl
theorem cttxt_back (p : Prop) [Decidable p] (i : Nat) (x : Opx) (v : ByteArray) (t : List UInt8) (h : v.size ≤ 255) :
    cttxt (decide p) i 255 (x, bsq (onl p (txL v) ++ t), 0) = (if p then setT i v x else x, bsq t, 0) := by
  unfold cttxt onl
  by_cases hp : p
  · rw [if_pos (decide_eq_true hp), if_pos hp, if_pos hp]
    unfold ttxt bsq
    simp only [txt_backM 255 v (by omega) (by omega) t]
  · rw [if_neg (by simpa using hp), if_neg hp, if_neg hp]; rfl
theorem otake_back (x : Opx) (h : GoodO x) (t : List UInt8) : otake (bsq (encO x ++ t)) 0 = (x, bsq t, 0) := by
  have hk := h.k
  have hp := h.p
  have ht := h.t
  unfold encO
  simp only [List.append_assoc]
  have e1 := num_backM 1073741824 x.K ⟨hk.1, by omega⟩ (by omega) (putL x.P ++ (onl (4 ≤ x.K ∧ x.K ≤ 7) (putL x.T) ++ (onl (2 ≤ x.K ∧ x.K ≤ 9) (putL x.N) ++ (onl (x.K = 7 ∨ x.K = 9) (putL x.A) ++ (onl (x.K = 7) (putL x.M) ++ (onl (x.K < 2) (txL x.Pa) ++ (onl (x.K = 0) (txL x.Da) ++ t)))))))
  rw [show bsq _ = ⟨_⟩ from rfl, otake_rK e1 hk.2]
  unfold rtakeK
  have e2 : tpeer (({ zOp with K := x.K } : Opx), (⟨(putL x.P ++ (onl (4 ≤ x.K ∧ x.K ≤ 7) (putL x.T) ++ (onl (2 ≤ x.K ∧ x.K ≤ 9) (putL x.N) ++ (onl (x.K = 7 ∨ x.K = 9) (putL x.A) ++ (onl (x.K = 7) (putL x.M) ++ (onl (x.K < 2) (txL x.Pa) ++ (onl (x.K = 0) (txL x.Da) ++ t))))))).toArray⟩ : ByteArray), (0 : Int)) = (({ zOp with K := x.K, P := x.P } : Opx), bsq (onl (4 ≤ x.K ∧ x.K ≤ 7) (putL x.T) ++ (onl (2 ≤ x.K ∧ x.K ≤ 9) (putL x.N) ++ (onl (x.K = 7 ∨ x.K = 9) (putL x.A) ++ (onl (x.K = 7) (putL x.M) ++ (onl (x.K < 2) (txL x.Pa) ++ (onl (x.K = 0) (txL x.Da) ++ t)))))), 0) := by
    unfold tpeer
    simp only [num_backM 63 x.P ⟨hp.1, by omega⟩ (by omega) _]
    rfl
  rw [e2, ctnum_back _ 0 63 _ x.T _ (fun _ => ⟨ht.1, by omega, by omega⟩), ctnum_back _ 1 _ _ x.N _ (fun _ => ⟨h.n.1, h.n.2, h.n.2⟩), ctnum_back _ 2 _ _ x.A _ (fun _ => ⟨h.a.1, h.a.2, h.a.2⟩), ctnum_back _ 3 _ _ x.M _ (fun _ => ⟨h.m.1, h.m.2, h.m.2⟩), cttxt_back _ 0 _ x.Pa _ h.pa, cttxt_back _ 1 _ x.Da _ h.da]
  refine Prod.ext ?_ rfl
  obtain ⟨K, P, T, N, A, M, Pa, Da⟩ := x
  have t0 := h.t0; have n0 := h.n0; have a0 := h.a0; have m0 := h.m0; have pa0 := h.pa0; have da0 := h.da0
  simp only at t0 n0 a0 m0 pa0 da0 ⊢
  by_cases c0 : 4 ≤ K ∧ K ≤ 7 <;> by_cases c1 : 2 ≤ K ∧ K ≤ 9 <;> by_cases c2 : K = 7 ∨ K = 9 <;> by_cases c3 : K = 7 <;> by_cases c4 : K < 2 <;> by_cases c5 : K = 0 <;> simp_all [setN, setT, zOp]
/-! what is taken is what is put -/
theorem ctnum_can {b : Bool} {i : Nat} {m : Int} {s : Rst} (h : (ctnum b i m s).2.2 = 0) : s.2.2 = 0 ∧ ∃ v, (ctnum b i m s).1 = (if b = true then setN i v s.1 else s.1) ∧ s.2.1.data.toList = (if b = true then putL v else []) ++ (ctnum b i m s).2.1.data.toList ∧ (b = true → 0 ≤ v ∧ v ≤ m ∧ v ≤ 1073741824) := by
  unfold ctnum at h ⊢
  by_cases hb : b = true
  · simp only [hb, if_true] at h ⊢
    have h0 : s.2.2 = 0 := Classical.byContradiction fun he => by
      have := tnum_err i m s he
      rw [this] at h; exact he h
    refine ⟨h0, (numM m s.2.1 s.2.2).1, rfl, ?_, fun _ => ?_⟩
    · unfold tnum at h ⊢
      rw [h0] at h ⊢
      exact (can_num h).1
    · unfold tnum at h
      rw [h0] at h ⊢
      have := can_num h
      exact ⟨this.2.1, this.2.2.1, this.2.2.2⟩
  · simp only [hb, if_false] at h ⊢
    exact ⟨h, 0, rfl, by simp, fun h => absurd h (by simp)⟩
theorem cttxt_can {b : Bool} {i : Nat} {s : Rst} (h : (cttxt b i 255 s).2.2 = 0) : s.2.2 = 0 ∧ ∃ v, (cttxt b i 255 s).1 = (if b = true then setT i v s.1 else s.1) ∧ s.2.1.data.toList = (if b = true then txL v else []) ++ (cttxt b i 255 s).2.1.data.toList ∧ (b = true → v.size ≤ 255) := by
  unfold cttxt at h ⊢
  by_cases hb : b = true
  · simp only [hb, if_true] at h ⊢
    have h0 : s.2.2 = 0 := Classical.byContradiction fun he => by
      have := ttxt_err i 255 s he
      rw [this] at h; exact he h
    refine ⟨h0, (txtM 255 s.2.1 s.2.2).1, rfl, ?_, fun _ => ?_⟩
    · unfold ttxt at h ⊢
      rw [h0] at h ⊢
      exact (can_txt h).1
    · unfold ttxt at h
      rw [h0] at h ⊢
      have := (can_txt h).2
      omega
  · simp only [hb, if_false] at h ⊢
    exact ⟨h, ⟨#[]⟩, rfl, by simp, fun h => absurd h (by simp)⟩
theorem tpeer_can {s : Rst} (h : (tpeer s).2.2 = 0) : s.2.2 = 0 ∧ ∃ v, (tpeer s).1 = { s.1 with P := v } ∧ s.2.1.data.toList = putL v ++ (tpeer s).2.1.data.toList ∧ 0 ≤ v ∧ v ≤ 63 := by
  have h0 : s.2.2 = 0 := Classical.byContradiction fun he => by
    have := tpeer_err s he
    rw [this] at h; exact he h
  refine ⟨h0, (numM 63 s.2.1 s.2.2).1, rfl, ?_⟩
  unfold tpeer at h ⊢
  rw [h0] at h ⊢
  have := can_num h
  exact ⟨this.1, this.2.1, this.2.2.1⟩
theorem onl_dec (p : Prop) [Decidable p] (l : List UInt8) : (if decide p = true then l else []) = onl p l := by
  unfold onl
  by_cases h : p <;> simp [h]
theorem opx_ifs (p0 p1 p2 p3 p4 p5 : Prop) [Decidable p0] [Decidable p1] [Decidable p2] [Decidable p3] [Decidable p4] [Decidable p5] (K v0 v1 v2 v3 v4 : Int) (v5 v6 : ByteArray) {y0 y1 y2 y3 y4 y5 y6 : Opx}
    (x0 : y0 = { ({ zOp with K := K } : Opx) with P := v0 }) (x1 : y1 = if p0 then setN 0 v1 y0 else y0) (x2 : y2 = if p1 then setN 1 v2 y1 else y1) (x3 : y3 = if p2 then setN 2 v3 y2 else y2) (x4 : y4 = if p3 then setN 3 v4 y3 else y3) (x5 : y5 = if p4 then setT 0 v5 y4 else y4) (x6 : y6 = if p5 then setT 1 v6 y5 else y5) :
    y6 = ⟨K, v0, if p0 then v1 else 0, if p1 then v2 else 0, if p2 then v3 else 0, if p3 then v4 else 0, if p4 then v5 else ⟨#[]⟩, if p5 then v6 else ⟨#[]⟩⟩ := by
  subst x0 x1 x2 x3 x4 x5 x6
  by_cases c0 : p0 <;> by_cases c1 : p1 <;> by_cases c2 : p2 <;> by_cases c3 : p3 <;> by_cases c4 : p4 <;> by_cases c5 : p5 <;> simp [c0, c1, c2, c3, c4, c5, setN, setT, zOp]
theorem onl_if (p : Prop) [Decidable p] (v d : Int) : onl p (putL (if p then v else d)) = onl p (putL v) := by
  unfold onl; by_cases h : p <;> simp [h]
theorem onl_ift (p : Prop) [Decidable p] (v d : ByteArray) : onl p (txL (if p then v else d)) = onl p (txL v) := by
  unfold onl; by_cases h : p <;> simp [h]
theorem otake_can {S : ByteArray} (h : (otake S 0).2.2 = 0) : GoodO (otake S 0).1 ∧ S.data.toList = encO (otake S 0).1 ++ (otake S 0).2.1.data.toList := by
  obtain ⟨K, S1, e1, hn⟩ : ∃ K S1 e1, numM 1073741824 S 0 = (K, S1, e1) := ⟨_, _, _, rfl⟩
  have h1 : e1 = 0 := Classical.byContradiction fun he => by
    have : otake S 0 = (zOp, S1, e1) := by unfold otake; rw [hn]; simp only; rw [if_pos he]
    rw [this] at h; exact he h
  subst h1
  have h2 : K < 13 := Classical.byContradiction fun hk => by
    have : otake S 0 = (zOp, S1, 15) := by unfold otake; rw [hn]; simp only; rw [if_neg (by simp), if_pos hk]
    rw [this] at h; exact absurd h (by show ¬ (15 : Int) = 0; decide)
  have hc := can_num (m := 1073741824) (S := S) (by rw [hn])
  rw [hn] at hc
  obtain ⟨c1, c2, _, _⟩ := hc
  simp only at c1 c2
  rw [otake_rK hn h2] at h ⊢
  unfold rtakeK at h ⊢
  obtain ⟨s0, hs0⟩ : ∃ s0, tpeer (({ zOp with K := K } : Opx), S1, (0 : Int)) = s0 := ⟨_, rfl⟩
  rw [hs0] at h ⊢
  obtain ⟨s1, hs1⟩ : ∃ s1, ctnum (decide (4 ≤ K ∧ K ≤ 7)) 0 63 s0 = s1 := ⟨_, rfl⟩
  rw [hs1] at h ⊢
  obtain ⟨s2, hs2⟩ : ∃ s2, ctnum (decide (2 ≤ K ∧ K ≤ 9)) 1 1073741824 s1 = s2 := ⟨_, rfl⟩
  rw [hs2] at h ⊢
  obtain ⟨s3, hs3⟩ : ∃ s3, ctnum (decide (K = 7 ∨ K = 9)) 2 1073741824 s2 = s3 := ⟨_, rfl⟩
  rw [hs3] at h ⊢
  obtain ⟨s4, hs4⟩ : ∃ s4, ctnum (decide (K = 7)) 3 1073741824 s3 = s4 := ⟨_, rfl⟩
  rw [hs4] at h ⊢
  obtain ⟨s5, hs5⟩ : ∃ s5, cttxt (decide (K < 2)) 0 255 s4 = s5 := ⟨_, rfl⟩
  rw [hs5] at h ⊢
  obtain ⟨s6, hs6⟩ : ∃ s6, cttxt (decide (K = 0)) 1 255 s5 = s6 := ⟨_, rfl⟩
  rw [hs6] at h ⊢
  rw [← hs6] at h
  obtain ⟨g5, v6, x6, l6, r6⟩ := cttxt_can h
  rw [hs6] at x6 l6
  rw [← hs5] at g5
  obtain ⟨g4, v5, x5, l5, r5⟩ := cttxt_can g5
  rw [hs5] at x5 l5
  rw [← hs4] at g4
  obtain ⟨g3, v4, x4, l4, r4⟩ := ctnum_can g4
  rw [hs4] at x4 l4
  rw [← hs3] at g3
  obtain ⟨g2, v3, x3, l3, r3⟩ := ctnum_can g3
  rw [hs3] at x3 l3
  rw [← hs2] at g2
  obtain ⟨g1, v2, x2, l2, r2⟩ := ctnum_can g2
  rw [hs2] at x2 l2
  rw [← hs1] at g1
  obtain ⟨g0, v1, x1, l1, r1⟩ := ctnum_can g1
  rw [hs1] at x1 l1
  rw [← hs0] at g0
  obtain ⟨_, v0, x0, l0, r0, r0'⟩ := tpeer_can g0
  rw [hs0] at x0 l0
  simp only at x0 l0
  rw [onl_dec] at l1 l2 l3 l4 l5 l6
  simp only [decide_eq_true_eq] at x1 x2 x3 x4 x5 x6 r1 r2 r3 r4 r5 r6
  have hx : s6.1 = ⟨K, v0, if 4 ≤ K ∧ K ≤ 7 then v1 else 0, if 2 ≤ K ∧ K ≤ 9 then v2 else 0, if K = 7 ∨ K = 9 then v3 else 0, if K = 7 then v4 else 0, if K < 2 then v5 else ⟨#[]⟩, if K = 0 then v6 else ⟨#[]⟩⟩ := by
    exact opx_ifs _ _ _ _ _ _ K v0 v1 v2 v3 v4 v5 v6 x0 x1 x2 x3 x4 x5 x6
  rw [hx]
  refine ⟨⟨⟨c2, h2⟩, ⟨r0, (by omega : v0 < 64)⟩, ?_, ?_, ?_, ?_, ?_, ?_, ?_, ?_, ?_, ?_, ?_, ?_⟩, ?_⟩
  · show 0 ≤ (if 4 ≤ K ∧ K ≤ 7 then v1 else 0) ∧ (if 4 ≤ K ∧ K ≤ 7 then v1 else 0) < 64
    split
    · rename_i c; have := r1 c; omega
    · omega
  · show 0 ≤ (if 2 ≤ K ∧ K ≤ 9 then v2 else 0) ∧ (if 2 ≤ K ∧ K ≤ 9 then v2 else 0) ≤ 1073741824
    split
    · rename_i c; have := r2 c; omega
    · omega
  · show 0 ≤ (if K = 7 ∨ K = 9 then v3 else 0) ∧ (if K = 7 ∨ K = 9 then v3 else 0) ≤ 1073741824
    split
    · rename_i c; have := r3 c; omega
    · omega
  · show 0 ≤ (if K = 7 then v4 else 0) ∧ (if K = 7 then v4 else 0) ≤ 1073741824
    split
    · rename_i c; have := r4 c; omega
    · omega
  · show (if K < 2 then v5 else ⟨#[]⟩).size ≤ 255
    split
    · rename_i c; exact r5 c
    · decide
  · show (if K = 0 then v6 else ⟨#[]⟩).size ≤ 255
    split
    · rename_i c; exact r6 c
    · decide
  · intro c; exact if_neg c
  · intro c; exact if_neg c
  · intro c; exact if_neg c
  · intro c; exact if_neg c
  · intro c; exact if_neg c
  · intro c; exact if_neg c
  · unfold encO
    simp only [List.append_assoc]
    rw [c1, l0, l1, l2, l3, l4, l5, l6]
    simp only [onl_if, onl_ift]
/-- some operations' bytes -/
def encs (l : List Opx) : List UInt8 := l.flatMap encO
theorem oputs_ok : ∀ (l : List Opx) (h : ∀ x ∈ l, GoodO x) (L : List UInt8), oputs l (L, 0) = (L ++ encs l, 0)
  | [], _, L => by simp [oputs, encs]
  | x :: r, h, L => by
    show oputs r (oput x (L, 0)) = _
    rw [oput_ok x (h x (by simp)), oputs_ok r (fun y hy => h y (by simp [hy]))]
    simp [encs]
theorem wnum_fail (n : Int) (s : List UInt8 × Int) (h : (wnum n s).2 = 0) : s.2 = 0 := Classical.byContradiction fun he => by rw [wnum_err n s he] at h; exact he h
theorem oput_good {x : Opx} {s : List UInt8 × Int} (h : (oput x s).2 = 0) : s.2 = 0 ∧ GoodO x := by
  rw [← ochk_good]
  by_cases hs : s.2 = 0
  · refine ⟨hs, Classical.byContradiction fun hc => ?_⟩
    have : oput x s = wfail (ochk x) s := by unfold oput; rw [if_pos hc]
    rw [this] at h
    unfold wfail at h
    split at h
    · exact absurd hs (by assumption)
    · exact hc h
  · exfalso
    have he : oput x s = s := by
      rw [← oputR_eq]
      unfold oputR
      have hw : wfail (ochk x) s = s := by unfold wfail; rw [if_pos hs]
      rw [hw, wnum_err _ _ hs, wnum_err _ _ hs, cn_err _ _ _ hs, cn_err _ _ _ hs, cn_err _ _ _ hs, cn_err _ _ _ hs, ct_err _ _ _ hs, ct_err _ _ _ hs]
    rw [he] at h; exact hs h
theorem oputs_good : ∀ (l : List Opx) (s : List UInt8 × Int), (oputs l s).2 = 0 → s.2 = 0 ∧ ∀ x ∈ l, GoodO x
  | [], s, h => ⟨h, fun x hx => absurd hx (by simp)⟩
  | x :: r, s, h => by
    obtain ⟨h1, h2⟩ := oputs_good r (oput x s) h
    obtain ⟨h3, h4⟩ := oput_good h1
    exact ⟨h3, fun y hy => by
      rcases List.mem_cons.1 hy with rfl | hy
      · exact h4
      · exact h2 y hy⟩
end Go.Proofs.YtjjdgmabgiembaaDoor
