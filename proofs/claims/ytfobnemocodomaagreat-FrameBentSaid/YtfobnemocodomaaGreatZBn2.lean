/- Joined texts: MrQ MrR. -/
import Derived.Test.YtfobnemocodomaaGreatZBy
set_option linter.unusedVariables false
set_option linter.unusedSimpArgs false
set_option maxHeartbeats 1000000
namespace Go.Proofs.YtfobnemocodomaaGreat
open Go.RowKit Go.Shelf Go.Great

def encRs (l : List (List Dot)) : List UInt8 := l.flatMap encV
def encFd (x : Mx) : List UInt8 :=
  if x.K = 2 then x.R ++ (encV x.cl ++ (putL x.rs.length ++ encRs (x.rs.map DRow.l)))
  else if x.K = 3 then x.R ++ txL x.Pa
  else if x.K = 4 then txL x.Pa ++ txL x.Tx
  else if x.K = 6 then [flgB x.Tn] else []
def encM (x : Mx) : List UInt8 := putL x.K ++ (putL x.F ++ (putL x.To ++ (putL x.Sd ++ encFd x)))
theorem encM_mst (x : Mx) : encM (mst x) = encM x := by
  have h1 : (mst x).rs.map DRow.l = x.rs.map DRow.l := by show (x.rs.map fun d => mkD d.l).map DRow.l = _; rw [List.map_map]; rfl
  have h2 : (mst x).rs.length = x.rs.length := by show (x.rs.map fun d => mkD d.l).length = _; rw [List.length_map]
  unfold encM encFd
  rw [h1, h2]
  rfl
/-- what a message that may be is like -/
structure MGood (x : Mx) : Prop where
  k : 1 ≤ x.K ∧ x.K ≤ 6
  f : 0 ≤ x.F ∧ x.F ≤ 63
  t : 0 ≤ x.To ∧ x.To ≤ 63
  s : 1 ≤ x.Sd ∧ x.Sd ≤ 1048576
  b : bareB (zOf x) = true
  c : fchk x = 0
theorem mgood_of {x : Mx} (h : mChk x = 0) : MGood x := by
  unfold mChk at h
  by_cases h1 : x.K < 1 ∨ 6 < x.K
  · rw [if_pos h1] at h; cases h
  rw [if_neg h1] at h
  by_cases h2 : peerB x.F = false ∨ peerB x.To = false ∨ x.F = x.To
  · rw [if_pos h2] at h; cases h
  rw [if_neg h2] at h
  by_cases h3 : x.Sd < 1 ∨ 1048576 < x.Sd
  · rw [if_pos h3] at h; cases h
  rw [if_neg h3] at h
  by_cases h4 : bareB (zOf x) = false
  · rw [if_pos h4] at h; cases h
  rw [if_neg h4] at h
  have p1 : peerB x.F = true := by cases hp : peerB x.F with | true => rfl | false => exact absurd (Or.inl hp) h2
  have p2 : peerB x.To = true := by cases hp : peerB x.To with | true => rfl | false => exact absurd (Or.inr (Or.inl hp)) h2
  unfold peerB at p1 p2
  simp only [Bool.and_eq_true, decide_eq_true_eq] at p1 p2
  exact ⟨by omega, by omega, by omega, by omega, by cases hb : bareB (zOf x) with | true => rfl | false => exact absurd hb h4, h⟩
theorem cw_zero {f e : Int} (h : cw f e = 0) : e = 0 ∧ f = 0 := by
  unfold cw at h
  by_cases he : e = 0
  · rw [if_pos he] at h; exact ⟨he, h⟩
  · rw [if_neg he] at h; exact absurd h he
theorem rowsF_zero : ∀ (l : List DRow) (e : Int), rowsF l e = 0 → e = 0 ∧ ∀ d ∈ l, chk d.l = 0
  | [], e, h => ⟨h, fun d hd => by simp at hd⟩
  | d :: r, e, h => by
    obtain ⟨h1, h2⟩ := rowsF_zero r (cw (chk d.l) e) h
    obtain ⟨h3, h4⟩ := cw_zero h1
    refine ⟨h3, fun y hy => ?_⟩
    rcases List.mem_cons.1 hy with rfl | hy
    · exact h4
    · exact h2 y hy
theorem pathC_sz {s : ByteArray} {e : Int} (h : pathC s e = 0) : e = 0 ∧ s.size ≤ 51 := by
  unfold pathC at h
  by_cases hs : s = ⟨#[]⟩
  · rw [if_pos hs] at h; subst hs; exact ⟨h, by decide⟩
  · rw [if_neg hs] at h
    obtain ⟨h1, h2⟩ := cw_zero h
    refine ⟨h1, ?_⟩
    unfold pchk Pt.chkV at h2
    by_cases h5 : 51 < s.data.toList.length
    · rw [if_pos h5] at h2; cases h2
    · rw [Lib.size_eq]; omega
theorem good2 {x : Mx} (h : MGood x) (k : x.K = 2) : x.Pa = ⟨#[]⟩ ∧ x.Tx = ⟨#[]⟩ ∧ x.Tn = false ∧ chk x.cl = 0 ∧ x.rs.length ≤ 64 ∧ ∀ d ∈ x.rs, chk d.l = 0 := by
  have hb := h.b
  rw [bareK2 k] at hb
  simp only [Bool.and_eq_true, decide_eq_true_eq, Bool.not_eq_true'] at hb
  have hc := h.c
  unfold fchk at hc
  rw [if_pos k] at hc
  unfold rowsC at hc
  obtain ⟨h1, h2⟩ := rowsF_zero _ _ hc
  by_cases h6 : 64 < x.rs.length
  · rw [if_pos h6] at h1; have := (cw_zero h1).2; cases this
  · rw [if_neg h6] at h1
    exact ⟨hb.1, hb.2.1, hb.2.2, (cw_zero h1).2, by omega, h2⟩
theorem good3 {x : Mx} (h : MGood x) (k : x.K = 3) : x.cl.length = 0 ∧ x.rs.length = 0 ∧ x.Tx = ⟨#[]⟩ ∧ x.Tn = false ∧ x.Pa.size ≤ 51 := by
  have hb := h.b
  rw [bareK3 k] at hb
  simp only [Bool.and_eq_true, decide_eq_true_eq, Bool.not_eq_true'] at hb
  have hc := h.c
  unfold fchk at hc
  rw [if_neg (by omega), if_pos k] at hc
  exact ⟨hb.1, hb.2.1, hb.2.2.1, hb.2.2.2, (pathC_sz hc).2⟩
theorem good4 {x : Mx} (h : MGood x) (k : x.K = 4) : x.R = Z32L ∧ x.cl.length = 0 ∧ x.rs.length = 0 ∧ x.Tn = false ∧ x.Pa.size ≤ 51 ∧ x.Tx.size ≤ 65536 := by
  have hb := h.b
  rw [bareK4 k] at hb
  simp only [Bool.and_eq_true, decide_eq_true_eq, Bool.not_eq_true'] at hb
  have hc := h.c
  unfold fchk at hc
  rw [if_neg (by omega), if_neg (by omega), if_pos k] at hc
  unfold textC at hc
  by_cases h6 : 65536 < x.Tx.size
  · rw [if_pos h6] at hc; have := (cw_zero hc).2; cases this
  · rw [if_neg h6] at hc
    exact ⟨hb.1, hb.2.1, hb.2.2.1, hb.2.2.2, (pathC_sz hc).2, by omega⟩
theorem good6 {x : Mx} (h : MGood x) (k : x.K = 6) : x.R = Z32L ∧ x.Pa = ⟨#[]⟩ ∧ x.cl.length = 0 ∧ x.rs.length = 0 ∧ x.Tx = ⟨#[]⟩ := by
  have hb := h.b
  rw [bareK6 k] at hb
  simp only [Bool.and_eq_true, decide_eq_true_eq, Bool.not_eq_true'] at hb
  exact hb
theorem good1 {x : Mx} (h : MGood x) (k : x.K = 1 ∨ x.K = 5) : x.R = Z32L ∧ x.Pa = ⟨#[]⟩ ∧ x.cl.length = 0 ∧ x.rs.length = 0 ∧ x.Tx = ⟨#[]⟩ ∧ x.Tn = false := by
  have hb := h.b
  rcases k with k | k
  · rw [bareK1 k] at hb
    simp only [Bool.and_eq_true, decide_eq_true_eq, Bool.not_eq_true'] at hb
    exact hb
  · rw [bareK5 k] at hb
    simp only [Bool.and_eq_true, decide_eq_true_eq, Bool.not_eq_true'] at hb
    exact hb
theorem small_of {x : Mx} (h : MGood x) : MSmall x := by
  have z : ∀ {l : List DRow}, l.length = 0 → ∀ d ∈ l, d.l.length ≤ 70 := fun h d hd => by rw [List.eq_nil_of_length_eq_zero h] at hd; simp at hd
  have e0 : (⟨#[]⟩ : ByteArray).size ≤ 70000 := by decide
  have e1 : (⟨#[]⟩ : ByteArray).size ≤ 300 := by decide
  rcases (by have := h.k; omega : x.K = 1 ∨ x.K = 2 ∨ x.K = 3 ∨ x.K = 4 ∨ x.K = 5 ∨ x.K = 6) with k | k | k | k | k | k
  · obtain ⟨a, b, c, d, e, f⟩ := good1 h (Or.inl k)
    exact ⟨by omega, by omega, by rw [e]; exact e0, by rw [b]; exact e1, z d⟩
  · obtain ⟨a, b, c, d, e, f⟩ := good2 h k
    exact ⟨by omega, by have := okv_len d; omega, by rw [b]; exact e0, by rw [a]; exact e1, fun r hr => by have := okv_len (f r hr); omega⟩
  · obtain ⟨a, b, c, d, e⟩ := good3 h k
    exact ⟨by omega, by omega, by rw [c]; exact e0, by omega, z b⟩
  · obtain ⟨a, b, c, d, e, f⟩ := good4 h k
    exact ⟨by omega, by omega, by omega, by omega, z c⟩
  · obtain ⟨a, b, c, d, e, f⟩ := good1 h (Or.inr k)
    exact ⟨by omega, by omega, by rw [e]; exact e0, by rw [b]; exact e1, z d⟩
  · obtain ⟨a, b, c, d, e⟩ := good6 h k
    exact ⟨by omega, by omega, by rw [e]; exact e0, by rw [b]; exact e1, z d⟩
/-! ### put -/
theorem rows_put : ∀ (l : List DRow) (L : List UInt8), (∀ d ∈ l, chk d.l = 0) → rowsP l (L, 0) = (L ++ encRs (l.map DRow.l), 0)
  | [], L, _ => by simp [rowsP, encRs]
  | d :: r, L, h => by
    show rowsP r (vput d.l (L, 0)) = _
    rw [vput_put (h d (by simp)), rows_put r _ (fun y hy => h y (by simp [hy]))]
    simp [encRs]
theorem wput_put (t L : List UInt8) : wput true t (L, 0) = (L ++ t, 0) := by unfold wput; rw [if_neg (by simp), if_pos rfl]
theorem wtxt_put {s : ByteArray} (h : s.size ≤ 65536) (L : List UInt8) : wtxt s (L, 0) = (L ++ txL s, 0) := by
  unfold wtxt
  rw [decide_eq_true h, wput_put]
theorem body_put {x : Mx} (h : MGood x) (L : List UInt8) : bodyP x (L, 0) = (L ++ encFd x, 0) := by
  unfold bodyP encFd
  by_cases k2 : x.K = 2
  · obtain ⟨a, b, c, d, e, f⟩ := good2 h k2
    rw [if_pos k2, if_pos k2, wput_put, vput_put d, wnum_okB _ _ (by omega), rows_put _ _ f]
    simp [List.append_assoc]
  rw [if_neg k2, if_neg k2]
  by_cases k3 : x.K = 3
  · obtain ⟨a, b, c, d, e⟩ := good3 h k3
    rw [if_pos k3, if_pos k3, wput_put, wtxt_put (by omega), List.append_assoc]
  rw [if_neg k3, if_neg k3]
  by_cases k4 : x.K = 4
  · obtain ⟨a, b, c, d, e, f⟩ := good4 h k4
    rw [if_pos k4, if_pos k4, wtxt_put (by omega), wtxt_put f, List.append_assoc]
  rw [if_neg k4, if_neg k4]
  by_cases k6 : x.K = 6
  · rw [if_pos k6, if_pos k6, wput_put]; rfl
  rw [if_neg k6, if_neg k6, List.append_nil]
theorem bytes_ok {x : Mx} (h : mChk x = 0) : mBytes x = (encM x, 0) := by
  have g := mgood_of h
  have hn : numsW (mNums x) ([], 0) = wnum x.Sd (wnum x.To (wnum x.F (wnum x.K ([], 0)))) := rfl
  unfold mBytes mPut
  rw [if_neg (by simpa using h), hn, wnum_okB _ _ (by have := g.k; omega), wnum_okB _ _ (by have := g.f; omega), wnum_okB _ _ (by have := g.t; omega), wnum_okB _ _ (by have := g.s; omega), body_put g]
  unfold doneV encM
  rw [if_neg (by simp)]
  simp [List.append_assoc]
/-! ### read again -/
theorem rowsGoM_back : ∀ (l2 l1 : List (List Dot)) (t : List UInt8), (∀ v ∈ l2, chk v = 0) → rowsGoM l2.length (l1, bsq (encRs l2 ++ t), 0) = (l1 ++ l2, bsq t, 0)
  | [], l1, t, _ => by simp [rowsGoM, encRs]
  | v :: r, l1, t, h => by
    have e : encRs (v :: r) ++ t = encV v ++ (encRs r ++ t) := by simp [encRs]
    rw [e, List.length_cons, rowsGoM_step, vec_back (h v (by simp))]
    rw [rowsGoM_back r (l1 ++ [v]) t (fun y hy => h y (by simp [hy]))]
    simp
theorem rows_back {l : List (List Dot)} (h : ∀ v ∈ l, chk v = 0) (hl : l.length ≤ 64) (t : List UInt8) : rowsM (bsq (putL l.length ++ (encRs l ++ t)), 0) = (l, bsq t, 0) := by
  have h1 : numM 64 (bsq (putL l.length ++ (encRs l ++ t))) 0 = ((l.length : Int), bsq (encRs l ++ t), 0) := num_backM 64 l.length (by omega) (by omega) _
  unfold rowsM
  simp only [h1, Int.toNat_natCast]
  rw [rowsGoM_back l [] t h, List.nil_append]
theorem body_back {x : Mx} (h : MGood x) (hR : x.R.length = 32) : rdBody { zMx with K := x.K, F := x.F, To := x.To, Sd := x.Sd } (bsq (encFd x), 0) = (mst x, bsq [], 0) := by
  have hz : (zMx.rs.map fun d => mkD d.l) = [] := rfl
  rcases (by have := h.k; omega : x.K = 1 ∨ x.K = 2 ∨ x.K = 3 ∨ x.K = 4 ∨ x.K = 5 ∨ x.K = 6) with k | k | k | k | k | k
  · obtain ⟨a, b, c, d, e, f⟩ := good1 h (Or.inl k)
    have c' := List.eq_nil_of_length_eq_zero c
    have d' := List.eq_nil_of_length_eq_zero d
    unfold rdBody encFd mst
    simp only [k, a, b, c', d', e, f, List.map_nil]
    rfl
  · obtain ⟨a, b, c, d, e, f⟩ := good2 h k
    have h1 : dgM (bsq (encFd x)) 0 = (x.R, bsq (encV x.cl ++ (putL (x.rs.map DRow.l).length ++ (encRs (x.rs.map DRow.l) ++ []))), 0) := by
      unfold encFd
      rw [if_pos k, List.append_nil, List.length_map]
      exact dg_back x.R hR _
    have h2 := vec_back d (putL (x.rs.map DRow.l).length ++ (encRs (x.rs.map DRow.l) ++ []))
    have h3 := rows_back (l := x.rs.map DRow.l) (fun v hv => by obtain ⟨y, hy, rfl⟩ := List.mem_map.1 hv; exact f y hy) (by rw [List.length_map]; exact e) []
    unfold rdBody mst
    simp only [k, if_true, h1, h2, h3]
    rw [a, b, c, ← map_mkD]
    rfl
  · obtain ⟨a, b, c, d, e⟩ := good3 h k
    have a' := List.eq_nil_of_length_eq_zero a
    have b' := List.eq_nil_of_length_eq_zero b
    have h1 : dgM (bsq (encFd x)) 0 = (x.R, bsq (txL x.Pa ++ []), 0) := by
      unfold encFd
      rw [if_neg (by omega), if_pos k, List.append_nil]
      exact dg_back x.R hR _
    have h2 : txtM 51 (bsq (txL x.Pa ++ [])) 0 = (x.Pa, bsq [], 0) := txt_backM 51 x.Pa (by omega) (by omega) []
    unfold rdBody mst
    simp only [k, h1, h2, a', b', c, d, List.map_nil]
    rfl
  · obtain ⟨a, b, c, d, e, f⟩ := good4 h k
    have b' := List.eq_nil_of_length_eq_zero b
    have c' := List.eq_nil_of_length_eq_zero c
    have h1 : txtM 51 (bsq (encFd x)) 0 = (x.Pa, bsq (txL x.Tx ++ []), 0) := by
      unfold encFd
      rw [if_neg (by omega), if_neg (by omega), if_pos k, List.append_nil]
      exact txt_backM 51 x.Pa (by omega) (by omega) _
    have h2 : txtM 65536 (bsq (txL x.Tx ++ [])) 0 = (x.Tx, bsq [], 0) := txt_backM 65536 x.Tx f (by omega) []
    unfold rdBody mst
    simp only [k, h1, h2, a, b', c', d, List.map_nil]
    rfl
  · obtain ⟨a, b, c, d, e, f⟩ := good1 h (Or.inr k)
    have c' := List.eq_nil_of_length_eq_zero c
    have d' := List.eq_nil_of_length_eq_zero d
    unfold rdBody encFd mst
    simp only [k, a, b, c', d', e, f, List.map_nil]
    rfl
  · obtain ⟨a, b, c, d, e⟩ := good6 h k
    have c' := List.eq_nil_of_length_eq_zero c
    have d' := List.eq_nil_of_length_eq_zero d
    have h1 : flgM (bsq (encFd x)) 0 = (x.Tn, bsq [], 0) := by
      unfold encFd
      rw [if_neg (by omega), if_neg (by omega), if_neg (by omega), if_pos k]
      exact flg_backS x.Tn []
    unfold rdBody mst
    simp only [k, h1, a, b, c', d', e, List.map_nil]
    rfl
theorem read_back {x : Mx} (h : mChk x = 0) (hR : x.R.length = 32) : readM (bsq (encM x)) = (mst x, 0) := by
  have g := mgood_of h
  have h1 : numM 1073741824 (bsq (encM x)) 0 = (x.K, bsq (putL x.F ++ (putL x.To ++ (putL x.Sd ++ encFd x))), 0) := num_backM _ _ (by have := g.k; omega) (by have := g.k; omega) _
  have h2 : numM 63 (bsq (putL x.F ++ (putL x.To ++ (putL x.Sd ++ encFd x)))) 0 = (x.F, bsq (putL x.To ++ (putL x.Sd ++ encFd x)), 0) := num_backM _ _ (by have := g.f; omega) (by have := g.f; omega) _
  have h3 : numM 63 (bsq (putL x.To ++ (putL x.Sd ++ encFd x))) 0 = (x.To, bsq (putL x.Sd ++ encFd x), 0) := num_backM _ _ (by have := g.t; omega) (by have := g.t; omega) _
  have h4 : numM 1048576 (bsq (putL x.Sd ++ encFd x)) 0 = (x.Sd, bsq (encFd x), 0) := num_backM _ _ (by have := g.s; omega) (by have := g.s; omega) _
  have hk : rdKind (bsq (encM x)) = (x.K, bsq (putL x.F ++ (putL x.To ++ (putL x.Sd ++ encFd x))), 0) := by
    unfold rdKind
    simp only [h1]
    rw [if_pos trivial, if_neg (by have := g.k; omega)]
  have hh : rdHead (bsq (encM x)) = ({ zMx with K := x.K, F := x.F, To := x.To, Sd := x.Sd }, bsq (encFd x), 0) := by
    unfold rdHead num2
    simp only [hk, h2, h3, h4]
  have ha : rdAll (bsq (encM x)) = (mst x, bsq [], 0) := by
    unfold rdAll
    rw [hh]
    exact body_back g hR
  unfold readM
  rw [ha]
  rw [if_neg (by simp [rdDone, bsq_size]), if_neg (by show ¬ mChk (mst x) ≠ 0; rw [mChk_mst]; simpa using h)]
end Go.Proofs.YtfobnemocodomaaGreat
set_option linter.unusedVariables false
set_option linter.unusedSimpArgs false
set_option maxHeartbeats 1000000
namespace Go.Proofs.YtfobnemocodomaaGreat
open Go.RowKit Go.Shelf Go.Great

theorem num_can {m : Int} {s : Rst} (h : (numM m s.1 s.2).2.2 = 0) : s.2 = 0 ∧ s.1.data.toList = putL (numM m s.1 s.2).1 ++ (numM m s.1 s.2).2.1.data.toList ∧ 0 ≤ (numM m s.1 s.2).1 ∧ (numM m s.1 s.2).1 ≤ m ∧ (numM m s.1 s.2).1 ≤ 1073741824 := by
  have h0 : s.2 = 0 := Classical.byContradiction fun he => by rw [numM_err _ he] at h; exact he h
  rw [h0] at h ⊢
  obtain ⟨a, b, c, d⟩ := can_num h
  exact ⟨rfl, a, b, c, d⟩
theorem dig_can {s : Rst} (h : (dgM s.1 s.2).2.2 = 0) : s.2 = 0 ∧ s.1.data.toList = (dgM s.1 s.2).1 ++ (dgM s.1 s.2).2.1.data.toList := by
  have h0 : s.2 = 0 := Classical.byContradiction fun he => by
    unfold dgM at h; rw [if_pos he] at h; exact he h
  rw [h0] at h ⊢
  exact ⟨rfl, can_dig h⟩
theorem txt_can {m : Int} {s : Rst} (h : (txtM m s.1 s.2).2.2 = 0) : s.2 = 0 ∧ s.1.data.toList = txL (txtM m s.1 s.2).1 ++ (txtM m s.1 s.2).2.1.data.toList ∧ ((txtM m s.1 s.2).1.size : Int) ≤ m := by
  have h0 : s.2 = 0 := Classical.byContradiction fun he => by rw [txtM_err _ he] at h; exact he h
  rw [h0] at h ⊢
  obtain ⟨a, b⟩ := can_txt h
  exact ⟨rfl, a, b⟩
theorem rowsGoM_can : ∀ (n : Nat) (s : List (List Dot) × Rst), (rowsGoM n s).2.2 = 0 → s.2.2 = 0 ∧ ∃ l', (rowsGoM n s).1 = s.1 ++ l' ∧ l'.length = n ∧ s.2.1.data.toList = encRs l' ++ (rowsGoM n s).2.1.data.toList
  | 0, s, h => ⟨h, [], by simp [rowsGoM, encRs]⟩
  | n + 1, s, h => by
    have h0 : s.2.2 = 0 := Classical.byContradiction fun he => by rw [rowsGoM_err _ _ he] at h; exact he h
    unfold rowsGoM at h ⊢
    rw [if_neg (by simpa using h0)] at h ⊢
    obtain ⟨h1, l', e1, e2, e3⟩ := rowsGoM_can n _ h
    simp only at h1 e1 e3
    obtain ⟨_, _, k⟩ := vec_can h1
    refine ⟨h0, (vecM s.2).1 :: l', by rw [e1]; simp, by simp [e2], ?_⟩
    rw [k, e3]
    simp [encRs]
theorem rows_can {s : Rst} (h : (rowsM s).2.2 = 0) : s.2 = 0 ∧ s.1.data.toList = putL (rowsM s).1.length ++ (encRs (rowsM s).1 ++ (rowsM s).2.1.data.toList) := by
  unfold rowsM at h ⊢
  obtain ⟨h1, l', e1, e2, e3⟩ := rowsGoM_can _ _ h
  simp only [List.nil_append] at h1 e1 e3
  obtain ⟨h0, c1, c2, _, _⟩ := num_can h1
  refine ⟨h0, ?_⟩
  rw [c1, e3, e1, e2, show (((numM 64 s.1 s.2).1.toNat : Nat) : Int) = (numM 64 s.1 s.2).1 by omega]
theorem map_l_mkD (l : List (List Dot)) : (l.map mkD).map DRow.l = l := by rw [List.map_map]; show l.map (fun v => v) = l; simp
theorem body_can {x : Mx} {s : Rst} (hx : x.K ≤ 6) (h : (rdBody x s).2.2 = 0) : s.2 = 0 ∧ s.1.data.toList = encFd (rdBody x s).1 ++ (rdBody x s).2.1.data.toList := by
  by_cases k2 : x.K = 2
  · have e : rdBody x s = ({ x with R := (dgM s.1 s.2).1, cl := (vecM (dgM s.1 s.2).2).1, rs := (rowsM (vecM (dgM s.1 s.2).2).2).1.map mkD }, (rowsM (vecM (dgM s.1 s.2).2).2).2) := by unfold rdBody; rw [if_pos k2]
    rw [e] at h ⊢
    obtain ⟨h1, c1⟩ := rows_can h
    obtain ⟨h2, _, c2⟩ := vec_can h1
    obtain ⟨h3, c3⟩ := dig_can h2
    refine ⟨h3, ?_⟩
    unfold encFd
    rw [if_pos (show ({ x with R := (dgM s.1 s.2).1, cl := (vecM (dgM s.1 s.2).2).1, rs := (rowsM (vecM (dgM s.1 s.2).2).2).1.map mkD } : Mx).K = 2 from k2)]
    simp only [List.length_map, map_l_mkD]
    rw [c3, c2, c1]
    simp [List.append_assoc]
  by_cases k3 : x.K = 3
  · have e : rdBody x s = ({ x with R := (dgM s.1 s.2).1, Pa := (txtM 51 (dgM s.1 s.2).2.1 (dgM s.1 s.2).2.2).1 }, (txtM 51 (dgM s.1 s.2).2.1 (dgM s.1 s.2).2.2).2) := by unfold rdBody; rw [if_neg k2, if_pos k3]
    rw [e] at h ⊢
    obtain ⟨h1, c1, _⟩ := txt_can h
    obtain ⟨h3, c3⟩ := dig_can h1
    refine ⟨h3, ?_⟩
    unfold encFd
    simp only [k3]
    rw [c3, c1]
    simp [List.append_assoc]
  by_cases k4 : x.K = 4
  · have e : rdBody x s = ({ x with Pa := (txtM 51 s.1 s.2).1, Tx := (txtM 65536 (txtM 51 s.1 s.2).2.1 (txtM 51 s.1 s.2).2.2).1 }, (txtM 65536 (txtM 51 s.1 s.2).2.1 (txtM 51 s.1 s.2).2.2).2) := by unfold rdBody; rw [if_neg k2, if_neg k3, if_pos k4]
    rw [e] at h ⊢
    obtain ⟨h1, c1, _⟩ := txt_can h
    obtain ⟨h3, c3, _⟩ := txt_can h1
    refine ⟨h3, ?_⟩
    unfold encFd
    simp only [k4]
    rw [c3, c1]
    simp [List.append_assoc]
  by_cases k6 : x.K = 6
  · have e : rdBody x s = ({ x with Tn := (flgM s.1 s.2).1 }, (flgM s.1 s.2).2) := by unfold rdBody; rw [if_neg k2, if_neg k3, if_neg k4, if_pos k6]
    rw [e] at h ⊢
    obtain ⟨h3, c3⟩ := flg_can (s := s) h
    refine ⟨h3, ?_⟩
    unfold encFd
    simp only [k6]
    rw [c3]
    rfl
  have e : rdBody x s = (x, s) := by unfold rdBody; rw [if_neg k2, if_neg k3, if_neg k4, if_neg k6]
  rw [e] at h ⊢
  refine ⟨h, ?_⟩
  unfold encFd
  rw [if_neg k2, if_neg k3, if_neg k4, if_neg k6]
  rfl
theorem body_same (x : Mx) (s : Rst) : (rdBody x s).1.K = x.K ∧ (rdBody x s).1.F = x.F ∧ (rdBody x s).1.To = x.To ∧ (rdBody x s).1.Sd = x.Sd := by
  unfold rdBody
  split
  · exact ⟨rfl, rfl, rfl, rfl⟩
  · split
    · exact ⟨rfl, rfl, rfl, rfl⟩
    · split
      · exact ⟨rfl, rfl, rfl, rfl⟩
      · split
        · exact ⟨rfl, rfl, rfl, rfl⟩
        · exact ⟨rfl, rfl, rfl, rfl⟩
theorem kind_can {S : ByteArray} (h : (rdKind S).2.2 = 0) : S.data.toList = putL (rdKind S).1 ++ (rdKind S).2.1.data.toList ∧ 1 ≤ (rdKind S).1 ∧ (rdKind S).1 ≤ 6 := by
  unfold rdKind at h ⊢
  simp only at h ⊢
  by_cases he : (numM 1073741824 S 0).2.2 = 0
  · rw [if_pos he] at h
    by_cases hk : (numM 1073741824 S 0).1 < 1 ∨ 6 < (numM 1073741824 S 0).1
    · rw [if_pos hk] at h; cases h
    · obtain ⟨_, c, _⟩ := num_can (s := (S, 0)) he
      exact ⟨c, by omega, by omega⟩
  · rw [if_neg he] at h; exact absurd h he
theorem read_can {S : ByteArray} (h : (readM S).2 = 0) : mChk (readM S).1 = 0 ∧ S.data.toList = encM (readM S).1 := by
  by_cases hd : rdDone (rdAll S).2.1 (rdAll S).2.2 = 0; rotate_left
  · rw [show readM S = (zMx, rdDone (rdAll S).2.1 (rdAll S).2.2) by unfold readM; rw [if_pos hd]] at h; exact absurd h hd
  by_cases hc : mChk (rdAll S).1 = 0; rotate_left
  · rw [show readM S = (zMx, mChk (rdAll S).1) by unfold readM; rw [if_neg (by simpa using hd), if_pos hc]] at h; exact absurd h hc
  have e : readM S = ((rdAll S).1, 0) := by unfold readM; rw [if_neg (by simpa using hd), if_neg (by simpa using hc)]
  rw [e]
  refine ⟨hc, ?_⟩
  obtain ⟨d1, d2⟩ := rdDone_zero.1 hd
  have hnil : (rdAll S).2.1.data.toList = [] := by
    have := Lib.size_eq (rdAll S).2.1
    rw [d2] at this
    exact List.eq_nil_of_length_eq_zero this.symm
  have hb := body_same (rdHead S).1 (rdHead S).2
  have hK : ∀ (h4 : (rdHead S).2.2 = 0), (numM 1048576 (num2 63 63 (rdKind S).2).2.1 (num2 63 63 (rdKind S).2).2.2).2.2 = 0 := fun h4 => h4
  have hk6 : (rdHead S).1.K ≤ 6 := by
    have g := (mgood_of hc).k
    have : (rdAll S).1.K = (rdHead S).1.K := hb.1
    omega
  obtain ⟨h4, c4⟩ := body_can (x := (rdHead S).1) (s := (rdHead S).2) hk6 d1
  have h5 := hK h4
  obtain ⟨h6, c6, _⟩ := num_can h5
  have h7 : (numM 63 (numM 63 (rdKind S).2.1 (rdKind S).2.2).2.1 (numM 63 (rdKind S).2.1 (rdKind S).2.2).2.2).2.2 = 0 := h6
  obtain ⟨h8, c8, _⟩ := num_can (s := (numM 63 (rdKind S).2.1 (rdKind S).2.2).2) h7
  obtain ⟨h9, c9, _⟩ := num_can (s := (rdKind S).2) h8
  obtain ⟨c10, _⟩ := kind_can h9
  have eK : (rdAll S).1.K = (rdKind S).1 := hb.1
  have eF : (rdAll S).1.F = (numM 63 (rdKind S).2.1 (rdKind S).2.2).1 := hb.2.1
  have eT : (rdAll S).1.To = (numM 63 (numM 63 (rdKind S).2.1 (rdKind S).2.2).2.1 (numM 63 (rdKind S).2.1 (rdKind S).2.2).2.2).1 := hb.2.2.1
  have eS : (rdAll S).1.Sd = (numM 1048576 (num2 63 63 (rdKind S).2).2.1 (num2 63 63 (rdKind S).2).2.2).1 := hb.2.2.2
  unfold encM
  rw [eK, eF, eT, eS, c10, c9, c8]
  have c6' : (numM 63 (numM 63 (rdKind S).2.1 (rdKind S).2.2).2.1 (numM 63 (rdKind S).2.1 (rdKind S).2.2).2.2).2.1.data.toList = putL (numM 1048576 (num2 63 63 (rdKind S).2).2.1 (num2 63 63 (rdKind S).2).2.2).1 ++ (rdHead S).2.1.data.toList := c6
  have c4' : (rdHead S).2.1.data.toList = encFd (rdAll S).1 ++ (rdAll S).2.1.data.toList := c4
  rw [c6', c4', hnil, List.append_nil]
end Go.Proofs.YtfobnemocodomaaGreat
