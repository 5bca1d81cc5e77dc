/- Joined texts: RrP RrA RrB RrC. -/
import Derived.Test.YtfobnemocodomaaGreatZBv
import Derived.Test.YtfobnemocodomaaGreatZBn
import Derived.Test.YtfobnemocodomaaGreatZBq
import Derived.Test.YtfobnemocodomaaGreatZBe
set_option linter.unusedVariables false
set_option linter.unusedSimpArgs false
set_option maxHeartbeats 1000000
namespace Go.Proofs.YtfobnemocodomaaGreat
open Go.RowKit Go.Shelf

abbrev Rst := ByteArray × Int
abbrev putL (n : Int) : List UInt8 := (putS n).data.toList
abbrev txL (t : ByteArray) : List UInt8 := putL t.size ++ t.data.toList
def bsq (l : List UInt8) : ByteArray := ⟨l.toArray⟩
theorem bsq_list (S : ByteArray) : bsq S.data.toList = S := rfl
theorem bsq_toList (l : List UInt8) : (bsq l).data.toList = l := rfl
theorem bsq_size (l : List UInt8) : (bsq l).size = l.length := by unfold bsq; exact sizeL l

/-! ### what is taken -/
def dotM (s : Rst) : Dot × Rst := (((numM 63 s.1 s.2).1, (numM 1048576 (numM 63 s.1 s.2).2.1 (numM 63 s.1 s.2).2.2).1), (numM 1048576 (numM 63 s.1 s.2).2.1 (numM 63 s.1 s.2).2.2).2)
def dotsGo : Nat → List Dot × Rst → List Dot × Rst
  | 0, s => s
  | k + 1, s => if s.2.2 ≠ 0 then s else dotsGo k (s.1 ++ [(dotM s.2).1], (dotM s.2).2)
/-- a row that is taken, if it is right -/
def fit {α : Type} (r : List α → Int) (s : List α × Rst) : List α × Rst := if s.2.2 ≠ 0 then ([], s.2) else if r s.1 ≠ 0 then ([], s.2.1, r s.1) else s
def vecM (s : Rst) : List Dot × Rst := fit chk (dotsGo (numM 64 s.1 s.2).1.toNat ([], (numM 64 s.1 s.2).2))
def flgS (s : Rst) : Bool × Rst := flgM s.1 s.2
def verM (s : Rst) : Vx × Rst :=
  let d := dotM s
  let v := vecM d.2
  let f := flgS v.2
  let t := txtM 48 f.2.1 f.2.2
  (⟨d.1.1, d.1.2, none, v.1, 0, f.1, t.1⟩, t.2)
def versGo : Nat → List Vx × Rst → List Vx × Rst
  | 0, s => s
  | k + 1, s => if s.2.2 ≠ 0 then s else versGo k (s.1 ++ [(verM s.2).1], (verM s.2).2)
def leafM (s : Rst) : List Vx × Rst := fit leafChk (versGo (numM 64 s.1 s.2).1.toNat ([], (numM 64 s.1 s.2).2))

/-! ### where things lie does not matter -/
def strip (x : Vx) : Vx := { x with A := none, pc := 0 }
theorem verChk_strip (x : Vx) : verChk (strip x) = verChk x := rfl
theorem verGo_strip : ∀ (l : List Vx) (q : Int), verGo q (l.map strip) = verGo q l
  | [], _ => rfl
  | x :: r, q => by
    simp only [List.map_cons, verGo, verChk_strip]
    rw [verGo_strip r]
    rfl
theorem covB_strip (l : List Vx) (p c : Int) : covB (l.map strip) p c = covB l p c := by
  unfold covB; rw [List.any_map]; rfl
theorem covAny_strip (l m : List Vx) : covAny (l.map strip) (m.map strip) = covAny l m := by
  unfold covAny; rw [List.any_map]
  congr 1
  funext x
  exact covB_strip l x.P x.C
theorem leafChk_strip (l : List Vx) : leafChk (l.map strip) = leafChk l := by
  unfold leafChk; rw [List.length_map, verGo_strip, covAny_strip]
theorem vsame_strip (x y : Vx) : strip x = strip y → vsame x y = true := by
  intro h
  obtain ⟨P, C, A, pl, pc, D, T⟩ := x
  obtain ⟨P', C', A', pl', pc', D', T'⟩ := y
  simp only [strip, Vx.mk.injEq] at h
  obtain ⟨rfl, rfl, -, rfl, -, rfl, rfl⟩ := h
  simp [vsame]
theorem vsames_strip : ∀ (a b : List Vx), a.map strip = b.map strip → vsames a b = true
  | [], [], _ => rfl
  | [], y :: b, h => by simp at h
  | x :: a, [], h => by simp at h
  | x :: a, y :: b, h => by
    simp only [List.map_cons, List.cons.injEq] at h
    simp only [vsames, vsame_strip x y h.1, vsames_strip a b h.2, Bool.and_self]
theorem strip_strip (l : List Vx) : (l.map strip).map strip = l.map strip := by rw [List.map_map]; rfl

/-! ### errors stay -/
theorem numM_err (m : Int) {S : ByteArray} {e : Int} (h : e ≠ 0) : numM m S e = (0, S, e) := by unfold numM; rw [if_pos h]
theorem dotM_err {s : Rst} (h : s.2 ≠ 0) : (dotM s).2 = s := by
  unfold dotM
  rw [numM_err 63 h]
  simp only
  rw [numM_err 1048576 h]
theorem dotsGo_err : ∀ (n : Nat) (s : List Dot × Rst), s.2.2 ≠ 0 → dotsGo n s = s
  | 0, _, _ => rfl
  | n + 1, s, h => by unfold dotsGo; rw [if_pos h]
theorem versGo_err : ∀ (n : Nat) (s : List Vx × Rst), s.2.2 ≠ 0 → versGo n s = s
  | 0, _, _ => rfl
  | n + 1, s, h => by unfold versGo; rw [if_pos h]
theorem vecM_err {s : Rst} (h : s.2 ≠ 0) : vecM s = ([], s) := by
  unfold vecM
  rw [numM_err 64 h]
  simp only [Int.toNat_zero, dotsGo]
  unfold fit
  rw [if_pos h]
theorem flgS_err {s : Rst} (h : s.2 ≠ 0) : (flgS s).2 = s := by unfold flgS flgM; rw [if_pos h]
theorem txtM_err (m : Int) {S : ByteArray} {e : Int} (h : e ≠ 0) : txtM m S e = (⟨#[]⟩, S, e) := by unfold txtM; rw [if_pos h]
theorem verM_err {s : Rst} (h : s.2 ≠ 0) : (verM s).2 = s := by
  unfold verM
  simp only
  rw [dotM_err h, vecM_err h]
  simp only
  rw [flgS_err h, txtM_err _ h]
theorem leafM_err {s : Rst} (h : s.2 ≠ 0) : leafM s = ([], s) := by
  unfold leafM
  rw [numM_err 64 h]
  simp only [Int.toNat_zero, versGo]
  unfold fit
  rw [if_pos h]

/-! ### the bytes -/
def encD (d : Dot) : List UInt8 := putL d.1 ++ putL d.2
def encDs (l : List Dot) : List UInt8 := l.flatMap encD
def encV (l : List Dot) : List UInt8 := putL l.length ++ encDs l
def flgB (f : Bool) : UInt8 := if f then 1 else 0
def encX (x : Vx) : List UInt8 := encD (x.P, x.C) ++ (encV x.pl ++ ([flgB x.D] ++ txL x.T))
def encXs (l : List Vx) : List UInt8 := l.flatMap encX
def encL (l : List Vx) : List UInt8 := putL l.length ++ encXs l
theorem num_backM (m : Int) (n : Int) (h : 0 ≤ n ∧ n ≤ 1073741824) (hm : n ≤ m) (t : List UInt8) : numM m ⟨(putL n ++ t).toArray⟩ 0 = (n, ⟨t.toArray⟩, 0) := by
  obtain ⟨k, rfl⟩ : ∃ k : Nat, n = k := ⟨n.toNat, by omega⟩
  unfold numM
  rw [take_put k (by omega), if_neg (by simp)]
  have hE : numE m (k : Int) 0 = 0 := by unfold numE; rw [if_neg (by omega)]
  simp only [hE, ne_eq, not_true_eq_false, if_false, Int.toNat_natCast, cut_app]
theorem txt_backM (m : Int) (s : ByteArray) (h : s.size ≤ 65536) (hm : (s.size : Int) ≤ m) (t : List UInt8) : txtM m ⟨(txL s ++ t).toArray⟩ 0 = (s, ⟨t.toArray⟩, 0) := by
  rw [txtM_of, List.append_assoc, num_backM m s.size (by omega) hm]
  simp only [ne_eq, not_true_eq_false, if_false, Int.toNat_natCast]
  have hsz : (⟨(s.data.toList ++ t).toArray⟩ : ByteArray).size = s.size + t.length := by rw [sizeL, List.length_append, ← Lib.size_eq s]
  rw [hsz, if_neg (by omega)]
  have e1 : (⟨(s.data.toList ++ t).toArray⟩ : ByteArray).extract 0 s.size = s := by
    have := ext_app [] s.data.toList t
    simp only [List.nil_append, List.length_nil, Nat.zero_add, ← Lib.size_eq s] at this
    rw [this, Lib.mk_data]
  have e2 : (⟨(s.data.toList ++ t).toArray⟩ : ByteArray).extract s.size (s.size + t.length) = ⟨t.toArray⟩ := by
    have := cut_app s.data.toList t
    unfold cutB at this
    rw [hsz, ← Lib.size_eq s] at this
    exact this
  rw [e1, e2]
theorem dot_back (d : Dot) (h : 0 ≤ d.1 ∧ d.1 < 64 ∧ 1 ≤ d.2 ∧ d.2 ≤ 1048576) (t : List UInt8) : dotM (bsq (encD d ++ t), 0) = (d, bsq t, 0) := by
  have h1 : numM 63 (bsq (encD d ++ t)) 0 = (d.1, bsq (putL d.2 ++ t), 0) := by
    unfold encD; rw [List.append_assoc]; exact num_backM 63 d.1 (by omega) (by omega) _
  have h2 : numM 1048576 (bsq (putL d.2 ++ t)) 0 = (d.2, bsq t, 0) := num_backM 1048576 d.2 (by omega) (by omega) _
  unfold dotM
  simp only [h1, h2]
theorem dotsGo_back : ∀ (l2 l1 : List Dot) (t : List UInt8), (∀ d ∈ l2, 0 ≤ d.1 ∧ d.1 < 64 ∧ 1 ≤ d.2 ∧ d.2 ≤ 1048576) → dotsGo l2.length (l1, bsq (encDs l2 ++ t), 0) = (l1 ++ l2, bsq t, 0)
  | [], l1, t, _ => by simp [dotsGo, encDs]
  | d :: r, l1, t, h => by
    have e : encDs (d :: r) ++ t = encD d ++ (encDs r ++ t) := by simp [encDs]
    rw [e, List.length_cons]
    unfold dotsGo
    rw [if_neg (by simp)]
    simp only [dot_back d (h d (by simp))]
    rw [dotsGo_back r (l1 ++ [d]) t (fun y hy => h y (by simp [hy]))]
    simp
theorem vec_back {l : List Dot} (h : chk l = 0) (t : List UInt8) : vecM (bsq (encV l ++ t), 0) = (l, bsq t, 0) := by
  have hl := okv_len h
  have hk := (chk_ok l).1 h
  have h1 : numM 64 (bsq (encV l ++ t)) 0 = ((l.length : Int), bsq (encDs l ++ t), 0) := by
    unfold encV; rw [List.append_assoc]; exact num_backM 64 l.length (by omega) (by omega) _
  unfold vecM
  simp only [h1, Int.toNat_natCast]
  rw [dotsGo_back l [] t (fun d hd => by have := hk.1 d hd; omega), List.nil_append]
  unfold fit
  rw [if_neg (by simp), if_neg (by simpa using h)]
theorem flg_backS (f : Bool) (t : List UInt8) : flgS (bsq ([flgB f] ++ t), 0) = (f, bsq t, 0) := flg_back f t
theorem ver_back {x : Vx} (h : verChk x = 0) (t : List UInt8) : verM (bsq (encX x ++ t), 0) = (strip x, bsq t, 0) := by
  have hp := ver_parts h
  have h1 : dotM (bsq (encX x ++ t), 0) = ((x.P, x.C), bsq (encV x.pl ++ ([flgB x.D] ++ (txL x.T ++ t))), 0) := by
    unfold encX
    have := dot_back (x.P, x.C) hp.1 (encV x.pl ++ ([flgB x.D] ++ (txL x.T ++ t)))
    simp only [List.append_assoc] at this ⊢
    exact this
  have h2 := vec_back hp.2.1 ([flgB x.D] ++ (txL x.T ++ t))
  have h3 := flg_backS x.D (txL x.T ++ t)
  have h4 : txtM 48 (bsq (txL x.T ++ t)) 0 = (x.T, bsq t, 0) := txt_backM 48 x.T (by omega) (by omega) t
  unfold verM
  simp only [h1, h2, h3, h4]
  rfl
theorem versGo_back : ∀ (l2 l1 : List Vx) (t : List UInt8), (∀ x ∈ l2, verChk x = 0) → versGo l2.length (l1, bsq (encXs l2 ++ t), 0) = (l1 ++ l2.map strip, bsq t, 0)
  | [], l1, t, _ => by simp [versGo, encXs]
  | d :: r, l1, t, h => by
    have e : encXs (d :: r) ++ t = encX d ++ (encXs r ++ t) := by simp [encXs]
    rw [e, List.length_cons]
    unfold versGo
    rw [if_neg (by simp)]
    simp only [ver_back (h d (by simp))]
    rw [versGo_back r (l1 ++ [strip d]) t (fun y hy => h y (by simp [hy]))]
    simp
theorem leaf_len {l : List Vx} (h : leafChk l = 0) : l.length ≤ 64 := by
  have hz := (leaf_zero l).1 h
  have hz1 := hz.1
  have := ups_len l 0 hz.2.1 (fun x hx => by have := (ver_parts (hz1 x hx)).1; omega) (by omega)
  omega
theorem leaf_back {l : List Vx} (h : leafChk l = 0) (t : List UInt8) : leafM (bsq (encL l ++ t), 0) = (l.map strip, bsq t, 0) := by
  have hl := leaf_len h
  have h1 : numM 64 (bsq (encL l ++ t)) 0 = ((l.length : Int), bsq (encXs l ++ t), 0) := by
    unfold encL; rw [List.append_assoc]; exact num_backM 64 l.length (by omega) (by omega) _
  unfold leafM
  simp only [h1, Int.toNat_natCast]
  rw [versGo_back l [] t ((leaf_zero l).1 h).1, List.nil_append]
  unfold fit
  rw [if_neg (by simp), if_neg (by rw [leafChk_strip]; simpa using h)]

/-! ### what is written -/
theorem wput_okB {is : Bool} {t : List UInt8} {s : List UInt8 × Int} (h : (wput is t s).2 = 0) : s.2 = 0 ∧ is = true ∧ (wput is t s).1 = s.1 ++ t := by
  unfold wput at h ⊢
  by_cases h0 : s.2 = 0
  · rw [if_neg (by simpa using h0)] at h ⊢
    cases is with
    | true => exact ⟨h0, rfl, rfl⟩
    | false => simp at h
  · rw [if_pos h0] at h; exact absurd h h0
theorem wnum_okB (n : Int) (L : List UInt8) (h : 0 ≤ n ∧ n ≤ 1073741824) : wnum n (L, 0) = (L ++ putL n, 0) := by
  unfold wnum wput numOk
  rw [if_neg (by simp), if_pos (by simpa using h)]
theorem wfail_bad {f : Int} (hf : f ≠ 0) (s : List UInt8 × Int) : (wfail f s).2 ≠ 0 := by
  unfold wfail; split
  · assumption
  · exact hf
theorem dot_put {d : Dot} (h : 0 ≤ d.1 ∧ d.1 < 64 ∧ 1 ≤ d.2 ∧ d.2 ≤ 1048576) (L : List UInt8) : wnum d.2 (wnum d.1 (L, 0)) = (L ++ encD d, 0) := by
  rw [wnum_okB d.1 L (by omega), wnum_okB d.2 _ (by omega)]
  unfold encD; rw [List.append_assoc]
theorem vnum_put : ∀ (l : List Dot) (L : List UInt8), (∀ d ∈ l, 0 ≤ d.1 ∧ d.1 < 64 ∧ 1 ≤ d.2 ∧ d.2 ≤ 1048576) → vnum l (L, 0) = (L ++ encDs l, 0)
  | [], L, _ => by simp [vnum, encDs]
  | d :: r, L, h => by
    have e : vnum (d :: r) (L, 0) = vnum r (wnum d.2 (wnum d.1 (L, 0))) := rfl
    rw [e, dot_put (h d (by simp)), vnum_put r _ (fun y hy => h y (by simp [hy]))]
    simp [encDs]
theorem vput_put {l : List Dot} (h : chk l = 0) (L : List UInt8) : vput l (L, 0) = (L ++ encV l, 0) := by
  have hl := okv_len h
  have hk := (chk_ok l).1 h
  unfold vput
  rw [if_neg (by simpa using h), wnum_okB l.length L (by omega), vnum_put l _ (fun d hd => by have := hk.1 d hd; omega)]
  unfold encV; rw [List.append_assoc]
theorem ver_put {x : Vx} (h : verChk x = 0) (L : List UInt8) : ver1 x (L, 0) = (L ++ encX x, 0) := by
  have hp := ver_parts h
  unfold ver1
  rw [show wnum x.C (wnum x.P (L, 0)) = _ from dot_put (d := (x.P, x.C)) hp.1 L, vput_put hp.2.1]
  unfold wflag wtext
  have hw : wput true [if x.D = true then 1 else 0] (L ++ encD (x.P, x.C) ++ encV x.pl, 0) = (L ++ encD (x.P, x.C) ++ encV x.pl ++ [flgB x.D], 0) := rfl
  rw [hw]
  unfold wput
  rw [if_neg (by simp), if_pos (by have := hp.2.2.2.1; simp; omega)]
  unfold encX
  simp only [List.append_assoc]
theorem vers_put : ∀ (l : List Vx) (L : List UInt8), (∀ x ∈ l, verChk x = 0) → versW l (L, 0) = (L ++ encXs l, 0)
  | [], L, _ => by simp [versW, encXs]
  | x :: r, L, h => by
    have e : versW (x :: r) (L, 0) = versW r (ver1 x (L, 0)) := rfl
    rw [e, ver_put (h x (by simp)), vers_put r _ (fun y hy => h y (by simp [hy]))]
    simp [encXs]
theorem leaf_put {l : List Vx} (h : leafChk l = 0) (L : List UInt8) : lput l (L, 0) = (L ++ encL l, 0) := by
  have hl := leaf_len h
  unfold lput
  rw [if_neg (by simpa using h), wnum_okB l.length L (by omega), vers_put l _ ((leaf_zero l).1 h).1]
  unfold encL; rw [List.append_assoc]
theorem vput_good {l : List Dot} {L : List UInt8} (h : (vput l (L, 0)).2 = 0) : chk l = 0 := Classical.byContradiction fun hc => by
  unfold vput at h; rw [if_pos hc] at h; exact wfail_bad hc _ h
theorem lput_good {l : List Vx} {L : List UInt8} (h : (lput l (L, 0)).2 = 0) : leafChk l = 0 := Classical.byContradiction fun hc => by
  unfold lput at h; rw [if_pos hc] at h; exact wfail_bad hc _ h

/-! ### what is taken is what is put -/
theorem dot_can {s : Rst} (h : (dotM s).2.2 = 0) : s.2 = 0 ∧ s.1.data.toList = encD (dotM s).1 ++ (dotM s).2.1.data.toList := by
  have h0 : s.2 = 0 := Classical.byContradiction fun he => by rw [dotM_err he] at h; exact he h
  refine ⟨h0, ?_⟩
  unfold dotM at h ⊢
  rw [h0] at h ⊢
  simp only at h ⊢
  have h1 : (numM 63 s.1 0).2.2 = 0 := Classical.byContradiction fun he => by rw [numM_err _ he] at h; exact he h
  rw [h1] at h ⊢
  rw [(can_num h1).1, (can_num h).1]
  unfold encD; simp only [List.append_assoc]
theorem dotsGo_can : ∀ (n : Nat) (s : List Dot × Rst), (dotsGo n s).2.2 = 0 → s.2.2 = 0 ∧ ∃ l', (dotsGo n s).1 = s.1 ++ l' ∧ l'.length = n ∧ s.2.1.data.toList = encDs l' ++ (dotsGo n s).2.1.data.toList
  | 0, s, h => ⟨h, [], by simp [dotsGo, encDs]⟩
  | n + 1, s, h => by
    have h0 : s.2.2 = 0 := Classical.byContradiction fun he => by rw [dotsGo_err _ _ he] at h; exact he h
    unfold dotsGo at h ⊢
    rw [if_neg (by simpa using h0)] at h ⊢
    obtain ⟨h1, l', e1, e2, e3⟩ := dotsGo_can n _ h
    simp only at h1 e1 e3
    obtain ⟨_, k⟩ := dot_can h1
    refine ⟨h0, (dotM s.2).1 :: l', by rw [e1]; simp, by simp [e2], ?_⟩
    rw [k, e3]
    simp [encDs]
theorem fit_ok {α : Type} {r : List α → Int} {s : List α × Rst} (h : (fit r s).2.2 = 0) : s.2.2 = 0 ∧ r s.1 = 0 ∧ fit r s = s := by
  unfold fit at h ⊢
  by_cases h0 : s.2.2 = 0
  · rw [if_neg (by simpa using h0)] at h ⊢
    by_cases h1 : r s.1 = 0
    · rw [if_neg (by simpa using h1)] at h ⊢
      exact ⟨h0, h1, rfl⟩
    · rw [if_pos h1] at h; exact absurd h h1
  · rw [if_pos h0] at h; exact absurd h h0
theorem vec_can {s : Rst} (h : (vecM s).2.2 = 0) : s.2 = 0 ∧ chk (vecM s).1 = 0 ∧ s.1.data.toList = encV (vecM s).1 ++ (vecM s).2.1.data.toList := by
  have h0 : s.2 = 0 := Classical.byContradiction fun he => by rw [vecM_err he] at h; exact he h
  refine ⟨h0, ?_⟩
  unfold vecM at h ⊢
  obtain ⟨h1, h2, h3⟩ := fit_ok h
  rw [h3]
  rw [h0] at h1 h2 ⊢
  obtain ⟨h4, l', e1, e2, e3⟩ := dotsGo_can _ _ h1
  simp only [List.nil_append] at h4 e1 e3
  obtain ⟨c1, c2, _, _⟩ := can_num h4
  refine ⟨h2, ?_⟩
  rw [c1, e3, e1]
  unfold encV
  rw [e2, show (((numM 64 s.1 0).1.toNat : Nat) : Int) = (numM 64 s.1 0).1 by omega, List.append_assoc]
theorem flg_can {s : Rst} (h : (flgS s).2.2 = 0) : s.2 = 0 ∧ s.1.data.toList = flgB (flgS s).1 :: (flgS s).2.1.data.toList := by
  have h0 : s.2 = 0 := Classical.byContradiction fun he => by rw [flgS_err he] at h; exact he h
  refine ⟨h0, ?_⟩
  unfold flgS at h ⊢
  rw [h0] at h ⊢
  exact can_flg h
theorem ver_can {s : Rst} (h : (verM s).2.2 = 0) : s.2 = 0 ∧ s.1.data.toList = encX (verM s).1 ++ (verM s).2.1.data.toList := by
  have h0 : s.2 = 0 := Classical.byContradiction fun he => by rw [verM_err he] at h; exact he h
  refine ⟨h0, ?_⟩
  unfold verM at h ⊢
  simp only at h ⊢
  have h3 : (flgS (vecM (dotM s).2).2).2.2 = 0 := Classical.byContradiction fun he => by rw [txtM_err _ he] at h; exact he h
  rw [h3] at h ⊢
  obtain ⟨h2, k3⟩ := flg_can h3
  obtain ⟨h1, _, k2⟩ := vec_can h2
  obtain ⟨_, k1⟩ := dot_can h1
  have k4 := (can_txt h).1
  rw [k1, k2, k3, k4]
  unfold encX
  simp only [List.append_assoc, List.cons_append, List.nil_append]
theorem versGo_can : ∀ (n : Nat) (s : List Vx × Rst), (versGo n s).2.2 = 0 → s.2.2 = 0 ∧ ∃ l', (versGo n s).1 = s.1 ++ l' ∧ l'.length = n ∧ s.2.1.data.toList = encXs l' ++ (versGo n s).2.1.data.toList
  | 0, s, h => ⟨h, [], by simp [versGo, encXs]⟩
  | n + 1, s, h => by
    have h0 : s.2.2 = 0 := Classical.byContradiction fun he => by rw [versGo_err _ _ he] at h; exact he h
    unfold versGo at h ⊢
    rw [if_neg (by simpa using h0)] at h ⊢
    obtain ⟨h1, l', e1, e2, e3⟩ := versGo_can n _ h
    simp only at h1 e1 e3
    obtain ⟨_, k⟩ := ver_can h1
    refine ⟨h0, (verM s.2).1 :: l', by rw [e1]; simp, by simp [e2], ?_⟩
    rw [k, e3]
    simp [encXs]
theorem leaf_can {s : Rst} (h : (leafM s).2.2 = 0) : s.2 = 0 ∧ leafChk (leafM s).1 = 0 ∧ s.1.data.toList = encL (leafM s).1 ++ (leafM s).2.1.data.toList := by
  have h0 : s.2 = 0 := Classical.byContradiction fun he => by rw [leafM_err he] at h; exact he h
  refine ⟨h0, ?_⟩
  unfold leafM at h ⊢
  obtain ⟨h1, h2, h3⟩ := fit_ok h
  rw [h3]
  rw [h0] at h1 h2 ⊢
  obtain ⟨h4, l', e1, e2, e3⟩ := versGo_can _ _ h1
  simp only [List.nil_append] at h4 e1 e3
  obtain ⟨c1, c2, _, _⟩ := can_num h4
  refine ⟨h2, ?_⟩
  rw [c1, e3, e1]
  unfold encL
  rw [e2, show (((numM 64 s.1 0).1.toNat : Nat) : Int) = (numM 64 s.1 0).1 by omega, List.append_assoc]
theorem encX_strip (x : Vx) : encX (strip x) = encX x := rfl
theorem encL_strip (l : List Vx) : encL (l.map strip) = encL l := by
  unfold encL encXs
  rw [List.length_map, List.flatMap_map]
  rfl

/-! ### whole texts -/
def wholeV {α : Type} (s : List α × Rst) : List α × Int := if rdDone s.2.1 s.2.2 ≠ 0 then ([], rdDone s.2.1 s.2.2) else (s.1, 0)
theorem rdDone_zero {S : ByteArray} {e : Int} : rdDone S e = 0 ↔ e = 0 ∧ S.size = 0 := by
  unfold rdDone
  by_cases h : e = 0
  · rw [if_neg (by simpa using h)]
    by_cases k : S.size = 0
    · rw [if_pos k]; exact ⟨fun _ => ⟨h, k⟩, fun _ => rfl⟩
    · rw [if_neg k]; exact ⟨fun a => (by cases a), fun a => absurd a.2 k⟩
  · rw [if_pos h]; exact ⟨fun a => absurd a h, fun a => absurd a.1 h⟩
theorem wholeV_ok {α : Type} {s : List α × Rst} {x : List α} (h : wholeV s = (x, 0)) : s.2.2 = 0 ∧ s.2.1.data.toList = [] ∧ s.1 = x := by
  unfold wholeV at h
  by_cases k : rdDone s.2.1 s.2.2 = 0
  · rw [if_neg (by simpa using k)] at h
    obtain ⟨a, b⟩ := rdDone_zero.1 k
    simp only [Prod.mk.injEq, and_true] at h
    exact ⟨a, List.eq_nil_of_length_eq_zero (by rw [← Lib.size_eq]; exact b), h⟩
  · rw [if_pos k] at h
    simp only [Prod.mk.injEq] at h
    exact absurd h.2 k
theorem wholeV_of {α : Type} {s : List α × Rst} {x : List α} (h : s = (x, bsq [], 0)) : wholeV s = (x, 0) := by
  subst h
  unfold wholeV
  rw [if_neg (by simpa using (rdDone_zero.2 ⟨rfl, rfl⟩))]
/-- a leaf's bytes are read as that leaf -/
theorem leafOf_back {l : List Vx} {t : List UInt8} (h : doneV (lput l ([], 0)) = (t, 0)) : wholeV (leafM (bsq t, 0)) = (l.map strip, 0) := by
  have h0 : (lput l ([], 0)).2 = 0 := Classical.byContradiction fun he => by
    unfold doneV at h; rw [if_pos he] at h; simp only [Prod.mk.injEq] at h; exact he h.2
  have hc := lput_good h0
  rw [leaf_put hc, List.nil_append] at h
  unfold doneV at h
  rw [if_neg (by simp)] at h
  simp only [Prod.mk.injEq, and_true] at h
  subst h
  have := leaf_back hc []
  rw [List.append_nil] at this
  exact wholeV_of this
theorem vecOf_back {l : List Dot} {t : List UInt8} (h : doneV (vput l ([], 0)) = (t, 0)) : wholeV (vecM (bsq t, 0)) = (l, 0) := by
  have h0 : (vput l ([], 0)).2 = 0 := Classical.byContradiction fun he => by
    unfold doneV at h; rw [if_pos he] at h; simp only [Prod.mk.injEq] at h; exact he h.2
  have hc := vput_good h0
  rw [vput_put hc, List.nil_append] at h
  unfold doneV at h
  rw [if_neg (by simp)] at h
  simp only [Prod.mk.injEq, and_true] at h
  subst h
  have := vec_back hc []
  rw [List.append_nil] at this
  exact wholeV_of this
/-- what is read is written so -/
theorem leafOf_can {S : ByteArray} {x : List Vx} (h : wholeV (leafM (S, 0)) = (x, 0)) : doneV (lput x ([], 0)) = (S.data.toList, 0) := by
  obtain ⟨a, b, c⟩ := wholeV_ok h
  obtain ⟨_, k1, k2⟩ := leaf_can a
  rw [b, List.append_nil, c] at k2
  rw [c] at k1
  rw [leaf_put k1, List.nil_append, ← k2]
  unfold doneV
  rw [if_neg (by simp)]
theorem lput_strip (l : List Vx) (s : Ws) : lput (l.map strip) s = lput l s := by
  unfold lput
  rw [leafChk_strip, List.length_map]
  have e : ∀ (l : List Vx) (s : Ws), versW (l.map strip) s = versW l s := fun l s => by
    unfold versW; rw [List.foldl_map]; rfl
  rw [e]
end Go.Proofs.YtfobnemocodomaaGreat
set_option linter.unusedVariables false
set_option linter.unusedSimpArgs false
set_option maxHeartbeats 1000000
namespace Go.Proofs.YtfobnemocodomaaGreat
open Go.RowKit Go.Shelf

theorem numM_rng {m : Int} (hm : 0 ≤ m) (hm2 : m ≤ 1073741824) (S : ByteArray) (e : Int) : 0 ≤ (numM m S e).1 ∧ (numM m S e).1 ≤ m ∧ ((numM m S e).2.2 ≠ 0 → (numM m S e).1 = 0) ∧ (numM m S e).2.1.size ≤ S.size := by
  by_cases he : e = 0
  · subst he
    have hb := numM_bd m S
    by_cases h : (numM m S 0).2.2 = 0
    · obtain ⟨_, _, h3, _⟩ := numM_of h
      exact ⟨hb.1, h3, fun k => absurd h k, hb.2.2⟩
    · have h0 : (numM m S 0).1 = 0 := by
        unfold numM at h ⊢
        rw [if_neg (by simp)] at h ⊢
        split
        · rfl
        · rename_i k; rw [if_neg k] at h; exact absurd rfl h
      rw [h0]
      exact ⟨Int.le_refl _, hm, fun _ => rfl, hb.2.2⟩
  · rw [numM_err m he]
    exact ⟨Int.le_refl _, hm, fun _ => rfl, Nat.le_refl _⟩
theorem dotM_sz (s : Rst) : (dotM s).2.1.size ≤ s.1.size := by
  unfold dotM
  exact Nat.le_trans (numM_rng (m := 1048576) (by decide) (by decide) _ _).2.2.2 (numM_rng (m := 63) (by decide) (by decide) _ _).2.2.2
theorem dotsGo_step (k : Nat) (l : List Dot) (S : ByteArray) : dotsGo (k + 1) (l, S, 0) = dotsGo k (l ++ [(dotM (S, 0)).1], (dotM (S, 0)).2) := by
  rw [dotsGo, if_neg (by simp)]
theorem rset {c : Nat} {X Y : World} (h : Rm c X Y) {g : Nat} (hg : X.heap.size ≤ g) (o : Nat) (u : Value) : Rm c X (Y.setCell ⟨g, o, none⟩ u) :=
  ⟨h.os, h.tape, h.output, by simpa [World.setCell] using h.size, fun k hk hc => by
    rw [Below.heap_setCell _ _ _ _ (show k ≠ g by omega)]; exact h.keep k hk hc⟩
theorem Sr.setO {t : TypeId} {c : Nat} {S : ByteArray} {e : Int} {w : World} (h : Sr t c S e w) {g : Nat} (hg : c ≠ g) (o : Nat) (u : Value) : Sr t c S e (w.setCell ⟨g, o, none⟩ u) := (Below.heap_setCell _ _ _ _ hg).trans h
theorem Sr.made (w : World) (t : TypeId) (S : ByteArray) : Sr t w.heap.size S 0 (w.alloc (.cells #[.string S, .int .i64 0] t)) := World.alloc_heap_new w _
theorem own_rm {w w' : World} {base b : Nat} {e : TypeId} {size n : Nat} {v : Value} {xs : List Value} (h : w.ownsRow base e size v n xs) (m : Rm b w w') (hb : b < base) : w'.ownsRow base e size v n xs := by
  obtain ⟨h1, h2⟩ := h
  refine ⟨h1, ?_⟩
  rcases h2 with h2 | ⟨g, cap, cur, rfl, hg, hh, r⟩
  · exact .inl h2
  · exact .inr ⟨g, cap, cur, rfl, hg, (m.keep g (Array.getElem?_eq_some_iff.1 hh).1 (by omega)).trans hh, r⟩
theorem OwnDots.rm {w w' : World} {base b : Nat} {v : Value} {l : List Dot} (h : OwnDots w base v l) (m : Rm b w w') (hb : b < base) : OwnDots w' base v l := own_rm h m hb
theorem ownDots_gr {w w' : World} {base : Nat} {v : Value} {l : List Dot} (h : OwnDots w base v l) (g : Gr w w') : OwnDots w' base v l := by
  obtain ⟨h1, h2⟩ := h
  refine ⟨h1, ?_⟩
  rcases h2 with h2 | ⟨b, cap, cur, rfl, hg, hh, r⟩
  · exact .inl h2
  · exact .inr ⟨b, cap, cur, rfl, hg, (g.block b (Array.getElem?_eq_some_iff.1 hh).1).trans hh, r⟩
theorem Rm.al {c : Nat} {X Y : World} (h : Rm c X Y) (o : Obj) : Rm c X (Y.alloc o) := h.gr ((Gr.rfl' Y).al o)
set_option maxRecDepth 100000 in
theorem takeDot_any (b : Nat) (S : ByteArray) (e : Int) (w : World) (h : Sr 109 b S e w) (hS : S.size ≤ 9223372036854775807) :
    Calls Tryz.prog 100 #[.pointer (some ⟨b, 0, none⟩)] w fun r w' => r = .returned (.agg #[.int .i64 (dotM (S, e)).1.1, .int .i64 (dotM (S, e)).1.2]) ∧ Sr 109 b (dotM (S, e)).2.1 (dotM (S, e)).2.2 w' ∧ Rm b w w' := by
  have hbl := h.lt
  have hg := Lib.hid ((Gr.rfl' w).al (.cells #[.int .i64 0, .int .i64 0] 112))
  have HH := Lib.hid (h.gr hg.out); clear h
  have HB := Lib.hid (World.alloc_heap_new w (.cells #[.int .i64 0, .int .i64 0] 112))
  have hs1 := (numM_rng (m := 63) (by decide) (by decide) S e).2.2.2
  go_enter Tryz.func100, Tryz.ntmps100
  go_wp2_with fail
  refine (dNumber_any b S e 63 _ HH.out hS).mono ?_
  rintro r w1 ⟨rfl, h1, m1⟩
  have HB1 := Lib.hid ((m1.keep w.heap.size (by simp) (by omega)).trans HB.out)
  have H1 := Lib.hid h1
  have M1 := Lib.hid ((Rm.of (c := b) hg.out).trans m1)
  clear h1 m1
  go_wp2_with fail
  refine (dNumber_any b _ _ 1048576 _ H1.out (by omega)).mono ?_
  rintro r w2 ⟨rfl, h2, m2⟩
  have HB2 := Lib.hid ((m2.keep w.heap.size (Array.getElem?_eq_some_iff.1 HB1.out).1 (by omega)).trans HB1.out)
  have e0 : w2.cell? ⟨w.heap.size, 0, none⟩ = some (.int .i64 0) := by have hb := HB2.out; simp only [World.cell?, hb]; rfl
  have e1 : w2.cell? ⟨w.heap.size, 1, none⟩ = some (.int .i64 0) := by have hb := HB2.out; simp only [World.cell?, hb]; rfl
  have f0 : w2.frozen? ⟨w.heap.size, 0, none⟩ = false := by have hb := HB2.out; simp [World.frozen?, hb]
  have f1 : w2.frozen? ⟨w.heap.size, 1, none⟩ = false := by have hb := HB2.out; simp [World.frozen?, hb]
  have H2 := Lib.hid h2
  have M2 := Lib.hid (M1.out.trans m2)
  clear h2 m2
  obtain ⟨⟨dP, dC⟩, hd⟩ : ∃ d, (dotM (S, e)).1 = d := ⟨_, rfl⟩
  have hd1 : (numM 63 S e).1 = dP := congrArg Prod.fst hd
  have hd2 : (numM 1048576 (numM 63 S e).2.1 (numM 63 S e).2.2).1 = dC := congrArg Prod.snd hd
  rw [hd2]
  go_wp2
  have hb9 : ((w2.setCell ⟨w.heap.size, 0, none⟩ (.int .i64 dP)).setCell ⟨w.heap.size, 1, none⟩ (.int .i64 dC)).heap[w.heap.size]? = some (.cells #[.int .i64 dP, .int .i64 dC] 112 (0, 0)) := by
    rw [heap_set_sameW (heap_set_sameW HB2.out _) _]; rfl
  have k0 : ((w2.setCell ⟨w.heap.size, 0, none⟩ (.int .i64 dP)).setCell ⟨w.heap.size, 1, none⟩ (.int .i64 dC)).cell? ⟨w.heap.size, 0, none⟩ = some (.int .i64 dP) := by simp only [World.cell?, hb9]; rfl
  have k1 : ((w2.setCell ⟨w.heap.size, 0, none⟩ (.int .i64 dP)).setCell ⟨w.heap.size, 1, none⟩ (.int .i64 dC)).cell? ⟨w.heap.size, 1, none⟩ = some (.int .i64 dC) := by simp only [World.cell?, hb9]; rfl
  have hA : ∀ W, (asAddr (.pointer (some ⟨w.heap.size, 0, none⟩))).run Tryz.prog W = .ok ⟨w.heap.size, 0, none⟩ W := fun _ => rfl
  refine bodyPost_ret (v := .agg #[.int .i64 dP, .int .i64 dC]) (by simp [results, Tryz.results100, go_sem, hA, k0, k1]) rfl ?_
  refine ⟨by rw [hd], ?_, ?_⟩
  · exact (H2.out.setO (by omega) _ _).setO (by omega) _ _
  · exact rset (rset M2.out (Nat.le_refl _) _ _) (Nat.le_refl _) _ _
set_option maxRecDepth 100000 in
theorem TakeVec1_any (b : Nat) (S : ByteArray) (e : Int) (g : Nat) (w : World) (h : Sr 109 b S e w) (hS : S.size ≤ 9223372036854775807) (hc : w.cell? ⟨g, 0, none⟩ = some (.pointer (some ⟨b, 0, none⟩))) :
    Calls Tryz.prog 123 #[.pointer (some ⟨g, 0, none⟩)] w fun r w' => r = .returned (.agg #[.int .i64 (dotM (S, e)).1.1, .int .i64 (dotM (S, e)).1.2]) ∧ Sr 109 b (dotM (S, e)).2.1 (dotM (S, e)).2.2 w' ∧ Rm b w w' := by
  have hbl := h.lt
  have hg := Lib.hid ((Gr.rfl' w).al (.cells #[.int .i64 0, .int .i64 0] 112))
  have HH := Lib.hid (h.gr hg.out); clear h
  have HB := Lib.hid (World.alloc_heap_new w (.cells #[.int .i64 0, .int .i64 0] 112))
  have hc' := hg.out.cell hc
  clear hc
  go_enter Tryz.func123, Tryz.ntmps123
  go_wp2_with fail
  refine (takeDot_any b S e _ HH.out hS).mono ?_
  rintro r w1 ⟨rfl, h1, m1⟩
  have HB1 := Lib.hid ((m1.keep w.heap.size (by simp) (by omega)).trans HB.out)
  have H1 := Lib.hid h1
  have M1 := Lib.hid ((Rm.of (c := b) hg.out).trans m1)
  have e0 : w1.cell? ⟨w.heap.size, 0, none⟩ = some (.int .i64 0) := by have hb := HB1.out; simp only [World.cell?, hb]; rfl
  have e1 : w1.cell? ⟨w.heap.size, 1, none⟩ = some (.int .i64 0) := by have hb := HB1.out; simp only [World.cell?, hb]; rfl
  have f0 : w1.frozen? ⟨w.heap.size, 0, none⟩ = false := by have hb := HB1.out; simp [World.frozen?, hb]
  have f1 : w1.frozen? ⟨w.heap.size, 1, none⟩ = false := by have hb := HB1.out; simp [World.frozen?, hb]
  clear h1 m1 hc'
  obtain ⟨⟨dP, dC⟩, hd⟩ : ∃ d, (dotM (S, e)).1 = d := ⟨_, rfl⟩
  simp only [hd]
  go_wp2
  have hb9 : ((w1.setCell ⟨w.heap.size, 0, none⟩ (.int .i64 dP)).setCell ⟨w.heap.size, 1, none⟩ (.int .i64 dC)).heap[w.heap.size]? = some (.cells #[.int .i64 dP, .int .i64 dC] 112 (0, 0)) := by
    rw [heap_set_sameW (heap_set_sameW HB1.out _) _]; rfl
  have k0 : ((w1.setCell ⟨w.heap.size, 0, none⟩ (.int .i64 dP)).setCell ⟨w.heap.size, 1, none⟩ (.int .i64 dC)).cell? ⟨w.heap.size, 0, none⟩ = some (.int .i64 dP) := by simp only [World.cell?, hb9]; rfl
  have k1 : ((w1.setCell ⟨w.heap.size, 0, none⟩ (.int .i64 dP)).setCell ⟨w.heap.size, 1, none⟩ (.int .i64 dC)).cell? ⟨w.heap.size, 1, none⟩ = some (.int .i64 dC) := by simp only [World.cell?, hb9]; rfl
  have hA : ∀ W, (asAddr (.pointer (some ⟨w.heap.size, 0, none⟩))).run Tryz.prog W = .ok ⟨w.heap.size, 0, none⟩ W := fun _ => rfl
  refine bodyPost_ret (v := .agg #[.int .i64 dP, .int .i64 dC]) (by simp [results, Tryz.results123, go_sem, hA, k0, k1]) rfl ?_
  refine ⟨by rw [hd], ?_, ?_⟩
  · exact (H1.out.setO (by omega) _ _).setO (by omega) _ _
  · exact rset (rset M1.out (Nat.le_refl _) _ _) (Nat.le_refl _) _ _
/-- what an append keeps -/
theorem own_srg {t : TypeId} {b base : Nat} {S : ByteArray} {e : Int} {W w3 : World} {v : Value} {l : List Dot} {p k : Int} (h : Sr t b S e W) (hb : b < base) (ho : OwnDots W base v l) (hgrow : (W.alloc (.cells #[.int .i64 p, .int .i64 k] 112)).grownBy w3 v.ownBlock) : Sr t b S e w3 := by
  have h1 : Sr t b S e (W.alloc (.cells #[.int .i64 p, .int .i64 k] 112)) := h.gr ((Gr.rfl' W).al _)
  exact (hgrow.block b h1.lt (fun e => by have := ho.ge b e.symm; omega)).trans h1
theorem own_rmg {b : Nat} {w W w3 : World} {v : Value} {l : List Dot} {p k : Int} (h : Rm b w W) (ho : OwnDots W w.heap.size v l) (hgrow : (W.alloc (.cells #[.int .i64 p, .int .i64 k] 112)).grownBy w3 v.ownBlock) : Rm b w w3 := by
  have h1 : Rm b w (W.alloc (.cells #[.int .i64 p, .int .i64 k] 112)) := h.al _
  refine ⟨hgrow.os.trans h1.os, hgrow.tape.trans h1.tape, hgrow.output.trans h1.output, Nat.le_trans h1.size hgrow.size, fun j hj hc => ?_⟩
  exact (hgrow.block j (by have := h1.size; omega) (fun e => by have := ho.ge j e.symm; omega)).trans (h1.keep j hj hc)
theorem own_addD {w1 : World} {B0 : Nat} {v' : Value} {l : List Dot} {p k : Int} (hown : w1.ownsRow B0 112 2 v' (l.length + 1) (dotCells l ++ [.int .i64 p, .int .i64 k])) : OwnDots w1 B0 v' (l ++ [(p, k)]) := by
  have e : dotCells (l ++ [(p, k)]) = dotCells l ++ [.int .i64 p, .int .i64 k] := by rw [dotCells_append]; rfl
  unfold OwnDots
  rw [e]
  simpa using hown
theorem fit_err {α : Type} (r : List α → Int) {s : List α × Rst} (h : s.2.2 ≠ 0) : fit r s = ([], s.2) := by unfold fit; rw [if_pos h]
theorem fit_bad {α : Type} (r : List α → Int) {s : List α × Rst} (h0 : s.2.2 = 0) (h : r s.1 ≠ 0) : fit r s = ([], s.2.1, r s.1) := by unfold fit; rw [if_neg (by simpa using h0), if_pos h]
theorem fit_good {α : Type} (r : List α → Int) {s : List α × Rst} (h0 : s.2.2 = 0) (h : r s.1 = 0) : fit r s = s := by unfold fit; rw [if_neg (by simpa using h0), if_neg (by simpa using h)]
theorem sfail0 (f : Int) : sfail f 0 = f := rfl
set_option maxRecDepth 100000 in
theorem thingsD_any (b : Nat) (S : ByteArray) (e : Int) (g : Nat) (w : World) (h : Sr 109 b S e w) (hS : S.size ≤ 9223372036854775807) (hc : w.heap[g]? = some (.cells #[.pointer (some ⟨b, 0, none⟩)] 53 (0, 0))) (hgb : g ≠ b) :
    Calls Tryz.prog 122 #[.pointer (some ⟨b, 0, none⟩), .func (.func 123) #[] #[.pointer (some ⟨g, 0, none⟩)], .func (.func 124) #[] #[]] w fun r w' =>
      (∃ v, r = .returned v ∧ OwnDots w' w.heap.size v (vecM (S, e)).1) ∧ Sr 109 b (vecM (S, e)).2.1 (vecM (S, e)).2.2 w' ∧ Rm b w w' := by
  have hbw := h.lt
  have HN := Lib.hid (dNumber_any b S e 64 w h hS)
  have HC := Lib.hid hc
  have hgl := (Array.getElem?_eq_some_iff.1 hc).1
  obtain ⟨nI, S1, e1, hn⟩ : ∃ nI S1 e1, numM 64 S e = (nI, S1, e1) := ⟨_, _, _, rfl⟩
  have hr := numM_rng (m := 64) (by decide) (by decide) S e
  have hvm : vecM (S, e) = fit chk (dotsGo nI.toNat ([], S1, e1)) := by unfold vecM; simp only [hn]
  rw [hn] at hr HN
  simp only at hr HN
  obtain ⟨n, rfl⟩ : ∃ n : Nat, nI = (n : Int) := ⟨nI.toNat, by omega⟩
  rw [Int.toNat_natCast] at hvm
  obtain ⟨_, hn64, hn0, hz1⟩ := hr
  have hn64 : n ≤ 64 := by omega
  have hn0 : e1 ≠ 0 → n = 0 := fun k => by have := hn0 k; omega
  have hz1 : S1.size ≤ 9223372036854775807 := by omega
  have HV := Lib.hid hvm
  have HN0 := Lib.hid hn0
  obtain ⟨i0, hi, hz0, hzs, hz2⟩ := info_parts infoDot
  have hz1' := hz1
  clear hn hvm hn0 hc h
  go_enter Tryz.func122, Tryz.ntmps122
  go_wp2_with fail
  refine (HN.out).mono ?_
  rintro r w1 ⟨rfl, hs1, m1⟩
  have HS1 := Lib.hid hs1
  have HM1 := Lib.hid m1
  clear hs1 m1 HN
  go_wp2
  go_loopw [7, 11] (fun v i wr => ∃ (l : List Dot) (S2 : ByteArray) (e2 : Int), l.length ≤ n ∧ i = .int .i64 l.length ∧ Hid (l.length < n → e2 = 0) ∧ Hid (dotsGo (n - l.length) (l, S2, e2) = dotsGo n ([], S1, e1)) ∧ S2.size ≤ 9223372036854775807 ∧ Hid (OwnDots wr w.heap.size v l) ∧ Hid (Sr 109 b S2 e2 wr) ∧ Hid (Rm b w wr)) (fun _ i _ => n - (intOf i).toNat)
  case atStart => exact ⟨[], S1, e1, Nat.zero_le _, rfl, Lib.hid (fun k => Classical.byContradiction fun he => by have := HN0.out he; simp at k; omega), Lib.hid rfl, hz1', Lib.hid (OwnDots.nil _ _), HS1, HM1⟩
  case round =>
    clear HS1 HM1 hz1' HN0
    obtain ⟨l, S2, e2, hk, rfl, HE, HG, hz2', HO, HS, HM⟩ := hrel
    by_cases hlt : l.length < n
    · obtain rfl := HE.out hlt
      have hki : (l.length : Int) < (n : Int) := by omega
      have hcw : wr.cell? ⟨g, 0, none⟩ = some (.pointer (some ⟨b, 0, none⟩)) := by
        have hb := (HM.out.keep g hgl hgb).trans HC.out
        simp [World.cell?, hb]
      have HT := Lib.hid (TakeVec1_any b S2 0 g wr HS.out hz2' hcw)
      have hrg := HG.out
      rw [show n - l.length = n - (l.length + 1) + 1 by omega, dotsGo_step] at hrg
      have hz3 := dotM_sz (S2, 0)
      obtain ⟨⟨dP, dC⟩, S3, e3, hd⟩ : ∃ d S3 e3, dotM (S2, 0) = (d, S3, e3) := ⟨_, _, _, rfl⟩
      rw [hd] at hrg hz3 HT
      simp only at hrg hz3 HT
      have hz3 : S3.size ≤ 9223372036854775807 := by omega
      have HRG := Lib.hid hrg
      clear hrg hd hcw HE HG
      go_wp2_with fail
      refine (HT.out).mono ?_
      rintro r w2 ⟨rfl, hs2, m2⟩
      have HS2 := Lib.hid hs2
      have HM2 := Lib.hid (HM.out.trans m2)
      have HO2 := Lib.hid (HO.out.rm m2 hbw)
      clear hs2 m2 HT HO HM HS
      obtain ⟨Av, cv, rfl, _, _⟩ := HO2.out.dots
      go_wp2_with (first | (at_builtin; go_loud (refine wpList_append_own _ rfl _ _ 34 rfl w.heap.size 112 i0 (.agg #[.int .i64 0, .int .i64 0]) 2 16 Tryz.underlying34 hi hz0 hzs hz2 rfl (by decide) _ _ _ rfl (World.ownsRow.alloc HO2.out _) ⟨_, 0, none⟩ 1 1 [.int .i64 dP, .int .i64 dC] rfl rfl (cells_new _ _ _) (by simp [Value.oneCell']) (by simp only [maxLen]; omega) (by omega) (by have := HM2.out.size; simp; omega) ?_); intro v' w3 hown' hgrow _; obtain ⟨g', cap', rfl⟩ := ownsRow_succ hown'; have HOW := Lib.hid hown'; have HS3 : Hid (Sr 109 b S3 e3 w3) := Lib.hid (own_srg HS2.out hbw HO2.out hgrow); have HM3 : Hid (Rm b w w3) := Lib.hid (own_rmg HM2.out HO2.out hgrow); clear hown' hgrow))
      have HO3 := Lib.hid (own_addD HOW.out)
      refine (Err_any b S3 e3 w3 HS3.out).mono ?_
      rintro r w4 ⟨rfl, rfl⟩
      by_cases he3 : e3 = 0
      · subst he3
        go_wp2
        go_roundw
        case rel => exact ⟨l ++ [(dP, dC)], S3, 0, by simp; omega, by simp, Lib.hid (fun _ => rfl), Lib.hid (by rw [List.length_append, List.length_singleton]; exact HRG.out), hz3, HO3, HS3, HM3⟩
        case measure => simp [intOf]; omega
      · have hb3 : (e3 != 0) = true := by simpa using he3
        go_wp2
        go_ret
        have hx : vecM (S, e) = ([], S3, e3) := by
          rw [HV.out, ← HRG.out, dotsGo_err _ _ he3, fit_err _ he3]
        rw [hx]
        exact ⟨⟨_, rfl, OwnDots.nil _ _⟩, HS3.out, HM3.out⟩
    · have hkn : l.length = n := by omega
      have hki : ¬ ((l.length : Int) < (n : Int)) := by omega
      have hrg := HG.out
      rw [hkn, Nat.sub_self] at hrg
      have hrg : dotsGo n ([], S1, e1) = (l, S2, e2) := hrg.symm
      have HRG := Lib.hid hrg
      have HLN := Lib.hid hkn
      clear hrg HG HE hkn
      go_wp2_with fail
      refine (Err_any b S2 e2 wr HS.out).mono ?_
      rintro r w4 ⟨rfl, rfl⟩
      by_cases he2 : e2 = 0
      · subst he2
        obtain ⟨Av, cv, rfl, _, hDv⟩ := HO.out.dots
        have HCK := Lib.hid (Check_any Av cv l w4 hDv)
        clear hDv
        by_cases hck : chk l = 0
        · rw [hck] at HCK
          have hx : vecM (S, e) = (l, S2, 0) := by rw [HV.out, HRG.out, fit_good _ rfl hck]
          have HX := Lib.hid hx
          clear hx hck
          go_wp2_with fail
          refine (HCK.out).mono ?_
          rintro r w5 ⟨rfl, g5⟩
          go_wp2
          go_ret
          rw [HX.out]
          exact ⟨⟨_, rfl, ownDots_gr HO.out g5⟩, HS.out.gr g5, HM.out.gr g5⟩
        · have hckb : (chk l != 0) = true := by simpa using hck
          have hx : vecM (S, e) = ([], S2, chk l) := by rw [HV.out, HRG.out, fit_bad _ rfl hck]
          have HX := Lib.hid hx
          clear hx hck
          go_wp2_with fail
          refine (HCK.out).mono ?_
          rintro r w5 ⟨rfl, g5⟩
          go_wp2_with fail
          refine (dFail_any b S2 0 (chk l) w5 (HS.out.gr g5)).mono ?_
          rintro r w6 ⟨rfl, h6, m6⟩
          go_wp2
          go_ret
          rw [HX.out]
          exact ⟨⟨_, rfl, OwnDots.nil _ _⟩, h6, (HM.out.gr g5).trans m6⟩
      · have hb2 : (e2 != 0) = true := by simpa using he2
        have hx : vecM (S, e) = ([], S2, e2) := by rw [HV.out, HRG.out, fit_err _ he2]
        have HX := Lib.hid hx
        clear hx
        go_wp2
        go_ret
        rw [HX.out]
        exact ⟨⟨_, rfl, OwnDots.nil _ _⟩, HS.out, HM.out⟩
end Go.Proofs.YtfobnemocodomaaGreat
set_option linter.unusedVariables false
set_option linter.unusedSimpArgs false
set_option maxHeartbeats 1000000
namespace Go.Proofs.YtfobnemocodomaaGreat
open Go.RowKit Go.Shelf

set_option maxRecDepth 100000 in
theorem TakeVec_any (b : Nat) (S : ByteArray) (e : Int) (w : World) (h : Sr 109 b S e w) (hS : S.size ≤ 9223372036854775807) :
    Calls Tryz.prog 101 #[.pointer (some ⟨b, 0, none⟩)] w fun r w' => (∃ v, r = .returned v ∧ OwnDots w' w.heap.size v (vecM (S, e)).1) ∧ Sr 109 b (vecM (S, e)).2.1 (vecM (S, e)).2.2 w' ∧ Rm b w w' := by
  have hbl := h.lt
  have hg := Lib.hid ((Gr.rfl' w).al (.cells #[.pointer (some ⟨b, 0, none⟩)] 53))
  have HB := Lib.hid (World.alloc_heap_new w (.cells #[.pointer (some ⟨b, 0, none⟩)] 53))
  have HT := Lib.hid (thingsD_any b S e w.heap.size _ (h.gr hg.out) hS HB.out (by omega))
  have c0 : (w.alloc (.cells #[.pointer (some ⟨b, 0, none⟩)] 53)).cell? ⟨w.heap.size, 0, none⟩ = some (.pointer (some ⟨b, 0, none⟩)) := by have hb := HB.out; simp only [World.cell?, hb]; rfl
  clear h
  go_enter Tryz.func101, Tryz.ntmps101
  go_wp2_with fail
  refine (HT.out).mono ?_
  rintro r w1 ⟨⟨v, rfl, ho⟩, hs, hm⟩
  go_wp2
  go_ret
  exact ⟨⟨v, rfl, OwnDots.lower ho (by simp)⟩, hs, (Rm.of hg.out).trans hm⟩
set_option maxRecDepth 100000 in
theorem refTakeVec_any (b : Nat) (S : ByteArray) (e : Int) (w : World) (h : Sr 66 b S e w) (hS : S.size ≤ 9223372036854775807) :
    Calls Tryz.prog 47 #[.pointer (some ⟨b, 0, none⟩)] w fun r w' => (∃ v, r = .returned v ∧ OwnDots w' w.heap.size v (vecM (S, e)).1) ∧ Sr 66 b (vecM (S, e)).2.1 (vecM (S, e)).2.2 w' ∧ Rm b w w' := by
  have hbw := h.lt
  have HN := Lib.hid (sNumber_any b S e 64 w h hS)
  obtain ⟨nI, S1, e1, hn⟩ : ∃ nI S1 e1, numM 64 S e = (nI, S1, e1) := ⟨_, _, _, rfl⟩
  have hr := numM_rng (m := 64) (by decide) (by decide) S e
  have hvm : vecM (S, e) = fit chk (dotsGo nI.toNat ([], S1, e1)) := by unfold vecM; simp only [hn]
  rw [hn] at hr HN
  simp only at hr HN
  obtain ⟨n, rfl⟩ : ∃ n : Nat, nI = (n : Int) := ⟨nI.toNat, by omega⟩
  rw [Int.toNat_natCast] at hvm
  obtain ⟨_, hn64, hn0, hz1⟩ := hr
  have hn64 : n ≤ 64 := by omega
  have hz1 : S1.size ≤ 9223372036854775807 := by omega
  have HV := Lib.hid hvm
  obtain ⟨i0, hi, hz0, hzs, hz2⟩ := info_parts infoDot
  have hz1' := hz1
  clear hn hvm hn0 h
  go_enter Tryz.func47, Tryz.ntmps47
  go_wp2_with fail
  refine (HN.out).mono ?_
  rintro r w1 ⟨rfl, hs1, m1⟩
  have HS1 := Lib.hid hs1
  have HM1 := Lib.hid m1
  clear hs1 m1 HN
  go_wp2
  go_loopw [4, 5] (fun v i wr => ∃ (l : List Dot) (S2 : ByteArray) (e2 : Int), l.length ≤ n ∧ i = .int .i64 l.length ∧ Hid (dotsGo (n - l.length) (l, S2, e2) = dotsGo n ([], S1, e1)) ∧ S2.size ≤ 9223372036854775807 ∧ Hid (OwnDots wr w.heap.size v l) ∧ Hid (Sr 66 b S2 e2 wr) ∧ Hid (Rm b w wr)) (fun _ i _ => n - (intOf i).toNat)
  case atStart => exact ⟨[], S1, e1, Nat.zero_le _, rfl, Lib.hid rfl, hz1', Lib.hid (OwnDots.nil _ _), HS1, HM1⟩
  case round =>
    clear HS1 HM1 hz1'
    obtain ⟨l, S2, e2, hk, rfl, HG, hz2', HO, HS, HM⟩ := hrel
    by_cases hlt : l.length < n
    · have hki : (l.length : Int) < (n : Int) := by omega
      by_cases he0 : e2 = 0
      · subst he0
        have c1 := HS.out.cell1
        have HT := Lib.hid (sNumber_any b S2 0 63 wr HS.out hz2')
        have hrg := HG.out
        rw [show n - l.length = n - (l.length + 1) + 1 by omega, dotsGo_step] at hrg
        have hz3 := dotM_sz (S2, 0)
        have hz4 := (numM_rng (m := 63) (by decide) (by decide) S2 0).2.2.2
        obtain ⟨dP, S3, e3, hd1⟩ : ∃ dP S3 e3, numM 63 S2 0 = (dP, S3, e3) := ⟨_, _, _, rfl⟩
        obtain ⟨dC, S4, e4, hd2⟩ : ∃ dC S4 e4, numM 1048576 S3 e3 = (dC, S4, e4) := ⟨_, _, _, rfl⟩
        have hd : dotM (S2, 0) = ((dP, dC), S4, e4) := by unfold dotM; simp only [hd1, hd2]
        rw [hd] at hrg hz3
        rw [hd1] at HT hz4
        simp only at hrg hz3 HT hz4
        have hz3 : S4.size ≤ 9223372036854775807 := by omega
        have HRG := Lib.hid hrg
        have HD2 := Lib.hid hd2
        clear hrg hd hd1 hd2 HG
        go_wp2_with fail
        refine (HT.out).mono ?_
        rintro r w2 ⟨rfl, hs2, m2⟩
        have HB := Lib.hid (World.alloc_heap_new w2 (.cells #[.int .i64 dP, .int .i64 0] 112))
        have HGA : Hid (Gr w2 (w2.alloc (.cells #[.int .i64 dP, .int .i64 0] 112))) := Lib.hid ((Gr.rfl' w2).al _)
        have HS2 := Lib.hid (hs2.gr HGA.out)
        have hbl2 := hs2.lt
        have HM2 := Lib.hid (HM.out.trans m2)
        have HO2 := Lib.hid (HO.out.rm m2 hbw)
        clear hs2 m2 HT HO HM HS c1
        go_upto_region 7 with (fail)
        obtain ⟨gd, hgd⟩ : ∃ g, w2.heap.size = g := ⟨_, rfl⟩
        rw [hgd] at HB hbl2 ⊢
        have HGD := Lib.hid hgd
        clear hgd
        generalize w2.alloc (.cells #[.int .i64 dP, .int .i64 0] 112) = w3 at HB HS2 HGA ⊢
        have HT := Lib.hid (sNumber_any b S3 e3 1048576 w3 HS2.out (by omega))
        rw [HD2.out] at HT
        go_wp2_with fail
        refine (HT.out).mono ?_
        rintro r w4 ⟨rfl, hs4, m4⟩
        have hb4 := (m4.keep gd (Array.getElem?_eq_some_iff.1 HB.out).1 (by omega)).trans HB.out
        have HB4 := Lib.hid hb4
        have f1 : w4.frozen? ⟨gd, 1, none⟩ = false := by simp [World.frozen?, hb4]
        have d1 : w4.cell? ⟨gd, 1, none⟩ = some (.int .i64 0) := by simp only [World.cell?, hb4]; rfl
        have HS4 := Lib.hid hs4
        have M24 := Lib.hid ((Rm.of (c := b) HGA.out).trans m4)
        clear hs4 m4 hb4 HT HB HS2 HGA
        go_upto_region 8 with (fail)
        have M25 := Lib.hid (rset M24.out (by have := HGD.out; omega : w2.heap.size ≤ gd) 1 (.int .i64 dC))
        have HS5 := Lib.hid (HS4.out.setO (by omega : b ≠ gd) 1 (.int .i64 dC))
        have hb5 : (w4.setCell ⟨gd, 1, none⟩ (.int .i64 dC)).heap[gd]? = some (.cells #[.int .i64 dP, .int .i64 dC] 112 (0, 0)) := by
          rw [heap_set_sameW HB4.out]; rfl
        clear f1 d1 M24 HS4 HB4
        generalize w4.setCell ⟨gd, 1, none⟩ (.int .i64 dC) = w5 at M25 HS5 hb5 ⊢
        have k0 : w5.cell? ⟨gd, 0, none⟩ = some (.int .i64 dP) := by simp only [World.cell?, hb5]; rfl
        have k1 : w5.cell? ⟨gd, 1, none⟩ = some (.int .i64 dC) := by simp only [World.cell?, hb5]; rfl
        have HO5 := Lib.hid (HO2.out.rm M25.out hbw)
        have HM5 := Lib.hid (HM2.out.trans M25.out)
        clear hb5 M25 HO2 HM2
        obtain ⟨Av, cv, rfl, _, _⟩ := HO5.out.dots
        go_wp2_with (first | (at_builtin; go_loud (refine wpList_append_own _ rfl _ _ 34 rfl w.heap.size 112 i0 (.agg #[.int .i64 0, .int .i64 0]) 2 16 Tryz.underlying34 hi hz0 hzs hz2 rfl (by decide) _ _ _ rfl (World.ownsRow.alloc HO5.out _) ⟨_, 0, none⟩ 1 1 [.int .i64 dP, .int .i64 dC] rfl rfl (cells_new _ _ _) (by simp [Value.oneCell']) (by simp only [maxLen]; omega) (by omega) (by have := HM5.out.size; simp; omega) ?_); intro v' w6 hown' hgrow _; obtain ⟨g', cap', rfl⟩ := ownsRow_succ hown'; have HOW := Lib.hid hown'; have HS6 : Hid (Sr 66 b S4 e4 w6) := Lib.hid (own_srg HS5.out hbw HO5.out hgrow); have HM6 : Hid (Rm b w w6) := Lib.hid (own_rmg HM5.out HO5.out hgrow); clear hown' hgrow))
        have HO6 := Lib.hid (own_addD HOW.out)
        go_roundw
        case rel => exact ⟨l ++ [(dP, dC)], S4, e4, by simp; omega, by simp, Lib.hid (by rw [List.length_append, List.length_singleton]; exact HRG.out), hz3, HO6, HS6, HM6⟩
        case measure => simp [intOf]; omega
      · have heb : (e2 == 0) = false := by simpa using he0
        have c1 := HS.out.cell1
        have hrg := HG.out
        rw [dotsGo_err _ _ he0] at hrg
        have hrg : dotsGo n ([], S1, e1) = (l, S2, e2) := hrg.symm
        have HRG := Lib.hid hrg
        have hb3 : (e2 != 0) = true := by simpa using he0
        have hx : vecM (S, e) = ([], S2, e2) := by rw [HV.out, HRG.out, fit_err _ he0]
        have HX := Lib.hid hx
        clear hx hrg
        go_wp2
        go_ret
        rw [HX.out]
        exact ⟨⟨_, rfl, OwnDots.nil _ _⟩, HS.out, HM.out⟩
    · have hkn : l.length = n := by omega
      have hki : ¬ ((l.length : Int) < (n : Int)) := by omega
      have hrg := HG.out
      rw [hkn, Nat.sub_self] at hrg
      have hrg : dotsGo n ([], S1, e1) = (l, S2, e2) := hrg.symm
      have HRG := Lib.hid hrg
      have HLN := Lib.hid hkn
      clear hrg HG hkn
      have c1 := HS.out.cell1
      by_cases he2 : e2 = 0
      · subst he2
        obtain ⟨Av, cv, rfl, _, hDv⟩ := HO.out.dots
        have HCK := Lib.hid (refCheck_any Av cv l wr hDv)
        clear hDv
        go_wp2_with fail
        refine (HCK.out).mono ?_
        rintro r w5 ⟨rfl, g5⟩
        go_wp2_with fail
        refine (sFail_any b S2 0 (chk l) w5 (HS.out.gr g5)).mono ?_
        rintro r w6 ⟨rfl, h6, m6⟩
        rw [sfail0] at h6
        have c2 := h6.cell1
        have H6 := Lib.hid h6
        have M6 := Lib.hid ((HM.out.gr g5).trans m6)
        have HO6 := Lib.hid ((ownDots_gr HO.out g5).rm m6 hbw)
        clear c1 h6 m6 g5 HCK HO HM HS
        by_cases hck : chk l = 0
        · have hckb : (chk l != 0) = false := by simpa using hck
          have hx : vecM (S, e) = (l, S2, 0) := by rw [HV.out, HRG.out, fit_good _ rfl hck]
          have HX := Lib.hid hx
          have HCK := Lib.hid hck
          clear hx hck
          go_wp2
          go_ret
          rw [HX.out]
          rw [HCK.out] at H6
          exact ⟨⟨_, rfl, HO6.out⟩, H6.out, M6.out⟩
        · have hckb : (chk l != 0) = true := by simpa using hck
          have hx : vecM (S, e) = ([], S2, chk l) := by rw [HV.out, HRG.out, fit_bad _ rfl hck]
          have HX := Lib.hid hx
          clear hx hck
          go_wp2
          go_ret
          rw [HX.out]
          exact ⟨⟨_, rfl, OwnDots.nil _ _⟩, H6.out, M6.out⟩
      · have hb2 : (e2 == 0) = false := by simpa using he2
        have hb3 : (e2 != 0) = true := by simpa using he2
        have hx : vecM (S, e) = ([], S2, e2) := by rw [HV.out, HRG.out, fit_err _ he2]
        have HX := Lib.hid hx
        clear hx
        go_wp2
        go_ret
        rw [HX.out]
        exact ⟨⟨_, rfl, OwnDots.nil _ _⟩, HS.out, HM.out⟩
end Go.Proofs.YtfobnemocodomaaGreat
set_option linter.unusedVariables false
set_option linter.unusedSimpArgs false
set_option maxHeartbeats 1000000
namespace Go.Proofs.YtfobnemocodomaaGreat
open Go.RowKit Go.Shelf Go.Great

theorem cutB_szR (S : ByteArray) (k : Nat) : (cutB S k).size ≤ S.size := by simp [cutB, ByteArray.size_extract]
theorem txtM_szR (m : Int) (S : ByteArray) (e : Int) : (txtM m S e).2.1.size ≤ S.size := by
  unfold txtM
  split
  · exact Nat.le_refl _
  split
  · exact Nat.le_refl _
  · exact cutB_szR _ _
theorem flgM_szR (S : ByteArray) (e : Int) : (flgM S e).2.1.size ≤ S.size := by
  unfold flgM
  split
  · exact Nat.le_refl _
  split
  · exact Nat.le_refl _
  · exact cutB_szR _ _
theorem txtM_tszR (m : Int) (S : ByteArray) (e : Int) : (txtM m S e).1.size ≤ S.size := by
  unfold txtM
  split
  · exact Nat.zero_le _
  split
  · exact Nat.zero_le _
  · unfold txtP
    split
    · exact Nat.zero_le _
    split
    · exact Nat.zero_le _
    · simp only [ByteArray.size_extract]; omega
theorem dotsGo_sz : ∀ (n : Nat) (s : List Dot × Rst), (dotsGo n s).2.1.size ≤ s.2.1.size
  | 0, _ => Nat.le_refl _
  | n + 1, s => by
    unfold dotsGo
    split
    · exact Nat.le_refl _
    · exact Nat.le_trans (dotsGo_sz n _) (dotM_sz s.2)
theorem fit_sz {α : Type} (r : List α → Int) (s : List α × Rst) : (fit r s).2.1.size ≤ s.2.1.size := by
  unfold fit
  split
  · exact Nat.le_refl _
  split
  · exact Nat.le_refl _
  · exact Nat.le_refl _
theorem numM_szR (m : Int) (S : ByteArray) (e : Int) : (numM m S e).2.1.size ≤ S.size := by
  unfold numM
  split
  · exact Nat.le_refl _
  split
  · exact Nat.le_refl _
  · exact cutB_szR _ _
theorem vecM_sz (s : Rst) : (vecM s).2.1.size ≤ s.1.size := by
  unfold vecM
  exact Nat.le_trans (fit_sz _ _) (Nat.le_trans (dotsGo_sz _ _) (numM_szR _ _ _))
theorem verM_sz (s : Rst) : (verM s).2.1.size ≤ s.1.size := by
  unfold verM
  simp only
  exact Nat.le_trans (txtM_szR _ _ _) (Nat.le_trans (flgM_szR _ _) (Nat.le_trans (vecM_sz _) (dotM_sz _)))

/-! ### rows of versions that grow beside a reader -/
theorem addR (a : Addr) (n : Nat) : (a.add n).block = a.block := by unfold Addr.add; split <;> rfl
theorem rm_cell {W W' : World} {b : Nat} (m : Rm b W W') {p : Addr} (hp : p.block ≠ b) {v : Value} (h : W.cell? p = some v) : W'.cell? p = some v := by
  have hb := m.keep p.block (World.block_lt_of_cell? W p h) hp
  rw [← h]; simp only [World.cell?, hb]
theorem gw_cell {W W' : World} {r : Option Nat} (k : W.grownBy W' r) {p : Addr} (hp : some p.block ≠ r) {v : Value} (h : W.cell? p = some v) : W'.cell? p = some v := by
  have hb := k.block p.block (World.block_lt_of_cell? W p h) hp
  rw [← h]; simp only [World.cell?, hb]
theorem Dots.rmR {W W' : World} {b : Nat} {A : Option Addr} {l : List Dot} (h : Dots W A l) (m : Rm b W W') (hA : ∀ D, A = some D → D.block ≠ b) : Dots W' A l :=
  ⟨h.1, fun i hi => by
    obtain ⟨ad, e, x, y⟩ := h.2 i hi
    have hne := hA ad e
    exact ⟨ad, e, rm_cell m (by rw [addR]; exact hne) x, rm_cell m (by show (ad.add (i * 2)).block ≠ b; rw [addR]; exact hne) y⟩⟩
theorem Dots.gwR {W W' : World} {r : Option Nat} {A : Option Addr} {l : List Dot} (h : Dots W A l) (k : W.grownBy W' r) (hA : l ≠ [] → ∀ D, A = some D → some D.block ≠ r) : Dots W' A l :=
  ⟨h.1, fun i hi => by
    obtain ⟨ad, e, x, y⟩ := h.2 i hi
    have hne := hA (by intro e0; rw [e0] at hi; simp at hi) ad e
    exact ⟨ad, e, gw_cell k (by rw [addR]; exact hne) x, gw_cell k (by show some (ad.add (i * 2)).block ≠ r; rw [addR]; exact hne) y⟩⟩
def OfX (g : Nat) (x : Vx) : Prop := x.pl ≠ [] → ∀ D, x.A = some D → D.block ≠ g
theorem VxOk.ofNew {W : World} {g : Nat} {x : Vx} (h : VxOk W x) (k : W.heap.size ≤ g) : OfX g x := fun hp D hD => by
  have h0 : 0 < x.pl.length := List.length_pos_iff.2 hp
  obtain ⟨ad, e, a, _⟩ := h.1.2 0 h0
  rw [hD] at e; cases e
  have := World.block_lt_of_cell? W _ a
  rw [addR] at this
  omega
structure RowV (W : World) (B : Nat) (v : Value) (l : List Vx) : Prop where
  oks : vsOk W l
  new : ∀ x ∈ l, x.pl.length ≤ x.pc ∧ ∀ D, x.A = some D → B ≤ D.block
  own : (v = .slice none 0 0 ∧ l = []) ∨ ∃ g, B ≤ g ∧ OwnG 114 5 W g v l.length (vCells l) ∧ ∀ x ∈ l, OfX g x
theorem RowV.nil (W : World) (B : Nat) : RowV W B (.slice none 0 0) [] := ⟨fun x hx => by simp at hx, fun x hx => by simp at hx, Or.inl ⟨rfl, rfl⟩⟩
theorem RowV.gr {W W' : World} {B : Nat} {v : Value} {l : List Vx} (h : RowV W B v l) (k : Gr W W') : RowV W' B v l := by
  refine ⟨h.oks.gr k, h.new, ?_⟩
  rcases h.own with o | ⟨g, o1, o2, o3⟩
  · exact Or.inl o
  · exact Or.inr ⟨g, o1, o2.gr k, o3⟩
theorem RowV.rm {W W' : World} {B b : Nat} {v : Value} {l : List Vx} (h : RowV W B v l) (m : Rm b W W') (hb : b < B) : RowV W' B v l := by
  refine ⟨fun x hx => ⟨(h.oks x hx).1.rmR m (fun D hD => by have := (h.new x hx).2 D hD; omega), (h.oks x hx).2⟩, h.new, ?_⟩
  rcases h.own with o | ⟨g, o1, o2, o3⟩
  · exact Or.inl o
  · exact Or.inr ⟨g, o1, o2.same (m.keep g o2.lt (by omega)), o3⟩
theorem RowV.lower {W : World} {B B' : Nat} {v : Value} {l : List Vx} (h : RowV W B v l) (k : B' ≤ B) : RowV W B' v l := by
  refine ⟨h.oks, fun x hx => ⟨(h.new x hx).1, fun D hD => Nat.le_trans k ((h.new x hx).2 D hD)⟩, ?_⟩
  rcases h.own with o | ⟨g, o1, o2, o3⟩
  · exact Or.inl o
  · exact Or.inr ⟨g, by omega, o2, o3⟩
theorem RowV.vers {W : World} {B : Nat} {v : Value} {l : List Vx} (h : RowV W B v l) : ∃ A c, v = .slice A l.length c ∧ l.length ≤ c ∧ Vers W A l ∧ ∀ x ∈ l, x.pl.length ≤ x.pc := by
  have ho : OwnV W B v l := by
    rcases h.own with o | ⟨g, o1, o2, o3⟩
    · exact Or.inl o
    · exact Or.inr ⟨g, o1, o2⟩
  obtain ⟨A, c, e, k, hv⟩ := ho.vers h.oks
  exact ⟨A, c, e, k, hv, fun x hx => (h.new x hx).1⟩
/-- one version more -/
theorem RowV.app {W W' : World} {B : Nat} {v v' : Value} {l : List Vx} (h : RowV W B v l) {x : Vx} (hx : VxOk W x) (hxc : x.pl.length ≤ x.pc) (hxn : ∀ D, x.A = some D → B ≤ D.block) {g0 : Option Nat} {g' : Nat}
    (k : W.grownBy W' g0) (hB : B ≤ W.heap.size) (hg0 : ∀ g, g0 = some g → B ≤ g ∧ (∀ y ∈ l, OfX g y) ∧ OfX g x)
    (ho : OwnG 114 5 W' g' v' (l.length + 1) (vCells l ++ x.cells.toList)) (hg' : g0 = some g' ∨ W.heap.size ≤ g') : RowV W' B v' (l ++ [x]) := by
  have kv : ∀ y, VxOk W y → (∀ g, g0 = some g → OfX g y) → VxOk W' y := fun y hy hoff => ⟨hy.1.gwR k (fun hp D hD e => hoff D.block e.symm hp D hD rfl), hy.2⟩
  refine ⟨fun y hy => ?_, fun y hy => ?_, Or.inr ⟨g', ?_, ?_, fun y hy => ?_⟩⟩
  · rcases List.mem_append.1 hy with hy | hy
    · exact kv y (h.oks y hy) (fun g e => (hg0 g e).2.1 y hy)
    · simp at hy; subst hy; exact kv y hx (fun g e => (hg0 g e).2.2)
  · rcases List.mem_append.1 hy with hy | hy
    · exact h.new y hy
    · simp at hy; subst hy; exact ⟨hxc, hxn⟩
  · rcases hg' with e | e
    · exact (hg0 g' e).1
    · omega
  · rw [vCells_app, List.length_append, List.length_singleton]
    have : vCells [x] = x.cells.toList := by simp [vCells]
    rw [this]; exact ho
  · rcases hg' with e | e
    · rcases List.mem_append.1 hy with hy | hy
      · exact (hg0 g' e).2.1 y hy
      · simp at hy; subst hy; exact (hg0 g' e).2.2
    · rcases List.mem_append.1 hy with hy | hy
      · exact (h.oks y hy).ofNew e
      · simp at hy; subst hy; exact hx.ofNew e
theorem rm_row (w : World) (g : Nat) (cs : Array Value) : Rm g w (w.setRow g cs) := by
  obtain ⟨a, b, c, d, e⟩ := setRow_sg w g cs
  exact ⟨a, b, c, by omega, fun k _ hk => e k hk⟩
theorem asAR (g : Nat) (W : World) : (asAddr (.pointer (some ⟨g, 0, none⟩))).run Tryz.prog W = .ok ⟨g, 0, none⟩ W := rfl
theorem rm_setRow {c : Nat} {X Y : World} (h : Rm c X Y) {g : Nat} (hg : X.heap.size ≤ g) (cs : Array Value) : Rm c X (Y.setRow g cs) := h.setRow hg cs
/-- what is read of a version -/
def RdV (W : World) (B : Nat) (x : Vx) (m : Vx) : Prop := strip x = m ∧ VxOk W x ∧ x.pl.length ≤ x.pc ∧ ∀ D, x.A = some D → B ≤ D.block
set_option maxRecDepth 100000 in
theorem takeVersion_any (b : Nat) (S : ByteArray) (e : Int) (w : World) (h : Sr 109 b S e w) (hS : S.size ≤ 9223372036854775807) :
    Calls Tryz.prog 66 #[.pointer (some ⟨b, 0, none⟩)] w fun r w' => (∃ x : Vx, r = .returned (.agg x.cells) ∧ RdV w' w.heap.size x (verM (S, e)).1) ∧ Sr 109 b (verM (S, e)).2.1 (verM (S, e)).2.2 w' ∧ Rm b w w' := by
  have hbl := h.lt
  have hga := Lib.hid ((Gr.rfl' w).al (.cells Z5 114))
  have HR2 := Lib.hid (World.alloc_heap_new w (.cells Z5 114))
  have HD := Lib.hid (takeDot_any b S e _ (h.gr hga.out) hS)
  have s1 := dotM_sz (S, e)
  have s2 := vecM_sz (dotM (S, e)).2
  obtain ⟨⟨P, C⟩, S1, e1, hd⟩ : ∃ d S1 e1, dotM (S, e) = (d, S1, e1) := ⟨_, _, _, rfl⟩
  rw [hd] at HD s1 s2
  simp only at HD s1 s2
  obtain ⟨pl, S2, e2, hv⟩ : ∃ pl S2 e2, vecM (S1, e1) = (pl, S2, e2) := ⟨_, _, _, rfl⟩
  rw [hv] at s2
  simp only at s2
  have s3 := flgM_szR S2 e2
  obtain ⟨D, S3, e3, hf⟩ : ∃ D S3 e3, flgM S2 e2 = (D, S3, e3) := ⟨_, _, _, rfl⟩
  rw [hf] at s3
  simp only at s3
  have s4 := txtM_tszR 48 S3 e3
  obtain ⟨T, S4, e4, ht⟩ : ∃ T S4 e4, txtM 48 S3 e3 = (T, S4, e4) := ⟨_, _, _, rfl⟩
  rw [ht] at s4
  simp only at s4
  have HX : Hid (verM (S, e) = (⟨P, C, none, pl, 0, D, T⟩, S4, e4)) := Lib.hid (by unfold verM flgS; simp only [hd, hv, hf, ht])
  have HVV := Lib.hid hv
  have HFF := Lib.hid hf
  have HTT := Lib.hid ht
  clear hd hv hf ht h
  go_enter Tryz.func66, Tryz.ntmps66
  go_wp2_with (refine allocV rfl rfl ?_)
  refine (HD.out).mono ?_
  rintro r w1 ⟨rfl, hs1, m1⟩
  have HR21 := Lib.hid ((m1.keep w.heap.size (by simp) (by omega)).trans HR2.out)
  have HS1 := Lib.hid hs1
  have HM1 := Lib.hid ((Rm.of (c := b) hga.out).trans m1)
  have HL1 : Hid (w.heap.size < w1.heap.size) := Lib.hid (Array.getElem?_eq_some_iff.1 HR21.out).1
  clear hs1 m1 HD HR2
  go_upto_region 2 with (first
    | refine allocV rfl rfl ?_
    | (refine storeV ⟨P, C, none, [], 0, false, ⟨#[]⟩⟩ rfl (.tmp 3) _ rfl rfl rfl rfl ?_; intro w2 hx1 hg1; obtain ⟨g3, hg3⟩ : ∃ g, w1.heap.size = g := ⟨_, rfl⟩; rw [hg3] at hx1 ⊢; have HB2 := Lib.hid hx1; have HG2 := Lib.hid hg1; have HG3 := Lib.hid hg3; clear hx1 hg1 hg3))
  have HS2 := Lib.hid (HS1.out.gr HG2.out)
  have HM2 := Lib.hid (HM1.out.gr HG2.out)
  have HR22 := Lib.hid ((HG2.out.block _ HL1.out).trans HR21.out)
  have hne3 : b ≠ g3 := by have h1 := HS1.out.lt; have h2 := HG3.out; omega
  have hw3 : w.heap.size < g3 := by have h1 := HL1.out; have h2 := HG3.out; omega
  clear HS1 HM1 HR21 HL1 HG2 HG3
  have HT := Lib.hid (TakeVec_any b S1 e1 w2 HS2.out (by omega))
  rw [HVV.out] at HT
  go_wp2_with fail
  refine (HT.out).mono ?_
  rintro r w3 ⟨⟨v, rfl, ho⟩, hs3, m3⟩
  have HB3 := Lib.hid ((m3.keep g3 (Array.getElem?_eq_some_iff.1 HB2.out).1 (by omega)).trans HB2.out)
  have hl2 := (Array.getElem?_eq_some_iff.1 HB2.out).1
  have HR23 := Lib.hid ((m3.keep w.heap.size (by omega) (by omega)).trans HR22.out)
  have HM3 := Lib.hid (HM2.out.trans m3)
  have HO3 := Lib.hid (OwnDots.lower ho (by omega : g3 + 1 ≤ w2.heap.size))
  have HS3 := Lib.hid hs3
  obtain ⟨A, c, rfl, hc, _⟩ := ho.dots
  clear ho hs3 m3 HT HB2 HR22 HM2 HS2
  obtain ⟨_, _, q2, _, _⟩ := vx_cell HB3.out
  have f2 : w3.frozen? ⟨g3, 2, none⟩ = false := by have hb := HB3.out; simp [World.frozen?, hb]
  go_upto_region 3 with (fail)
  have HB4 : Hid ((w3.setCell ⟨g3, 2, none⟩ (.slice A pl.length c)).heap[g3]? = some (.cells (⟨P, C, A, pl, c, false, ⟨#[]⟩⟩ : Vx).cells 114 (0, 0))) := Lib.hid (by rw [heap_set_sameW HB3.out]; rfl)
  have HR24 := Lib.hid ((Below.heap_setCell w3 ⟨g3, 2, none⟩ (.slice A pl.length c) w.heap.size (by show w.heap.size ≠ g3; omega)).trans HR23.out)
  have HM4 := Lib.hid (rset HM3.out (by omega : w.heap.size ≤ g3) 2 (.slice A pl.length c))
  have HO4 := Lib.hid (HO3.out.rm ((Rm.refl g3 w3).setCell 2 (.slice A pl.length c)) (by omega))
  have HS4 := Lib.hid (HS3.out.setO hne3 2 (.slice A pl.length c))
  clear q2 f2 HB3 HR23 HM3 HO3 HS3
  generalize w3.setCell ⟨g3, 2, none⟩ (.slice A pl.length c) = w4 at HB4 HR24 HM4 HO4 HS4 ⊢
  have HT := Lib.hid (dFlag_any b S2 e2 w4 HS4.out (by omega))
  rw [HFF.out] at HT
  go_wp2_with fail
  refine (HT.out).mono ?_
  rintro r w5 ⟨rfl, hs5, m5⟩
  have hl4 := (Array.getElem?_eq_some_iff.1 HB4.out).1
  have HB5 := Lib.hid ((m5.keep g3 hl4 (by omega)).trans HB4.out)
  have HR25 := Lib.hid ((m5.keep w.heap.size (by omega) (by omega)).trans HR24.out)
  have HM5 := Lib.hid (HM4.out.trans m5)
  have HO5 := Lib.hid (HO4.out.rm m5 (by have := HS4.out.lt; omega))
  have HS5 := Lib.hid hs5
  clear hs5 m5 HT HB4 HR24 HM4 HO4 HS4
  obtain ⟨_, _, _, q3, _⟩ := vx_cell HB5.out
  have f3 : w5.frozen? ⟨g3, 3, none⟩ = false := by have hb := HB5.out; simp [World.frozen?, hb]
  go_upto_region 4 with (fail)
  have HB6 : Hid ((w5.setCell ⟨g3, 3, none⟩ (.bool D)).heap[g3]? = some (.cells (⟨P, C, A, pl, c, D, ⟨#[]⟩⟩ : Vx).cells 114 (0, 0))) := Lib.hid (by rw [heap_set_sameW HB5.out]; rfl)
  have HR26 := Lib.hid ((Below.heap_setCell w5 ⟨g3, 3, none⟩ (.bool D) w.heap.size (by show w.heap.size ≠ g3; omega)).trans HR25.out)
  have HM6 := Lib.hid (rset HM5.out (by omega : w.heap.size ≤ g3) 3 (.bool D))
  have HO6 := Lib.hid (HO5.out.rm ((Rm.refl g3 w5).setCell 3 (.bool D)) (by omega))
  have HS6 := Lib.hid (HS5.out.setO hne3 3 (.bool D))
  clear q3 f3 HB5 HR25 HM5 HO5 HS5
  generalize w5.setCell ⟨g3, 3, none⟩ (.bool D) = w6 at HB6 HR26 HM6 HO6 HS6 ⊢
  have HT := Lib.hid (dText_any b 48 S3 e3 w6 HS6.out (by omega))
  rw [HTT.out] at HT
  go_wp2_with fail
  refine (HT.out).mono ?_
  rintro r w7 ⟨rfl, hs7, m7⟩
  have hl6 := (Array.getElem?_eq_some_iff.1 HB6.out).1
  have HB7 := Lib.hid ((m7.keep g3 hl6 (by omega)).trans HB6.out)
  have HR27 := Lib.hid ((m7.keep w.heap.size (by omega) (by omega)).trans HR26.out)
  have HM7 := Lib.hid (HM6.out.trans m7)
  have HO7 := Lib.hid (HO6.out.rm m7 (by have := HS6.out.lt; omega))
  have HS7 := Lib.hid hs7
  clear hs7 m7 HT HB6 HR26 HM6 HO6 HS6
  obtain ⟨_, _, _, _, q4⟩ := vx_cell HB7.out
  have f4 : w7.frozen? ⟨g3, 4, none⟩ = false := by have hb := HB7.out; simp [World.frozen?, hb]
  go_upto_region 5 with (fail)
  have HB8 : Hid ((w7.setCell ⟨g3, 4, none⟩ (.string T)).heap[g3]? = some (.cells (⟨P, C, A, pl, c, D, T⟩ : Vx).cells 114 (0, 0))) := Lib.hid (by rw [heap_set_sameW HB7.out]; rfl)
  have HR28 := Lib.hid ((Below.heap_setCell w7 ⟨g3, 4, none⟩ (.string T) w.heap.size (by show w.heap.size ≠ g3; omega)).trans HR27.out)
  have HM8 := Lib.hid (rset HM7.out (by omega : w.heap.size ≤ g3) 4 (.string T))
  have HO8 := Lib.hid (HO7.out.rm ((Rm.refl g3 w7).setCell 4 (.string T)) (by omega))
  have HS8 := Lib.hid (HS7.out.setO hne3 4 (.string T))
  clear q4 f4 HB7 HR27 HM7 HO7 HS7
  generalize w7.setCell ⟨g3, 4, none⟩ (.string T) = w8 at HB8 HR28 HM8 HO8 HS8 ⊢
  go_wp2_with (first
    | refine wpList_load_row rfl 114 (.tmp 3) rfl g3 rfl 114 (⟨P, C, A, pl, c, D, T⟩ : Vx).cells (0, 0) _ HB8.out Tryz.underlying114 rfl (by kernel_rfl) ?_
    | ((with_reducible refine at_st 114 (.tmp 2) (.tmp 16) ?_); refine wpList_store_row rfl 114 _ _ rfl w.heap.size (⟨P, C, A, pl, c, D, T⟩ : Vx).cells rfl rfl 114 Z5 HR28.out (by kernel_rfl) rfl (vOne _) ?_))
  have K1 := Lib.hid (setRow_at (cs := (⟨P, C, A, pl, c, D, T⟩ : Vx).cells) HR28.out)
  have HO9 := Lib.hid (HO8.out.rm (rm_row w8 w.heap.size (⟨P, C, A, pl, c, D, T⟩ : Vx).cells) (by omega))
  have HM9 := Lib.hid (rm_setRow HM8.out (Nat.le_refl _) (⟨P, C, A, pl, c, D, T⟩ : Vx).cells)
  have HS9 := Lib.hid (HS8.out.setRow (by omega : b ≠ w.heap.size) (⟨P, C, A, pl, c, D, T⟩ : Vx).cells)
  refine bodyPost_ret (v := .agg (⟨P, C, A, pl, c, D, T⟩ : Vx).cells) ?_ rfl ?_
  · simp [results, Tryz.results66, Act.put, asAR]
    refine run_loadVar_row _ _ 114 114 _ (0, 0) _ K1.out Tryz.underlying114 rfl (by kernel_rfl)
  · rw [HX.out]
    obtain ⟨A', c', e', _, hD⟩ := HO9.out.dots
    cases e'
    exact ⟨⟨⟨P, C, A, pl, c, D, T⟩, rfl, rfl, ⟨hD, by show T.size ≤ 9223372036854775807; omega⟩, hc, fun D' hD' => by
      simp only at hD'
      subst hD'
      have := (World.ownsRow.lt HO9.out D'.block rfl).1
      omega⟩, HS9.out, HM9.out⟩
end Go.Proofs.YtfobnemocodomaaGreat
