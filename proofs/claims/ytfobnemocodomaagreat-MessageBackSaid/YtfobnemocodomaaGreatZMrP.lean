/- What is read of a message: in plain words. -/
import Derived.Test.YtfobnemocodomaaGreatZMsgT
import Derived.Test.YtfobnemocodomaaGreatZBr
set_option linter.unusedVariables false
set_option linter.unusedSimpArgs false
set_option maxHeartbeats 1000000
namespace Go.Proofs.YtfobnemocodomaaGreat
open Go.RowKit Go.Shelf Go.Great

/-- rows, one behind the other -/
def rowsGoM : Nat → List (List Dot) × Rst → List (List Dot) × Rst
  | 0, s => s
  | k + 1, s => if s.2.2 ≠ 0 then s else rowsGoM k (s.1 ++ [(vecM s.2).1], (vecM s.2).2)
def rowsM (s : Rst) : List (List Dot) × Rst := rowsGoM (numM 64 s.1 s.2).1.toNat ([], (numM 64 s.1 s.2).2)
def mkD (l : List Dot) : DRow := ⟨none, 0, l⟩
/-- a message without where it lies -/
def mst (x : Mx) : Mx := { x with cA := none, cc := 0, rA := none, rc := 0, rs := x.rs.map fun d => mkD d.l }
/-- the fields read, by kind -/
def rdBody (x : Mx) (s : Rst) : Mx × Rst :=
  if x.K = 2 then
    ({ x with R := (dgM s.1 s.2).1, cl := (vecM (dgM s.1 s.2).2).1, rs := (rowsM (vecM (dgM s.1 s.2).2).2).1.map mkD }, (rowsM (vecM (dgM s.1 s.2).2).2).2)
  else if x.K = 3 then
    ({ x with R := (dgM s.1 s.2).1, Pa := (txtM 51 (dgM s.1 s.2).2.1 (dgM s.1 s.2).2.2).1 }, (txtM 51 (dgM s.1 s.2).2.1 (dgM s.1 s.2).2.2).2)
  else if x.K = 4 then
    ({ x with Pa := (txtM 51 s.1 s.2).1, Tx := (txtM 65536 (txtM 51 s.1 s.2).2.1 (txtM 51 s.1 s.2).2.2).1 }, (txtM 65536 (txtM 51 s.1 s.2).2.1 (txtM 51 s.1 s.2).2.2).2)
  else if x.K = 6 then ({ x with Tn := (flgM s.1 s.2).1 }, (flgM s.1 s.2).2)
  else (x, s)
/-- the kind, and what is wrong with it -/
def rdKind (S : ByteArray) : Int × Rst :=
  ((numM 1073741824 S 0).1, (numM 1073741824 S 0).2.1, if (numM 1073741824 S 0).2.2 = 0 then (if (numM 1073741824 S 0).1 < 1 ∨ 6 < (numM 1073741824 S 0).1 then 15 else 0) else (numM 1073741824 S 0).2.2)
def num2 (m n : Int) (s : Rst) : (Int × Int) × Rst := (((numM m s.1 s.2).1, (numM n (numM m s.1 s.2).2.1 (numM m s.1 s.2).2.2).1), (numM n (numM m s.1 s.2).2.1 (numM m s.1 s.2).2.2).2)
def rdHead (S : ByteArray) : Mx × Rst :=
  ({ zMx with K := (rdKind S).1, F := (num2 63 63 (rdKind S).2).1.1, To := (num2 63 63 (rdKind S).2).1.2, Sd := (numM 1048576 (num2 63 63 (rdKind S).2).2.1 (num2 63 63 (rdKind S).2).2.2).1 },
    (numM 1048576 (num2 63 63 (rdKind S).2).2.1 (num2 63 63 (rdKind S).2).2.2).2)
def rdAll (S : ByteArray) : Mx × Rst := rdBody (rdHead S).1 (rdHead S).2
/-- which message bytes are, or what is wrong -/
def readM (S : ByteArray) : Mx × Int :=
  if rdDone (rdAll S).2.1 (rdAll S).2.2 ≠ 0 then (zMx, rdDone (rdAll S).2.1 (rdAll S).2.2)
  else if mChk (rdAll S).1 ≠ 0 then (zMx, mChk (rdAll S).1) else ((rdAll S).1, 0)

theorem rowsGoM_err : ∀ (n : Nat) (s : List (List Dot) × Rst), s.2.2 ≠ 0 → rowsGoM n s = s
  | 0, _, _ => rfl
  | k + 1, s, h => by unfold rowsGoM; rw [if_pos h]
theorem rowsGoM_step (k : Nat) (l : List (List Dot)) (S : ByteArray) : rowsGoM (k + 1) (l, S, 0) = rowsGoM k (l ++ [(vecM (S, 0)).1], (vecM (S, 0)).2) := by
  conv => lhs; unfold rowsGoM
  rw [if_neg (by simp)]
theorem rowsF_mst : ∀ (l : List DRow) (e : Int), rowsF (l.map fun d => mkD d.l) e = rowsF l e
  | [], _ => rfl
  | d :: r, e => by
    show rowsF (r.map fun d => mkD d.l) (cw (chk d.l) e) = rowsF r (cw (chk d.l) e)
    exact rowsF_mst r _
theorem bareB_mst (x : Mx) : bareB (zOf (mst x)) = bareB (zOf x) := by
  have hl : (mst x).rs.length = x.rs.length := by simp [mst]
  have dl : decide ((mst x).rs.length = 0) = decide (x.rs.length = 0) := decide_eq_decide.2 (by rw [hl])
  by_cases h2 : x.K = 2
  · rw [bareK2 h2, bareK2 (x := mst x) h2]; rfl
  by_cases h3 : x.K = 3
  · rw [bareK3 h3, bareK3 (x := mst x) h3]
    rw [dl]; rfl
  by_cases h4 : x.K = 4
  · rw [bareK4 h4, bareK4 (x := mst x) h4]
    rw [dl]; rfl
  by_cases h6 : x.K = 6
  · rw [bareK6 h6, bareK6 (x := mst x) h6]
    rw [dl]; rfl
  have e1 : zOf x = x := by unfold zOf; rw [if_neg h2, if_neg h3, if_neg h4, if_neg h6]
  have e2 : zOf (mst x) = mst x := by unfold zOf; rw [if_neg (show ¬ (mst x).K = 2 from h2), if_neg (show ¬ (mst x).K = 3 from h3), if_neg (show ¬ (mst x).K = 4 from h4), if_neg (show ¬ (mst x).K = 6 from h6)]
  rw [e1, e2]
  unfold bareB
  rw [dl]; rfl
theorem mChk_mst (x : Mx) : mChk (mst x) = mChk x := by
  unfold mChk
  rw [bareB_mst]
  have hf : fchk (mst x) = fchk x := by
    unfold fchk
    show (if x.K = 2 then rowsC (x.rs.map fun d => mkD d.l) (cw (chk x.cl) 0) else _) = _
    unfold rowsC
    rw [rowsF_mst, List.length_map]
    rfl
  rw [hf]
  rfl
theorem msame_mst {x y : Mx} (h : mst x = mst y) : msame x y = true := by
  have hr : rowsL x.rs = rowsL y.rs := by
    have h1 : (mst x).rs = (mst y).rs := by rw [h]
    have h2 := congrArg rowsL h1
    unfold mst rowsL at h2
    simpa [List.map_map, mkD, Function.comp_def, rowsL] using h2
  have e : ∀ {α : Type} (f : Mx → α), f (mst x) = f (mst y) := fun f => by rw [h]
  have hK : x.K = y.K := e Mx.K
  have hF : x.F = y.F := e Mx.F
  have hTo : x.To = y.To := e Mx.To
  have hSd : x.Sd = y.Sd := e Mx.Sd
  have hTn : x.Tn = y.Tn := e Mx.Tn
  have hPa : x.Pa = y.Pa := e Mx.Pa
  have hR : x.R = y.R := e Mx.R
  have hcl : x.cl = y.cl := e Mx.cl
  have hTx : x.Tx = y.Tx := e Mx.Tx
  unfold msame
  rw [hK, hF, hTo, hSd, hTn, hPa, hR, hcl, hTx, hr]
  simp
end Go.Proofs.YtfobnemocodomaaGreat
