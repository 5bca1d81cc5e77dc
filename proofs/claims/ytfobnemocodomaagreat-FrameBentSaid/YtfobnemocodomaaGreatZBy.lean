/- Joined texts: MrP MrA MrB MrC MrD MrE. -/
import Derived.Test.YtfobnemocodomaaGreatZMsgT
import Derived.Test.YtfobnemocodomaaGreatZBr
import Derived.Test.YtfobnemocodomaaGreatZBa
import Derived.Test.YtfobnemocodomaaGreatZBn
set_option linter.unusedVariables false
set_option linter.unusedSimpArgs false
set_option maxHeartbeats 1000000
namespace Go.Proofs.YtfobnemocodomaaGreat
open Go.RowKit Go.Shelf Go.Great

/-- rows, one behind the other -/
def rowsGoM : Nat → List (List Dot) × Rst → List (List Dot) × Rst
  | 0, s => s
  | k + 1, s => if s.2.2 ≠ 0 then s else rowsGoM k (s.1 ++ [(vecM s.2).1], (vecM s.2).2)
def rowsM (s : Rst) : List (List Dot) × Rst := rowsGoM (numM 64 s.1 s.2).1.toNat ([], (numM 64 s.1 s.2).2)
def mkD (l : List Dot) : DRow := ⟨none, 0, l⟩
/-- a message without where it lies -/
def mst (x : Mx) : Mx := { x with cA := none, cc := 0, rA := none, rc := 0, rs := x.rs.map fun d => mkD d.l }
/-- the fields read, by kind -/
def rdBody (x : Mx) (s : Rst) : Mx × Rst :=
  if x.K = 2 then
    ({ x with R := (dgM s.1 s.2).1, cl := (vecM (dgM s.1 s.2).2).1, rs := (rowsM (vecM (dgM s.1 s.2).2).2).1.map mkD }, (rowsM (vecM (dgM s.1 s.2).2).2).2)
  else if x.K = 3 then
    ({ x with R := (dgM s.1 s.2).1, Pa := (txtM 51 (dgM s.1 s.2).2.1 (dgM s.1 s.2).2.2).1 }, (txtM 51 (dgM s.1 s.2).2.1 (dgM s.1 s.2).2.2).2)
  else if x.K = 4 then
    ({ x with Pa := (txtM 51 s.1 s.2).1, Tx := (txtM 65536 (txtM 51 s.1 s.2).2.1 (txtM 51 s.1 s.2).2.2).1 }, (txtM 65536 (txtM 51 s.1 s.2).2.1 (txtM 51 s.1 s.2).2.2).2)
  else if x.K = 6 then ({ x with Tn := (flgM s.1 s.2).1 }, (flgM s.1 s.2).2)
  else (x, s)
/-- the kind, and what is wrong with it -/
def rdKind (S : ByteArray) : Int × Rst :=
  ((numM 1073741824 S 0).1, (numM 1073741824 S 0).2.1, if (numM 1073741824 S 0).2.2 = 0 then (if (numM 1073741824 S 0).1 < 1 ∨ 6 < (numM 1073741824 S 0).1 then 15 else 0) else (numM 1073741824 S 0).2.2)
def num2 (m n : Int) (s : Rst) : (Int × Int) × Rst := (((numM m s.1 s.2).1, (numM n (numM m s.1 s.2).2.1 (numM m s.1 s.2).2.2).1), (numM n (numM m s.1 s.2).2.1 (numM m s.1 s.2).2.2).2)
def rdHead (S : ByteArray) : Mx × Rst :=
  ({ zMx with K := (rdKind S).1, F := (num2 63 63 (rdKind S).2).1.1, To := (num2 63 63 (rdKind S).2).1.2, Sd := (numM 1048576 (num2 63 63 (rdKind S).2).2.1 (num2 63 63 (rdKind S).2).2.2).1 },
    (numM 1048576 (num2 63 63 (rdKind S).2).2.1 (num2 63 63 (rdKind S).2).2.2).2)
def rdAll (S : ByteArray) : Mx × Rst := rdBody (rdHead S).1 (rdHead S).2
/-- which message bytes are, or what is wrong -/
def readM (S : ByteArray) : Mx × Int :=
  if rdDone (rdAll S).2.1 (rdAll S).2.2 ≠ 0 then (zMx, rdDone (rdAll S).2.1 (rdAll S).2.2)
  else if mChk (rdAll S).1 ≠ 0 then (zMx, mChk (rdAll S).1) else ((rdAll S).1, 0)

theorem rowsGoM_err : ∀ (n : Nat) (s : List (List Dot) × Rst), s.2.2 ≠ 0 → rowsGoM n s = s
  | 0, _, _ => rfl
  | k + 1, s, h => by unfold rowsGoM; rw [if_pos h]
theorem rowsGoM_step (k : Nat) (l : List (List Dot)) (S : ByteArray) : rowsGoM (k + 1) (l, S, 0) = rowsGoM k (l ++ [(vecM (S, 0)).1], (vecM (S, 0)).2) := by
  conv => lhs; unfold rowsGoM
  rw [if_neg (by simp)]
theorem rowsF_mst : ∀ (l : List DRow) (e : Int), rowsF (l.map fun d => mkD d.l) e = rowsF l e
  | [], _ => rfl
  | d :: r, e => by
    show rowsF (r.map fun d => mkD d.l) (cw (chk d.l) e) = rowsF r (cw (chk d.l) e)
    exact rowsF_mst r _
theorem bareB_mst (x : Mx) : bareB (zOf (mst x)) = bareB (zOf x) := by
  have hl : (mst x).rs.length = x.rs.length := by simp [mst]
  have dl : decide ((mst x).rs.length = 0) = decide (x.rs.length = 0) := decide_eq_decide.2 (by rw [hl])
  by_cases h2 : x.K = 2
  · rw [bareK2 h2, bareK2 (x := mst x) h2]; rfl
  by_cases h3 : x.K = 3
  · rw [bareK3 h3, bareK3 (x := mst x) h3]
    rw [dl]; rfl
  by_cases h4 : x.K = 4
  · rw [bareK4 h4, bareK4 (x := mst x) h4]
    rw [dl]; rfl
  by_cases h6 : x.K = 6
  · rw [bareK6 h6, bareK6 (x := mst x) h6]
    rw [dl]; rfl
  have e1 : zOf x = x := by unfold zOf; rw [if_neg h2, if_neg h3, if_neg h4, if_neg h6]
  have e2 : zOf (mst x) = mst x := by unfold zOf; rw [if_neg (show ¬ (mst x).K = 2 from h2), if_neg (show ¬ (mst x).K = 3 from h3), if_neg (show ¬ (mst x).K = 4 from h4), if_neg (show ¬ (mst x).K = 6 from h6)]
  rw [e1, e2]
  unfold bareB
  rw [dl]; rfl
theorem mChk_mst (x : Mx) : mChk (mst x) = mChk x := by
  unfold mChk
  rw [bareB_mst]
  have hf : fchk (mst x) = fchk x := by
    unfold fchk
    show (if x.K = 2 then rowsC (x.rs.map fun d => mkD d.l) (cw (chk x.cl) 0) else _) = _
    unfold rowsC
    rw [rowsF_mst, List.length_map]
    rfl
  rw [hf]
  rfl
theorem msame_mst {x y : Mx} (h : mst x = mst y) : msame x y = true := by
  have hr : rowsL x.rs = rowsL y.rs := by
    have h1 : (mst x).rs = (mst y).rs := by rw [h]
    have h2 := congrArg rowsL h1
    unfold mst rowsL at h2
    simpa [List.map_map, mkD, Function.comp_def, rowsL] using h2
  have e : ∀ {α : Type} (f : Mx → α), f (mst x) = f (mst y) := fun f => by rw [h]
  have hK : x.K = y.K := e Mx.K
  have hF : x.F = y.F := e Mx.F
  have hTo : x.To = y.To := e Mx.To
  have hSd : x.Sd = y.Sd := e Mx.Sd
  have hTn : x.Tn = y.Tn := e Mx.Tn
  have hPa : x.Pa = y.Pa := e Mx.Pa
  have hR : x.R = y.R := e Mx.R
  have hcl : x.cl = y.cl := e Mx.cl
  have hTx : x.Tx = y.Tx := e Mx.Tx
  unfold msame
  rw [hK, hF, hTo, hSd, hTn, hPa, hR, hcl, hTx, hr]
  simp
end Go.Proofs.YtfobnemocodomaaGreat
set_option linter.unusedVariables false
set_option linter.unusedSimpArgs false
set_option maxHeartbeats 1000000
namespace Go.Proofs.YtfobnemocodomaaGreat
open Go.RowKit Go.Shelf Go.Great

theorem infoDotRow : (Tryz.prog.info? 34).map (fun i => (i.zero, i.size, i.bytes)) = some (some (.slice none 0 0), 1, 24) := by kernel_rfl
def rowVal (d : DRow) : Value := .slice d.A d.l.length d.cap
def OfD (g : Nat) (d : DRow) : Prop := d.l ≠ [] → ∀ D, d.A = some D → D.block ≠ g
theorem OfD.ofNew {W : World} {g : Nat} {d : DRow} (h : Dots W d.A d.l) (k : W.heap.size ≤ g) : OfD g d := fun hp D hD => by
  have h0 : 0 < d.l.length := List.length_pos_iff.2 hp
  obtain ⟨ad, e, a, _⟩ := h.2 0 h0
  rw [hD] at e; cases e
  have := World.block_lt_of_cell? W _ a
  rw [addR] at this
  omega
structure RowW (W : World) (B : Nat) (v : Value) (l : List DRow) : Prop where
  oks : ∀ d ∈ l, Dots W d.A d.l
  new : ∀ d ∈ l, d.l.length ≤ d.cap ∧ ∀ D, d.A = some D → B ≤ D.block
  own : (v = .slice none 0 0 ∧ l = []) ∨ ∃ g, B ≤ g ∧ OwnG 34 1 W g v l.length (l.map rowVal) ∧ ∀ d ∈ l, OfD g d
theorem RowW.nil (W : World) (B : Nat) : RowW W B (.slice none 0 0) [] := ⟨fun x hx => by simp at hx, fun x hx => by simp at hx, Or.inl ⟨rfl, rfl⟩⟩
theorem RowW.gr {W W' : World} {B : Nat} {v : Value} {l : List DRow} (h : RowW W B v l) (k : Gr W W') : RowW W' B v l := by
  refine ⟨fun d hd => (h.oks d hd).gr k, h.new, ?_⟩
  rcases h.own with o | ⟨g, o1, o2, o3⟩
  · exact Or.inl o
  · exact Or.inr ⟨g, o1, o2.gr k, o3⟩
theorem RowW.rm {W W' : World} {B b : Nat} {v : Value} {l : List DRow} (h : RowW W B v l) (m : Rm b W W') (hb : b < B) : RowW W' B v l := by
  refine ⟨fun d hd => (h.oks d hd).rmR m (fun D hD => by have := (h.new d hd).2 D hD; omega), h.new, ?_⟩
  rcases h.own with o | ⟨g, o1, o2, o3⟩
  · exact Or.inl o
  · exact Or.inr ⟨g, o1, o2.same (m.keep g o2.lt (by omega)), o3⟩
theorem RowW.rows {W : World} {B : Nat} {v : Value} {l : List DRow} (h : RowW W B v l) : ∃ A c, v = .slice A l.length c ∧ l.length ≤ c ∧ DRows W A l := by
  rcases h.own with ⟨rfl, rfl⟩ | ⟨g, o1, o2, o3⟩
  · exact ⟨none, 0, rfl, Nat.le_refl _, by simp, fun i hi => absurd hi (by simp)⟩
  · obtain ⟨c, rfl, h1, h2⟩ := o2.shape
    refine ⟨_, c, rfl, h1, by unfold maxLen at h2; omega, fun i hi => ⟨_, rfl, ?_, h.oks _ (List.getElem_mem hi)⟩⟩
    have e : (⟨g, 0, none⟩ : Addr).add i = ⟨g, i, none⟩ := by unfold Addr.add; split <;> simp_all
    rw [e]
    exact (o2.cell i _ (by rw [List.getElem?_map, List.getElem?_eq_getElem hi]; rfl)).1
/-- one row more -/
theorem RowW.push {W : World} {B : Nat} {v : Value} {l : List DRow} (h : RowW W B v l) {d : DRow} (hd : Dots W d.A d.l) (hdc : d.l.length ≤ d.cap) (hdn : ∀ D, d.A = some D → B ≤ D.block)
    (hoff : ∀ g c, v = .slice (some ⟨g, 0, none⟩) l.length c → OfD g d) (hB : B ≤ W.heap.size) (hl : l.length ≤ 1000000) (ty : TypeId) :
    ∃ (c : Option Addr × Nat) (w' : World) (g0 : Option Nat), (Builtin.append_ #[35, 35] ty #[v, .slice (some ⟨W.heap.size, 0, none⟩) 1 1]).run Tryz.prog (W.alloc (.cells #[rowVal d] 34)) = .ok (.slice c.1 (l ++ [d]).length c.2) w' ∧ RowW w' B (.slice c.1 (l ++ [d]).length c.2) (l ++ [d]) ∧
      (W.alloc (.cells #[rowVal d] 34)).grownBy w' g0 ∧ (∀ g, g0 = some g → B ≤ g ∧ g < W.heap.size ∧ (∃ cs, W.heap[g]? = some (.cells cs 34 (0, 0))) ∧ ∃ c0, v = .slice (some ⟨g, 0, none⟩) l.length c0) ∧
      ∃ g', c.1 = some ⟨g', 0, none⟩ ∧ (g0 = some g' ∨ W.heap.size ≤ g') := by
  obtain ⟨i0, hi, hz0, hzs, hz2⟩ := info_parts infoDotRow
  have hga : Gr W (W.alloc (.cells #[rowVal d] 34)) := (Gr.rfl' W).al _
  have hnew : ∀ (j : Nat) (u : Value), [rowVal d][j]? = some u → (W.alloc (.cells #[rowVal d] 34)).cell? ((⟨W.heap.size, 0, none⟩ : Addr).add j) = some u := fun j u hj => by
    have e : ((⟨W.heap.size, 0, none⟩ : Addr).add j) = ⟨W.heap.size, j, none⟩ := by unfold Addr.add; split <;> simp_all
    rw [e]
    have hb := World.alloc_heap_new W (.cells #[rowVal d] 34)
    simp only [World.cell?, hb]
    simpa using hj
  have h1 : ∀ u ∈ [rowVal d], u.oneCell' = true := fun u hu => by simp at hu; subst hu; rfl
  have kv : ∀ {w' : World} {g0 : Option Nat}, (W.alloc (.cells #[rowVal d] 34)).grownBy w' g0 → ∀ y : DRow, Dots W y.A y.l → (∀ g, g0 = some g → OfD g y) → Dots w' y.A y.l := fun k y hy ho => (hy.gr hga).gwR k (fun hp D hD e => ho D.block e.symm hp D hD rfl)
  rcases h.own with ⟨rfl, rfl⟩ | ⟨g, o1, o2, o3⟩
  · obtain ⟨v', w', hr, ho, hg, _⟩ := run_append_own (P := Tryz.prog) (w := W.alloc (.cells #[rowVal d] 34)) W.heap.size 35 ty 34 i0 (.slice none 0 0) 1 24 Tryz.underlying35 hi hz0 hzs hz2 rfl (by decide) (.slice none 0 0) 0 [] (World.ownsRow_nil _ _ _ _) ⟨W.heap.size, 0, none⟩ 1 1 [rowVal d] rfl hnew h1 (by decide) (by decide) (by simp)
    rw [Nat.zero_add, List.nil_append] at ho
    obtain ⟨g', hg', ho'⟩ := ownG_of _ ho (by decide)
    obtain ⟨c, rfl, _, _⟩ := ho'.shape
    refine ⟨(some ⟨g', 0, none⟩, c), w', none, hr, ⟨fun y hy => ?_, fun y hy => ?_, Or.inr ⟨g', by omega, ho', fun y hy => ?_⟩⟩, hg, (fun g e => by cases e), g', rfl, Or.inr (by have := hga.size; omega)⟩
    · simp at hy; subst hy; exact kv hg y hd (fun g e => by cases e)
    · simp at hy; subst hy; exact ⟨hdc, hdn⟩
    · simp at hy; subst hy; exact OfD.ofNew hd hg'
  · obtain ⟨c0, rfl, hc1, hc2⟩ := o2.shape
    obtain ⟨v', w', g', hr, ho', hg', hg⟩ := run_appendG (P := Tryz.prog) (W.alloc (.cells #[rowVal d] 34)) 35 ty 34 i0 (.slice none 0 0) 1 24 Tryz.underlying35 hi hz0 hzs hz2 rfl (by decide) g _ l.length (l.map rowVal) (o2.gr hga) ⟨W.heap.size, 0, none⟩ 1 1 [rowVal d] rfl hnew h1 (by unfold maxLen; omega) (by omega)
    obtain ⟨c, rfl, _, _⟩ := ho'.shape
    have hod := hoff g c0 rfl
    have hsz : (W.alloc (.cells #[rowVal d] 34)).heap.size = W.heap.size + 1 := by simp
    refine ⟨(some ⟨g', 0, none⟩, c), w', some g, by rw [List.length_append, List.length_singleton]; exact hr, ⟨fun y hy => ?_, fun y hy => ?_, Or.inr ⟨g', ?_, ?_, fun y hy => ?_⟩⟩, hg, fun g2 e => ?_, g', rfl, (by rcases hg' with e | e; exact Or.inl (by rw [e]); exact Or.inr (by omega))⟩
    · rcases List.mem_append.1 hy with hy | hy
      · exact kv hg y (h.oks y hy) (fun g2 e => by cases e; exact o3 y hy)
      · simp at hy; subst hy; exact kv hg y hd (fun g2 e => by cases e; exact hod)
    · rcases List.mem_append.1 hy with hy | hy
      · exact h.new y hy
      · simp at hy; subst hy; exact ⟨hdc, hdn⟩
    · rcases hg' with e | e <;> omega
    · rw [List.length_append, List.length_singleton, List.map_append, List.map_singleton]; exact ho'
    · rcases hg' with e | e
      · subst e
        rcases List.mem_append.1 hy with hy | hy
        · exact o3 y hy
        · simp at hy; subst hy; exact hod
      · rcases List.mem_append.1 hy with hy | hy
        · exact OfD.ofNew (h.oks y hy) (by omega)
        · simp at hy; subst hy; exact OfD.ofNew hd (by omega)
    · cases e
      refine ⟨o1, o2.lt, ?_, c0, rfl⟩
      obtain ⟨cap, cur, _, hh, _⟩ := o2
      exact ⟨cur, hh⟩
theorem OwnDots.newD {w : World} {base : Nat} {v : Value} {l : List Dot} (h : OwnDots w base v l) : ∃ A c, v = .slice A l.length c ∧ l.length ≤ c ∧ Dots w A l ∧ ∀ D, A = some D → base ≤ D.block := by
  obtain ⟨A, c, rfl, h1, h2⟩ := h.dots
  refine ⟨A, c, rfl, h1, h2, fun D hD => ?_⟩
  subst hD
  rcases h.2 with ⟨e, h0⟩ | ⟨g, cap, cur, e, hg, hh, hle, hm, _⟩
  · cases e
  · cases e; exact hg
/-- a message in the making in block g; what it points to lies from B on -/
structure MRd (W : World) (B g : Nat) (x : Mx) : Prop where
  lies : MAt W g x
  dig : x.R.length = 32
  pa : x.Pa.size ≤ 9223372036854775807
  tx : x.Tx.size ≤ 9223372036854775807
  ctx : Dots W x.cA x.cl
  cc : x.cl.length ≤ x.cc
  cnew : ∀ D, x.cA = some D → B ≤ D.block
  rows : RowW W B (.slice x.rA x.rs.length x.rc) x.rs
  off : ∀ D, x.rA = some D → OfD D.block ⟨x.cA, x.cc, x.cl⟩
theorem mat_rm {W W' : World} {g b : Nat} {x : Mx} (h : MAt W g x) (m : Rm b W W') (hgb : g ≠ b) : MAt W' g x := (m.keep g (Array.getElem?_eq_some_iff.1 h).1 hgb).trans h
theorem MRd.rm {W W' : World} {B g b : Nat} {x : Mx} (h : MRd W B g x) (m : Rm b W W') (hb : b < B) (hgb : g ≠ b) : MRd W' B g x :=
  ⟨mat_rm h.lies m hgb, h.dig, h.pa, h.tx, h.ctx.rmR m (fun D hD => by have := h.cnew D hD; omega), h.cc, h.cnew, h.rows.rm m hb, h.off⟩
theorem MRd.gr {W W' : World} {B g : Nat} {x : Mx} (h : MRd W B g x) (k : Gr W W') : MRd W' B g x :=
  ⟨mat_gr h.lies k, h.dig, h.pa, h.tx, h.ctx.gr k, h.cc, h.cnew, h.rows.gr k, h.off⟩
theorem MRd.ok {W : World} {B g : Nat} {x : Mx} (h : MRd W B g x) : MxOk W x := by
  refine ⟨h.dig, h.ctx, ?_, h.pa, h.tx⟩
  obtain ⟨A, c, e, _, k⟩ := h.rows.rows
  cases e
  exact k
/-- what a message points to lies from B on: nothing else matters -/
theorem MRd.keep {W W' : World} {B g : Nat} {x : Mx} (h : MRd W B g x) (k : ∀ j, B ≤ j → j < W.heap.size → W'.heap[j]? = W.heap[j]?) : MxOk W' x := by
  have kc : ∀ {p : Addr} {v : Value}, B ≤ p.block → W.cell? p = some v → W'.cell? p = some v := fun {p v} hB hc =>
    (World.cell?_of_block (k p.block hB (World.block_lt_of_cell? W p hc))).trans hc
  have kd : ∀ {A : Option Addr} {l : List Dot}, Dots W A l → (∀ D, A = some D → B ≤ D.block) → Dots W' A l := fun {A l} hd hA => ⟨hd.1, fun i hi => by
    obtain ⟨ad, e, a, b⟩ := hd.2 i hi
    have hb := hA ad e
    exact ⟨ad, e, kc (by rw [addR]; exact hb) a, kc (by show B ≤ (ad.add (i * 2)).block; rw [addR]; exact hb) b⟩⟩
  refine ⟨h.dig, kd h.ctx h.cnew, ?_, h.pa, h.tx⟩
  rcases h.rows.own with ⟨e, h0⟩ | ⟨g2, o1, o2, _⟩
  · rw [h0]
    exact ⟨by simp, fun i hi => absurd hi (by simp)⟩
  · obtain ⟨c, e, h1, h2⟩ := o2.shape
    have eA := (Value.slice.inj e).1
    refine ⟨by unfold maxLen at h2; omega, fun i hi => ⟨⟨g2, 0, none⟩, eA, ?_, kd (h.rows.oks _ (List.getElem_mem hi)) (h.rows.new _ (List.getElem_mem hi)).2⟩⟩
    have e2 : (⟨g2, 0, none⟩ : Addr).add i = ⟨g2, i, none⟩ := by unfold Addr.add; split <;> simp_all
    rw [e2]
    exact kc o1 (o2.cell i _ (by rw [List.getElem?_map, List.getElem?_eq_getElem hi]; rfl)).1
theorem rm_set (g o : Nat) (u : Value) (W : World) : Rm g W (W.setCell ⟨g, o, none⟩ u) := (Rm.refl g W).setCell o u
/-- what has no address is turned -/
theorem MRd.turn {W W' : World} {B g : Nat} {x y : Mx} (h : MRd W B g x) (m : Rm g W W') (hg : g < B) (hy : MAt W' g y) (hd : y.R.length = 32) (hp : y.Pa.size ≤ 9223372036854775807) (ht : y.Tx.size ≤ 9223372036854775807)
    (h1 : y.cA = x.cA) (h2 : y.cl = x.cl) (h3 : y.cc = x.cc) (h4 : y.rA = x.rA) (h5 : y.rs = x.rs) (h6 : y.rc = x.rc) : MRd W' B g y :=
  ⟨hy, hd, hp, ht, by rw [h1, h2]; exact h.ctx.rmR m (fun D hD => by have := h.cnew D hD; omega), by rw [h2, h3]; exact h.cc, by rw [h1]; exact h.cnew, by rw [h4, h5, h6]; exact h.rows.rm m hg, by rw [h4, h1, h2, h3]; exact h.off⟩
end Go.Proofs.YtfobnemocodomaaGreat
set_option linter.unusedVariables false
set_option linter.unusedSimpArgs false
set_option maxHeartbeats 4000000
namespace Go.Proofs.YtfobnemocodomaaGreat
open Go.RowKit Go.Shelf Go.Great

theorem dgM_szM (S : ByteArray) (e : Int) : (dgM S e).2.1.size ≤ S.size := by
  unfold dgM
  split
  · exact Nat.le_refl _
  · split
    · exact Nat.le_refl _
    · exact cutB_szR _ _
/-- a reader in block b, a message in the making in block g -/
structure TK (t : TypeId) (w0 : World) (b B g : Nat) (x : Mx) (s : Rst) (w : World) : Prop where
  rd : Sr t b s.1 s.2 w
  sz : s.1.size ≤ 9223372036854775807
  ms : MRd w B g x
  hb : b < B
  hg : g < B
  ne : g ≠ b
  B : B ≤ w.heap.size
  gr : Gr w0 w
  b0 : w0.heap.size ≤ b
  g0 : w0.heap.size ≤ g
theorem TK.take {t : TypeId} {w0 w w' : World} {b B g : Nat} {x : Mx} {s s' : Rst} (h : TK t w0 b B g x s w) (hs : Sr t b s'.1 s'.2 w') (hz : s'.1.size ≤ s.1.size) (m : Rm b w w') : TK t w0 b B g x s' w' :=
  ⟨hs, Nat.le_trans hz h.sz, h.ms.rm m h.hb h.ne, h.hb, h.hg, h.ne, Nat.le_trans h.B m.size, m.below h.gr h.b0, h.b0, h.g0⟩
theorem TK.more {t : TypeId} {w0 w w' : World} {b B g : Nat} {x : Mx} {s : Rst} (h : TK t w0 b B g x s w) (k : Gr w w') : TK t w0 b B g x s w' :=
  ⟨(k.block b (Array.getElem?_eq_some_iff.1 h.rd).1).trans h.rd, h.sz, h.ms.gr k, h.hb, h.hg, h.ne, Nat.le_trans h.B k.size, h.gr.tr k, h.b0, h.g0⟩
theorem TK.turn {t : TypeId} {w0 w w' : World} {b B g : Nat} {x y : Mx} {s : Rst} (h : TK t w0 b B g x s w) (m : Rm g w w') (hy : MRd w' B g y) : TK t w0 b B g y s w' :=
  ⟨(m.keep b (Array.getElem?_eq_some_iff.1 h.rd).1 (Ne.symm h.ne)).trans h.rd, h.sz, hy, h.hb, h.hg, h.ne, Nat.le_trans h.B m.size, m.below h.gr h.g0, h.b0, h.g0⟩
theorem set1 (x : Mx) (n : Int) : x.cells.setIfInBounds 1 (.int .i64 n) = ({ x with F := n } : Mx).cells := by
  have hz : ({ x with F := n } : Mx).list = x.list.set 1 (.int .i64 n) := by unfold Mx.list; rfl
  unfold Mx.cells; rw [hz]; simp
theorem set2 (x : Mx) (n : Int) : x.cells.setIfInBounds 2 (.int .i64 n) = ({ x with To := n } : Mx).cells := by
  have hz : ({ x with To := n } : Mx).list = x.list.set 2 (.int .i64 n) := by unfold Mx.list; rfl
  unfold Mx.cells; rw [hz]; simp
theorem set3 (x : Mx) (n : Int) : x.cells.setIfInBounds 3 (.int .i64 n) = ({ x with Sd := n } : Mx).cells := by
  have hz : ({ x with Sd := n } : Mx).list = x.list.set 3 (.int .i64 n) := by unfold Mx.list; rfl
  unfold Mx.cells; rw [hz]; simp
section
variable {t : TypeId} {w0 w : World} {b B g : Nat} {x : Mx} {s : Rst}
theorem TK.setF (h : TK t w0 b B g x s w) (n : Int) : TK t w0 b B g { x with F := n } s (w.setCell ⟨g, 1, none⟩ (.int .i64 n)) :=
  h.turn (rm_set g 1 _ w) (h.ms.turn (rm_set g 1 _ w) h.hg (set_field h.ms.lies (set1 x n)) h.ms.dig h.ms.pa h.ms.tx rfl rfl rfl rfl rfl rfl)
theorem TK.setTo (h : TK t w0 b B g x s w) (n : Int) : TK t w0 b B g { x with To := n } s (w.setCell ⟨g, 2, none⟩ (.int .i64 n)) :=
  h.turn (rm_set g 2 _ w) (h.ms.turn (rm_set g 2 _ w) h.hg (set_field h.ms.lies (set2 x n)) h.ms.dig h.ms.pa h.ms.tx rfl rfl rfl rfl rfl rfl)
theorem TK.setSd (h : TK t w0 b B g x s w) (n : Int) : TK t w0 b B g { x with Sd := n } s (w.setCell ⟨g, 3, none⟩ (.int .i64 n)) :=
  h.turn (rm_set g 3 _ w) (h.ms.turn (rm_set g 3 _ w) h.hg (set_field h.ms.lies (set3 x n)) h.ms.dig h.ms.pa h.ms.tx rfl rfl rfl rfl rfl rfl)
theorem TK.setTn (h : TK t w0 b B g x s w) (n : Bool) : TK t w0 b B g { x with Tn := n } s (w.setCell ⟨g, 4, none⟩ (.bool n)) :=
  h.turn (rm_set g 4 _ w) (h.ms.turn (rm_set g 4 _ w) h.hg (set_field h.ms.lies (set4 x n)) h.ms.dig h.ms.pa h.ms.tx rfl rfl rfl rfl rfl rfl)
theorem TK.setPa (h : TK t w0 b B g x s w) (p : ByteArray) (hp : p.size ≤ 9223372036854775807) : TK t w0 b B g { x with Pa := p } s (w.setCell ⟨g, 5, none⟩ (.string p)) :=
  h.turn (rm_set g 5 _ w) (h.ms.turn (rm_set g 5 _ w) h.hg (set_field h.ms.lies (set5 x p)) h.ms.dig hp h.ms.tx rfl rfl rfl rfl rfl rfl)
theorem TK.setTx (h : TK t w0 b B g x s w) (p : ByteArray) (hp : p.size ≤ 9223372036854775807) : TK t w0 b B g { x with Tx := p } s (w.setCell ⟨g, 40, none⟩ (.string p)) :=
  h.turn (rm_set g 40 _ w) (h.ms.turn (rm_set g 40 _ w) h.hg (set_field h.ms.lies (set40 x h.ms.dig p)) h.ms.dig h.ms.pa hp rfl rfl rfl rfl rfl rfl)
theorem rm_cells (g o : Nat) (vs : List Value) (w : World) : Rm g w (w.setCells g o vs) := ⟨(rg_os _ _ _).1, (rg_os _ _ _).2.1, (rg_os _ _ _).2.2, by rw [rg_size]; exact Nat.le_refl _, fun k _ hk => rg_other hk _ _ _⟩
theorem TK.setR (h : TK t w0 b B g x s w) (D : List UInt8) (hD : D.length = 32) : TK t w0 b B g { x with R := D } s (w.setCells g 6 (digC D).toList) :=
  h.turn (rm_cells g 6 _ w) (h.ms.turn (rm_cells g 6 _ w) h.hg (set6 h.ms.lies h.ms.dig D hD) hD h.ms.pa h.ms.tx rfl rfl rfl rfl rfl rfl)
theorem TK.there (h : TK t w0 b B g x s w) (D : List UInt8) (hD : D.length = 32) : w.there g 6 (digC D).size := fun q hq => by
  have hq' : q < 32 := by rw [digC_size, hD] at hq; exact hq
  have hsz : 6 + q < x.cells.size := by rw [Mx.size x h.ms.dig]; omega
  have hb := h.ms.lies
  refine ⟨?_, by simp [World.frozen?, hb]⟩
  simp only [World.cell?, hb]
  rw [Array.getElem?_eq_getElem hsz]; rfl
theorem TK.setC (h : TK t w0 b B g x s w) {A : Option Addr} {l : List Dot} {c : Nat} (hd : Dots w A l) (hc : l.length ≤ c) (hn : ∀ D, A = some D → B ≤ D.block) (hr : x.rA = none) : TK t w0 b B g { x with cA := A, cl := l, cc := c } s (w.setCell ⟨g, 38, none⟩ (.slice A l.length c)) :=
  h.turn (rm_set g 38 _ w) ⟨set_field h.ms.lies (set38 x h.ms.dig A l c), h.ms.dig, h.ms.pa, h.ms.tx, hd.rmR (rm_set g 38 _ w) (fun D hD => by have := hn D hD; have := h.hg; omega), hc, hn, h.ms.rows.rm (rm_set g 38 _ w) h.hg, fun D hD => by have e : x.rA = some D := hD; rw [hr] at e; cases e⟩
/-- one row more, in the message -/
theorem TK.push (h : TK t w0 b B g x s w) {d : DRow} (hd : Dots w d.A d.l) (hdc : d.l.length ≤ d.cap) (hdn : ∀ D, d.A = some D → B ≤ D.block) (hoff : ∀ D, x.rA = some D → OfD D.block d) (hl : x.rs.length ≤ 1000000) (ty : TypeId) :
    ∃ (c : Option Addr × Nat) (w3 : World), (Builtin.append_ #[35, 35] ty #[.slice x.rA x.rs.length x.rc, .slice (some ⟨w.heap.size, 0, none⟩) 1 1]).run Tryz.prog (w.alloc (.cells #[rowVal d] 34)) = .ok (.slice c.1 (x.rs ++ [d]).length c.2) w3 ∧
      (w3.cell? ⟨g, 39, none⟩ = some (.slice x.rA x.rs.length x.rc) ∧ w3.frozen? ⟨g, 39, none⟩ = false) ∧
      TK t w0 b B g { x with rA := c.1, rs := x.rs ++ [d], rc := c.2 } s (w3.setCell ⟨g, 39, none⟩ (.slice c.1 (x.rs ++ [d]).length c.2)) ∧
      ∀ (k : Nat) (cs : Array Value) (T : TypeId), w.heap[k]? = some (.cells cs T (0, 0)) → T ≠ 34 → w3.heap[k]? = some (.cells cs T (0, 0)) := by
  have hga : Gr w (w.alloc (.cells #[rowVal d] 34)) := (Gr.rfl' w).al _
  obtain ⟨c, w3, g0, hr, hw, hgr, hg0, g', hc', hg'⟩ := h.ms.rows.push hd hdc hdn (fun g2 c0 e => hoff _ (Value.slice.inj e).1) h.B hl ty
  have hbk : ∀ k, k < w.heap.size → some k ≠ g0 → w3.heap[k]? = w.heap[k]? := fun k hk hn => (hgr.block k (by have := hga.size; omega) hn).trans (hga.block k hk)
  have hgb : some g ≠ g0 := fun e => by have := (hg0 g e.symm).1; have := h.hg; omega
  have hbb : some b ≠ g0 := fun e => by have := (hg0 b e.symm).1; have := h.hb; omega
  have hgl := (Array.getElem?_eq_some_iff.1 h.ms.lies).1
  have hbl := (Array.getElem?_eq_some_iff.1 h.rd).1
  have hM3 : MAt w3 g x := (hbk g hgl hgb).trans h.ms.lies
  have hsz3 : w.heap.size ≤ w3.heap.size := Nat.le_trans hga.size hgr.size
  have hx3 : Dots w3 x.cA x.cl := (h.ms.ctx.gr hga).gwR hgr (fun hp D hD e => by
    obtain ⟨_, _, _, c0, e0⟩ := hg0 D.block e.symm
    have e1 : x.rA = some ⟨D.block, 0, none⟩ := (Value.slice.inj e0).1
    exact h.ms.off _ e1 hp D hD rfl)
  have hG3 : Gr w0 w3 := by
    have h1 : Gr w0 (w.alloc (.cells #[rowVal d] 34)) := h.gr.tr hga
    exact ⟨hgr.os.trans h1.os, hgr.tape.trans h1.tape, hgr.output.trans h1.output, Nat.le_trans h1.size hgr.size, fun k hk => (hgr.block k (by have := h1.size; omega) (fun e => by have := (hg0 k e.symm).1; have := h.b0; have := h.hb; omega)).trans (h1.block k hk)⟩
  refine ⟨c, w3, hr, ⟨(mxAt hM3 h.ms.dig).c39, mat_frz hM3 39⟩, ?_, ?_⟩
  · have hm : Rm g w3 (w3.setCell ⟨g, 39, none⟩ (.slice c.1 (x.rs ++ [d]).length c.2)) := rm_set g 39 _ w3
    refine ⟨(hm.keep b (by omega) (Ne.symm h.ne)).trans ((hbk b hbl hbb).trans h.rd), h.sz, ⟨set_field hM3 (set39 x h.ms.dig c.1 (x.rs ++ [d]) c.2), h.ms.dig, h.ms.pa, h.ms.tx, hx3.rmR hm (fun D hD => by have := h.ms.cnew D hD; have := h.hg; omega), h.ms.cc, h.ms.cnew, hw.rm hm h.hg, fun D hD => ?_⟩, h.hb, h.hg, h.ne, Nat.le_trans h.B (Nat.le_trans hsz3 hm.size), hm.below hG3 h.g0, h.b0, h.g0⟩
    have hD' : c.1 = some D := hD
    rw [hc'] at hD'
    cases hD'
    rcases hg' with e | e
    · obtain ⟨_, _, _, c0, e0⟩ := hg0 g' e
      have e1 : x.rA = some ⟨g', 0, none⟩ := (Value.slice.inj e0).1
      exact h.ms.off _ e1
    · exact OfD.ofNew (d := ⟨x.cA, x.cc, x.cl⟩) h.ms.ctx e
  · intro k cs T hk hT
    refine (hbk k (Array.getElem?_eq_some_iff.1 hk).1 (fun e => ?_)).trans hk
    obtain ⟨_, _, ⟨cs2, h2⟩, _⟩ := hg0 k e.symm
    rw [hk] at h2
    cases h2
    exact hT rfl
end
theorem tRoot (a : Option Addr) : Ifc 73 (.agg #[.pointer a]) (.agg #[.pointer a]) "hearsay/message.root" 171 := ⟨fun _ => by kernel_rfl, fun _ => by kernel_rfl, fun _ _ => by kernel_rfl⟩
theorem tCtx (a : Option Addr) : Ifc 73 (.agg #[.pointer a]) (.agg #[.pointer a]) "hearsay/message.ctx" 169 := ⟨fun _ => by kernel_rfl, fun _ => by kernel_rfl, fun _ _ => by kernel_rfl⟩
theorem tRows (a : Option Addr) : Ifc 73 (.agg #[.pointer a]) (.agg #[.pointer a]) "hearsay/message.rows" 172 := ⟨fun _ => by kernel_rfl, fun _ => by kernel_rfl, fun _ _ => by kernel_rfl⟩
theorem tPath (a : Option Addr) : Ifc 73 (.agg #[.pointer a]) (.agg #[.pointer a]) "hearsay/message.path" 170 := ⟨fun _ => by kernel_rfl, fun _ => by kernel_rfl, fun _ _ => by kernel_rfl⟩
theorem tText (a : Option Addr) : Ifc 73 (.agg #[.pointer a]) (.agg #[.pointer a]) "hearsay/message.text" 173 := ⟨fun _ => by kernel_rfl, fun _ => by kernel_rfl, fun _ _ => by kernel_rfl⟩
theorem tTurn (a : Option Addr) : Ifc 73 (.agg #[.pointer a]) (.agg #[.pointer a]) "hearsay/message.turn" 174 := ⟨fun _ => by kernel_rfl, fun _ => by kernel_rfl, fun _ _ => by kernel_rfl⟩
section
variable {w0 w : World} {b B g : Nat} {x : Mx} {s : Rst}
set_option maxRecDepth 100000 in
theorem tkRoot_any (h : TK 109 w0 b B g x s w) :
    Calls Tryz.prog 171 #[.agg #[.pointer (some ⟨b, 0, none⟩)], .pointer (some ⟨g, 6, none⟩)] w fun r w' => r = .returned (.tuple #[]) ∧ TK 109 w0 b B g { x with R := (dgM s.1 s.2).1 } (dgM s.1 s.2).2 w' := by
  have hg1 : Gr w (w.alloc (.cells #[.pointer (some ⟨b, 0, none⟩)] 73)) := (Gr.rfl' w).al _
  have HT := Lib.hid (h.more hg1)
  have HP := World.alloc_heap_new w (.cells #[.pointer (some ⟨b, 0, none⟩)] 73)
  have cp : (w.alloc (.cells #[.pointer (some ⟨b, 0, none⟩)] 73)).cell? ⟨w.heap.size, 0, none⟩ = some (.pointer (some ⟨b, 0, none⟩)) := by
    simp only [World.cell?, HP]; rfl
  clear h HP hg1
  generalize hW1 : w.alloc (.cells #[.pointer (some ⟨b, 0, none⟩)] 73) = W1 at HT cp
  have HD := Lib.hid (dDigest_any b s.1 s.2 W1 HT.out.rd HT.out.sz)
  have HDL := Lib.hid (dgM_len s.1 s.2)
  have HSZ := Lib.hid (dgM_szM s.1 s.2)
  obtain ⟨D, s', hd⟩ : ∃ D s', dgM s.1 s.2 = (D, s') := ⟨_, _, rfl⟩
  simp only [hd] at HD HDL HSZ ⊢
  clear hd
  go_enter Tryz.func171, Tryz.ntmps171
  go_wp2_with fail
  refine (HD.out).mono ?_
  rintro r w2 ⟨rfl, h2, m2⟩
  have HT2 := Lib.hid (HT.out.take (s' := s') h2 HSZ.out m2)
  clear h2 m2 HD HT cp hW1
  go_wp2_with (first
    | ((with_reducible refine at_st 33 (.tmp 8) (.tmp 7) ?_); refine wpList_store_mid rfl 33 _ _ rfl g 6 (digC D) rfl rfl (HT2.out.there D HDL.out) (by rw [digC_size, HDL.out]; exact sizeDig) (digC_one D) ?_))
  go_end0
  exact ⟨rfl, HT2.out.setR D HDL.out⟩
set_option maxRecDepth 100000 in
theorem tkPath_any (h : TK 109 w0 b B g x s w) :
    Calls Tryz.prog 170 #[.agg #[.pointer (some ⟨b, 0, none⟩)], .pointer (some ⟨g, 5, none⟩)] w fun r w' => r = .returned (.tuple #[]) ∧ TK 109 w0 b B g { x with Pa := (txtM 51 s.1 s.2).1 } (txtM 51 s.1 s.2).2 w' := by
  have hg1 : Gr w (w.alloc (.cells #[.pointer (some ⟨b, 0, none⟩)] 73)) := (Gr.rfl' w).al _
  have HT := Lib.hid (h.more hg1)
  have HP := World.alloc_heap_new w (.cells #[.pointer (some ⟨b, 0, none⟩)] 73)
  have cp : (w.alloc (.cells #[.pointer (some ⟨b, 0, none⟩)] 73)).cell? ⟨w.heap.size, 0, none⟩ = some (.pointer (some ⟨b, 0, none⟩)) := by
    simp only [World.cell?, HP]; rfl
  clear h HP hg1
  generalize hW1 : w.alloc (.cells #[.pointer (some ⟨b, 0, none⟩)] 73) = W1 at HT cp
  have HD := Lib.hid (dText_any b 51 s.1 s.2 W1 HT.out.rd HT.out.sz)
  have HTS := Lib.hid (Nat.le_trans (txtM_tszR 51 s.1 s.2) HT.out.sz)
  have HSZ := Lib.hid (txtM_szR 51 s.1 s.2)
  obtain ⟨p, s', hd⟩ : ∃ p s', txtM 51 s.1 s.2 = (p, s') := ⟨_, _, rfl⟩
  simp only [hd] at HD HTS HSZ ⊢
  clear hd
  go_enter Tryz.func170, Tryz.ntmps170
  go_wp2_with fail
  refine (HD.out).mono ?_
  rintro r w2 ⟨rfl, h2, m2⟩
  have HT2 := Lib.hid (HT.out.take (s' := s') h2 HSZ.out m2)
  have HA := mxAt HT2.out.ms.lies HT2.out.ms.dig
  clear h2 m2 HD HT cp hW1
  have c5 := HA.c5
  have f5 := mat_frz HT2.out.ms.lies 5
  clear HA
  go_wp2
  go_end0
  exact ⟨rfl, HT2.out.setPa p HTS.out⟩
set_option maxRecDepth 100000 in
theorem tkText_any (h : TK 109 w0 b B g x s w) :
    Calls Tryz.prog 173 #[.agg #[.pointer (some ⟨b, 0, none⟩)], .pointer (some ⟨g, 40, none⟩)] w fun r w' => r = .returned (.tuple #[]) ∧ TK 109 w0 b B g { x with Tx := (txtM 65536 s.1 s.2).1 } (txtM 65536 s.1 s.2).2 w' := by
  have hg1 : Gr w (w.alloc (.cells #[.pointer (some ⟨b, 0, none⟩)] 73)) := (Gr.rfl' w).al _
  have HT := Lib.hid (h.more hg1)
  have HP := World.alloc_heap_new w (.cells #[.pointer (some ⟨b, 0, none⟩)] 73)
  have cp : (w.alloc (.cells #[.pointer (some ⟨b, 0, none⟩)] 73)).cell? ⟨w.heap.size, 0, none⟩ = some (.pointer (some ⟨b, 0, none⟩)) := by
    simp only [World.cell?, HP]; rfl
  clear h HP hg1
  generalize hW1 : w.alloc (.cells #[.pointer (some ⟨b, 0, none⟩)] 73) = W1 at HT cp
  have HD := Lib.hid (dText_any b 65536 s.1 s.2 W1 HT.out.rd HT.out.sz)
  have HTS := Lib.hid (Nat.le_trans (txtM_tszR 65536 s.1 s.2) HT.out.sz)
  have HSZ := Lib.hid (txtM_szR 65536 s.1 s.2)
  obtain ⟨p, s', hd⟩ : ∃ p s', txtM 65536 s.1 s.2 = (p, s') := ⟨_, _, rfl⟩
  simp only [hd] at HD HTS HSZ ⊢
  clear hd
  go_enter Tryz.func173, Tryz.ntmps173
  go_wp2_with fail
  refine (HD.out).mono ?_
  rintro r w2 ⟨rfl, h2, m2⟩
  have HT2 := Lib.hid (HT.out.take (s' := s') h2 HSZ.out m2)
  have HA := mxAt HT2.out.ms.lies HT2.out.ms.dig
  clear h2 m2 HD HT cp hW1
  have c40 := HA.c40
  have f40 := mat_frz HT2.out.ms.lies 40
  clear HA
  go_wp2
  go_end0
  exact ⟨rfl, HT2.out.setTx p HTS.out⟩
set_option maxRecDepth 100000 in
theorem tkTurn_any (h : TK 109 w0 b B g x s w) :
    Calls Tryz.prog 174 #[.agg #[.pointer (some ⟨b, 0, none⟩)], .pointer (some ⟨g, 4, none⟩)] w fun r w' => r = .returned (.tuple #[]) ∧ TK 109 w0 b B g { x with Tn := (flgM s.1 s.2).1 } (flgM s.1 s.2).2 w' := by
  have hg1 : Gr w (w.alloc (.cells #[.pointer (some ⟨b, 0, none⟩)] 73)) := (Gr.rfl' w).al _
  have HT := Lib.hid (h.more hg1)
  have HP := World.alloc_heap_new w (.cells #[.pointer (some ⟨b, 0, none⟩)] 73)
  have cp : (w.alloc (.cells #[.pointer (some ⟨b, 0, none⟩)] 73)).cell? ⟨w.heap.size, 0, none⟩ = some (.pointer (some ⟨b, 0, none⟩)) := by
    simp only [World.cell?, HP]; rfl
  clear h HP hg1
  generalize hW1 : w.alloc (.cells #[.pointer (some ⟨b, 0, none⟩)] 73) = W1 at HT cp
  have HD := Lib.hid (dFlag_any b s.1 s.2 W1 HT.out.rd HT.out.sz)
  have HSZ := Lib.hid (flgM_szR s.1 s.2)
  obtain ⟨p, s', hd⟩ : ∃ p s', flgM s.1 s.2 = (p, s') := ⟨_, _, rfl⟩
  simp only [hd] at HD HSZ ⊢
  clear hd
  go_enter Tryz.func174, Tryz.ntmps174
  go_wp2_with fail
  refine (HD.out).mono ?_
  rintro r w2 ⟨rfl, h2, m2⟩
  have HT2 := Lib.hid (HT.out.take (s' := s') h2 HSZ.out m2)
  have HA := mxAt HT2.out.ms.lies HT2.out.ms.dig
  clear h2 m2 HD HT cp hW1
  have c4 := HA.c4
  have f4 := mat_frz HT2.out.ms.lies 4
  clear HA
  go_wp2
  go_end0
  exact ⟨rfl, HT2.out.setTn p⟩
set_option maxRecDepth 100000 in
theorem tkCtx_any (h : TK 109 w0 b B g x s w) (hr : x.rA = none) :
    Calls Tryz.prog 169 #[.agg #[.pointer (some ⟨b, 0, none⟩)], .pointer (some ⟨g, 38, none⟩)] w fun r w' => r = .returned (.tuple #[]) ∧ ∃ A c, TK 109 w0 b B g { x with cA := A, cl := (vecM s).1, cc := c } (vecM s).2 w' := by
  have HRN := Lib.hid hr
  clear hr
  have hg1 : Gr w (w.alloc (.cells #[.pointer (some ⟨b, 0, none⟩)] 73)) := (Gr.rfl' w).al _
  have HT := Lib.hid (h.more hg1)
  have HP := World.alloc_heap_new w (.cells #[.pointer (some ⟨b, 0, none⟩)] 73)
  have cp : (w.alloc (.cells #[.pointer (some ⟨b, 0, none⟩)] 73)).cell? ⟨w.heap.size, 0, none⟩ = some (.pointer (some ⟨b, 0, none⟩)) := by
    simp only [World.cell?, HP]; rfl
  clear h HP hg1
  generalize hW1 : w.alloc (.cells #[.pointer (some ⟨b, 0, none⟩)] 73) = W1 at HT cp
  have HD := Lib.hid (TakeVec_any b s.1 s.2 W1 HT.out.rd HT.out.sz)
  have HSZ := Lib.hid (vecM_sz s)
  have hse : (s.1, s.2) = s := rfl
  obtain ⟨l, s', hd⟩ : ∃ l s', vecM s = (l, s') := ⟨_, _, rfl⟩
  simp only [hd, hse] at HD HSZ ⊢
  clear hd hse
  go_enter Tryz.func169, Tryz.ntmps169
  go_wp2_with fail
  refine (HD.out).mono ?_
  rintro r w2 ⟨⟨v, rfl, ho⟩, h2, m2⟩
  obtain ⟨A, c, rfl, k1, k2, k3⟩ := ho.newD
  have HT2 := Lib.hid (HT.out.take (s' := s') h2 HSZ.out m2)
  have HK := Lib.hid (And.intro k1 (And.intro k2 (fun D hD => Nat.le_trans HT.out.B (k3 D hD))))
  have HA := mxAt HT2.out.ms.lies HT2.out.ms.dig
  have c38 := HA.c38
  have f38 := mat_frz HT2.out.ms.lies 38
  clear HA h2 m2 HD HT cp hW1 ho k1 k2 k3
  go_wp2
  go_end0
  exact ⟨rfl, A, c, HT2.out.setC HK.out.2.1 HK.out.1 HK.out.2.2 HRN.out⟩
end
end Go.Proofs.YtfobnemocodomaaGreat
set_option linter.unusedVariables false
set_option linter.unusedSimpArgs false
set_option maxHeartbeats 4000000
namespace Go.Proofs.YtfobnemocodomaaGreat
open Go.RowKit Go.Shelf Go.Great

theorem rowsGoM_one (k : Nat) (l : List (List Dot)) {s : Rst} (h : s.2 = 0) : rowsGoM (k + 1) (l, s) = rowsGoM k (l ++ [(vecM s).1], (vecM s).2) := by
  conv => lhs; unfold rowsGoM
  rw [if_neg (by simpa using h)]
section
variable {t : TypeId} {w0 w : World} {b B g : Nat} {x : Mx} {s : Rst}
theorem TK.same (h : TK t w0 b B g x s w) : TK t w0 b B g { x with rA := x.rA, rs := x.rs, rc := x.rc } s w := h
end
def TKr (t : TypeId) (w0 : World) (b B g : Nat) (x : Mx) (s : Rst) (w : World) : Prop := ∃ (A : Option Addr) (rs : List DRow) (c : Nat), rs.map DRow.l = (rowsM s).1 ∧ TK t w0 b B g { x with rA := A, rs := rs, rc := c } (rowsM s).2 w
theorem app_slice {P : Program} {w w' : World} {o : Oper} {a : Act} (s x : Operand) (T ty : TypeId) (u v z : Value) (ho : o.op = .call { callee := .builtin .append, args := #[s, x], argTypes := #[T, T] }) (hty : o.type = ty) (hs : a.eval s = u) (hx : a.eval x = v)
    (hr : (Builtin.append_ #[T, T] ty #[u, v]).run P w = .ok z w') : (execOp a.eval o).run P w = .ok (.value z) w' := by
  subst hty
  unfold execOp
  simp only [ho, resolve, invoke, builtin, Sem.run_bind, Sem.run_pure, Result.andThen_ok, List.map_toArray, List.map_cons, List.map_nil, hs, hx, hr]
theorem anyT_lastStore {P : Program} {ops : Array Oper} {Q : Exit → Act → World → Prop} {md : Region.Mode} {S : World → Prop} {s : Nat} {o : Oper} {f : Nat} {listed : Array Bool} {a : Act} {w w' : World} (hr : Region.ready md ops listed = [s]) (hr' : Region.ready md ops (listed.setIfInBounds s true) = []) (ho : ops[s]? = some o) (hg : o.guard = none) (hd : o.dst = none)
    (he : (execOp a.eval o).run P w = .ok .skip w') (h : Q .normal a w') : anyT P md ops Q s S (f + 1) listed a w := by
  refine anyT_one hr ho hg ?_
  unfold Oper.wp
  rw [he, Oper.upon_skip, hd]
  exact ⟨fun h0 => absurd rfl h0, anyT_done hr' h f⟩
set_option maxRecDepth 100000 in
theorem tkRows_any {w0 w : World} {b B g : Nat} {x : Mx} {s : Rst} (h : TK 109 w0 b B g x s w) (hr : x.rA = none ∧ x.rs = [] ∧ x.rc = 0) :
    Calls Tryz.prog 172 #[.agg #[.pointer (some ⟨b, 0, none⟩)], .pointer (some ⟨g, 39, none⟩)] w fun r w' => r = .returned (.tuple #[]) ∧ TKr 109 w0 b B g x s w' := by
  have hg1 : Gr w (w.alloc (.cells #[.pointer (some ⟨b, 0, none⟩)] 73)) := (Gr.rfl' w).al _
  have HT := Lib.hid (h.more hg1)
  have HP := Lib.hid (World.alloc_heap_new w (.cells #[.pointer (some ⟨b, 0, none⟩)] 73))
  obtain ⟨pb, hpb⟩ : ∃ pb, w.heap.size = pb := ⟨_, rfl⟩
  have HNE : Hid (pb ≠ b ∧ pb ≠ g) := Lib.hid (by have := h.B; have := h.hb; have := h.hg; omega)
  have cp : (w.alloc (.cells #[.pointer (some ⟨b, 0, none⟩)] 73)).cell? ⟨w.heap.size, 0, none⟩ = some (.pointer (some ⟨b, 0, none⟩)) := by
    have hp := HP.out
    simp only [World.cell?, hp]; rfl
  have HR := Lib.hid hr
  clear h hr hg1
  generalize hW1 : w.alloc (.cells #[.pointer (some ⟨b, 0, none⟩)] 73) = W1 at HT cp HP
  rw [hpb] at cp
  have HPB := Lib.hid hpb
  have HN := Lib.hid (dNumber_any b s.1 s.2 64 W1 HT.out.rd HT.out.sz)
  have hrg := numM_rng (m := 64) (by decide) (by decide) s.1 s.2
  have HRM : Hid (rowsM s = rowsGoM (numM 64 s.1 s.2).1.toNat ([], (numM 64 s.1 s.2).2)) := Lib.hid rfl
  have HSZ := Lib.hid (numM_szR 64 s.1 s.2)
  obtain ⟨nI, s1, hn⟩ : ∃ nI s1, numM 64 s.1 s.2 = (nI, s1) := ⟨_, _, rfl⟩
  simp only [hn] at HN hrg HRM HSZ
  clear hn
  obtain ⟨n, rfl⟩ : ∃ n : Nat, nI = (n : Int) := ⟨nI.toNat, by omega⟩
  rw [Int.toNat_natCast] at HRM
  obtain ⟨_, hn64, hn0, _⟩ := hrg
  have hn64 : n ≤ 64 := by omega
  have HN0 : Hid (s1.2 ≠ 0 → n = 0) := Lib.hid (fun k => by have := hn0 k; omega)
  clear hn0
  go_enter Tryz.func172, Tryz.ntmps172
  go_wp2_with fail
  refine (HN.out).mono ?_
  rintro r w1 ⟨rfl, hs1, m1⟩
  have HT1 : Hid (TK 109 w0 b B g { x with rA := none, rs := [], rc := 0 } s1 w1) := Lib.hid (by
    have h1 := HT.out.take (s' := s1) hs1 HSZ.out m1
    obtain ⟨e1, e2, e3⟩ := HR.out
    have e : ({ x with rA := none, rs := [], rc := 0 } : Mx) = x := by rw [← e1, ← e2, ← e3]
    rw [e]; exact h1)
  have HP1 : Hid (w1.heap[pb]? = some (.cells #[.pointer (some ⟨b, 0, none⟩)] 73 (0, 0))) := Lib.hid (by
    have h1 := HP.out
    rw [hpb] at h1
    exact (m1.keep pb (Array.getElem?_eq_some_iff.1 h1).1 HNE.out.1).trans h1)
  clear hs1 m1 HN HT HP hW1 cp hpb HSZ
  go_wp2
  go_loopw [7] (fun i wr => ∃ (l : List DRow) (A : Option Addr) (c : Nat) (s2 : Rst), l.length ≤ n ∧ i = .int .i64 l.length ∧ Hid (l.length < n → s2.2 = 0) ∧ Hid (rowsGoM (n - l.length) (l.map DRow.l, s2) = rowsGoM n ([], s1)) ∧ Hid (TK 109 w0 b B g { x with rA := A, rs := l, rc := c } s2 wr) ∧ Hid (wr.heap[pb]? = some (.cells #[.pointer (some ⟨b, 0, none⟩)] 73 (0, 0)))) (fun i _ => n - (intOf i).toNat)
  case atStart => exact ⟨[], none, 0, s1, Nat.zero_le _, rfl, Lib.hid (fun k => Classical.byContradiction fun he => by have := HN0.out he; simp at k; omega), Lib.hid rfl, HT1, HP1⟩
  case round =>
    clear HT1 HP1 HN0
    obtain ⟨l, A, c, s2, hk, rfl, HE, HG, HT, HP⟩ := hrel
    have hpc : wr.cell? ⟨pb, 0, none⟩ = some (.pointer (some ⟨b, 0, none⟩)) := by
      have hp := HP.out
      simp only [World.cell?, hp]; rfl
    by_cases hlt : l.length < n
    · have hs0 := HE.out hlt
      have hki : (l.length : Int) < (n : Int) := by omega
      have hrg := HG.out
      rw [show n - l.length = n - (l.length + 1) + 1 by omega, rowsGoM_one _ _ hs0] at hrg
      have HV := Lib.hid (fun W (h : Sr 109 b s2.1 s2.2 W) => TakeVec_any b s2.1 s2.2 W h HT.out.sz)
      have HSZ := Lib.hid (vecM_sz s2)
      have hse : (s2.1, s2.2) = s2 := rfl
      obtain ⟨d, s3, hd⟩ : ∃ d s3, vecM s2 = (d, s3) := ⟨_, _, rfl⟩
      simp only [hse, hd] at HV HSZ hrg
      have HRG := Lib.hid hrg
      have HCP := Lib.hid hpc
      have HC39 := Lib.hid (mxAt HT.out.ms.lies HT.out.ms.dig).c39
      clear hse hd hrg hs0 HE HG hpc
      go_upto_region 3 with (fail)
      have hSS : wr.drew.cell? ⟨g, 39, none⟩ = some (.slice A l.length c) ∧ wr.drew.cell? ⟨pb, 0, none⟩ = some (.pointer (some ⟨b, 0, none⟩)) := ⟨HC39.out, HCP.out⟩
      refine region_T 10 (fun w' => w'.cell? ⟨g, 39, none⟩ = some (.slice A l.length c) ∧ w'.cell? ⟨pb, 0, none⟩ = some (.pointer (some ⟨b, 0, none⟩))) (by kernel_rfl) ?_
      refine anyT_take (i := 0) (v := ?_) (some 9) rfl rfl (by kernel_rfl) (fun _ _ _ h => h) (Or.inl ⟨by rfl, ?_⟩) hSS ?_
      rotate_left
      · intro w' hSw; go_simp; (try with_reducible rfl)
      simp only [Act.put, List.setIfInBounds_toArray, List.set_cons_zero, List.set_cons_succ]
      refine anyT_take (i := 1) (v := ?_) (some 10) rfl rfl (by kernel_rfl) (fun _ _ _ h => h) (Or.inl ⟨by rfl, ?_⟩) hSS ?_
      rotate_left
      · intro w' hSw; go_simp; (try with_reducible rfl)
      simp only [Act.put, List.setIfInBounds_toArray, List.set_cons_zero, List.set_cons_succ]
      refine anyT_take (i := 2) (v := ?_) (some 11) rfl rfl (by kernel_rfl) (fun _ _ _ h => h) (Or.inl ⟨by rfl, ?_⟩) hSS ?_
      rotate_left
      · intro w' hSw; go_simp; (try with_reducible rfl)
      simp only [Act.put, List.setIfInBounds_toArray, List.set_cons_zero, List.set_cons_succ]
      refine anyT_take (i := 3) (v := ?_) (some 12) rfl rfl (by kernel_rfl) (fun _ _ _ h => h) (Or.inl ⟨by rfl, ?_⟩) hSS ?_
      rotate_left
      · intro w' hSw; have c := hSw.1; go_simp; (try with_reducible rfl)
      simp only [Act.put, List.setIfInBounds_toArray, List.set_cons_zero, List.set_cons_succ]
      refine anyT_take (i := 4) (v := ?_) (some 13) rfl rfl (by kernel_rfl) (fun _ _ _ h => h) (Or.inl ⟨by rfl, ?_⟩) hSS ?_
      rotate_left
      · intro w' hSw; go_simp; (try with_reducible rfl)
      simp only [Act.put, List.setIfInBounds_toArray, List.set_cons_zero, List.set_cons_succ]
      refine anyT_take (i := 5) (v := ?_) (some 14) rfl rfl (by kernel_rfl) (fun _ _ _ h => h) (Or.inl ⟨by rfl, ?_⟩) hSS ?_
      rotate_left
      · intro w' hSw; have c := hSw.2; go_simp; (try with_reducible rfl)
      simp only [Act.put, List.setIfInBounds_toArray, List.set_cons_zero, List.set_cons_succ]
      have HTD := Lib.hid (HT.out.more ((Gr.rfl' wr).dr))
      refine anyT_call (i := 6) (some 15) 101 #[.pointer (some ⟨b, 0, none⟩)] (by kernel_rfl) rfl rfl rfl (by go_simp) ?_
      refine (HV.out wr.drew HTD.out.rd).mono ?_
      rintro r w2 ⟨⟨v, rfl, ho⟩, h2, m2⟩
      obtain ⟨A2, c2, rfl, k1, k2, k3⟩ := ho.newD
      have hS2 : w2.cell? ⟨g, 39, none⟩ = some (.slice A l.length c) ∧ w2.cell? ⟨pb, 0, none⟩ = some (.pointer (some ⟨b, 0, none⟩)) := ⟨rm_cell m2 HT.out.ne hSS.1, rm_cell m2 HNE.out.1 hSS.2⟩
      have HT2 := Lib.hid (HTD.out.take (s' := s3) h2 HSZ.out m2)
      have HP2 : Hid (w2.heap[pb]? = some (.cells #[.pointer (some ⟨b, 0, none⟩)] 73 (0, 0))) := Lib.hid ((m2.keep pb (Array.getElem?_eq_some_iff.1 HP.out).1 HNE.out.1).trans HP.out)
      have HPU := Lib.hid (HT2.out.push (d := ⟨A2, c2, d⟩) k2 k1 (fun D hD => Nat.le_trans HTD.out.B (k3 D hD)) (fun D hD hp D2 hD2 => by
        have e1 := k3 D2 hD2
        obtain ⟨ad, ea, _⟩ := HT.out.ms.rows.rows
        rcases HT.out.ms.rows.own with ⟨e0, _⟩ | ⟨g2, _, o2, _⟩
        · have := (Value.slice.inj e0).1
          have hD' : A = some D := hD
          rw [show A = none from this] at hD'; cases hD'
        · obtain ⟨c9, e9, _⟩ := o2.shape
          have e8 : A = some ⟨g2, 0, none⟩ := (Value.slice.inj e9).1
          have hD' : A = some D := hD
          rw [e8] at hD'; cases hD'
          have := o2.lt
          have h5 : wr.drew.heap.size = wr.heap.size := rfl
          show D2.block ≠ g2
          omega) (by show l.length ≤ _; omega) 35)
      refine ⟨_, rfl, fun _ => hS2, ?_⟩
      simp only [Act.put, List.setIfInBounds_toArray, List.set_cons_zero, List.set_cons_succ]
      clear h2 m2 ho k1 k2 k3 HV HTD HT HP HCP HC39
      have hSA : (w2.alloc (.cells #[.slice A2 d.length c2] 34)).cell? ⟨g, 39, none⟩ = some (.slice A l.length c) ∧ (w2.alloc (.cells #[.slice A2 d.length c2] 34)).cell? ⟨pb, 0, none⟩ = some (.pointer (some ⟨b, 0, none⟩)) := ⟨((Gr.rfl' w2).al _).cell hS2.1, ((Gr.rfl' w2).al _).cell hS2.2⟩
      refine anyT_its (i := 7) (by kernel_rfl) (wpOp_val (w' := w2.alloc (.cells #[.slice A2 d.length c2] 34)) (some 16) (.slice (some ⟨w2.heap.size, 0, none⟩) 1 1) rfl (by rfl) rfl (by go_simp) ⟨fun _ => hSA, ?_⟩)
      simp only [Act.put, List.setIfInBounds_toArray, List.set_cons_zero, List.set_cons_succ]
      obtain ⟨⟨A3, c3⟩, w3, hrun, ⟨q1, q2⟩, htk, hkeep⟩ := HPU.out
      have hrun' : (Builtin.append_ #[35, 35] 35 #[.slice A l.length c, .slice (some ⟨w2.heap.size, 0, none⟩) 1 1]).run Tryz.prog (w2.alloc (.cells #[.slice A2 d.length c2] 34)) = .ok (.slice A3 (l ++ [(⟨A2, c2, d⟩ : DRow)]).length c3) w3 := hrun
      have HTK := Lib.hid htk
      have hp3 := hkeep pb _ _ HP2.out (by decide)
      have HP3 := Lib.hid hp3
      have hS3 : w3.cell? ⟨g, 39, none⟩ = some (.slice A l.length c) ∧ w3.cell? ⟨pb, 0, none⟩ = some (.pointer (some ⟨b, 0, none⟩)) := ⟨q1, by simp only [World.cell?, hp3]; rfl⟩
      refine anyT_its (i := 8) (by kernel_rfl) (wpOp_val (w' := w3) (some 17) (.slice A3 (l ++ [(⟨A2, c2, d⟩ : DRow)]).length c3) rfl (by rfl) rfl (app_slice (.tmp 12) (.tmp 16) 35 35 (.slice A l.length c) (.slice (some ⟨w2.heap.size, 0, none⟩) 1 1) _ rfl rfl rfl rfl hrun') ⟨fun _ => hS3, ?_⟩)
      simp only [Act.put, List.setIfInBounds_toArray, List.set_cons_zero, List.set_cons_succ]
      replace hSS := hS3
      refine anyT_take (i := 9) (v := ?_) (some 18) rfl rfl (by kernel_rfl) (fun _ _ _ h => h) (Or.inl ⟨by rfl, ?_⟩) hSS ?_
      rotate_left
      · intro w' hSw; go_simp; (try with_reducible rfl)
      simp only [Act.put, List.setIfInBounds_toArray, List.set_cons_zero, List.set_cons_succ]
      clear hrun hrun' htk hkeep hp3 hSA hS2 HPU HP2 HT2
      obtain ⟨l2, hl2⟩ : ∃ l2, l ++ [(⟨A2, c2, d⟩ : DRow)] = l2 := ⟨_, rfl⟩
      have HLL : Hid (l2.length = l.length + 1) := Lib.hid (by rw [← hl2]; simp)
      have HLM : Hid (l2.map DRow.l = l.map DRow.l ++ [d]) := Lib.hid (by rw [← hl2, List.map_append]; rfl)
      simp only [hl2] at HTK ⊢
      clear hl2
      have hst : w3.cell? ⟨g, 39, none⟩ = some (.slice A l.length c) ∧ w3.frozen? ⟨g, 39, none⟩ = false := ⟨q1, q2⟩
      refine anyT_lastStore (w' := w3.setCell ⟨g, 39, none⟩ (.slice A3 l2.length c3)) (by kernel_rfl) (by kernel_rfl) rfl rfl rfl (by go_simp) ?_
      clear q1 q2 hst hS3 hSS
      have HP4 : Hid ((w3.setCell ⟨g, 39, none⟩ (.slice A3 l2.length c3)).heap[pb]? = some (.cells #[.pointer (some ⟨b, 0, none⟩)] 73 (0, 0))) := Lib.hid (((rm_set g 39 _ w3).keep pb (Array.getElem?_eq_some_iff.1 HP3.out).1 HNE.out.2).trans HP3.out)
      generalize w3.setCell ⟨g, 39, none⟩ (.slice A3 l2.length c3) = w4 at HTK HP4 ⊢
      have hpc : w4.cell? ⟨pb, 0, none⟩ = some (.pointer (some ⟨b, 0, none⟩)) := by
        have hp := HP4.out
        simp only [World.cell?, hp]; rfl
      clear HP3
      go_wp2_with fail
      refine (Err_any b s3.1 s3.2 w4 HTK.out.rd).mono ?_
      rintro r w5 ⟨rfl, rfl⟩
      by_cases he3 : s3.2 = 0
      · have HE3 := Lib.hid he3
        rw [he3]
        clear he3 hpc
        go_wp2
        go_roundw
        case rel => exact ⟨l2, A3, c3, s3, by have := HLL.out; omega, by have := HLL.out; rw [this]; go_num, Lib.hid (fun _ => HE3.out), Lib.hid (by rw [HLL.out, HLM.out]; exact HRG.out), HTK, HP4⟩
        case measure => simp [intOf]; omega
      · have hb3 : (s3.2 != 0) = true := by simpa using he3
        go_wp2
        (try simp only [Exit.inBlock, Exit.then])
        refine bodyPost_ret (results_none rfl _ _ _) rfl ?_
        have hx : rowsM s = (l2.map DRow.l, s3) := by rw [HRM.out, ← HRG.out, HLM.out, rowsGoM_err _ _ he3]
        exact ⟨rfl, A3, l2, c3, by rw [hx], by rw [hx]; exact HTK.out⟩
    · have hkn : l.length = n := by omega
      have hki : ¬ ((l.length : Int) < (n : Int)) := by omega
      have hx : rowsM s = (l.map DRow.l, s2) := by
        have hrg := HG.out
        rw [hkn, Nat.sub_self] at hrg
        rw [HRM.out, ← hrg]; rfl
      have HX := Lib.hid hx
      clear hx
      go_wp2
      go_end0
      exact ⟨rfl, A, l, c, by rw [HX.out], by rw [HX.out]; exact HT.out⟩
end Go.Proofs.YtfobnemocodomaaGreat
set_option linter.unusedVariables false
set_option linter.unusedSimpArgs false
set_option maxHeartbeats 4000000
namespace Go.Proofs.YtfobnemocodomaaGreat
open Go.RowKit Go.Shelf Go.Great

/-- the fields taken, by kind -/
def TKo (t : TypeId) (w0 : World) (b B g : Nat) (x : Mx) (s : Rst) (w : World) : Prop := ∃ y, mst y = (rdBody (mst x) s).1 ∧ TK t w0 b B g y (rdBody (mst x) s).2 w
theorem map_mkD (rs : List DRow) : (rs.map fun d => mkD d.l) = (rs.map DRow.l).map mkD := by rw [List.map_map]; rfl
section
variable {t : TypeId} {w0 w : World} {b B g : Nat} {x : Mx} {s : Rst}
theorem tko_of {y : Mx} {s2 : Rst} (e : rdBody (mst x) s = (mst y, s2)) (h : TK t w0 b B g y s2 w) : TKo t w0 b B g x s w := ⟨y, by rw [e], by rw [e]; exact h⟩
theorem tko2 (k : x.K = 2) {A A2 : Option Addr} {rs : List DRow} {c c2 : Nat} (hm : rs.map DRow.l = (rowsM (vecM (dgM s.1 s.2).2).2).1)
    (h : TK t w0 b B g { ({ ({ x with R := (dgM s.1 s.2).1 } : Mx) with cA := A, cl := (vecM (dgM s.1 s.2).2).1, cc := c } : Mx) with rA := A2, rs := rs, rc := c2 } (rowsM (vecM (dgM s.1 s.2).2).2).2 w) : TKo t w0 b B g x s w := by
  refine tko_of ?_ h
  unfold rdBody
  rw [if_pos (show (mst x).K = 2 from k), ← hm, ← map_mkD]
  rfl
theorem tko3 (k : x.K = 3) (h : TK t w0 b B g { ({ x with R := (dgM s.1 s.2).1 } : Mx) with Pa := (txtM 51 (dgM s.1 s.2).2.1 (dgM s.1 s.2).2.2).1 } (txtM 51 (dgM s.1 s.2).2.1 (dgM s.1 s.2).2.2).2 w) : TKo t w0 b B g x s w := by
  refine tko_of ?_ h
  unfold rdBody
  rw [if_neg (show ¬ (mst x).K = 2 by show ¬ x.K = 2; omega), if_pos (show (mst x).K = 3 from k)]
  rfl
theorem tko4 (k : x.K = 4) (h : TK t w0 b B g { ({ x with Pa := (txtM 51 s.1 s.2).1 } : Mx) with Tx := (txtM 65536 (txtM 51 s.1 s.2).2.1 (txtM 51 s.1 s.2).2.2).1 } (txtM 65536 (txtM 51 s.1 s.2).2.1 (txtM 51 s.1 s.2).2.2).2 w) : TKo t w0 b B g x s w := by
  refine tko_of ?_ h
  unfold rdBody
  rw [if_neg (show ¬ (mst x).K = 2 by show ¬ x.K = 2; omega), if_neg (show ¬ (mst x).K = 3 by show ¬ x.K = 3; omega), if_pos (show (mst x).K = 4 from k)]
  rfl
theorem tko6 (k : x.K = 6) (h : TK t w0 b B g { x with Tn := (flgM s.1 s.2).1 } (flgM s.1 s.2).2 w) : TKo t w0 b B g x s w := by
  refine tko_of ?_ h
  unfold rdBody
  rw [if_neg (show ¬ (mst x).K = 2 by show ¬ x.K = 2; omega), if_neg (show ¬ (mst x).K = 3 by show ¬ x.K = 3; omega), if_neg (show ¬ (mst x).K = 4 by show ¬ x.K = 4; omega), if_pos (show (mst x).K = 6 from k)]
  rfl
theorem tkoN (k2 : x.K ≠ 2) (k3 : x.K ≠ 3) (k4 : x.K ≠ 4) (k6 : x.K ≠ 6) (h : TK t w0 b B g x s w) : TKo t w0 b B g x s w := by
  have e : rdBody (mst x) s = (mst x, s) := by
    unfold rdBody
    rw [if_neg (show ¬ (mst x).K = 2 from k2), if_neg (show ¬ (mst x).K = 3 from k3), if_neg (show ¬ (mst x).K = 4 from k4), if_neg (show ¬ (mst x).K = 6 from k6)]
  exact ⟨x, by rw [e], by rw [e]; exact h⟩
end
theorem ownT_any {w0 w : World} {b B g : Nat} {x : Mx} {s : Rst} (h : TK 109 w0 b B g x s w) (hr : x.rA = none ∧ x.rs = [] ∧ x.rc = 0) :
    Calls Tryz.prog 45 #[.pointer (some ⟨g, 0, none⟩), .iface 73 (.agg #[.pointer (some ⟨b, 0, none⟩)])] w fun r w' => r = .returned (.tuple #[]) ∧ TKo 109 w0 b B g x s w' := by
  have c0 := (mxAt h.ms.lies h.ms.dig).c0
  have d1 : ∀ {w : World}, Gr w w.drew := fun {w} => (Gr.rfl' w).dr
  by_cases k2 : x.K = 2
  · rw [k2] at c0
    refine own2_any (tRoot _) (tCtx _) (tRows _) g w _ c0 ?_
    refine (tkRoot_any (h.more d1)).mono ?_
    rintro r w1 ⟨rfl, h1⟩
    refine ⟨rfl, ?_⟩
    refine (tkCtx_any (h1.more d1) hr.1).mono ?_
    rintro r w2 ⟨rfl, A, c, h2⟩
    refine ⟨rfl, ?_⟩
    refine (tkRows_any (h2.more d1) hr).mono ?_
    rintro r w3 ⟨rfl, A2, rs, c2, hm, h3⟩
    exact ⟨rfl, tko2 k2 hm h3⟩
  by_cases k3 : x.K = 3
  · rw [k3] at c0
    refine own3_any (tRoot _) (tPath _) g w _ c0 ?_
    refine (tkRoot_any (h.more d1)).mono ?_
    rintro r w1 ⟨rfl, h1⟩
    refine ⟨rfl, ?_⟩
    refine (tkPath_any (h1.more d1)).mono ?_
    rintro r w2 ⟨rfl, h2⟩
    exact ⟨rfl, tko3 k3 h2⟩
  by_cases k4 : x.K = 4
  · rw [k4] at c0
    refine own4_any (tPath _) (tText _) g w _ c0 ?_
    refine (tkPath_any (h.more d1)).mono ?_
    rintro r w1 ⟨rfl, h1⟩
    refine ⟨rfl, ?_⟩
    refine (tkText_any (h1.more d1)).mono ?_
    rintro r w2 ⟨rfl, h2⟩
    exact ⟨rfl, tko4 k4 h2⟩
  by_cases k6 : x.K = 6
  · rw [k6] at c0
    refine own6_any (tTurn _) g w _ c0 ?_
    refine (tkTurn_any (h.more d1)).mono ?_
    rintro r w1 ⟨rfl, h1⟩
    exact ⟨rfl, tko6 k6 h1⟩
  refine (ownNone_any x.K g _ w c0 ⟨k2, k3, k4, k6⟩).mono ?_
  rintro r w1 ⟨rfl, rfl⟩
  exact ⟨rfl, tkoN k2 k3 k4 k6 h⟩
/-- what a reading of a message comes to -/
def ReadR (S : ByteArray) (w : World) (r : Ending) (w' : World) : Prop := ∃ y e, r = .returned (.tuple #[.agg y.cells, .int .i64 e]) ∧ (mst y, e) = readM S ∧ MxOk w' y ∧ Gr w w'
/-- the same, and what it points to is new -/
def ReadN (S : ByteArray) (w : World) (r : Ending) (w' : World) : Prop := ∃ y e, r = .returned (.tuple #[.agg y.cells, .int .i64 e]) ∧ (mst y, e) = readM S ∧ MxOk w' y ∧ Gr w w' ∧ ∀ W : World, (∀ j, w.heap.size ≤ j → j < w'.heap.size → W.heap[j]? = w'.heap[j]?) → MxOk W y
theorem ReadN.toR {S : ByteArray} {w w' : World} {r : Ending} (h : ReadN S w r w') : ReadR S w r w' := by
  obtain ⟨y, e, h1, h2, h3, h4, _⟩ := h
  exact ⟨y, e, h1, h2, h3, h4⟩
theorem zMx_ok (w : World) : MxOk w zMx := ⟨Z32L_len, Dots.nil _ _, ⟨by simp [zMx], fun i hi => absurd hi (by simp [zMx])⟩, by decide, by decide⟩
theorem builtK (k : Int) : Tryz.prog.built 37 [(0, .int .i64 k)] = some ({ zMx with K := k } : Mx).cells := by kernel_rfl
theorem builtZ : Tryz.prog.built 37 [] = some zMx.cells := by kernel_rfl
theorem buildK {ops : Array Oper} {rest : List Oper} {o : Oper} {a : Act} {w : World} {Q : Exit → Act → World → Prop} (k : Int) (x : Operand) (hg : o.guard = none) (ho : o.op = .build 37 #[(0, x)]) (hx : a.eval x = .int .i64 k)
    (h : wpList Tryz.prog ops Q rest (a.put o.dst (.agg ({ zMx with K := k } : Mx).cells)) w) : wpList Tryz.prog ops Q (o :: rest) a w := by
  have e : ((#[(0, x)] : Array (Nat × Operand)).map fun (i, y) => (i, a.eval y)).toList = [(0, .int .i64 k)] := by simp [hx]
  refine wpList_build hg 37 _ ho (by rw [e, builtK]; rfl) ?_
  rw [e, builtK]; exact h
theorem buildZM {ops : Array Oper} {rest : List Oper} {o : Oper} {a : Act} {w : World} {Q : Exit → Act → World → Prop} (hg : o.guard = none) (ho : o.op = .build 37 #[])
    (h : wpList Tryz.prog ops Q rest (a.put o.dst (.agg zMx.cells)) w) : wpList Tryz.prog ops Q (o :: rest) a w := by
  have e : ((#[] : Array (Nat × Operand)).map fun (i, y) => (i, a.eval y)).toList = [] := by simp
  refine wpList_build hg 37 _ ho (by rw [e, builtZ]; rfl) ?_
  rw [e, builtZ]; exact h
theorem storeMR {ops : Array Oper} {rest : List Oper} {o : Oper} {a : Act} {w : World} {Q : Exit → Act → World → Prop} (c c0 : Mx) (hc : c.R.length = 32) (hc0 : c0.R.length = 32) (g : Nat) (hg : o.guard = none) (x y : Operand) (ho : o.op = .store 37 x y) (hd : o.dst = none)
    (hx : a.eval x = .pointer (some ⟨g, 0, none⟩)) (hy : a.eval y = .agg c.cells) (h0 : MAt w g c0)
    (h : ∀ wt : World, MAt wt g c → Rm g w wt → wpList Tryz.prog ops Q rest a wt) : wpList Tryz.prog ops Q (o :: rest) a w := by
  refine wpList_store_row hg 37 x y ho g c.cells hx hy 37 c0.cells h0 (by rw [Mx.size c hc]; exact sizeM) (by rw [Mx.size c hc, Mx.size c0 hc0]) (mOne c) ?_
  rw [hd]
  refine h _ ?_ ⟨rfl, rfl, rfl, by show w.heap.size ≤ (w.heap.modify _ _).size; rw [Array.size_modify]; exact Nat.le_refl _, fun k hk hne => ?_⟩
  · show (w.heap.modify _ _)[g]? = _
    simp [Array.getElem?_modify, show w.heap[g]? = _ from h0]
  · show (w.heap.modify _ _)[k]? = _
    rw [Array.getElem?_modify, if_neg (Ne.symm hne)]
theorem ldMsg {W : World} {g : Nat} {y : Mx} (h : MAt W g y) (hy : y.R.length = 32) : (loadVar 37 ⟨g, 0, none⟩).run Tryz.prog W = .ok (.agg y.cells) W :=
  run_loadVar_row _ _ 37 37 _ (0, 0) _ h Tryz.underlying37 rfl (by rw [Mx.size y hy]; exact sizeM)
theorem txtM_le (m : Int) (hm : 0 ≤ m) (S : ByteArray) (e : Int) : ((txtM m S e).1.size : Int) ≤ m := by
  by_cases he : e = 0
  · subst he
    unfold txtM
    rw [if_neg (by simp)]
    by_cases h : (txtP m S).2.2 = 0
    · have h2 : (txtM m S 0).2.2 = 0 := by unfold txtM; rw [if_neg (by simp), if_neg (by simpa using h)]
      have := (can_txt h2).2
      unfold txtM at this
      rw [if_neg (by simp), if_neg (by simpa using h)] at this
      rw [if_neg (by simpa using h)]
      exact this
    · rw [if_pos h]; exact hm
  · rw [txtM_err m he]; exact hm
theorem rdAll_pa (S : ByteArray) : (rdAll S).1.Pa.size ≤ 51 := by
  have h0 : (rdHead S).1.Pa.size ≤ 51 := by show (⟨#[]⟩ : ByteArray).size ≤ 51; decide
  unfold rdAll rdBody
  split
  · exact h0
  · split
    · have := txtM_le 51 (by decide) (dgM (rdHead S).2.1 (rdHead S).2.2).2.1 (dgM (rdHead S).2.1 (rdHead S).2.2).2.2
      show (txtM 51 _ _).1.size ≤ 51
      omega
    · split
      · have := txtM_le 51 (by decide) (rdHead S).2.1 (rdHead S).2.2
        show (txtM 51 _ _).1.size ≤ 51
        omega
      · split
        · exact h0
        · exact h0
end Go.Proofs.YtfobnemocodomaaGreat
set_option linter.unusedVariables false
set_option linter.unusedSimpArgs false
set_option maxHeartbeats 4000000
namespace Go.Proofs.YtfobnemocodomaaGreat
open Go.RowKit Go.Shelf Go.Great

theorem rdHead_of {S : ByteArray} {k : Int} {s1 : Rst} {f : Int} {s2 : Rst} {t : Int} {s3 : Rst} {d : Int} {s4 : Rst} (hk : rdKind S = (k, s1)) (hf : numM 63 s1.1 s1.2 = (f, s2)) (ht : numM 63 s2.1 s2.2 = (t, s3)) (hd : numM 1048576 s3.1 s3.2 = (d, s4)) :
    rdHead S = ({ zMx with K := k, F := f, To := t, Sd := d }, s4) := by
  unfold rdHead num2
  simp only [hk, hf, ht, hd]
theorem readM_err {S : ByteArray} (h : rdDone (rdAll S).2.1 (rdAll S).2.2 ≠ 0) : readM S = (zMx, rdDone (rdAll S).2.1 (rdAll S).2.2) := by unfold readM; rw [if_pos h]
theorem readM_bad {S : ByteArray} (h0 : rdDone (rdAll S).2.1 (rdAll S).2.2 = 0) (h : mChk (rdAll S).1 ≠ 0) : readM S = (zMx, mChk (rdAll S).1) := by unfold readM; rw [if_neg (by simpa using h0), if_pos h]
theorem readM_ok {S : ByteArray} (h0 : rdDone (rdAll S).2.1 (rdAll S).2.2 = 0) (h : mChk (rdAll S).1 = 0) : readM S = ((rdAll S).1, 0) := by unfold readM; rw [if_neg (by simpa using h0), if_neg (by simpa using h)]
set_option maxRecDepth 100000 in
theorem mReadN_any (S : ByteArray) (w : World) (hS : S.size ≤ 9223372036854775807) (hP : Pt.Mx w) :
    Calls Tryz.prog 14 #[.string S] w fun r w' => ReadN S w r w' := by
  obtain ⟨W0, hW0⟩ : ∃ W0, w.alloc (.cells zMx.cells 37) = W0 := ⟨_, rfl⟩
  have HR0 : Hid (MAt W0 w.heap.size zMx) := Lib.hid (by rw [← hW0]; exact World.alloc_heap_new w _)
  have HG0 : Hid (Gr w W0) := Lib.hid (by rw [← hW0]; exact (Gr.rfl' w).al _)
  have HPP := Lib.hid (hP.gr HG0.out)
  have HS := Lib.hid hS
  have HNW := Lib.hid (New_any S W0)
  have HRN : Hid (Sr 109 W0.heap.size S 0 (W0.alloc (.cells #[.string S, .int .i64 0] 109))) := Lib.hid (Sr.made W0 _ S)
  have HGN : Hid (Gr W0 (W0.alloc (.cells #[.string S, .int .i64 0] 109))) := Lib.hid ((Gr.rfl' W0).al _)
  obtain ⟨b, hb⟩ : ∃ b, W0.heap.size = b := ⟨_, rfl⟩
  have HBB : Hid (W0.heap.size = b ∧ w.heap.size < b) := Lib.hid ⟨hb, by have := (Array.getElem?_eq_some_iff.1 HR0.out).1; omega⟩
  rw [hb] at HNW HRN
  clear hP hS hb
  obtain ⟨W1, hW1⟩ : ∃ W1, W0.alloc (.cells #[.string S, .int .i64 0] 109) = W1 := ⟨_, rfl⟩
  rw [hW1] at HNW HRN HGN
  clear hW1
  have HN0 := Lib.hid (dNumber_any b S 0 1073741824 W1 HRN.out HS.out)
  have HZ0 := Lib.hid (numM_szR 1073741824 S 0)
  obtain ⟨k, Sa, e0, hk⟩ : ∃ k Sa e0, numM 1073741824 S 0 = (k, Sa, e0) := ⟨_, _, _, rfl⟩
  have HKD : Hid (rdKind S = (k, Sa, if e0 = 0 then (if k < 1 ∨ 6 < k then 15 else 0) else e0)) := Lib.hid (by unfold rdKind; simp only [hk])
  simp only [hk] at HN0 HZ0
  clear hk
  go_enter Tryz.func14, Tryz.ntmps14
  go_wp2_with (first
    | refine allocM rfl rfl ?_)
  clear hW0
  refine (HNW.out).mono ?_
  rintro r wn ⟨rfl, rfl⟩
  go_wp2_with fail
  refine (HN0.out).mono ?_
  rintro r w1 ⟨rfl, h1, m1⟩
  have HS1 := Lib.hid h1
  have HG1 := Lib.hid (m1.below HGN.out (Nat.le_of_eq HBB.out.1))
  clear h1 m1 HN0 HNW HRN HGN
  go_upto_region 3 with (first
    | refine buildK k _ rfl rfl rfl ?_
    | refine allocM rfl rfl ?_
    | (refine storeM ({ zMx with K := k } : Mx) Z32L_len rfl (.tmp 5) _ rfl rfl rfl rfl ?_; intro w2 hx1 hg1; have HX1 := Lib.hid hx1; have HX2 := Lib.hid hg1; clear hx1 hg1))
  obtain ⟨g, hg⟩ : ∃ g, w1.heap.size = g := ⟨_, rfl⟩
  rw [hg] at HX1 ⊢
  have HGB : Hid (b < g) := Lib.hid (by have := (Array.getElem?_eq_some_iff.1 HS1.out).1; omega)
  obtain ⟨B, hB⟩ : ∃ B, g + 1 = B := ⟨_, rfl⟩
  have HT : Hid (TK 109 W0 b B g { zMx with K := k } (Sa, e0) w2) := Lib.hid (by
    have hl := (Array.getElem?_eq_some_iff.1 HX1.out).1
    have hgb := HGB.out
    refine ⟨(HX2.out.block b (Array.getElem?_eq_some_iff.1 HS1.out).1).trans HS1.out, Nat.le_trans HZ0.out HS.out, ⟨HX1.out, Z32L_len, by show (⟨#[]⟩ : ByteArray).size ≤ _; decide, by show (⟨#[]⟩ : ByteArray).size ≤ _; decide, Dots.nil _ _, Nat.le_refl _, (fun D hD => by cases hD), RowW.nil _ _, fun D hD => by cases hD⟩, by omega, by omega, by omega, by omega, HG1.out.tr HX2.out, Nat.le_of_eq HBB.out.1, by have := HBB.out.1; omega⟩)
  clear hg hB HS1 HG1 HX1 HX2 HZ0 HS
  have HER := Lib.hid (Err_any b Sa e0 w2 HT.out.rd)
  have c0 := (mxAt HT.out.ms.lies HT.out.ms.dig).c0
  go_wp2_with fail
  refine (HER.out).mono ?_
  rintro r w3 ⟨rfl, rfl⟩
  clear HER
  by_cases he0 : e0 = 0; rotate_left
  · have heb : (e0 == 0) = false := by simpa using he0
    obtain ⟨s1, hs1⟩ : ∃ s1 : Rst, (Sa, e0) = s1 := ⟨_, rfl⟩
    have HKK : Hid (rdKind S = (k, s1)) := Lib.hid (by rw [HKD.out, if_neg he0, hs1])
    rw [hs1] at HT
    clear he0 hs1 HKD
    have HN1 := Lib.hid (dNumber_any b s1.1 s1.2 63 _ HT.out.rd HT.out.sz)
    have HZ1 := Lib.hid (numM_szR 63 s1.1 s1.2)
    obtain ⟨f, s2, hf⟩ : ∃ f s2, numM 63 s1.1 s1.2 = (f, s2) := ⟨_, _, rfl⟩
    simp only [hf] at HN1 HZ1
    have HF := Lib.hid hf
    clear hf
    go_wp2_with fail
    refine (HN1.out).mono ?_
    rintro r w4 ⟨rfl, h4, m4⟩
    have HT4 := Lib.hid (HT.out.take (s' := s2) h4 HZ1.out m4)
    clear h4 m4 HN1 HZ1 HT
    have HN2 := Lib.hid (dNumber_any b s2.1 s2.2 63 w4 HT4.out.rd HT4.out.sz)
    have HZ2 := Lib.hid (numM_szR 63 s2.1 s2.2)
    obtain ⟨tt, s3, ht⟩ : ∃ tt s3, numM 63 s2.1 s2.2 = (tt, s3) := ⟨_, _, rfl⟩
    simp only [ht] at HN2 HZ2
    have HTT := Lib.hid ht
    clear ht
    go_wp2_with fail
    refine (HN2.out).mono ?_
    rintro r w5 ⟨rfl, h5, m5⟩
    have HT5 := Lib.hid (HT4.out.take (s' := s3) h5 HZ2.out m5)
    clear h5 m5 HN2 HZ2 HT4
    have HA := mxAt HT5.out.ms.lies HT5.out.ms.dig
    have c1 := HA.c1
    have c2 := HA.c2
    have f1 := mat_frz HT5.out.ms.lies 1
    have f2 := mat_frz HT5.out.ms.lies 2
    have HT6 := Lib.hid ((HT5.out.setF f).setTo tt)
    clear HA HT5
    go_upto_region 6 with (fail)
    clear c1 c2 f1 f2
    generalize (w5.setCell ⟨g, 1, none⟩ (.int .i64 f)).setCell ⟨g, 2, none⟩ (.int .i64 tt) = w6 at HT6 ⊢
    have HN3 := Lib.hid (dNumber_any b s3.1 s3.2 1048576 w6 HT6.out.rd HT6.out.sz)
    have HZ3 := Lib.hid (numM_szR 1048576 s3.1 s3.2)
    obtain ⟨sd, s4, hd⟩ : ∃ sd s4, numM 1048576 s3.1 s3.2 = (sd, s4) := ⟨_, _, rfl⟩
    simp only [hd] at HN3 HZ3
    have HRH := Lib.hid (rdHead_of HKK.out HF.out HTT.out hd)
    clear hd HF HTT
    go_wp2_with fail
    refine (HN3.out).mono ?_
    rintro r w7 ⟨rfl, h7, m7⟩
    have HT7 := Lib.hid (HT6.out.take (s' := s4) h7 HZ3.out m7)
    clear h7 m7 HN3 HZ3 HT6
    have c3 := (mxAt HT7.out.ms.lies HT7.out.ms.dig).c3
    have f3 := mat_frz HT7.out.ms.lies 3
    have HT8 := Lib.hid (HT7.out.setSd sd)
    clear HT7
    go_upto_region 7 with (fail)
    clear c3 f3
    generalize w7.setCell ⟨g, 3, none⟩ (.int .i64 sd) = w8 at HT8 ⊢
    have HOW := Lib.hid (ownT_any HT8.out ⟨rfl, rfl, rfl⟩)
    go_wp2_with fail
    refine (HOW.out).mono ?_
    rintro r w9 ⟨rfl, y, hy, h9⟩
    have HAL : Hid (rdAll S = (mst y, (rdBody (rdHead S).1 (rdHead S).2).2)) := Lib.hid (by
      unfold rdAll
      rw [HRH.out]
      exact Prod.ext hy.symm rfl)
    have HT9 : Hid (TK 109 W0 b B g y (rdBody (rdHead S).1 (rdHead S).2).2 w9) := Lib.hid (by rw [HRH.out]; exact h9)
    clear hy h9 HOW HT8 HRH HKK
    obtain ⟨s9, hs9⟩ : ∃ s9, (rdBody (rdHead S).1 (rdHead S).2).2 = s9 := ⟨_, rfl⟩
    rw [hs9] at HAL HT9
    clear hs9
    have HPA : Hid (y.Pa.size ≤ 51) := Lib.hid (by have h1 := rdAll_pa S; rw [HAL.out] at h1; exact h1)
    have HRX : Hid (MAt w9 w.heap.size zMx) := Lib.hid (mat_gr HR0.out HT9.out.gr)
    have HGX : Hid (Gr w w9) := Lib.hid (HG0.out.tr HT9.out.gr)
    have HDN := Lib.hid (dDone_any b s9.1 s9.2 w9 HT9.out.rd)
    go_wp2_with fail
    refine (HDN.out).mono ?_
    rintro r w10 ⟨rfl, rfl⟩
    clear HDN
    by_cases he : rdDone s9.1 s9.2 = 0; rotate_left
    · have heb : (rdDone s9.1 s9.2 == 0) = false := by simpa using he
      have heb2 : (rdDone s9.1 s9.2 != 0) = true := by simpa using he
      have HRD : Hid (readM S = (zMx, rdDone s9.1 s9.2)) := Lib.hid (by
        have h1 := readM_err (S := S) (by rw [HAL.out]; exact he)
        rw [h1, HAL.out])
      clear he
      obtain ⟨ev, hev⟩ : ∃ ev, rdDone s9.1 s9.2 = ev := ⟨_, rfl⟩
      rw [hev] at heb heb2 HRD ⊢
      clear hev
      go_wp2_with (first
        | refine buildZM rfl rfl ?_
        | ((with_reducible refine at_st 37 (.tmp 2) (.tmp 48) ?_); refine storeMR zMx zMx Z32L_len Z32L_len w.heap.size rfl _ _ rfl rfl rfl rfl HRX.out ?_; intro wz hz1 hz2; have HZ1 := Lib.hid hz1; have HZ2 := Lib.hid hz2; clear hz1 hz2))
      have hld := ldMsg HZ1.out Z32L_len
      refine bodyPost_ret (v := .tuple #[.agg zMx.cells, .int .i64 ev]) ?_ rfl ?_
      · simp [results, Tryz.results14, Act.put, asAR, hld]
      exact ⟨zMx, ev, rfl, by rw [HRD.out]; rfl, zMx_ok _, HZ2.out.below HGX.out (Nat.le_refl _), fun _ _ => zMx_ok _⟩
    have HE0 := Lib.hid he
    rw [he]
    clear he
    have HPX := Lib.hid (HPP.out.gr HT9.out.gr)
    have HCK := Lib.hid (mCheck_any y _ HPX.out (by have := HPA.out; omega) HT9.out.ms.ok)
    go_wp2_with (first
      | ((with_reducible refine at_ld 37 (.tmp 5) ?_); refine loadM y HT9.out.ms.dig rfl (.tmp 5) rfl g rfl HT9.out.ms.lies ?_))
    refine (HCK.out).mono ?_
    rintro r w11 ⟨rfl, g11⟩
    replace HRX := Lib.hid (mat_gr HRX.out g11)
    replace HGX := Lib.hid (HGX.out.tr g11)
    have HT11 := Lib.hid (HT9.out.more g11)
    clear g11 HCK HPX HT9
    by_cases hc : mChk y = 0; rotate_left
    · have heb2 : (mChk y != 0) = true := by simpa using hc
      have HRD : Hid (readM S = (zMx, mChk y)) := Lib.hid (by
        have h1 := readM_bad (S := S) (by rw [HAL.out]; exact HE0.out) (by rw [HAL.out]; show mChk (mst y) ≠ 0; rw [mChk_mst]; exact hc)
        rw [h1, HAL.out]
        show (zMx, mChk (mst y)) = _
        rw [mChk_mst])
      clear hc
      obtain ⟨ev, hev⟩ : ∃ ev, mChk y = ev := ⟨_, rfl⟩
      rw [hev] at heb2 HRD ⊢
      clear hev
      go_wp2_with (first
        | refine buildZM rfl rfl ?_
        | ((with_reducible refine at_st 37 (.tmp 2) (.tmp 48) ?_); refine storeMR zMx zMx Z32L_len Z32L_len w.heap.size rfl _ _ rfl rfl rfl rfl HRX.out ?_; intro wz hz1 hz2; have HZ1 := Lib.hid hz1; have HZ2 := Lib.hid hz2; clear hz1 hz2))
      have hld := ldMsg HZ1.out Z32L_len
      refine bodyPost_ret (v := .tuple #[.agg zMx.cells, .int .i64 ev]) ?_ rfl ?_
      · simp [results, Tryz.results14, Act.put, asAR, hld]
      exact ⟨zMx, ev, rfl, by rw [HRD.out]; rfl, zMx_ok _, HZ2.out.below HGX.out (Nat.le_refl _), fun _ _ => zMx_ok _⟩
    have HRD : Hid (readM S = (mst y, 0)) := Lib.hid (by
      have h1 := readM_ok (S := S) (by rw [HAL.out]; exact HE0.out) (by rw [HAL.out]; show mChk (mst y) = 0; rw [mChk_mst]; exact hc)
      rw [h1, HAL.out])
    rw [hc]
    clear hc
    go_wp2_with (first
      | ((with_reducible refine at_ld 37 (.tmp 5) ?_); refine loadM y HT11.out.ms.dig rfl (.tmp 5) rfl g rfl HT11.out.ms.lies ?_)
      | ((with_reducible refine at_st 37 (.tmp 2) (.tmp 50) ?_); refine storeMR y zMx HT11.out.ms.dig Z32L_len w.heap.size rfl _ _ rfl rfl rfl rfl HRX.out ?_; intro wz hz1 hz2; have HZ1 := Lib.hid hz1; have HZ2 := Lib.hid hz2; clear hz1 hz2))
    have hld := ldMsg HZ1.out HT11.out.ms.dig
    refine bodyPost_ret (v := .tuple #[.agg y.cells, .int .i64 0]) ?_ rfl ?_
    · simp [results, Tryz.results14, Act.put, asAR, hld]
    exact ⟨y, 0, rfl, HRD.out.symm, (HT11.out.ms.rm HZ2.out (by have := HBB.out; have := HT11.out.hb; omega) (by have := HBB.out; have := HGB.out; omega)).ok, HZ2.out.below HGX.out (Nat.le_refl _), fun W2 h2 => (HT11.out.ms.rm HZ2.out (by have := HBB.out; have := HT11.out.hb; omega) (by have := HBB.out; have := HGB.out; omega)).keep (fun j h1 h3 => h2 j (by have := HBB.out; have := HT11.out.hb; omega) h3)⟩
  subst he0
  by_cases k1 : k < 1
  · have HFL := Lib.hid (dFail_any b Sa 0 15 w3 HT.out.rd)
    have HKK : Hid (rdKind S = (k, Sa, 15)) := Lib.hid (by rw [HKD.out, if_pos rfl, if_pos (Or.inl k1)])
    clear HKD
    go_wp2_with fail
    refine (HFL.out).mono ?_
    rintro r wf ⟨rfl, hf1, mf1⟩
    replace HT := Lib.hid (HT.out.take (s' := (Sa, 15)) hf1 (Nat.le_refl _) mf1)
    clear hf1 mf1 HFL c0
    obtain ⟨s1, hs1⟩ : ∃ s1 : Rst, (Sa, (15 : Int)) = s1 := ⟨_, rfl⟩
    rw [hs1] at HT HKK
    clear hs1
    have HN1 := Lib.hid (dNumber_any b s1.1 s1.2 63 _ HT.out.rd HT.out.sz)
    have HZ1 := Lib.hid (numM_szR 63 s1.1 s1.2)
    obtain ⟨f, s2, hf⟩ : ∃ f s2, numM 63 s1.1 s1.2 = (f, s2) := ⟨_, _, rfl⟩
    simp only [hf] at HN1 HZ1
    have HF := Lib.hid hf
    clear hf
    go_wp2_with fail
    refine (HN1.out).mono ?_
    rintro r w4 ⟨rfl, h4, m4⟩
    have HT4 := Lib.hid (HT.out.take (s' := s2) h4 HZ1.out m4)
    clear h4 m4 HN1 HZ1 HT
    have HN2 := Lib.hid (dNumber_any b s2.1 s2.2 63 w4 HT4.out.rd HT4.out.sz)
    have HZ2 := Lib.hid (numM_szR 63 s2.1 s2.2)
    obtain ⟨tt, s3, ht⟩ : ∃ tt s3, numM 63 s2.1 s2.2 = (tt, s3) := ⟨_, _, rfl⟩
    simp only [ht] at HN2 HZ2
    have HTT := Lib.hid ht
    clear ht
    go_wp2_with fail
    refine (HN2.out).mono ?_
    rintro r w5 ⟨rfl, h5, m5⟩
    have HT5 := Lib.hid (HT4.out.take (s' := s3) h5 HZ2.out m5)
    clear h5 m5 HN2 HZ2 HT4
    have HA := mxAt HT5.out.ms.lies HT5.out.ms.dig
    have c1 := HA.c1
    have c2 := HA.c2
    have f1 := mat_frz HT5.out.ms.lies 1
    have f2 := mat_frz HT5.out.ms.lies 2
    have HT6 := Lib.hid ((HT5.out.setF f).setTo tt)
    clear HA HT5
    go_upto_region 6 with (fail)
    clear c1 c2 f1 f2
    generalize (w5.setCell ⟨g, 1, none⟩ (.int .i64 f)).setCell ⟨g, 2, none⟩ (.int .i64 tt) = w6 at HT6 ⊢
    have HN3 := Lib.hid (dNumber_any b s3.1 s3.2 1048576 w6 HT6.out.rd HT6.out.sz)
    have HZ3 := Lib.hid (numM_szR 1048576 s3.1 s3.2)
    obtain ⟨sd, s4, hd⟩ : ∃ sd s4, numM 1048576 s3.1 s3.2 = (sd, s4) := ⟨_, _, rfl⟩
    simp only [hd] at HN3 HZ3
    have HRH := Lib.hid (rdHead_of HKK.out HF.out HTT.out hd)
    clear hd HF HTT
    go_wp2_with fail
    refine (HN3.out).mono ?_
    rintro r w7 ⟨rfl, h7, m7⟩
    have HT7 := Lib.hid (HT6.out.take (s' := s4) h7 HZ3.out m7)
    clear h7 m7 HN3 HZ3 HT6
    have c3 := (mxAt HT7.out.ms.lies HT7.out.ms.dig).c3
    have f3 := mat_frz HT7.out.ms.lies 3
    have HT8 := Lib.hid (HT7.out.setSd sd)
    clear HT7
    go_upto_region 7 with (fail)
    clear c3 f3
    generalize w7.setCell ⟨g, 3, none⟩ (.int .i64 sd) = w8 at HT8 ⊢
    have HOW := Lib.hid (ownT_any HT8.out ⟨rfl, rfl, rfl⟩)
    go_wp2_with fail
    refine (HOW.out).mono ?_
    rintro r w9 ⟨rfl, y, hy, h9⟩
    have HAL : Hid (rdAll S = (mst y, (rdBody (rdHead S).1 (rdHead S).2).2)) := Lib.hid (by
      unfold rdAll
      rw [HRH.out]
      exact Prod.ext hy.symm rfl)
    have HT9 : Hid (TK 109 W0 b B g y (rdBody (rdHead S).1 (rdHead S).2).2 w9) := Lib.hid (by rw [HRH.out]; exact h9)
    clear hy h9 HOW HT8 HRH HKK
    obtain ⟨s9, hs9⟩ : ∃ s9, (rdBody (rdHead S).1 (rdHead S).2).2 = s9 := ⟨_, rfl⟩
    rw [hs9] at HAL HT9
    clear hs9
    have HPA : Hid (y.Pa.size ≤ 51) := Lib.hid (by have h1 := rdAll_pa S; rw [HAL.out] at h1; exact h1)
    have HRX : Hid (MAt w9 w.heap.size zMx) := Lib.hid (mat_gr HR0.out HT9.out.gr)
    have HGX : Hid (Gr w w9) := Lib.hid (HG0.out.tr HT9.out.gr)
    have HDN := Lib.hid (dDone_any b s9.1 s9.2 w9 HT9.out.rd)
    go_wp2_with fail
    refine (HDN.out).mono ?_
    rintro r w10 ⟨rfl, rfl⟩
    clear HDN
    by_cases he : rdDone s9.1 s9.2 = 0; rotate_left
    · have heb : (rdDone s9.1 s9.2 == 0) = false := by simpa using he
      have heb2 : (rdDone s9.1 s9.2 != 0) = true := by simpa using he
      have HRD : Hid (readM S = (zMx, rdDone s9.1 s9.2)) := Lib.hid (by
        have h1 := readM_err (S := S) (by rw [HAL.out]; exact he)
        rw [h1, HAL.out])
      clear he
      obtain ⟨ev, hev⟩ : ∃ ev, rdDone s9.1 s9.2 = ev := ⟨_, rfl⟩
      rw [hev] at heb heb2 HRD ⊢
      clear hev
      go_wp2_with (first
        | refine buildZM rfl rfl ?_
        | ((with_reducible refine at_st 37 (.tmp 2) (.tmp 48) ?_); refine storeMR zMx zMx Z32L_len Z32L_len w.heap.size rfl _ _ rfl rfl rfl rfl HRX.out ?_; intro wz hz1 hz2; have HZ1 := Lib.hid hz1; have HZ2 := Lib.hid hz2; clear hz1 hz2))
      have hld := ldMsg HZ1.out Z32L_len
      refine bodyPost_ret (v := .tuple #[.agg zMx.cells, .int .i64 ev]) ?_ rfl ?_
      · simp [results, Tryz.results14, Act.put, asAR, hld]
      exact ⟨zMx, ev, rfl, by rw [HRD.out]; rfl, zMx_ok _, HZ2.out.below HGX.out (Nat.le_refl _), fun _ _ => zMx_ok _⟩
    have HE0 := Lib.hid he
    rw [he]
    clear he
    have HPX := Lib.hid (HPP.out.gr HT9.out.gr)
    have HCK := Lib.hid (mCheck_any y _ HPX.out (by have := HPA.out; omega) HT9.out.ms.ok)
    go_wp2_with (first
      | ((with_reducible refine at_ld 37 (.tmp 5) ?_); refine loadM y HT9.out.ms.dig rfl (.tmp 5) rfl g rfl HT9.out.ms.lies ?_))
    refine (HCK.out).mono ?_
    rintro r w11 ⟨rfl, g11⟩
    replace HRX := Lib.hid (mat_gr HRX.out g11)
    replace HGX := Lib.hid (HGX.out.tr g11)
    have HT11 := Lib.hid (HT9.out.more g11)
    clear g11 HCK HPX HT9
    by_cases hc : mChk y = 0; rotate_left
    · have heb2 : (mChk y != 0) = true := by simpa using hc
      have HRD : Hid (readM S = (zMx, mChk y)) := Lib.hid (by
        have h1 := readM_bad (S := S) (by rw [HAL.out]; exact HE0.out) (by rw [HAL.out]; show mChk (mst y) ≠ 0; rw [mChk_mst]; exact hc)
        rw [h1, HAL.out]
        show (zMx, mChk (mst y)) = _
        rw [mChk_mst])
      clear hc
      obtain ⟨ev, hev⟩ : ∃ ev, mChk y = ev := ⟨_, rfl⟩
      rw [hev] at heb2 HRD ⊢
      clear hev
      go_wp2_with (first
        | refine buildZM rfl rfl ?_
        | ((with_reducible refine at_st 37 (.tmp 2) (.tmp 48) ?_); refine storeMR zMx zMx Z32L_len Z32L_len w.heap.size rfl _ _ rfl rfl rfl rfl HRX.out ?_; intro wz hz1 hz2; have HZ1 := Lib.hid hz1; have HZ2 := Lib.hid hz2; clear hz1 hz2))
      have hld := ldMsg HZ1.out Z32L_len
      refine bodyPost_ret (v := .tuple #[.agg zMx.cells, .int .i64 ev]) ?_ rfl ?_
      · simp [results, Tryz.results14, Act.put, asAR, hld]
      exact ⟨zMx, ev, rfl, by rw [HRD.out]; rfl, zMx_ok _, HZ2.out.below HGX.out (Nat.le_refl _), fun _ _ => zMx_ok _⟩
    have HRD : Hid (readM S = (mst y, 0)) := Lib.hid (by
      have h1 := readM_ok (S := S) (by rw [HAL.out]; exact HE0.out) (by rw [HAL.out]; show mChk (mst y) = 0; rw [mChk_mst]; exact hc)
      rw [h1, HAL.out])
    rw [hc]
    clear hc
    go_wp2_with (first
      | ((with_reducible refine at_ld 37 (.tmp 5) ?_); refine loadM y HT11.out.ms.dig rfl (.tmp 5) rfl g rfl HT11.out.ms.lies ?_)
      | ((with_reducible refine at_st 37 (.tmp 2) (.tmp 50) ?_); refine storeMR y zMx HT11.out.ms.dig Z32L_len w.heap.size rfl _ _ rfl rfl rfl rfl HRX.out ?_; intro wz hz1 hz2; have HZ1 := Lib.hid hz1; have HZ2 := Lib.hid hz2; clear hz1 hz2))
    have hld := ldMsg HZ1.out HT11.out.ms.dig
    refine bodyPost_ret (v := .tuple #[.agg y.cells, .int .i64 0]) ?_ rfl ?_
    · simp [results, Tryz.results14, Act.put, asAR, hld]
    exact ⟨y, 0, rfl, HRD.out.symm, (HT11.out.ms.rm HZ2.out (by have := HBB.out; have := HT11.out.hb; omega) (by have := HBB.out; have := HGB.out; omega)).ok, HZ2.out.below HGX.out (Nat.le_refl _), fun W2 h2 => (HT11.out.ms.rm HZ2.out (by have := HBB.out; have := HT11.out.hb; omega) (by have := HBB.out; have := HGB.out; omega)).keep (fun j h1 h3 => h2 j (by have := HBB.out; have := HT11.out.hb; omega) h3)⟩
  by_cases k6 : 6 < k
  · have HFL := Lib.hid (dFail_any b Sa 0 15 w3 HT.out.rd)
    have HKK : Hid (rdKind S = (k, Sa, 15)) := Lib.hid (by rw [HKD.out, if_pos rfl, if_pos (Or.inr k6)])
    clear HKD
    go_wp2_with fail
    refine (HFL.out).mono ?_
    rintro r wf ⟨rfl, hf1, mf1⟩
    replace HT := Lib.hid (HT.out.take (s' := (Sa, 15)) hf1 (Nat.le_refl _) mf1)
    clear hf1 mf1 HFL c0
    obtain ⟨s1, hs1⟩ : ∃ s1 : Rst, (Sa, (15 : Int)) = s1 := ⟨_, rfl⟩
    rw [hs1] at HT HKK
    clear hs1
    have HN1 := Lib.hid (dNumber_any b s1.1 s1.2 63 _ HT.out.rd HT.out.sz)
    have HZ1 := Lib.hid (numM_szR 63 s1.1 s1.2)
    obtain ⟨f, s2, hf⟩ : ∃ f s2, numM 63 s1.1 s1.2 = (f, s2) := ⟨_, _, rfl⟩
    simp only [hf] at HN1 HZ1
    have HF := Lib.hid hf
    clear hf
    go_wp2_with fail
    refine (HN1.out).mono ?_
    rintro r w4 ⟨rfl, h4, m4⟩
    have HT4 := Lib.hid (HT.out.take (s' := s2) h4 HZ1.out m4)
    clear h4 m4 HN1 HZ1 HT
    have HN2 := Lib.hid (dNumber_any b s2.1 s2.2 63 w4 HT4.out.rd HT4.out.sz)
    have HZ2 := Lib.hid (numM_szR 63 s2.1 s2.2)
    obtain ⟨tt, s3, ht⟩ : ∃ tt s3, numM 63 s2.1 s2.2 = (tt, s3) := ⟨_, _, rfl⟩
    simp only [ht] at HN2 HZ2
    have HTT := Lib.hid ht
    clear ht
    go_wp2_with fail
    refine (HN2.out).mono ?_
    rintro r w5 ⟨rfl, h5, m5⟩
    have HT5 := Lib.hid (HT4.out.take (s' := s3) h5 HZ2.out m5)
    clear h5 m5 HN2 HZ2 HT4
    have HA := mxAt HT5.out.ms.lies HT5.out.ms.dig
    have c1 := HA.c1
    have c2 := HA.c2
    have f1 := mat_frz HT5.out.ms.lies 1
    have f2 := mat_frz HT5.out.ms.lies 2
    have HT6 := Lib.hid ((HT5.out.setF f).setTo tt)
    clear HA HT5
    go_upto_region 6 with (fail)
    clear c1 c2 f1 f2
    generalize (w5.setCell ⟨g, 1, none⟩ (.int .i64 f)).setCell ⟨g, 2, none⟩ (.int .i64 tt) = w6 at HT6 ⊢
    have HN3 := Lib.hid (dNumber_any b s3.1 s3.2 1048576 w6 HT6.out.rd HT6.out.sz)
    have HZ3 := Lib.hid (numM_szR 1048576 s3.1 s3.2)
    obtain ⟨sd, s4, hd⟩ : ∃ sd s4, numM 1048576 s3.1 s3.2 = (sd, s4) := ⟨_, _, rfl⟩
    simp only [hd] at HN3 HZ3
    have HRH := Lib.hid (rdHead_of HKK.out HF.out HTT.out hd)
    clear hd HF HTT
    go_wp2_with fail
    refine (HN3.out).mono ?_
    rintro r w7 ⟨rfl, h7, m7⟩
    have HT7 := Lib.hid (HT6.out.take (s' := s4) h7 HZ3.out m7)
    clear h7 m7 HN3 HZ3 HT6
    have c3 := (mxAt HT7.out.ms.lies HT7.out.ms.dig).c3
    have f3 := mat_frz HT7.out.ms.lies 3
    have HT8 := Lib.hid (HT7.out.setSd sd)
    clear HT7
    go_upto_region 7 with (fail)
    clear c3 f3
    generalize w7.setCell ⟨g, 3, none⟩ (.int .i64 sd) = w8 at HT8 ⊢
    have HOW := Lib.hid (ownT_any HT8.out ⟨rfl, rfl, rfl⟩)
    go_wp2_with fail
    refine (HOW.out).mono ?_
    rintro r w9 ⟨rfl, y, hy, h9⟩
    have HAL : Hid (rdAll S = (mst y, (rdBody (rdHead S).1 (rdHead S).2).2)) := Lib.hid (by
      unfold rdAll
      rw [HRH.out]
      exact Prod.ext hy.symm rfl)
    have HT9 : Hid (TK 109 W0 b B g y (rdBody (rdHead S).1 (rdHead S).2).2 w9) := Lib.hid (by rw [HRH.out]; exact h9)
    clear hy h9 HOW HT8 HRH HKK
    obtain ⟨s9, hs9⟩ : ∃ s9, (rdBody (rdHead S).1 (rdHead S).2).2 = s9 := ⟨_, rfl⟩
    rw [hs9] at HAL HT9
    clear hs9
    have HPA : Hid (y.Pa.size ≤ 51) := Lib.hid (by have h1 := rdAll_pa S; rw [HAL.out] at h1; exact h1)
    have HRX : Hid (MAt w9 w.heap.size zMx) := Lib.hid (mat_gr HR0.out HT9.out.gr)
    have HGX : Hid (Gr w w9) := Lib.hid (HG0.out.tr HT9.out.gr)
    have HDN := Lib.hid (dDone_any b s9.1 s9.2 w9 HT9.out.rd)
    go_wp2_with fail
    refine (HDN.out).mono ?_
    rintro r w10 ⟨rfl, rfl⟩
    clear HDN
    by_cases he : rdDone s9.1 s9.2 = 0; rotate_left
    · have heb : (rdDone s9.1 s9.2 == 0) = false := by simpa using he
      have heb2 : (rdDone s9.1 s9.2 != 0) = true := by simpa using he
      have HRD : Hid (readM S = (zMx, rdDone s9.1 s9.2)) := Lib.hid (by
        have h1 := readM_err (S := S) (by rw [HAL.out]; exact he)
        rw [h1, HAL.out])
      clear he
      obtain ⟨ev, hev⟩ : ∃ ev, rdDone s9.1 s9.2 = ev := ⟨_, rfl⟩
      rw [hev] at heb heb2 HRD ⊢
      clear hev
      go_wp2_with (first
        | refine buildZM rfl rfl ?_
        | ((with_reducible refine at_st 37 (.tmp 2) (.tmp 48) ?_); refine storeMR zMx zMx Z32L_len Z32L_len w.heap.size rfl _ _ rfl rfl rfl rfl HRX.out ?_; intro wz hz1 hz2; have HZ1 := Lib.hid hz1; have HZ2 := Lib.hid hz2; clear hz1 hz2))
      have hld := ldMsg HZ1.out Z32L_len
      refine bodyPost_ret (v := .tuple #[.agg zMx.cells, .int .i64 ev]) ?_ rfl ?_
      · simp [results, Tryz.results14, Act.put, asAR, hld]
      exact ⟨zMx, ev, rfl, by rw [HRD.out]; rfl, zMx_ok _, HZ2.out.below HGX.out (Nat.le_refl _), fun _ _ => zMx_ok _⟩
    have HE0 := Lib.hid he
    rw [he]
    clear he
    have HPX := Lib.hid (HPP.out.gr HT9.out.gr)
    have HCK := Lib.hid (mCheck_any y _ HPX.out (by have := HPA.out; omega) HT9.out.ms.ok)
    go_wp2_with (first
      | ((with_reducible refine at_ld 37 (.tmp 5) ?_); refine loadM y HT9.out.ms.dig rfl (.tmp 5) rfl g rfl HT9.out.ms.lies ?_))
    refine (HCK.out).mono ?_
    rintro r w11 ⟨rfl, g11⟩
    replace HRX := Lib.hid (mat_gr HRX.out g11)
    replace HGX := Lib.hid (HGX.out.tr g11)
    have HT11 := Lib.hid (HT9.out.more g11)
    clear g11 HCK HPX HT9
    by_cases hc : mChk y = 0; rotate_left
    · have heb2 : (mChk y != 0) = true := by simpa using hc
      have HRD : Hid (readM S = (zMx, mChk y)) := Lib.hid (by
        have h1 := readM_bad (S := S) (by rw [HAL.out]; exact HE0.out) (by rw [HAL.out]; show mChk (mst y) ≠ 0; rw [mChk_mst]; exact hc)
        rw [h1, HAL.out]
        show (zMx, mChk (mst y)) = _
        rw [mChk_mst])
      clear hc
      obtain ⟨ev, hev⟩ : ∃ ev, mChk y = ev := ⟨_, rfl⟩
      rw [hev] at heb2 HRD ⊢
      clear hev
      go_wp2_with (first
        | refine buildZM rfl rfl ?_
        | ((with_reducible refine at_st 37 (.tmp 2) (.tmp 48) ?_); refine storeMR zMx zMx Z32L_len Z32L_len w.heap.size rfl _ _ rfl rfl rfl rfl HRX.out ?_; intro wz hz1 hz2; have HZ1 := Lib.hid hz1; have HZ2 := Lib.hid hz2; clear hz1 hz2))
      have hld := ldMsg HZ1.out Z32L_len
      refine bodyPost_ret (v := .tuple #[.agg zMx.cells, .int .i64 ev]) ?_ rfl ?_
      · simp [results, Tryz.results14, Act.put, asAR, hld]
      exact ⟨zMx, ev, rfl, by rw [HRD.out]; rfl, zMx_ok _, HZ2.out.below HGX.out (Nat.le_refl _), fun _ _ => zMx_ok _⟩
    have HRD : Hid (readM S = (mst y, 0)) := Lib.hid (by
      have h1 := readM_ok (S := S) (by rw [HAL.out]; exact HE0.out) (by rw [HAL.out]; show mChk (mst y) = 0; rw [mChk_mst]; exact hc)
      rw [h1, HAL.out])
    rw [hc]
    clear hc
    go_wp2_with (first
      | ((with_reducible refine at_ld 37 (.tmp 5) ?_); refine loadM y HT11.out.ms.dig rfl (.tmp 5) rfl g rfl HT11.out.ms.lies ?_)
      | ((with_reducible refine at_st 37 (.tmp 2) (.tmp 50) ?_); refine storeMR y zMx HT11.out.ms.dig Z32L_len w.heap.size rfl _ _ rfl rfl rfl rfl HRX.out ?_; intro wz hz1 hz2; have HZ1 := Lib.hid hz1; have HZ2 := Lib.hid hz2; clear hz1 hz2))
    have hld := ldMsg HZ1.out HT11.out.ms.dig
    refine bodyPost_ret (v := .tuple #[.agg y.cells, .int .i64 0]) ?_ rfl ?_
    · simp [results, Tryz.results14, Act.put, asAR, hld]
    exact ⟨y, 0, rfl, HRD.out.symm, (HT11.out.ms.rm HZ2.out (by have := HBB.out; have := HT11.out.hb; omega) (by have := HBB.out; have := HGB.out; omega)).ok, HZ2.out.below HGX.out (Nat.le_refl _), fun W2 h2 => (HT11.out.ms.rm HZ2.out (by have := HBB.out; have := HT11.out.hb; omega) (by have := HBB.out; have := HGB.out; omega)).keep (fun j h1 h3 => h2 j (by have := HBB.out; have := HT11.out.hb; omega) h3)⟩
  obtain ⟨s1, hs1⟩ : ∃ s1 : Rst, (Sa, 0) = s1 := ⟨_, rfl⟩
  have HKK : Hid (rdKind S = (k, s1)) := Lib.hid (by rw [HKD.out, if_pos rfl, if_neg (by omega), hs1])
  rw [hs1] at HT
  clear hs1 HKD
  have HN1 := Lib.hid (dNumber_any b s1.1 s1.2 63 _ HT.out.rd HT.out.sz)
  have HZ1 := Lib.hid (numM_szR 63 s1.1 s1.2)
  obtain ⟨f, s2, hf⟩ : ∃ f s2, numM 63 s1.1 s1.2 = (f, s2) := ⟨_, _, rfl⟩
  simp only [hf] at HN1 HZ1
  have HF := Lib.hid hf
  clear hf
  go_wp2_with fail
  refine (HN1.out).mono ?_
  rintro r w4 ⟨rfl, h4, m4⟩
  have HT4 := Lib.hid (HT.out.take (s' := s2) h4 HZ1.out m4)
  clear h4 m4 HN1 HZ1 HT
  have HN2 := Lib.hid (dNumber_any b s2.1 s2.2 63 w4 HT4.out.rd HT4.out.sz)
  have HZ2 := Lib.hid (numM_szR 63 s2.1 s2.2)
  obtain ⟨tt, s3, ht⟩ : ∃ tt s3, numM 63 s2.1 s2.2 = (tt, s3) := ⟨_, _, rfl⟩
  simp only [ht] at HN2 HZ2
  have HTT := Lib.hid ht
  clear ht
  go_wp2_with fail
  refine (HN2.out).mono ?_
  rintro r w5 ⟨rfl, h5, m5⟩
  have HT5 := Lib.hid (HT4.out.take (s' := s3) h5 HZ2.out m5)
  clear h5 m5 HN2 HZ2 HT4
  have HA := mxAt HT5.out.ms.lies HT5.out.ms.dig
  have c1 := HA.c1
  have c2 := HA.c2
  have f1 := mat_frz HT5.out.ms.lies 1
  have f2 := mat_frz HT5.out.ms.lies 2
  have HT6 := Lib.hid ((HT5.out.setF f).setTo tt)
  clear HA HT5
  go_upto_region 6 with (fail)
  clear c1 c2 f1 f2
  generalize (w5.setCell ⟨g, 1, none⟩ (.int .i64 f)).setCell ⟨g, 2, none⟩ (.int .i64 tt) = w6 at HT6 ⊢
  have HN3 := Lib.hid (dNumber_any b s3.1 s3.2 1048576 w6 HT6.out.rd HT6.out.sz)
  have HZ3 := Lib.hid (numM_szR 1048576 s3.1 s3.2)
  obtain ⟨sd, s4, hd⟩ : ∃ sd s4, numM 1048576 s3.1 s3.2 = (sd, s4) := ⟨_, _, rfl⟩
  simp only [hd] at HN3 HZ3
  have HRH := Lib.hid (rdHead_of HKK.out HF.out HTT.out hd)
  clear hd HF HTT
  go_wp2_with fail
  refine (HN3.out).mono ?_
  rintro r w7 ⟨rfl, h7, m7⟩
  have HT7 := Lib.hid (HT6.out.take (s' := s4) h7 HZ3.out m7)
  clear h7 m7 HN3 HZ3 HT6
  have c3 := (mxAt HT7.out.ms.lies HT7.out.ms.dig).c3
  have f3 := mat_frz HT7.out.ms.lies 3
  have HT8 := Lib.hid (HT7.out.setSd sd)
  clear HT7
  go_upto_region 7 with (fail)
  clear c3 f3
  generalize w7.setCell ⟨g, 3, none⟩ (.int .i64 sd) = w8 at HT8 ⊢
  have HOW := Lib.hid (ownT_any HT8.out ⟨rfl, rfl, rfl⟩)
  go_wp2_with fail
  refine (HOW.out).mono ?_
  rintro r w9 ⟨rfl, y, hy, h9⟩
  have HAL : Hid (rdAll S = (mst y, (rdBody (rdHead S).1 (rdHead S).2).2)) := Lib.hid (by
    unfold rdAll
    rw [HRH.out]
    exact Prod.ext hy.symm rfl)
  have HT9 : Hid (TK 109 W0 b B g y (rdBody (rdHead S).1 (rdHead S).2).2 w9) := Lib.hid (by rw [HRH.out]; exact h9)
  clear hy h9 HOW HT8 HRH HKK
  obtain ⟨s9, hs9⟩ : ∃ s9, (rdBody (rdHead S).1 (rdHead S).2).2 = s9 := ⟨_, rfl⟩
  rw [hs9] at HAL HT9
  clear hs9
  have HPA : Hid (y.Pa.size ≤ 51) := Lib.hid (by have h1 := rdAll_pa S; rw [HAL.out] at h1; exact h1)
  have HRX : Hid (MAt w9 w.heap.size zMx) := Lib.hid (mat_gr HR0.out HT9.out.gr)
  have HGX : Hid (Gr w w9) := Lib.hid (HG0.out.tr HT9.out.gr)
  have HDN := Lib.hid (dDone_any b s9.1 s9.2 w9 HT9.out.rd)
  go_wp2_with fail
  refine (HDN.out).mono ?_
  rintro r w10 ⟨rfl, rfl⟩
  clear HDN
  by_cases he : rdDone s9.1 s9.2 = 0; rotate_left
  · have heb : (rdDone s9.1 s9.2 == 0) = false := by simpa using he
    have heb2 : (rdDone s9.1 s9.2 != 0) = true := by simpa using he
    have HRD : Hid (readM S = (zMx, rdDone s9.1 s9.2)) := Lib.hid (by
      have h1 := readM_err (S := S) (by rw [HAL.out]; exact he)
      rw [h1, HAL.out])
    clear he
    obtain ⟨ev, hev⟩ : ∃ ev, rdDone s9.1 s9.2 = ev := ⟨_, rfl⟩
    rw [hev] at heb heb2 HRD ⊢
    clear hev
    go_wp2_with (first
      | refine buildZM rfl rfl ?_
      | ((with_reducible refine at_st 37 (.tmp 2) (.tmp 48) ?_); refine storeMR zMx zMx Z32L_len Z32L_len w.heap.size rfl _ _ rfl rfl rfl rfl HRX.out ?_; intro wz hz1 hz2; have HZ1 := Lib.hid hz1; have HZ2 := Lib.hid hz2; clear hz1 hz2))
    have hld := ldMsg HZ1.out Z32L_len
    refine bodyPost_ret (v := .tuple #[.agg zMx.cells, .int .i64 ev]) ?_ rfl ?_
    · simp [results, Tryz.results14, Act.put, asAR, hld]
    exact ⟨zMx, ev, rfl, by rw [HRD.out]; rfl, zMx_ok _, HZ2.out.below HGX.out (Nat.le_refl _), fun _ _ => zMx_ok _⟩
  have HE0 := Lib.hid he
  rw [he]
  clear he
  have HPX := Lib.hid (HPP.out.gr HT9.out.gr)
  have HCK := Lib.hid (mCheck_any y _ HPX.out (by have := HPA.out; omega) HT9.out.ms.ok)
  go_wp2_with (first
    | ((with_reducible refine at_ld 37 (.tmp 5) ?_); refine loadM y HT9.out.ms.dig rfl (.tmp 5) rfl g rfl HT9.out.ms.lies ?_))
  refine (HCK.out).mono ?_
  rintro r w11 ⟨rfl, g11⟩
  replace HRX := Lib.hid (mat_gr HRX.out g11)
  replace HGX := Lib.hid (HGX.out.tr g11)
  have HT11 := Lib.hid (HT9.out.more g11)
  clear g11 HCK HPX HT9
  by_cases hc : mChk y = 0; rotate_left
  · have heb2 : (mChk y != 0) = true := by simpa using hc
    have HRD : Hid (readM S = (zMx, mChk y)) := Lib.hid (by
      have h1 := readM_bad (S := S) (by rw [HAL.out]; exact HE0.out) (by rw [HAL.out]; show mChk (mst y) ≠ 0; rw [mChk_mst]; exact hc)
      rw [h1, HAL.out]
      show (zMx, mChk (mst y)) = _
      rw [mChk_mst])
    clear hc
    obtain ⟨ev, hev⟩ : ∃ ev, mChk y = ev := ⟨_, rfl⟩
    rw [hev] at heb2 HRD ⊢
    clear hev
    go_wp2_with (first
      | refine buildZM rfl rfl ?_
      | ((with_reducible refine at_st 37 (.tmp 2) (.tmp 48) ?_); refine storeMR zMx zMx Z32L_len Z32L_len w.heap.size rfl _ _ rfl rfl rfl rfl HRX.out ?_; intro wz hz1 hz2; have HZ1 := Lib.hid hz1; have HZ2 := Lib.hid hz2; clear hz1 hz2))
    have hld := ldMsg HZ1.out Z32L_len
    refine bodyPost_ret (v := .tuple #[.agg zMx.cells, .int .i64 ev]) ?_ rfl ?_
    · simp [results, Tryz.results14, Act.put, asAR, hld]
    exact ⟨zMx, ev, rfl, by rw [HRD.out]; rfl, zMx_ok _, HZ2.out.below HGX.out (Nat.le_refl _), fun _ _ => zMx_ok _⟩
  have HRD : Hid (readM S = (mst y, 0)) := Lib.hid (by
    have h1 := readM_ok (S := S) (by rw [HAL.out]; exact HE0.out) (by rw [HAL.out]; show mChk (mst y) = 0; rw [mChk_mst]; exact hc)
    rw [h1, HAL.out])
  rw [hc]
  clear hc
  go_wp2_with (first
    | ((with_reducible refine at_ld 37 (.tmp 5) ?_); refine loadM y HT11.out.ms.dig rfl (.tmp 5) rfl g rfl HT11.out.ms.lies ?_)
    | ((with_reducible refine at_st 37 (.tmp 2) (.tmp 50) ?_); refine storeMR y zMx HT11.out.ms.dig Z32L_len w.heap.size rfl _ _ rfl rfl rfl rfl HRX.out ?_; intro wz hz1 hz2; have HZ1 := Lib.hid hz1; have HZ2 := Lib.hid hz2; clear hz1 hz2))
  have hld := ldMsg HZ1.out HT11.out.ms.dig
  refine bodyPost_ret (v := .tuple #[.agg y.cells, .int .i64 0]) ?_ rfl ?_
  · simp [results, Tryz.results14, Act.put, asAR, hld]
  exact ⟨y, 0, rfl, HRD.out.symm, (HT11.out.ms.rm HZ2.out (by have := HBB.out; have := HT11.out.hb; omega) (by have := HBB.out; have := HGB.out; omega)).ok, HZ2.out.below HGX.out (Nat.le_refl _), fun W2 h2 => (HT11.out.ms.rm HZ2.out (by have := HBB.out; have := HT11.out.hb; omega) (by have := HBB.out; have := HGB.out; omega)).keep (fun j h1 h3 => h2 j (by have := HBB.out; have := HT11.out.hb; omega) h3)⟩
theorem mRead_any (S : ByteArray) (w : World) (hS : S.size ≤ 9223372036854775807) (hP : Pt.Mx w) :
    Calls Tryz.prog 14 #[.string S] w fun r w' => ReadR S w r w' := (mReadN_any S w hS hP).mono fun _ _ h => h.toR
end Go.Proofs.YtfobnemocodomaaGreat
