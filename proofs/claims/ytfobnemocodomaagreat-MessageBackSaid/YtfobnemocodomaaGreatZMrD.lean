/- message.Read. -/
import Derived.Test.YtfobnemocodomaaGreatZMrC
import Derived.Test.YtfobnemocodomaaGreatZBn
set_option linter.unusedVariables false
set_option linter.unusedSimpArgs false
set_option maxHeartbeats 4000000
namespace Go.Proofs.YtfobnemocodomaaGreat
open Go.RowKit Go.Shelf Go.Great

/-- the fields taken, by kind -/
def TKo (t : TypeId) (w0 : World) (b B g : Nat) (x : Mx) (s : Rst) (w : World) : Prop := ∃ y, mst y = (rdBody (mst x) s).1 ∧ TK t w0 b B g y (rdBody (mst x) s).2 w
theorem map_mkD (rs : List DRow) : (rs.map fun d => mkD d.l) = (rs.map DRow.l).map mkD := by rw [List.map_map]; rfl
section
variable {t : TypeId} {w0 w : World} {b B g : Nat} {x : Mx} {s : Rst}
theorem tko_of {y : Mx} {s2 : Rst} (e : rdBody (mst x) s = (mst y, s2)) (h : TK t w0 b B g y s2 w) : TKo t w0 b B g x s w := ⟨y, by rw [e], by rw [e]; exact h⟩
theorem tko2 (k : x.K = 2) {A A2 : Option Addr} {rs : List DRow} {c c2 : Nat} (hm : rs.map DRow.l = (rowsM (vecM (dgM s.1 s.2).2).2).1)
    (h : TK t w0 b B g { ({ ({ x with R := (dgM s.1 s.2).1 } : Mx) with cA := A, cl := (vecM (dgM s.1 s.2).2).1, cc := c } : Mx) with rA := A2, rs := rs, rc := c2 } (rowsM (vecM (dgM s.1 s.2).2).2).2 w) : TKo t w0 b B g x s w := by
  refine tko_of ?_ h
  unfold rdBody
  rw [if_pos (show (mst x).K = 2 from k), ← hm, ← map_mkD]
  rfl
theorem tko3 (k : x.K = 3) (h : TK t w0 b B g { ({ x with R := (dgM s.1 s.2).1 } : Mx) with Pa := (txtM 51 (dgM s.1 s.2).2.1 (dgM s.1 s.2).2.2).1 } (txtM 51 (dgM s.1 s.2).2.1 (dgM s.1 s.2).2.2).2 w) : TKo t w0 b B g x s w := by
  refine tko_of ?_ h
  unfold rdBody
  rw [if_neg (show ¬ (mst x).K = 2 by show ¬ x.K = 2; omega), if_pos (show (mst x).K = 3 from k)]
  rfl
theorem tko4 (k : x.K = 4) (h : TK t w0 b B g { ({ x with Pa := (txtM 51 s.1 s.2).1 } : Mx) with Tx := (txtM 65536 (txtM 51 s.1 s.2).2.1 (txtM 51 s.1 s.2).2.2).1 } (txtM 65536 (txtM 51 s.1 s.2).2.1 (txtM 51 s.1 s.2).2.2).2 w) : TKo t w0 b B g x s w := by
  refine tko_of ?_ h
  unfold rdBody
  rw [if_neg (show ¬ (mst x).K = 2 by show ¬ x.K = 2; omega), if_neg (show ¬ (mst x).K = 3 by show ¬ x.K = 3; omega), if_pos (show (mst x).K = 4 from k)]
  rfl
theorem tko6 (k : x.K = 6) (h : TK t w0 b B g { x with Tn := (flgM s.1 s.2).1 } (flgM s.1 s.2).2 w) : TKo t w0 b B g x s w := by
  refine tko_of ?_ h
  unfold rdBody
  rw [if_neg (show ¬ (mst x).K = 2 by show ¬ x.K = 2; omega), if_neg (show ¬ (mst x).K = 3 by show ¬ x.K = 3; omega), if_neg (show ¬ (mst x).K = 4 by show ¬ x.K = 4; omega), if_pos (show (mst x).K = 6 from k)]
  rfl
theorem tkoN (k2 : x.K ≠ 2) (k3 : x.K ≠ 3) (k4 : x.K ≠ 4) (k6 : x.K ≠ 6) (h : TK t w0 b B g x s w) : TKo t w0 b B g x s w := by
  have e : rdBody (mst x) s = (mst x, s) := by
    unfold rdBody
    rw [if_neg (show ¬ (mst x).K = 2 from k2), if_neg (show ¬ (mst x).K = 3 from k3), if_neg (show ¬ (mst x).K = 4 from k4), if_neg (show ¬ (mst x).K = 6 from k6)]
  exact ⟨x, by rw [e], by rw [e]; exact h⟩
end
theorem ownT_any {w0 w : World} {b B g : Nat} {x : Mx} {s : Rst} (h : TK 109 w0 b B g x s w) (hr : x.rA = none ∧ x.rs = [] ∧ x.rc = 0) :
    Calls Tryz.prog 45 #[.pointer (some ⟨g, 0, none⟩), .iface 73 (.agg #[.pointer (some ⟨b, 0, none⟩)])] w fun r w' => r = .returned (.tuple #[]) ∧ TKo 109 w0 b B g x s w' := by
  have c0 := (mxAt h.ms.lies h.ms.dig).c0
  have d1 : ∀ {w : World}, Gr w w.drew := fun {w} => (Gr.rfl' w).dr
  by_cases k2 : x.K = 2
  · rw [k2] at c0
    refine own2_any (tRoot _) (tCtx _) (tRows _) g w _ c0 ?_
    refine (tkRoot_any (h.more d1)).mono ?_
    rintro r w1 ⟨rfl, h1⟩
    refine ⟨rfl, ?_⟩
    refine (tkCtx_any (h1.more d1) hr.1).mono ?_
    rintro r w2 ⟨rfl, A, c, h2⟩
    refine ⟨rfl, ?_⟩
    refine (tkRows_any (h2.more d1) hr).mono ?_
    rintro r w3 ⟨rfl, A2, rs, c2, hm, h3⟩
    exact ⟨rfl, tko2 k2 hm h3⟩
  by_cases k3 : x.K = 3
  · rw [k3] at c0
    refine own3_any (tRoot _) (tPath _) g w _ c0 ?_
    refine (tkRoot_any (h.more d1)).mono ?_
    rintro r w1 ⟨rfl, h1⟩
    refine ⟨rfl, ?_⟩
    refine (tkPath_any (h1.more d1)).mono ?_
    rintro r w2 ⟨rfl, h2⟩
    exact ⟨rfl, tko3 k3 h2⟩
  by_cases k4 : x.K = 4
  · rw [k4] at c0
    refine own4_any (tPath _) (tText _) g w _ c0 ?_
    refine (tkPath_any (h.more d1)).mono ?_
    rintro r w1 ⟨rfl, h1⟩
    refine ⟨rfl, ?_⟩
    refine (tkText_any (h1.more d1)).mono ?_
    rintro r w2 ⟨rfl, h2⟩
    exact ⟨rfl, tko4 k4 h2⟩
  by_cases k6 : x.K = 6
  · rw [k6] at c0
    refine own6_any (tTurn _) g w _ c0 ?_
    refine (tkTurn_any (h.more d1)).mono ?_
    rintro r w1 ⟨rfl, h1⟩
    exact ⟨rfl, tko6 k6 h1⟩
  refine (ownNone_any x.K g _ w c0 ⟨k2, k3, k4, k6⟩).mono ?_
  rintro r w1 ⟨rfl, rfl⟩
  exact ⟨rfl, tkoN k2 k3 k4 k6 h⟩
/-- what a reading of a message comes to -/
def ReadR (S : ByteArray) (w : World) (r : Ending) (w' : World) : Prop := ∃ y e, r = .returned (.tuple #[.agg y.cells, .int .i64 e]) ∧ (mst y, e) = readM S ∧ MxOk w' y ∧ Gr w w'
theorem zMx_ok (w : World) : MxOk w zMx := ⟨Z32L_len, Dots.nil _ _, ⟨by simp [zMx], fun i hi => absurd hi (by simp [zMx])⟩, by decide, by decide⟩
theorem builtK (k : Int) : Tryz.prog.built 37 [(0, .int .i64 k)] = some ({ zMx with K := k } : Mx).cells := by kernel_rfl
theorem builtZ : Tryz.prog.built 37 [] = some zMx.cells := by kernel_rfl
theorem buildK {ops : Array Oper} {rest : List Oper} {o : Oper} {a : Act} {w : World} {Q : Exit → Act → World → Prop} (k : Int) (x : Operand) (hg : o.guard = none) (ho : o.op = .build 37 #[(0, x)]) (hx : a.eval x = .int .i64 k)
    (h : wpList Tryz.prog ops Q rest (a.put o.dst (.agg ({ zMx with K := k } : Mx).cells)) w) : wpList Tryz.prog ops Q (o :: rest) a w := by
  have e : ((#[(0, x)] : Array (Nat × Operand)).map fun (i, y) => (i, a.eval y)).toList = [(0, .int .i64 k)] := by simp [hx]
  refine wpList_build hg 37 _ ho (by rw [e, builtK]; rfl) ?_
  rw [e, builtK]; exact h
theorem buildZM {ops : Array Oper} {rest : List Oper} {o : Oper} {a : Act} {w : World} {Q : Exit → Act → World → Prop} (hg : o.guard = none) (ho : o.op = .build 37 #[])
    (h : wpList Tryz.prog ops Q rest (a.put o.dst (.agg zMx.cells)) w) : wpList Tryz.prog ops Q (o :: rest) a w := by
  have e : ((#[] : Array (Nat × Operand)).map fun (i, y) => (i, a.eval y)).toList = [] := by simp
  refine wpList_build hg 37 _ ho (by rw [e, builtZ]; rfl) ?_
  rw [e, builtZ]; exact h
theorem storeMR {ops : Array Oper} {rest : List Oper} {o : Oper} {a : Act} {w : World} {Q : Exit → Act → World → Prop} (c c0 : Mx) (hc : c.R.length = 32) (hc0 : c0.R.length = 32) (g : Nat) (hg : o.guard = none) (x y : Operand) (ho : o.op = .store 37 x y) (hd : o.dst = none)
    (hx : a.eval x = .pointer (some ⟨g, 0, none⟩)) (hy : a.eval y = .agg c.cells) (h0 : MAt w g c0)
    (h : ∀ wt : World, MAt wt g c → Rm g w wt → wpList Tryz.prog ops Q rest a wt) : wpList Tryz.prog ops Q (o :: rest) a w := by
  refine wpList_store_row hg 37 x y ho g c.cells hx hy 37 c0.cells h0 (by rw [Mx.size c hc]; exact sizeM) (by rw [Mx.size c hc, Mx.size c0 hc0]) (mOne c) ?_
  rw [hd]
  refine h _ ?_ ⟨rfl, rfl, rfl, by show w.heap.size ≤ (w.heap.modify _ _).size; rw [Array.size_modify]; exact Nat.le_refl _, fun k hk hne => ?_⟩
  · show (w.heap.modify _ _)[g]? = _
    simp [Array.getElem?_modify, show w.heap[g]? = _ from h0]
  · show (w.heap.modify _ _)[k]? = _
    rw [Array.getElem?_modify, if_neg (Ne.symm hne)]
theorem ldMsg {W : World} {g : Nat} {y : Mx} (h : MAt W g y) (hy : y.R.length = 32) : (loadVar 37 ⟨g, 0, none⟩).run Tryz.prog W = .ok (.agg y.cells) W :=
  run_loadVar_row _ _ 37 37 _ (0, 0) _ h Tryz.underlying37 rfl (by rw [Mx.size y hy]; exact sizeM)
theorem txtM_le (m : Int) (hm : 0 ≤ m) (S : ByteArray) (e : Int) : ((txtM m S e).1.size : Int) ≤ m := by
  by_cases he : e = 0
  · subst he
    unfold txtM
    rw [if_neg (by simp)]
    by_cases h : (txtP m S).2.2 = 0
    · have h2 : (txtM m S 0).2.2 = 0 := by unfold txtM; rw [if_neg (by simp), if_neg (by simpa using h)]
      have := (can_txt h2).2
      unfold txtM at this
      rw [if_neg (by simp), if_neg (by simpa using h)] at this
      rw [if_neg (by simpa using h)]
      exact this
    · rw [if_pos h]; exact hm
  · rw [txtM_err m he]; exact hm
theorem rdAll_pa (S : ByteArray) : (rdAll S).1.Pa.size ≤ 51 := by
  have h0 : (rdHead S).1.Pa.size ≤ 51 := by show (⟨#[]⟩ : ByteArray).size ≤ 51; decide
  unfold rdAll rdBody
  split
  · exact h0
  · split
    · have := txtM_le 51 (by decide) (dgM (rdHead S).2.1 (rdHead S).2.2).2.1 (dgM (rdHead S).2.1 (rdHead S).2.2).2.2
      show (txtM 51 _ _).1.size ≤ 51
      omega
    · split
      · have := txtM_le 51 (by decide) (rdHead S).2.1 (rdHead S).2.2
        show (txtM 51 _ _).1.size ≤ 51
        omega
      · split
        · exact h0
        · exact h0
end Go.Proofs.YtfobnemocodomaaGreat
