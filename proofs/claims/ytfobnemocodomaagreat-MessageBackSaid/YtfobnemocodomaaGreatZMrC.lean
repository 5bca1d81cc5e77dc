/- message's taker: rows. -/
import Derived.Test.YtfobnemocodomaaGreatZMrB
import Derived.Test.YtfobnemocodomaaGreatZBa
set_option linter.unusedVariables false
set_option linter.unusedSimpArgs false
set_option maxHeartbeats 4000000
namespace Go.Proofs.YtfobnemocodomaaGreat
open Go.RowKit Go.Shelf Go.Great

theorem rowsGoM_one (k : Nat) (l : List (List Dot)) {s : Rst} (h : s.2 = 0) : rowsGoM (k + 1) (l, s) = rowsGoM k (l ++ [(vecM s).1], (vecM s).2) := by
  conv => lhs; unfold rowsGoM
  rw [if_neg (by simpa using h)]
section
variable {t : TypeId} {w0 w : World} {b B g : Nat} {x : Mx} {s : Rst}
theorem TK.same (h : TK t w0 b B g x s w) : TK t w0 b B g { x with rA := x.rA, rs := x.rs, rc := x.rc } s w := h
end
def TKr (t : TypeId) (w0 : World) (b B g : Nat) (x : Mx) (s : Rst) (w : World) : Prop := ∃ (A : Option Addr) (rs : List DRow) (c : Nat), rs.map DRow.l = (rowsM s).1 ∧ TK t w0 b B g { x with rA := A, rs := rs, rc := c } (rowsM s).2 w
theorem app_slice {P : Program} {w w' : World} {o : Oper} {a : Act} (s x : Operand) (T ty : TypeId) (u v z : Value) (ho : o.op = .call { callee := .builtin .append, args := #[s, x], argTypes := #[T, T] }) (hty : o.type = ty) (hs : a.eval s = u) (hx : a.eval x = v)
    (hr : (Builtin.append_ #[T, T] ty #[u, v]).run P w = .ok z w') : (execOp a.eval o).run P w = .ok (.value z) w' := by
  subst hty
  unfold execOp
  simp only [ho, resolve, invoke, builtin, Sem.run_bind, Sem.run_pure, Result.andThen_ok, List.map_toArray, List.map_cons, List.map_nil, hs, hx, hr]
theorem anyT_lastStore {P : Program} {ops : Array Oper} {Q : Exit → Act → World → Prop} {md : Region.Mode} {S : World → Prop} {s : Nat} {o : Oper} {f : Nat} {listed : Array Bool} {a : Act} {w w' : World} (hr : Region.ready md ops listed = [s]) (hr' : Region.ready md ops (listed.setIfInBounds s true) = []) (ho : ops[s]? = some o) (hg : o.guard = none) (hd : o.dst = none)
    (he : (execOp a.eval o).run P w = .ok .skip w') (h : Q .normal a w') : anyT P md ops Q s S (f + 1) listed a w := by
  refine anyT_one hr ho hg ?_
  unfold Oper.wp
  rw [he, Oper.upon_skip, hd]
  exact ⟨fun h0 => absurd rfl h0, anyT_done hr' h f⟩
set_option maxRecDepth 100000 in
theorem tkRows_any {w0 w : World} {b B g : Nat} {x : Mx} {s : Rst} (h : TK 109 w0 b B g x s w) (hr : x.rA = none ∧ x.rs = [] ∧ x.rc = 0) :
    Calls Tryz.prog 172 #[.agg #[.pointer (some ⟨b, 0, none⟩)], .pointer (some ⟨g, 39, none⟩)] w fun r w' => r = .returned (.tuple #[]) ∧ TKr 109 w0 b B g x s w' := by
  have hg1 : Gr w (w.alloc (.cells #[.pointer (some ⟨b, 0, none⟩)] 73)) := (Gr.rfl' w).al _
  have HT := Lib.hid (h.more hg1)
  have HP := Lib.hid (World.alloc_heap_new w (.cells #[.pointer (some ⟨b, 0, none⟩)] 73))
  obtain ⟨pb, hpb⟩ : ∃ pb, w.heap.size = pb := ⟨_, rfl⟩
  have HNE : Hid (pb ≠ b ∧ pb ≠ g) := Lib.hid (by have := h.B; have := h.hb; have := h.hg; omega)
  have cp : (w.alloc (.cells #[.pointer (some ⟨b, 0, none⟩)] 73)).cell? ⟨w.heap.size, 0, none⟩ = some (.pointer (some ⟨b, 0, none⟩)) := by
    have hp := HP.out
    simp only [World.cell?, hp]; rfl
  have HR := Lib.hid hr
  clear h hr hg1
  generalize hW1 : w.alloc (.cells #[.pointer (some ⟨b, 0, none⟩)] 73) = W1 at HT cp HP
  rw [hpb] at cp
  have HPB := Lib.hid hpb
  have HN := Lib.hid (dNumber_any b s.1 s.2 64 W1 HT.out.rd HT.out.sz)
  have hrg := numM_rng (m := 64) (by decide) (by decide) s.1 s.2
  have HRM : Hid (rowsM s = rowsGoM (numM 64 s.1 s.2).1.toNat ([], (numM 64 s.1 s.2).2)) := Lib.hid rfl
  have HSZ := Lib.hid (numM_szR 64 s.1 s.2)
  obtain ⟨nI, s1, hn⟩ : ∃ nI s1, numM 64 s.1 s.2 = (nI, s1) := ⟨_, _, rfl⟩
  simp only [hn] at HN hrg HRM HSZ
  clear hn
  obtain ⟨n, rfl⟩ : ∃ n : Nat, nI = (n : Int) := ⟨nI.toNat, by omega⟩
  rw [Int.toNat_natCast] at HRM
  obtain ⟨_, hn64, hn0, _⟩ := hrg
  have hn64 : n ≤ 64 := by omega
  have HN0 : Hid (s1.2 ≠ 0 → n = 0) := Lib.hid (fun k => by have := hn0 k; omega)
  clear hn0
  go_enter Tryz.func172, Tryz.ntmps172
  go_wp2_with fail
  refine (HN.out).mono ?_
  rintro r w1 ⟨rfl, hs1, m1⟩
  have HT1 : Hid (TK 109 w0 b B g { x with rA := none, rs := [], rc := 0 } s1 w1) := Lib.hid (by
    have h1 := HT.out.take (s' := s1) hs1 HSZ.out m1
    obtain ⟨e1, e2, e3⟩ := HR.out
    have e : ({ x with rA := none, rs := [], rc := 0 } : Mx) = x := by rw [← e1, ← e2, ← e3]
    rw [e]; exact h1)
  have HP1 : Hid (w1.heap[pb]? = some (.cells #[.pointer (some ⟨b, 0, none⟩)] 73 (0, 0))) := Lib.hid (by
    have h1 := HP.out
    rw [hpb] at h1
    exact (m1.keep pb (Array.getElem?_eq_some_iff.1 h1).1 HNE.out.1).trans h1)
  clear hs1 m1 HN HT HP hW1 cp hpb HSZ
  go_wp2
  go_loopw [7] (fun i wr => ∃ (l : List DRow) (A : Option Addr) (c : Nat) (s2 : Rst), l.length ≤ n ∧ i = .int .i64 l.length ∧ Hid (l.length < n → s2.2 = 0) ∧ Hid (rowsGoM (n - l.length) (l.map DRow.l, s2) = rowsGoM n ([], s1)) ∧ Hid (TK 109 w0 b B g { x with rA := A, rs := l, rc := c } s2 wr) ∧ Hid (wr.heap[pb]? = some (.cells #[.pointer (some ⟨b, 0, none⟩)] 73 (0, 0)))) (fun i _ => n - (intOf i).toNat)
  case atStart => exact ⟨[], none, 0, s1, Nat.zero_le _, rfl, Lib.hid (fun k => Classical.byContradiction fun he => by have := HN0.out he; simp at k; omega), Lib.hid rfl, HT1, HP1⟩
  case round =>
    clear HT1 HP1 HN0
    obtain ⟨l, A, c, s2, hk, rfl, HE, HG, HT, HP⟩ := hrel
    have hpc : wr.cell? ⟨pb, 0, none⟩ = some (.pointer (some ⟨b, 0, none⟩)) := by
      have hp := HP.out
      simp only [World.cell?, hp]; rfl
    by_cases hlt : l.length < n
    · have hs0 := HE.out hlt
      have hki : (l.length : Int) < (n : Int) := by omega
      have hrg := HG.out
      rw [show n - l.length = n - (l.length + 1) + 1 by omega, rowsGoM_one _ _ hs0] at hrg
      have HV := Lib.hid (fun W (h : Sr 109 b s2.1 s2.2 W) => TakeVec_any b s2.1 s2.2 W h HT.out.sz)
      have HSZ := Lib.hid (vecM_sz s2)
      have hse : (s2.1, s2.2) = s2 := rfl
      obtain ⟨d, s3, hd⟩ : ∃ d s3, vecM s2 = (d, s3) := ⟨_, _, rfl⟩
      simp only [hse, hd] at HV HSZ hrg
      have HRG := Lib.hid hrg
      have HCP := Lib.hid hpc
      have HC39 := Lib.hid (mxAt HT.out.ms.lies HT.out.ms.dig).c39
      clear hse hd hrg hs0 HE HG hpc
      go_upto_region 3 with (fail)
      have hSS : wr.drew.cell? ⟨g, 39, none⟩ = some (.slice A l.length c) ∧ wr.drew.cell? ⟨pb, 0, none⟩ = some (.pointer (some ⟨b, 0, none⟩)) := ⟨HC39.out, HCP.out⟩
      refine region_T 10 (fun w' => w'.cell? ⟨g, 39, none⟩ = some (.slice A l.length c) ∧ w'.cell? ⟨pb, 0, none⟩ = some (.pointer (some ⟨b, 0, none⟩))) (by kernel_rfl) ?_
      refine anyT_take (i := 0) (v := ?_) (some 9) rfl rfl (by kernel_rfl) (fun _ _ _ h => h) (Or.inl ⟨by rfl, ?_⟩) hSS ?_
      rotate_left
      · intro w' hSw; go_simp; (try with_reducible rfl)
      simp only [Act.put, List.setIfInBounds_toArray, List.set_cons_zero, List.set_cons_succ]
      refine anyT_take (i := 1) (v := ?_) (some 10) rfl rfl (by kernel_rfl) (fun _ _ _ h => h) (Or.inl ⟨by rfl, ?_⟩) hSS ?_
      rotate_left
      · intro w' hSw; go_simp; (try with_reducible rfl)
      simp only [Act.put, List.setIfInBounds_toArray, List.set_cons_zero, List.set_cons_succ]
      refine anyT_take (i := 2) (v := ?_) (some 11) rfl rfl (by kernel_rfl) (fun _ _ _ h => h) (Or.inl ⟨by rfl, ?_⟩) hSS ?_
      rotate_left
      · intro w' hSw; go_simp; (try with_reducible rfl)
      simp only [Act.put, List.setIfInBounds_toArray, List.set_cons_zero, List.set_cons_succ]
      refine anyT_take (i := 3) (v := ?_) (some 12) rfl rfl (by kernel_rfl) (fun _ _ _ h => h) (Or.inl ⟨by rfl, ?_⟩) hSS ?_
      rotate_left
      · intro w' hSw; have c := hSw.1; go_simp; (try with_reducible rfl)
      simp only [Act.put, List.setIfInBounds_toArray, List.set_cons_zero, List.set_cons_succ]
      refine anyT_take (i := 4) (v := ?_) (some 13) rfl rfl (by kernel_rfl) (fun _ _ _ h => h) (Or.inl ⟨by rfl, ?_⟩) hSS ?_
      rotate_left
      · intro w' hSw; go_simp; (try with_reducible rfl)
      simp only [Act.put, List.setIfInBounds_toArray, List.set_cons_zero, List.set_cons_succ]
      refine anyT_take (i := 5) (v := ?_) (some 14) rfl rfl (by kernel_rfl) (fun _ _ _ h => h) (Or.inl ⟨by rfl, ?_⟩) hSS ?_
      rotate_left
      · intro w' hSw; have c := hSw.2; go_simp; (try with_reducible rfl)
      simp only [Act.put, List.setIfInBounds_toArray, List.set_cons_zero, List.set_cons_succ]
      have HTD := Lib.hid (HT.out.more ((Gr.rfl' wr).dr))
      refine anyT_call (i := 6) (some 15) 101 #[.pointer (some ⟨b, 0, none⟩)] (by kernel_rfl) rfl rfl rfl (by go_simp) ?_
      refine (HV.out wr.drew HTD.out.rd).mono ?_
      rintro r w2 ⟨⟨v, rfl, ho⟩, h2, m2⟩
      obtain ⟨A2, c2, rfl, k1, k2, k3⟩ := ho.newD
      have hS2 : w2.cell? ⟨g, 39, none⟩ = some (.slice A l.length c) ∧ w2.cell? ⟨pb, 0, none⟩ = some (.pointer (some ⟨b, 0, none⟩)) := ⟨rm_cell m2 HT.out.ne hSS.1, rm_cell m2 HNE.out.1 hSS.2⟩
      have HT2 := Lib.hid (HTD.out.take (s' := s3) h2 HSZ.out m2)
      have HP2 : Hid (w2.heap[pb]? = some (.cells #[.pointer (some ⟨b, 0, none⟩)] 73 (0, 0))) := Lib.hid ((m2.keep pb (Array.getElem?_eq_some_iff.1 HP.out).1 HNE.out.1).trans HP.out)
      have HPU := Lib.hid (HT2.out.push (d := ⟨A2, c2, d⟩) k2 k1 (fun D hD => Nat.le_trans HTD.out.B (k3 D hD)) (fun D hD hp D2 hD2 => by
        have e1 := k3 D2 hD2
        obtain ⟨ad, ea, _⟩ := HT.out.ms.rows.rows
        rcases HT.out.ms.rows.own with ⟨e0, _⟩ | ⟨g2, _, o2, _⟩
        · have := (Value.slice.inj e0).1
          have hD' : A = some D := hD
          rw [show A = none from this] at hD'; cases hD'
        · obtain ⟨c9, e9, _⟩ := o2.shape
          have e8 : A = some ⟨g2, 0, none⟩ := (Value.slice.inj e9).1
          have hD' : A = some D := hD
          rw [e8] at hD'; cases hD'
          have := o2.lt
          have h5 : wr.drew.heap.size = wr.heap.size := rfl
          show D2.block ≠ g2
          omega) (by show l.length ≤ _; omega) 35)
      refine ⟨_, rfl, fun _ => hS2, ?_⟩
      simp only [Act.put, List.setIfInBounds_toArray, List.set_cons_zero, List.set_cons_succ]
      clear h2 m2 ho k1 k2 k3 HV HTD HT HP HCP HC39
      have hSA : (w2.alloc (.cells #[.slice A2 d.length c2] 34)).cell? ⟨g, 39, none⟩ = some (.slice A l.length c) ∧ (w2.alloc (.cells #[.slice A2 d.length c2] 34)).cell? ⟨pb, 0, none⟩ = some (.pointer (some ⟨b, 0, none⟩)) := ⟨((Gr.rfl' w2).al _).cell hS2.1, ((Gr.rfl' w2).al _).cell hS2.2⟩
      refine anyT_its (i := 7) (by kernel_rfl) (wpOp_val (w' := w2.alloc (.cells #[.slice A2 d.length c2] 34)) (some 16) (.slice (some ⟨w2.heap.size, 0, none⟩) 1 1) rfl (by rfl) rfl (by go_simp) ⟨fun _ => hSA, ?_⟩)
      simp only [Act.put, List.setIfInBounds_toArray, List.set_cons_zero, List.set_cons_succ]
      obtain ⟨⟨A3, c3⟩, w3, hrun, ⟨q1, q2⟩, htk, hkeep⟩ := HPU.out
      have hrun' : (Builtin.append_ #[35, 35] 35 #[.slice A l.length c, .slice (some ⟨w2.heap.size, 0, none⟩) 1 1]).run Tryz.prog (w2.alloc (.cells #[.slice A2 d.length c2] 34)) = .ok (.slice A3 (l ++ [(⟨A2, c2, d⟩ : DRow)]).length c3) w3 := hrun
      have HTK := Lib.hid htk
      have hp3 := hkeep pb _ _ HP2.out (by decide)
      have HP3 := Lib.hid hp3
      have hS3 : w3.cell? ⟨g, 39, none⟩ = some (.slice A l.length c) ∧ w3.cell? ⟨pb, 0, none⟩ = some (.pointer (some ⟨b, 0, none⟩)) := ⟨q1, by simp only [World.cell?, hp3]; rfl⟩
      refine anyT_its (i := 8) (by kernel_rfl) (wpOp_val (w' := w3) (some 17) (.slice A3 (l ++ [(⟨A2, c2, d⟩ : DRow)]).length c3) rfl (by rfl) rfl (app_slice (.tmp 12) (.tmp 16) 35 35 (.slice A l.length c) (.slice (some ⟨w2.heap.size, 0, none⟩) 1 1) _ rfl rfl rfl rfl hrun') ⟨fun _ => hS3, ?_⟩)
      simp only [Act.put, List.setIfInBounds_toArray, List.set_cons_zero, List.set_cons_succ]
      replace hSS := hS3
      refine anyT_take (i := 9) (v := ?_) (some 18) rfl rfl (by kernel_rfl) (fun _ _ _ h => h) (Or.inl ⟨by rfl, ?_⟩) hSS ?_
      rotate_left
      · intro w' hSw; go_simp; (try with_reducible rfl)
      simp only [Act.put, List.setIfInBounds_toArray, List.set_cons_zero, List.set_cons_succ]
      clear hrun hrun' htk hkeep hp3 hSA hS2 HPU HP2 HT2
      obtain ⟨l2, hl2⟩ : ∃ l2, l ++ [(⟨A2, c2, d⟩ : DRow)] = l2 := ⟨_, rfl⟩
      have HLL : Hid (l2.length = l.length + 1) := Lib.hid (by rw [← hl2]; simp)
      have HLM : Hid (l2.map DRow.l = l.map DRow.l ++ [d]) := Lib.hid (by rw [← hl2, List.map_append]; rfl)
      simp only [hl2] at HTK ⊢
      clear hl2
      have hst : w3.cell? ⟨g, 39, none⟩ = some (.slice A l.length c) ∧ w3.frozen? ⟨g, 39, none⟩ = false := ⟨q1, q2⟩
      refine anyT_lastStore (w' := w3.setCell ⟨g, 39, none⟩ (.slice A3 l2.length c3)) (by kernel_rfl) (by kernel_rfl) rfl rfl rfl (by go_simp) ?_
      clear q1 q2 hst hS3 hSS
      have HP4 : Hid ((w3.setCell ⟨g, 39, none⟩ (.slice A3 l2.length c3)).heap[pb]? = some (.cells #[.pointer (some ⟨b, 0, none⟩)] 73 (0, 0))) := Lib.hid (((rm_set g 39 _ w3).keep pb (Array.getElem?_eq_some_iff.1 HP3.out).1 HNE.out.2).trans HP3.out)
      generalize w3.setCell ⟨g, 39, none⟩ (.slice A3 l2.length c3) = w4 at HTK HP4 ⊢
      have hpc : w4.cell? ⟨pb, 0, none⟩ = some (.pointer (some ⟨b, 0, none⟩)) := by
        have hp := HP4.out
        simp only [World.cell?, hp]; rfl
      clear HP3
      go_wp2_with fail
      refine (Err_any b s3.1 s3.2 w4 HTK.out.rd).mono ?_
      rintro r w5 ⟨rfl, rfl⟩
      by_cases he3 : s3.2 = 0
      · have HE3 := Lib.hid he3
        rw [he3]
        clear he3 hpc
        go_wp2
        go_roundw
        case rel => exact ⟨l2, A3, c3, s3, by have := HLL.out; omega, by have := HLL.out; rw [this]; go_num, Lib.hid (fun _ => HE3.out), Lib.hid (by rw [HLL.out, HLM.out]; exact HRG.out), HTK, HP4⟩
        case measure => simp [intOf]; omega
      · have hb3 : (s3.2 != 0) = true := by simpa using he3
        go_wp2
        (try simp only [Exit.inBlock, Exit.then])
        refine bodyPost_ret (results_none rfl _ _ _) rfl ?_
        have hx : rowsM s = (l2.map DRow.l, s3) := by rw [HRM.out, ← HRG.out, HLM.out, rowsGoM_err _ _ he3]
        exact ⟨rfl, A3, l2, c3, by rw [hx], by rw [hx]; exact HTK.out⟩
    · have hkn : l.length = n := by omega
      have hki : ¬ ((l.length : Int) < (n : Int)) := by omega
      have hx : rowsM s = (l.map DRow.l, s2) := by
        have hrg := HG.out
        rw [hkn, Nat.sub_self] at hrg
        rw [HRM.out, ← hrg]; rfl
      have HX := Lib.hid hx
      clear hx
      go_wp2
      go_end0
      exact ⟨rfl, A, l, c, by rw [HX.out], by rw [HX.out]; exact HT.out⟩
end Go.Proofs.YtfobnemocodomaaGreat
