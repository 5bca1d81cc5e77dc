/- frame.Open. -/
import Derived.Test.YtfobnemocodomaaGreatZBx
set_option linter.unusedVariables false
set_option linter.unusedSimpArgs false
set_option maxHeartbeats 4000000
namespace Go.Proofs.YtfobnemocodomaaGreat
open Go.RowKit Go.Shelf Go.Great

def contK (k : Nat) (r : ByteArray) (x : Mx) : Mx × Int :=
  if k = 0 then (if 131072 < r.size then (zMx, 2) else cont1 r) else if k = 1 then cont1 r else if k = 2 then cont2 r else if k = 3 then cont3 r else if k = 4 then readM r else (mst x, 0)
def OpS (S : ByteArray) (o r0 k : Nat) (wr : World) : Prop :=
  ∃ rest x, OAt wr o rest x ∧ x.R.length = 32 ∧ rest.size ≤ 9223372036854775807 ∧ (∀ W2, Rm r0 wr W2 → MxOk W2 x) ∧ (k < 5 → x = zMx) ∧ contK k rest x = openM S
theorem builtO (S : ByteArray) : Tryz.prog.built 96 [(0, .string S)] = some (Value.string S :: zMx.list).toArray := by kernel_rfl
theorem buildO {ops : Array Oper} {rest : List Oper} {o : Oper} {a : Act} {w : World} {Q : Exit → Act → World → Prop} (S : ByteArray) (x : Operand) (hg : o.guard = none) (ho : o.op = .build 96 #[(0, x)]) (hx : a.eval x = .string S)
    (h : wpList Tryz.prog ops Q rest (a.put o.dst (.agg (Value.string S :: zMx.list).toArray)) w) : wpList Tryz.prog ops Q (o :: rest) a w := by
  have e : ((#[(0, x)] : Array (Nat × Operand)).map fun (i, y) => (i, a.eval y)).toList = [(0, .string S)] := by simp [hx]
  refine wpList_build hg 96 _ ho (by rw [e, builtO]; rfl) ?_
  rw [e, builtO]; exact h
theorem oneF (f : FuncId) : (#[(.func (.func f) #[] #[])] : Array Value).all (·.oneCell') = true := by simp [Value.oneCell']
theorem cellBox (W : World) (F : Value) : Gr W (W.alloc (.cells #[F] 101)) ∧ (W.alloc (.cells #[F] 101)).cell? ⟨W.heap.size, 0, none⟩ = some F := by
  have h := World.alloc_heap_new W (.cells #[F] 101)
  refine ⟨(Gr.rfl' W).al _, ?_⟩
  simp only [World.cell?, h]; rfl
theorem readM_z {S : ByteArray} (h : (readM S).2 ≠ 0) : (readM S).1 = zMx := by
  unfold readM at h ⊢
  by_cases hd : rdDone (rdAll S).2.1 (rdAll S).2.2 = 0
  · rw [if_neg (by simpa using hd)] at h ⊢
    by_cases hc : mChk (rdAll S).1 = 0
    · rw [if_neg (by simpa using hc)] at h; exact absurd rfl h
    · rw [if_pos hc]
  · rw [if_pos hd]
theorem txtM_oB (q : ByteArray) : (openB q).1.size ≤ q.size := txtM_tszR 131072 q 0
theorem pmx_rm {W W' : World} {o : Nat} (h : Pt.Mx W) (m : Rm o W W') (ho : 0 < o) : Pt.Mx W' := by
  obtain ⟨v, hv⟩ := h
  exact ⟨v, rm_cell m (by show 0 ≠ o; omega) hv⟩
set_option maxRecDepth 100000 in
theorem fOpen_any (S : ByteArray) (w : World) (hS : S.size ≤ 9223372036854775807) (hP : Pt.Mx w) :
    Calls Tryz.prog 22 #[.string S] w fun r w' => OpenR S w r w' := by
  obtain ⟨W0, hW0⟩ : ∃ W0, w.alloc (.cells zMx.cells 37) = W0 := ⟨_, rfl⟩
  have HR0 : Hid (MAt W0 w.heap.size zMx) := Lib.hid (by rw [← hW0]; exact World.alloc_heap_new w _)
  have HG0 : Hid (Gr w W0) := Lib.hid (by rw [← hW0]; exact (Gr.rfl' w).al _)
  have HS := Lib.hid hS
  have HP := Lib.hid (hP.gr HG0.out)
  obtain ⟨oL, hoL⟩ : ∃ oL, (Value.string S :: zMx.list).toArray = oL := ⟨_, rfl⟩
  have HOL := Lib.hid hoL
  obtain ⟨W1, hW1⟩ : ∃ W1, W0.alloc (.cells oL 96) = W1 := ⟨_, rfl⟩
  have HO1 : Hid (OAt W1 W0.heap.size S zMx) := Lib.hid (by rw [← hW1, ← hoL]; exact World.alloc_heap_new W0 _)
  have HG1 : Hid (Gr W0 W1) := Lib.hid (by rw [← hW1]; exact (Gr.rfl' W0).al _)
  obtain ⟨o, ho⟩ : ∃ o, W0.heap.size = o := ⟨_, rfl⟩
  have HR0L : Hid (w.heap.size < o) := Lib.hid (by have := (Array.getElem?_eq_some_iff.1 HR0.out).1; omega)
  rw [ho] at HO1
  clear hS hP
  go_enter Tryz.func22, Tryz.ntmps22
  go_wp2_with (first
    | refine allocM rfl rfl ?_
    | (refine buildO S _ rfl rfl rfl ?_; rw [hoL]))
  refine (steps_any W1).mono ?_
  rintro r W2' ⟨rfl, hW2⟩
  obtain ⟨sb, hsb⟩ : ∃ sb, W1.heap.size = sb := ⟨_, rfl⟩
  have HST : Hid (W2'.heap[sb]? = some (.cells stepsC 101 (0, 0))) := Lib.hid (by rw [hW2, ← hsb]; exact World.alloc_heap_new W1 _)
  have HG2 : Hid (Gr W1 W2') := Lib.hid (by rw [hW2]; exact (Gr.rfl' W1).al _)
  have HSO : Hid (o < sb) := Lib.hid (by have := (Array.getElem?_eq_some_iff.1 HO1.out).1; omega)
  have HO2 := Lib.hid (HO1.out.gr HG2.out)
  have HG02 := Lib.hid (HG0.out.tr (HG1.out.tr HG2.out))
  have HR2 := Lib.hid (mat_gr HR0.out (HG1.out.tr HG2.out))
  have HP2 := Lib.hid (HP.out.gr (HG1.out.tr HG2.out))
  rw [hsb]
  clear hW0 hW1 hoL HOL ho hW2 hsb HO1 HG0 HG1 HG2 HR0 HP
  obtain ⟨r0, hr0⟩ : ∃ r0, w.heap.size = r0 := ⟨_, rfl⟩
  have HRZ := Lib.hid hr0
  rw [hr0] at HR2 HR0L ⊢
  clear hr0
  have HPS : Hid (OpS S o r0 0 W2') := Lib.hid ⟨S, zMx, HO2.out, Z32L_len, HS.out, fun _ _ => zMx_ok _, fun _ => rfl, by unfold contK; rw [if_pos rfl]; rfl⟩
  have HM0 := Lib.hid (Rm.refl o W2')
  go_wp2
  go_loopw [13] (fun i wr => ∃ k : Nat, k ≤ 5 ∧ i = .int .i64 k ∧ Hid (OpS S o r0 k wr) ∧ Hid (Rm o W2' wr)) (fun i _ => 5 - (intOf i).toNat)
  case atStart => exact ⟨0, by omega, rfl, HPS, HM0⟩
  case round =>
    clear HPS HM0
    obtain ⟨k, hk, rfl, HPS, HM⟩ := hrel
    have HSR := Lib.hid ((HM.out.keep sb (Array.getElem?_eq_some_iff.1 HST.out).1 (by have := HSO.out; omega)).trans HST.out)
    rcases (by omega : k = 0 ∨ k = 1 ∨ k = 2 ∨ k = 3 ∨ k = 4 ∨ k = 5) with rfl | rfl | rfl | rfl | rfl | rfl
    · skip
      have hrow := HSR.out
      obtain ⟨gq, cq⟩ := cellBox wr (.func (.func 87) #[] #[])
      have cst : wr.cell? ⟨sb, 0, none⟩ = some (.func (.func 87) #[] #[]) := by simp only [World.cell?, hrow]; rfl
      clear hrow
      go_upto_region 5 with (first | ((with_reducible refine at_st 101 _ _ ?_); refine wpList_store_row rfl 101 _ _ rfl wr.heap.size #[(.func (.func 87) #[] #[])] rfl rfl 101 #[Value.nilFunc] (World.alloc_heap_new _ _) (by kernel_rfl) rfl (oneF _) ?_; rw [World.setRow_alloc_new]))
      clear cst
      have HGQ := Lib.hid gq
      clear gq
      generalize wr.alloc (.cells #[(.func (.func 87) #[] #[])] 101) = wq at cq HGQ ⊢
      generalize wr.heap.size = qb at cq ⊢
      obtain ⟨rest, x, hO, hxd, hrz, hcl, hxz, hct⟩ := HPS.out
      have HO := Lib.hid (hO.gr HGQ.out)
      have HXZ := Lib.hid (hxz (by decide))
      have HRSZ := Lib.hid hrz
      have HCT := Lib.hid hct
      have HMQ := Lib.hid (HM.out.gr HGQ.out)
      have HXD := Lib.hid hxd
      clear hO hxd hrz hcl hxz hct HPS HM HSR
      go_wp2_with fail
      refine (stSize_any o rest x wq HO.out).mono ?_
      rintro e we ⟨rfl, rfl⟩
      have HME := HMQ
      by_cases hb : 131072 < rest.size
      · rw [if_pos hb]
        have HV : Hid ((zMx, (2 : Int)) = openM S) := Lib.hid (by rw [← HCT.out]; unfold contK; rw [if_pos rfl, if_pos hb])
        obtain ⟨ev, hev⟩ : ∃ ev : Int, 2 = ev := ⟨_, rfl⟩
        have hevb : (ev != 0) = true := by rw [← hev]; rfl
        rw [hev] at HV ⊢
        clear hb hev
        have HRX : Hid (MAt we r0 zMx) := Lib.hid (mat_rm HR2.out HME.out (by have := HR0L.out; omega))
        have HGX : Hid (Gr w we) := Lib.hid (HME.out.below HG02.out (by have := HRZ.out; have := HR0L.out; omega))
        go_wp2_with (first
          | refine buildZM rfl rfl ?_
          | ((with_reducible refine at_st 37 _ _ ?_); refine storeMR zMx zMx Z32L_len Z32L_len r0 rfl _ _ rfl rfl rfl rfl HRX.out ?_; intro wz hz1 hz2; have HZ1 := Lib.hid hz1; have HZ2 := Lib.hid hz2; clear hz1 hz2))
        have hld := ldMsg HZ1.out Z32L_len
        refine bodyPost_ret (v := .tuple #[.agg zMx.cells, .int .i64 ev]) ?_ rfl ?_
        · simp [results, Tryz.results22, Act.put, asAR, hld]
        exact ⟨zMx, ev, rfl, by rw [← HV.out]; rfl, zMx_ok _, HZ2.out.below HGX.out (by have := HRZ.out; omega)⟩
      · rw [if_neg hb]
        have HNX : Hid (OpS S o r0 1 _) := Lib.hid ⟨rest, x, HO.out, HXD.out, HRSZ.out, fun _ _ => by rw [HXZ.out]; exact zMx_ok _, fun _ => HXZ.out, by rw [← HCT.out]; unfold contK; rw [if_neg (by decide), if_pos rfl, if_pos rfl, if_neg hb]⟩
        clear hb
        go_wp2
        go_roundw
        case rel => exact ⟨1, by omega, by first | rfl | go_num, HNX, HME⟩
        case measure => simp [intOf]
    · skip
      have hrow := HSR.out
      obtain ⟨gq, cq⟩ := cellBox wr (.func (.func 88) #[] #[])
      have cst : wr.cell? ⟨sb, 1, none⟩ = some (.func (.func 88) #[] #[]) := by simp only [World.cell?, hrow]; rfl
      clear hrow
      go_upto_region 5 with (first | ((with_reducible refine at_st 101 _ _ ?_); refine wpList_store_row rfl 101 _ _ rfl wr.heap.size #[(.func (.func 88) #[] #[])] rfl rfl 101 #[Value.nilFunc] (World.alloc_heap_new _ _) (by kernel_rfl) rfl (oneF _) ?_; rw [World.setRow_alloc_new]))
      clear cst
      have HGQ := Lib.hid gq
      clear gq
      generalize wr.alloc (.cells #[(.func (.func 88) #[] #[])] 101) = wq at cq HGQ ⊢
      generalize wr.heap.size = qb at cq ⊢
      obtain ⟨rest, x, hO, hxd, hrz, hcl, hxz, hct⟩ := HPS.out
      have HO := Lib.hid (hO.gr HGQ.out)
      have HXZ := Lib.hid (hxz (by decide))
      have HRSZ := Lib.hid hrz
      have HCT := Lib.hid hct
      have HMQ := Lib.hid (HM.out.gr HGQ.out)
      have HXD := Lib.hid hxd
      clear hO hxd hrz hcl hxz hct HPS HM HSR
      go_wp2_with fail
      refine (stSum_any o rest x wq HO.out HRSZ.out).mono ?_
      rintro e we ⟨⟨rfl, hok⟩ | ⟨rfl, hok, hO2⟩, hm2⟩
      · have HME := Lib.hid (HMQ.out.trans hm2)
        have HV : Hid ((zMx, (9 : Int)) = openM S) := Lib.hid (by rw [← HCT.out]; unfold contK cont1; rw [if_neg (by decide), if_pos rfl, if_pos hok])
        obtain ⟨ev, hev⟩ : ∃ ev : Int, 9 = ev := ⟨_, rfl⟩
        have hevb : (ev != 0) = true := by rw [← hev]; rfl
        rw [hev] at HV ⊢
        clear hev hm2 hok
        have HRX : Hid (MAt we r0 zMx) := Lib.hid (mat_rm HR2.out HME.out (by have := HR0L.out; omega))
        have HGX : Hid (Gr w we) := Lib.hid (HME.out.below HG02.out (by have := HRZ.out; have := HR0L.out; omega))
        go_wp2_with (first
          | refine buildZM rfl rfl ?_
          | ((with_reducible refine at_st 37 _ _ ?_); refine storeMR zMx zMx Z32L_len Z32L_len r0 rfl _ _ rfl rfl rfl rfl HRX.out ?_; intro wz hz1 hz2; have HZ1 := Lib.hid hz1; have HZ2 := Lib.hid hz2; clear hz1 hz2))
        have hld := ldMsg HZ1.out Z32L_len
        refine bodyPost_ret (v := .tuple #[.agg zMx.cells, .int .i64 ev]) ?_ rfl ?_
        · simp [results, Tryz.results22, Act.put, asAR, hld]
        exact ⟨zMx, ev, rfl, by rw [← HV.out]; rfl, zMx_ok _, HZ2.out.below HGX.out (by have := HRZ.out; omega)⟩
      · have HME := Lib.hid (HMQ.out.trans hm2)
        have HNX : Hid (OpS S o r0 2 we) := Lib.hid ⟨(unsV rest).1, x, hO2, HXD.out, Nat.le_trans (unsV_sz rest) HRSZ.out, fun _ _ => by rw [HXZ.out]; exact zMx_ok _, fun _ => HXZ.out, by rw [← HCT.out]; unfold contK cont1; rw [if_neg (by decide), if_neg (by decide), if_pos rfl, if_neg (by decide), if_pos rfl, if_neg (by rw [hok]; simp)]⟩
        clear hm2 hok hO2
        go_wp2
        go_roundw
        case rel => exact ⟨2, by omega, by first | rfl | go_num, HNX, HME⟩
        case measure => simp [intOf]
    · skip
      have hrow := HSR.out
      obtain ⟨gq, cq⟩ := cellBox wr (.func (.func 89) #[] #[])
      have cst : wr.cell? ⟨sb, 2, none⟩ = some (.func (.func 89) #[] #[]) := by simp only [World.cell?, hrow]; rfl
      clear hrow
      go_upto_region 5 with (first | ((with_reducible refine at_st 101 _ _ ?_); refine wpList_store_row rfl 101 _ _ rfl wr.heap.size #[(.func (.func 89) #[] #[])] rfl rfl 101 #[Value.nilFunc] (World.alloc_heap_new _ _) (by kernel_rfl) rfl (oneF _) ?_; rw [World.setRow_alloc_new]))
      clear cst
      have HGQ := Lib.hid gq
      clear gq
      generalize wr.alloc (.cells #[(.func (.func 89) #[] #[])] 101) = wq at cq HGQ ⊢
      generalize wr.heap.size = qb at cq ⊢
      obtain ⟨rest, x, hO, hxd, hrz, hcl, hxz, hct⟩ := HPS.out
      have HO := Lib.hid (hO.gr HGQ.out)
      have HXZ := Lib.hid (hxz (by decide))
      have HRSZ := Lib.hid hrz
      have HCT := Lib.hid hct
      have HMQ := Lib.hid (HM.out.gr HGQ.out)
      have HXD := Lib.hid hxd
      clear hO hxd hrz hcl hxz hct HPS HM HSR
      go_wp2_with fail
      refine (stHead_any o rest x wq HO.out HRSZ.out).mono ?_
      rintro e we ⟨rfl, hO2, hm2⟩
      have HME := Lib.hid (HMQ.out.trans hm2)
      by_cases he : hdE rest = 0; rotate_left
      · have HV : Hid ((zMx, hdE rest) = openM S) := Lib.hid (by rw [← HCT.out]; unfold contK cont2; rw [if_neg (by decide), if_neg (by decide), if_pos rfl, if_pos he])
        have hevb : (hdE rest != 0) = true := by simpa using he
        obtain ⟨ev, hev⟩ : ∃ ev : Int, hdE rest = ev := ⟨_, rfl⟩
        rw [hev] at HV hevb ⊢
        clear hev hm2 he hO2
        have HRX : Hid (MAt we r0 zMx) := Lib.hid (mat_rm HR2.out HME.out (by have := HR0L.out; omega))
        have HGX : Hid (Gr w we) := Lib.hid (HME.out.below HG02.out (by have := HRZ.out; have := HR0L.out; omega))
        go_wp2_with (first
          | refine buildZM rfl rfl ?_
          | ((with_reducible refine at_st 37 _ _ ?_); refine storeMR zMx zMx Z32L_len Z32L_len r0 rfl _ _ rfl rfl rfl rfl HRX.out ?_; intro wz hz1 hz2; have HZ1 := Lib.hid hz1; have HZ2 := Lib.hid hz2; clear hz1 hz2))
        have hld := ldMsg HZ1.out Z32L_len
        refine bodyPost_ret (v := .tuple #[.agg zMx.cells, .int .i64 ev]) ?_ rfl ?_
        · simp [results, Tryz.results22, Act.put, asAR, hld]
        exact ⟨zMx, ev, rfl, by rw [← HV.out]; rfl, zMx_ok _, HZ2.out.below HGX.out (by have := HRZ.out; omega)⟩
      have HNX : Hid (OpS S o r0 3 we) := Lib.hid ⟨restT rest, x, hO2 he, HXD.out, by unfold restT; rw [ByteArray.size_extract]; have := HRSZ.out; omega, fun _ _ => by rw [HXZ.out]; exact zMx_ok _, fun _ => HXZ.out, by rw [← HCT.out]; unfold contK cont2; rw [if_neg (by decide), if_neg (by decide), if_neg (by decide), if_pos rfl, if_neg (by decide), if_neg (by decide), if_pos rfl, if_neg (by simpa using he)]⟩
      rw [he]
      clear hm2 he hO2
      go_wp2
      go_roundw
      case rel => exact ⟨3, by omega, by first | rfl | go_num, HNX, HME⟩
      case measure => simp [intOf]
    · skip
      have hrow := HSR.out
      obtain ⟨gq, cq⟩ := cellBox wr (.func (.func 90) #[] #[])
      have cst : wr.cell? ⟨sb, 3, none⟩ = some (.func (.func 90) #[] #[]) := by simp only [World.cell?, hrow]; rfl
      clear hrow
      go_upto_region 5 with (first | ((with_reducible refine at_st 101 _ _ ?_); refine wpList_store_row rfl 101 _ _ rfl wr.heap.size #[(.func (.func 90) #[] #[])] rfl rfl 101 #[Value.nilFunc] (World.alloc_heap_new _ _) (by kernel_rfl) rfl (oneF _) ?_; rw [World.setRow_alloc_new]))
      clear cst
      have HGQ := Lib.hid gq
      clear gq
      generalize wr.alloc (.cells #[(.func (.func 90) #[] #[])] 101) = wq at cq HGQ ⊢
      generalize wr.heap.size = qb at cq ⊢
      obtain ⟨rest, x, hO, hxd, hrz, hcl, hxz, hct⟩ := HPS.out
      have HO := Lib.hid (hO.gr HGQ.out)
      have HXZ := Lib.hid (hxz (by decide))
      have HRSZ := Lib.hid hrz
      have HCT := Lib.hid hct
      have HMQ := Lib.hid (HM.out.gr HGQ.out)
      have HXD := Lib.hid hxd
      clear hO hxd hrz hcl hxz hct HPS HM HSR
      go_wp2_with fail
      refine (stText_any o rest x wq HO.out HRSZ.out).mono ?_
      rintro e we ⟨rfl, hO2, hm2⟩
      have HME := Lib.hid (HMQ.out.trans hm2)
      by_cases he : (openB rest).2 = 0; rotate_left
      · have HV : Hid ((zMx, (openB rest).2) = openM S) := Lib.hid (by rw [← HCT.out]; unfold contK cont3; rw [if_neg (by decide), if_neg (by decide), if_neg (by decide), if_pos rfl, if_pos he])
        have hevb : ((openB rest).2 != 0) = true := by simpa using he
        obtain ⟨ev, hev⟩ : ∃ ev : Int, (openB rest).2 = ev := ⟨_, rfl⟩
        rw [hev] at HV hevb ⊢
        clear hev hm2 he hO2
        have HRX : Hid (MAt we r0 zMx) := Lib.hid (mat_rm HR2.out HME.out (by have := HR0L.out; omega))
        have HGX : Hid (Gr w we) := Lib.hid (HME.out.below HG02.out (by have := HRZ.out; have := HR0L.out; omega))
        go_wp2_with (first
          | refine buildZM rfl rfl ?_
          | ((with_reducible refine at_st 37 _ _ ?_); refine storeMR zMx zMx Z32L_len Z32L_len r0 rfl _ _ rfl rfl rfl rfl HRX.out ?_; intro wz hz1 hz2; have HZ1 := Lib.hid hz1; have HZ2 := Lib.hid hz2; clear hz1 hz2))
        have hld := ldMsg HZ1.out Z32L_len
        refine bodyPost_ret (v := .tuple #[.agg zMx.cells, .int .i64 ev]) ?_ rfl ?_
        · simp [results, Tryz.results22, Act.put, asAR, hld]
        exact ⟨zMx, ev, rfl, by rw [← HV.out]; rfl, zMx_ok _, HZ2.out.below HGX.out (by have := HRZ.out; omega)⟩
      have HNX : Hid (OpS S o r0 4 we) := Lib.hid ⟨(openB rest).1, x, hO2, HXD.out, Nat.le_trans (txtM_oB rest) HRSZ.out, fun _ _ => by rw [HXZ.out]; exact zMx_ok _, fun _ => HXZ.out, by rw [← HCT.out]; unfold contK cont3; rw [if_neg (by decide), if_neg (by decide), if_neg (by decide), if_neg (by decide), if_pos rfl, if_neg (by decide), if_neg (by decide), if_neg (by decide), if_pos rfl, if_neg (by simpa using he)]⟩
      rw [he]
      clear hm2 he hO2
      go_wp2
      go_roundw
      case rel => exact ⟨4, by omega, by first | rfl | go_num, HNX, HME⟩
      case measure => simp [intOf]
    · skip
      have hrow := HSR.out
      obtain ⟨gq, cq⟩ := cellBox wr (.func (.func 91) #[] #[])
      have cst : wr.cell? ⟨sb, 4, none⟩ = some (.func (.func 91) #[] #[]) := by simp only [World.cell?, hrow]; rfl
      clear hrow
      go_upto_region 5 with (first | ((with_reducible refine at_st 101 _ _ ?_); refine wpList_store_row rfl 101 _ _ rfl wr.heap.size #[(.func (.func 91) #[] #[])] rfl rfl 101 #[Value.nilFunc] (World.alloc_heap_new _ _) (by kernel_rfl) rfl (oneF _) ?_; rw [World.setRow_alloc_new]))
      clear cst
      have HGQ := Lib.hid gq
      clear gq
      generalize wr.alloc (.cells #[(.func (.func 91) #[] #[])] 101) = wq at cq HGQ ⊢
      generalize wr.heap.size = qb at cq ⊢
      obtain ⟨rest, x, hO, hxd, hrz, hcl, hxz, hct⟩ := HPS.out
      have HO := Lib.hid (hO.gr HGQ.out)
      have HXZ := Lib.hid (hxz (by decide))
      have HRSZ := Lib.hid hrz
      have HCT := Lib.hid hct
      have HMQ := Lib.hid (HM.out.gr HGQ.out)
      have HXD := Lib.hid hxd
      clear hO hxd hrz hcl hxz hct HPS HM HSR
      go_wp2_with fail
      refine (stRead_any o rest x wq HO.out HXD.out HRSZ.out (pmx_rm HP2.out HMQ.out (by have := HR0L.out; omega))).mono ?_
      rintro r we ⟨y, e, rfl, hm, hyd, hO2, hcl, hm2⟩
      have HME := Lib.hid (HMQ.out.trans hm2)
      have HCC : Hid ((mst y, e) = openM S) := Lib.hid (by rw [← HCT.out]; unfold contK; rw [if_neg (by decide), if_neg (by decide), if_neg (by decide), if_neg (by decide), if_pos rfl]; exact hm)
      by_cases he : e = 0; rotate_left
      · have HV : Hid ((zMx, e) = openM S) := Lib.hid (by
          have h1 : (readM rest).2 ≠ 0 := by rw [← hm]; exact he
          have h2 := readM_z h1
          rw [← hm] at h2
          rw [← HCC.out, ← h2])
        have hevb : (e != 0) = true := by simpa using he
        obtain ⟨ev, hev⟩ : ∃ ev : Int, e = ev := ⟨_, rfl⟩
        subst hev
        obtain ⟨ev, hev⟩ : ∃ ev : Int, e = ev := ⟨_, rfl⟩
        rw [hev] at HV hevb ⊢
        clear hev hm2 he hO2 hcl hyd
        have HRX : Hid (MAt we r0 zMx) := Lib.hid (mat_rm HR2.out HME.out (by have := HR0L.out; omega))
        have HGX : Hid (Gr w we) := Lib.hid (HME.out.below HG02.out (by have := HRZ.out; have := HR0L.out; omega))
        go_wp2_with (first
          | refine buildZM rfl rfl ?_
          | ((with_reducible refine at_st 37 _ _ ?_); refine storeMR zMx zMx Z32L_len Z32L_len r0 rfl _ _ rfl rfl rfl rfl HRX.out ?_; intro wz hz1 hz2; have HZ1 := Lib.hid hz1; have HZ2 := Lib.hid hz2; clear hz1 hz2))
        have hld := ldMsg HZ1.out Z32L_len
        refine bodyPost_ret (v := .tuple #[.agg zMx.cells, .int .i64 ev]) ?_ rfl ?_
        · simp [results, Tryz.results22, Act.put, asAR, hld]
        exact ⟨zMx, ev, rfl, by rw [← HV.out]; rfl, zMx_ok _, HZ2.out.below HGX.out (by have := HRZ.out; omega)⟩
      subst he
      have HNX : Hid (OpS S o r0 5 we) := Lib.hid ⟨rest, y, hO2, hyd, HRSZ.out, fun W3 hm3 => hcl W3 (fun j h1 h2 => hm3.keep j h2 (by have := (Array.getElem?_eq_some_iff.1 HO.out).1; have := HR0L.out; omega)), fun h => absurd h (by decide), by rw [← HCC.out]; unfold contK; rw [if_neg (by decide), if_neg (by decide), if_neg (by decide), if_neg (by decide), if_neg (by decide)]⟩
      clear hm2 hm hyd hO2 hcl HCC
      go_wp2
      go_roundw
      case rel => exact ⟨5, by omega, by first | rfl | go_num, HNX, HME⟩
      case measure => simp [intOf]
    · obtain ⟨rest, x, hO, hxd, hrz, hcl, hxz, hct⟩ := HPS.out
      have HO := Lib.hid hO
      have HXD := Lib.hid hxd
      have HCL := Lib.hid hcl
      have HV : Hid ((mst x, 0) = openM S) := Lib.hid (by rw [← hct]; unfold contK; rw [if_neg (by decide), if_neg (by decide), if_neg (by decide), if_neg (by decide), if_neg (by decide)])
      have HRX : Hid (MAt wr r0 zMx) := Lib.hid (mat_rm HR2.out HM.out (by have := HR0L.out; omega))
      have HGX : Hid (Gr w wr) := Lib.hid (HM.out.below HG02.out (by have := HRZ.out; have := HR0L.out; omega))
      have HSY : Hid ((Tryz.prog.info? 37).map (·.size) = some x.cells.toList.length) := Lib.hid (by rw [Array.length_toList, Mx.size x hxd]; exact sizeM)
      clear hO hxd hrz hcl hxz hct HPS HSR
      go_wp2_with (first
        | ((with_reducible refine at_ld 37 (.tmp 28) ?_); refine ldG_at (by rfl) 37 (.tmp 28) rfl ⟨o, 1, none⟩ rfl x.cells.toList _ (fun j v hj => HO.out.out j v hj) Tryz.underlying37 rfl HSY.out ?_)
        | ((with_reducible refine at_st 37 _ _ ?_); refine storeMR x zMx HXD.out Z32L_len r0 rfl _ _ rfl rfl rfl rfl HRX.out ?_; intro wz hz1 hz2; have HZ1 := Lib.hid hz1; have HZ2 := Lib.hid hz2; clear hz1 hz2))
      have hld := ldMsg HZ1.out HXD.out
      refine bodyPost_ret (v := .tuple #[.agg x.cells, .int .i64 0]) ?_ rfl ?_
      · simp [results, Tryz.results22, Act.put, asAR, hld]
      exact ⟨x, 0, rfl, HV.out, HCL.out _ HZ2.out, HZ2.out.below HGX.out (by have := HRZ.out; omega)⟩
end Go.Proofs.YtfobnemocodomaaGreat
