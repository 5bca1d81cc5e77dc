/- sha: ShaReads, ShaBack. -/
import Derived.Test.YtkbomgjeoaophaaDoorShaU
import Derived.Test.YtkbomgjeoaophaaDoorShaN
set_option linter.unusedVariables false
set_option linter.unusedSimpArgs false
set_option maxHeartbeats 4000000
namespace Go.Proofs.YtkbomgjeoaophaaDoor
open Go.RowKit Go.Great

set_option maxRecDepth 100000 in
theorem shaReads_walk (s : ByteArray) (w : World) (hs : s.size ≤ maxLen) (hK : Keys w 1) (hw : 1 < w.heap.size) : Calls Tryd.prog 6 #[.string s] w fun r w' => r = .returned (.bool true) ∧ Gr w w' := by
  have HK := Lib.hid hK; clear hK
  have HW : Hid (∀ W, Gr w W → Calls Tryd.prog 8 #[] W fun r w' => r = .returned (.bool true) ∧ Gr W w') := Lib.hid (fun W g => wide_any W (HK.out.gr g) (Nat.lt_of_lt_of_le hw g.size))
  have hl := unhexV_len s.data.toList
  have HU : Hid (∀ W, Calls Tryd.prog 15 #[.string s] W fun r w' => r = .returned (.tuple #[.agg (bC (unhexV s.data.toList).1), .int .i64 (unhexV s.data.toList).2]) ∧ Gr W w') := Lib.hid (fun W => Unhex_any s W hs)
  have HV : Hid (∀ W, Calls Tryd.prog 16 #[.string s] W fun r w' => r = .returned (.tuple #[.agg (bC (unhexV s.data.toList).1), .int .i64 (unhexV s.data.toList).2]) ∧ Gr W w') := Lib.hid (fun W => rUnhex_any s W hs)
  obtain ⟨D, hD⟩ : ∃ D, (unhexV s.data.toList).1 = D := ⟨_, rfl⟩
  obtain ⟨e, he⟩ : ∃ e, (unhexV s.data.toList).2 = e := ⟨_, rfl⟩
  rw [hD] at HU HV hl
  rw [he] at HU HV
  clear hD he
  have heq := run_eqlDig D D hl hl
  rw [show decide (D = D) = true from decide_eq_true rfl] at heq
  go_enter Tryd.func6, Tryd.ntmps6
  go_wp2_with fail
  refine (HU.out _).mono ?_
  rintro r w1 ⟨rfl, g1⟩
  have HN1 : Hid (Bs (w1.alloc (.cells (bC Zb) 24)) w1.heap.size 24 Zb) := Lib.hid (Bs.new _ _ _)
  obtain ⟨w2, e2⟩ : ∃ w2, (w1.alloc (.cells (bC Zb) 24)).setRow w1.heap.size (bC D) = w2 := ⟨_, rfl⟩
  have HD2 : Hid (Bs w2 w1.heap.size 24 D) := by rw [← e2]; exact Lib.hid (HN1.out.row D)
  have HG2 : Hid (Gr w w2) := by rw [← e2]; exact Lib.hid ((g1.al _).row g1.size _)
  clear g1
  go_wp2_with (first | rw [e2] | refine allocD rfl rfl ?_ | (with_reducible refine at_st 24 (.tmp 3) (.tmp 10) ?_; refine storeD w1.heap.size Zb D rfl _ _ rfl rfl rfl rfl HN1.out rfl hl ?_))
  refine (HV.out _).mono ?_
  rintro r w3 ⟨rfl, g3⟩
  clear e2 HN1
  have HN3 : Hid (Bs (w3.alloc (.cells (bC Zb) 24)) w3.heap.size 24 Zb) := Lib.hid (Bs.new _ _ _)
  obtain ⟨w4, e4⟩ : ∃ w4, (w3.alloc (.cells (bC Zb) 24)).setRow w3.heap.size (bC D) = w4 := ⟨_, rfl⟩
  have HD4 : Hid (Bs w4 w3.heap.size 24 D) := by rw [← e4]; exact Lib.hid (HN3.out.row D)
  have g34 : Gr w3 w4 := by rw [← e4]; exact ((Gr.rfl' _).al _).row (Nat.le_refl _) _
  have HC4 := Lib.hid ((HD2.out.gr g3).gr g34)
  have HG4 : Hid (Gr w w4) := Lib.hid ((HG2.out.tr g3).tr g34)
  clear g3 g34
  go_upto_region 3 with (first | rw [e4] | refine allocD rfl rfl ?_ | (with_reducible refine at_st 24 (.tmp 5) (.tmp 15) ?_; refine storeD w3.heap.size Zb D rfl _ _ rfl rfl rfl rfl HN3.out rfl hl ?_))
  clear e4 HN3
  go_wp2_with (first | (with_reducible refine at_ld 24 (.tmp 3) ?_; refine loadD w1.heap.size D rfl _ rfl rfl HC4.out hl ?_) | (with_reducible refine at_ld 24 (.tmp 5) ?_; refine loadD w3.heap.size D rfl _ rfl rfl HD4.out hl ?_))
  refine (HW.out _ HG4.out).mono ?_
  rintro r w5 ⟨rfl, g5⟩
  have HG5 : Hid (Gr w w5) := Lib.hid (HG4.out.tr g5)
  clear g5
  go_wp2
  go_ret
  exact ⟨rfl, HG5.out⟩

theorem loadDG {ops : Array Oper} {rest : List Oper} {o : Oper} {a : Act} {w : World} {Q : Exit → Act → World → Prop} (b : Nat) (l : List UInt8) (hg : Region.wanted o (yielded ops a.tmps) = true) (x : Operand) (ho : o.op = .load 24 x)
    (hx : a.eval x = .pointer (some ⟨b, 0, none⟩)) (H : Bs w b 24 l) (hl : l.length = 32)
    (h : wpList Tryd.prog ops Q rest (a.put o.dst (.agg (bC l))) w) : wpList Tryd.prog ops Q (o :: rest) a w := by
  refine list_G hg fun K hK => ?_
  have hr : w.rangeAt b 0 (bC l).toList := by
    have := World.rangeAt_of_block (w := w) H 0 (bC l).size
    simpa using this
  refine wp_load_mid 24 x ho b 0 hx (bC l).toList _ hr Tryd.underlying24 rfl (by rw [sz32]; simp [bC, hl]) ?_
  exact hK _ _ h
set_option maxRecDepth 100000 in
theorem shaBack_walk (d : List UInt8) (hd : d.length = 32) (s : ByteArray) (w : World) (hs : s.size ≤ maxLen) (hK : Keys w 1) (hw : 1 < w.heap.size) : Calls Tryd.prog 7 #[.agg (bC d), .string s] w fun r w' => r = .returned (.bool true) ∧ Gr w w' := by
  have HK := Lib.hid hK; clear hK
  have HW : Hid (∀ W, Gr w W → Calls Tryd.prog 8 #[] W fun r w' => r = .returned (.bool true) ∧ Gr W w') := Lib.hid (fun W g => wide_any W (HK.out.gr g) (Nat.lt_of_lt_of_le hw g.size))
  have hl := unhexV_len s.data.toList
  have HU : Hid (∀ W, Calls Tryd.prog 15 #[.string s] W fun r w' => r = .returned (.tuple #[.agg (bC (unhexV s.data.toList).1), .int .i64 (unhexV s.data.toList).2]) ∧ Gr W w') := Lib.hid (fun W => Unhex_any s W hs)
  have hback := hex_unhex s.data.toList
  obtain ⟨D, hD⟩ : ∃ D, (unhexV s.data.toList).1 = D := ⟨_, rfl⟩
  obtain ⟨e, he⟩ : ∃ e, (unhexV s.data.toList).2 = e := ⟨_, rfl⟩
  rw [hD] at HU hl hback
  rw [he] at HU hback
  clear hD he
  obtain ⟨x, hx⟩ : ∃ x : ByteArray, (⟨(hexS d).toArray⟩ : ByteArray) = x := ⟨_, rfl⟩
  have HX : Hid (∀ W, Calls Tryd.prog 13 #[.agg (bC d)] W fun r w' => r = .returned (.string x) ∧ Gr W w') := Lib.hid (fun W => by rw [← hx]; exact Hex_any d hd W)
  have hxs : x.size ≤ maxLen := by
    have : x.size = 64 := by rw [← hx]; show (hexS d).toArray.size = 64; simp [hexS_len, hd]
    rw [this]; decide
  have hxd : x.data.toList = hexS d := by rw [← hx]
  have HUX : Hid (∀ W, Calls Tryd.prog 15 #[.string x] W fun r w' => r = .returned (.tuple #[.agg (bC d), .int .i64 0]) ∧ Gr W w') := Lib.hid (fun W => by
    have := Unhex_any x W hxs
    rw [hxd, unhex_hex d hd] at this
    exact this)
  have HXD : Hid (∀ W, Calls Tryd.prog 13 #[.agg (bC D)] W fun r w' => r = .returned (.string ⟨(hexS D).toArray⟩) ∧ Gr W w') := Lib.hid (fun W => Hex_any D hl W)
  clear hx hxs hxd
  have heq := run_eqlDig d d hd hd
  rw [show decide (d = d) = true from decide_eq_true rfl] at heq
  obtain ⟨w0, e0⟩ : ∃ w0, w.alloc (.cells (bC d) 24) = w0 := ⟨_, rfl⟩
  have HD0 : Hid (Bs w0 w.heap.size 24 d) := by rw [← e0]; exact Lib.hid (Bs.new _ _ _)
  have HG0 : Hid (Gr w w0) := by rw [← e0]; exact Lib.hid ((Gr.rfl' _).al _)
  go_enter Tryd.func7, Tryd.ntmps7
  go_wp2_with (first | rw [e0] | (with_reducible refine at_ld 24 (.tmp 2) ?_; refine loadD w.heap.size d rfl _ rfl rfl HD0.out hd ?_))
  refine (HX.out _).mono ?_
  rintro r w1 ⟨rfl, g1⟩
  have HG1 : Hid (Gr w0 w1) := Lib.hid g1
  clear g1 e0
  go_wp2_with fail
  refine (HUX.out _).mono ?_
  rintro r w2 ⟨rfl, g2⟩
  replace HG1 : Hid (Gr w0 w2) := Lib.hid (HG1.out.tr g2)
  clear g2
  have HN2 : Hid (Bs (w2.alloc (.cells (bC Zb) 24)) w2.heap.size 24 Zb) := Lib.hid (Bs.new _ _ _)
  obtain ⟨w3, e3⟩ : ∃ w3, (w2.alloc (.cells (bC Zb) 24)).setRow w2.heap.size (bC d) = w3 := ⟨_, rfl⟩
  have HA3 : Hid (Bs w3 w2.heap.size 24 d) := by rw [← e3]; exact Lib.hid (HN2.out.row d)
  have HG3 : Hid (Gr w0 w3) := by rw [← e3]; exact Lib.hid ((HG1.out.al _).row HG1.out.size _)
  go_wp2_with (first | rw [e3] | refine allocD rfl rfl ?_ | (with_reducible refine at_st 24 (.tmp 5) (.tmp 13) ?_; refine storeD w2.heap.size Zb d rfl _ _ rfl rfl rfl rfl HN2.out rfl hd ?_))
  refine (HU.out _).mono ?_
  rintro r w4 ⟨rfl, g4⟩
  clear e3 HN2
  have HN4 : Hid (Bs (w4.alloc (.cells (bC Zb) 24)) w4.heap.size 24 Zb) := Lib.hid (Bs.new _ _ _)
  obtain ⟨w5, e5⟩ : ∃ w5, (w4.alloc (.cells (bC Zb) 24)).setRow w4.heap.size (bC D) = w5 := ⟨_, rfl⟩
  have HB5 : Hid (Bs w5 w4.heap.size 24 D) := by rw [← e5]; exact Lib.hid (HN4.out.row D)
  have g45 : Gr w4 w5 := by rw [← e5]; exact ((Gr.rfl' _).al _).row (Nat.le_refl _) _
  have HA5 := Lib.hid ((HA3.out.gr g4).gr g45)
  have HG5 : Hid (Gr w0 w5) := Lib.hid ((HG3.out.tr g4).tr g45)
  have HD5 := Lib.hid (HD0.out.gr HG5.out)
  clear g4 g45
  go_upto_region 3 with (first | rw [e5] | refine allocD rfl rfl ?_ | (with_reducible refine at_st 24 (.tmp 7) (.tmp 18) ?_; refine storeD w4.heap.size Zb D rfl _ _ rfl rfl rfl rfl HN4.out rfl hl ?_))
  clear e5 HN4
  by_cases hz : e = 0
  · have hsx : (⟨(hexS D).toArray⟩ : ByteArray) = s := by
      rw [hback hz]
    rw [hsx] at HXD
    have hb : (e != 0) = false := by rw [hz]; rfl
    clear hback hsx hz
    go_wp2_with (first | (with_reducible refine at_ld 24 (.tmp 5) ?_; refine loadD w2.heap.size d rfl _ rfl rfl HA5.out hd ?_) | (with_reducible refine at_ld 24 (.tmp 2) ?_; refine loadD w.heap.size d rfl _ rfl rfl HD5.out hd ?_) | (with_reducible refine at_ld 24 (.tmp 7) ?_; go_must (refine loadDG w4.heap.size D ?hwant (.tmp 7) rfl rfl HB5.out hl ?_)))
    refine (HXD.out _).mono ?_
    rintro r w6 ⟨rfl, g6⟩
    have HG6 : Hid (Gr w w6) := Lib.hid ((HG0.out.tr HG5.out).tr g6)
    clear g6
    go_wp2_with fail
    refine (HW.out _ HG6.out).mono ?_
    rintro r w7 ⟨rfl, g7⟩
    have HG7 : Hid (Gr w w7) := Lib.hid (HG6.out.tr g7)
    clear g7
    go_wp2
    go_ret
    exact ⟨rfl, HG7.out⟩
  · have hb : (e != 0) = true := by simp [hz]
    have HG6 : Hid (Gr w w5) := Lib.hid (HG0.out.tr HG5.out)
    clear hback hz
    go_wp2_with (first | (with_reducible refine at_ld 24 (.tmp 5) ?_; refine loadD w2.heap.size d rfl _ rfl rfl HA5.out hd ?_) | (with_reducible refine at_ld 24 (.tmp 2) ?_; refine loadD w.heap.size d rfl _ rfl rfl HD5.out hd ?_))
    refine (HW.out _ HG6.out).mono ?_
    rintro r w7 ⟨rfl, g7⟩
    have HG7 : Hid (Gr w w7) := Lib.hid (HG6.out.tr g7)
    clear g7
    go_wp2
    go_ret
    exact ⟨rfl, HG7.out⟩
end Go.Proofs.YtkbomgjeoaophaaDoor
