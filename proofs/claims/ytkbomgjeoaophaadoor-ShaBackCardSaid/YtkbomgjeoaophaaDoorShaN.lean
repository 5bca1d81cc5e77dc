/- sha: the examples. -/
import Derived.Test.YtkbomgjeoaophaaDoorShaM
set_option linter.unusedVariables false
set_option linter.unusedSimpArgs false
set_option maxHeartbeats 4000000
namespace Go.Proofs.YtkbomgjeoaophaaDoor
open Go.RowKit Go.Great

def abcH : ByteArray := ⟨#[98, 97, 55, 56, 49, 54, 98, 102, 56, 102, 48, 49, 99, 102, 101, 97, 52, 49, 52, 49, 52, 48, 100, 101, 53, 100, 97, 101, 50, 50, 50, 51, 98, 48, 48, 51, 54, 49, 97, 51, 57, 54, 49, 55, 55, 97, 57, 99, 98, 52, 49, 48, 102, 102, 54, 49, 102, 50, 48, 48, 49, 53, 97, 100]⟩
def nilH : ByteArray := ⟨#[101, 51, 98, 48, 99, 52, 52, 50, 57, 56, 102, 99, 49, 99, 49, 52, 57, 97, 102, 98, 102, 52, 99, 56, 57, 57, 54, 102, 98, 57, 50, 52, 50, 55, 97, 101, 52, 49, 101, 52, 54, 52, 57, 98, 57, 51, 52, 99, 97, 52, 57, 53, 57, 57, 49, 98, 55, 56, 53, 50, 98, 56, 53, 53]⟩
theorem abc_val : (⟨(hexS (shaV [97, 98, 99])).toArray⟩ : ByteArray) = abcH := by
  have h : hexS (shaV [97, 98, 99]) = [98, 97, 55, 56, 49, 54, 98, 102, 56, 102, 48, 49, 99, 102, 101, 97, 52, 49, 52, 49, 52, 48, 100, 101, 53, 100, 97, 101, 50, 50, 50, 51, 98, 48, 48, 51, 54, 49, 97, 51, 57, 54, 49, 55, 55, 97, 57, 99, 98, 52, 49, 48, 102, 102, 54, 49, 102, 50, 48, 48, 49, 53, 97, 100] := by decide +kernel
  rw [h]; rfl
theorem nil_val : (⟨(hexS (shaV [])).toArray⟩ : ByteArray) = nilH := by
  have h : hexS (shaV []) = [101, 51, 98, 48, 99, 52, 52, 50, 57, 56, 102, 99, 49, 99, 49, 52, 57, 97, 102, 98, 102, 52, 99, 56, 57, 57, 54, 102, 98, 57, 50, 52, 50, 55, 97, 101, 52, 49, 101, 52, 54, 52, 57, 98, 57, 51, 52, 99, 97, 52, 57, 53, 57, 57, 49, 98, 55, 56, 53, 50, 98, 56, 53, 53] := by decide +kernel
  rw [h]; rfl
set_option maxRecDepth 100000 in
theorem awake_any (w : World) (hK : Keys w 1) (hw : 1 < w.heap.size) : Calls Tryd.prog 17 #[] w fun r w' => r = .returned (.bool true) ∧ Gr w w' := by
  have HK := Lib.hid hK; clear hK
  have HA : Hid (∀ W, Gr w W → Calls Tryd.prog 9 #[.string ⟨#[97, 98, 99]⟩] W fun r w' => r = .returned (.agg (bC (shaV [97, 98, 99]))) ∧ Gr W w') := Lib.hid (fun W g => Of_any ⟨#[97, 98, 99]⟩ W (HK.out.gr g) (Nat.lt_of_lt_of_le hw g.size) (by decide))
  have HE : Hid (∀ W, Gr w W → Calls Tryd.prog 9 #[.string ⟨#[]⟩] W fun r w' => r = .returned (.agg (bC (shaV []))) ∧ Gr W w') := Lib.hid (fun W g => Of_any ⟨#[]⟩ W (HK.out.gr g) (Nat.lt_of_lt_of_le hw g.size) (by decide))
  have HG := Lib.hid (Gr.rfl' w)
  go_enter Tryd.func17, Tryd.ntmps17
  go_wp2_with fail
  refine (HA.out _ HG.out).mono ?_
  rintro r w1 ⟨rfl, g1⟩
  replace HG := Lib.hid (HG.out.tr g1)
  clear g1
  go_wp2_with fail
  refine (Hex_any (shaV [97, 98, 99]) (valV_len _ _ _) _).mono ?_
  rintro r w2 ⟨rfl, g2⟩
  replace HG := Lib.hid (HG.out.tr g2)
  clear g2
  rw [abc_val]
  unfold abcH
  go_wp2_with fail
  refine (HE.out _ HG.out).mono ?_
  rintro r w3 ⟨rfl, g3⟩
  replace HG := Lib.hid (HG.out.tr g3)
  clear g3
  go_wp2_with fail
  refine (Hex_any (shaV []) (valV_len _ _ _) _).mono ?_
  rintro r w4 ⟨rfl, g4⟩
  replace HG := Lib.hid (HG.out.tr g4)
  clear g4
  rw [nil_val]
  unfold nilH
  go_wp2
  go_ret
  refine ⟨ret_bool (b := true) ?_, HG.out⟩
  decide +kernel
set_option maxRecDepth 100000 in
theorem wide_any (w : World) (hK : Keys w 1) (hw : 1 < w.heap.size) : Calls Tryd.prog 8 #[] w fun r w' => r = .returned (.bool true) ∧ Gr w w' := by
  have HK := Lib.hid hK; clear hK
  have HE : Hid (∀ W, Gr w W → Calls Tryd.prog 9 #[.string ⟨#[]⟩] W fun r w' => r = .returned (.agg (bC (shaV []))) ∧ Gr W w') := Lib.hid (fun W g => Of_any ⟨#[]⟩ W (HK.out.gr g) (Nat.lt_of_lt_of_le hw g.size) (by decide))
  have HA : Hid (∀ W, Gr w W → Calls Tryd.prog 17 #[] W fun r w' => r = .returned (.bool true) ∧ Gr W w') := Lib.hid (fun W g => awake_any W (HK.out.gr g) (Nat.lt_of_lt_of_le hw g.size))
  have HG := Lib.hid (Gr.rfl' w)
  go_enter Tryd.func8, Tryd.ntmps8
  go_wp2_with fail
  refine (HE.out _ HG.out).mono ?_
  rintro r w3 ⟨rfl, g3⟩
  replace HG := Lib.hid (HG.out.tr g3)
  clear g3
  go_wp2_with fail
  refine (Hex_any (shaV []) (valV_len _ _ _) _).mono ?_
  rintro r w4 ⟨rfl, g4⟩
  replace HG := Lib.hid (HG.out.tr g4)
  clear g4
  rw [nil_val]
  unfold nilH
  go_wp2_with fail
  refine (HA.out _ HG.out).mono ?_
  rintro r w5 ⟨rfl, g5⟩
  replace HG := Lib.hid (HG.out.tr g5)
  clear g5
  go_wp2
  go_ret
  exact ⟨rfl, HG.out⟩

theorem eqItems_dig (d : Nat) (D D' : List UInt8) (w : World) : ∀ is : List Nat, (∀ i ∈ is, i < D.length ∧ i < D'.length) →
    (Op.eqItems (d + 1) 5 1 (bC D) (bC D') is).run Tryd.prog w = .ok (is.all fun i => decide (D[i]? = D'[i]?)) w
  | [], _ => by simp [Op.eqItems]
  | i :: is, h => by
    obtain ⟨h1, h2⟩ := h i (by simp)
    have ih := eqItems_dig d D D' w is (fun j hj => h j (by simp [hj]))
    have p1 := run_part_plain (P := Tryd.prog) w (e := 5) (by kernel_rfl) (bC_at D i h1)
    have p2 := run_part_plain (P := Tryd.prog) w (e := 5) (by kernel_rfl) (bC_at D' i h2)
    have p3 := run_equalIn_int (P := Tryd.prog) w d 5 .u8 .u8 (D[i].toNat : Int) (D'[i].toNat : Int) Tryd.underlying5
    have e : ((D[i].toNat : Int) == (D'[i].toNat : Int)) = decide (D[i]? = D'[i]?) := by
      rw [List.getElem?_eq_getElem h1, List.getElem?_eq_getElem h2, Bool.eq_iff_iff]
      simp only [beq_iff_eq, decide_eq_true_eq, Option.some.injEq]
      constructor
      · intro h; exact UInt8.toNat_inj.1 (by omega)
      · intro h; rw [h]
    rw [e] at p3
    simp only [Op.eqItems, Sem.run_bind, Nat.mul_one, p1, p2, p3, Result.andThen_ok, List.all_cons]
    cases hd : decide (D[i]? = D'[i]?)
    · simp
    · simpa using ih
theorem eqDig (d : Nat) (D D' : List UInt8) (hD : D.length = 32) (hD' : D'.length = 32) (w : World) :
    (Op.equalIn (d + 2) 24 (.agg (bC D)) (.agg (bC D'))).run Tryd.prog w = .ok (decide (D = D')) w := by
  have hc : Tryd.prog.cellsOf 5 = 1 := by kernel_rfl
  obtain ⟨i0, hi, _, _, _⟩ := info_parts infoByteS
  rw [run_equalIn_array w (d + 1) _ _ Tryd.underlying24 hi, hc, eqItems_dig d D D' w _ (fun i hi => by rw [hD, hD']; have := List.mem_range.1 hi; omega)]
  congr 1
  rw [Bool.eq_iff_iff]
  simp only [List.all_eq_true, List.mem_range, decide_eq_true_eq]
  constructor
  · intro h
    apply List.ext_getElem?
    intro i
    by_cases hi : i < 32
    · exact h i hi
    · rw [List.getElem?_eq_none (by omega), List.getElem?_eq_none (by omega)]
  · intro h i _; rw [h]
theorem run_eqlDig (D D' : List UInt8) (hD : D.length = 32) (hD' : D'.length = 32) (w : World) : (binOp .eql 24 (.agg (bC D)) (.agg (bC D'))).run Tryd.prog w = .ok (.bool (decide (D = D'))) w := by
  simp only [binOp]
  simp [Op.equal, Op.maxDepth, eqDig 9998 D D' hD hD' w]
theorem run_neqDig (D D' : List UInt8) (hD : D.length = 32) (hD' : D'.length = 32) (w : World) : (binOp .neq 24 (.agg (bC D)) (.agg (bC D'))).run Tryd.prog w = .ok (.bool (!decide (D = D'))) w := by
  simp only [binOp]
  simp [Op.equal, Op.maxDepth, eqDig 9998 D D' hD hD' w]

set_option maxRecDepth 100000 in
theorem shaSums_walk (t : ByteArray) (w : World) (hK : Keys w 1) (hK0 : Keys w 0) (hw : 1 < w.heap.size) : Calls Tryd.prog 3 #[.string t] w fun r w' => r = .returned (.bool true) ∧ Gr w w' := by
  have HK := Lib.hid hK; clear hK
  have HK0 := Lib.hid hK0; clear hK0
  have HW : Hid (∀ W, Gr w W → Calls Tryd.prog 8 #[] W fun r w' => r = .returned (.bool true) ∧ Gr W w') := Lib.hid (fun W g => wide_any W (HK.out.gr g) (Nat.lt_of_lt_of_le hw g.size))
  have HG := Lib.hid (Gr.rfl' w)
  by_cases hbig : 4000 < t.size
  · have hi : (4000 : Int) < (t.size : Int) := by omega
    go_enter Tryd.func3, Tryd.ntmps3
    go_wp2_with fail
    refine (HW.out _ HG.out).mono ?_
    rintro r w1 ⟨rfl, g1⟩
    replace HG := Lib.hid (HG.out.tr g1)
    clear g1
    go_wp2
    go_ret
    exact ⟨rfl, HG.out⟩
  · have hi : ¬ (4000 : Int) < (t.size : Int) := by omega
    have heq := run_eqlDig (shaV t.data.toList) (shaV t.data.toList) (valV_len _ _ _) (valV_len _ _ _)
    rw [show decide (shaV t.data.toList = shaV t.data.toList) = true from decide_eq_true rfl] at heq
    go_enter Tryd.func3, Tryd.ntmps3
    go_wp2_with fail
    refine (HW.out _ HG.out).mono ?_
    rintro r w1 ⟨rfl, g1⟩
    replace HG := Lib.hid (HG.out.tr g1)
    clear g1
    go_wp2_with fail
    refine (Of_any t _ (HK.out.gr HG.out) (Nat.lt_of_lt_of_le hw HG.out.size) (by omega)).mono ?_
    rintro r w2 ⟨rfl, g2⟩
    replace HG := Lib.hid (HG.out.tr g2)
    clear g2
    go_wp2_with fail
    refine (rOf_any t _ (HK0.out.gr HG.out) (by omega)).mono ?_
    rintro r w3 ⟨rfl, g3⟩
    replace HG := Lib.hid (HG.out.tr g3)
    clear g3
    go_wp2
    go_ret
    exact ⟨rfl, HG.out⟩
end Go.Proofs.YtkbomgjeoaophaaDoor
