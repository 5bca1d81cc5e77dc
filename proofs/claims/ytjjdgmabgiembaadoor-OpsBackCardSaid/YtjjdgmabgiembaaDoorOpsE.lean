/- The document's Check of an operation. -/
import Derived.Test.YtjjdgmabgiembaaDoorOpsD
set_option linter.unusedVariables false
set_option linter.unusedSimpArgs false
set_option maxHeartbeats 400000
namespace Go.Proofs.YtjjdgmabgiembaaDoor
open Go.RowKit Go.Shelf
section
variable {P : Program} {d : Nat} {xs ys : Array Value} {f : Field} {fs : List Field} {a b : Value} {r s : Bool} {w : World}
theorem eqf_last (hn : (f.name == "_") = false) (ha : (part f.type xs f.offset).run P w = .ok a w) (hb : (part f.type ys f.offset).run P w = .ok b w) (he : (Op.equalIn d f.type a b).run P w = .ok r w) : (Op.eqFields d xs ys [f]).run P w = .ok r w := by
  have hn' : f.name ≠ "_" := by simpa using hn
  simp only [Op.eqFields, if_pos hn', Sem.run_bind, ha, hb, he, Result.andThen_ok]
  cases r <;> simp
theorem eqf_cons (hn : (f.name == "_") = false) (ha : (part f.type xs f.offset).run P w = .ok a w) (hb : (part f.type ys f.offset).run P w = .ok b w) (he : (Op.equalIn d f.type a b).run P w = .ok r w) (hr : (Op.eqFields d xs ys fs).run P w = .ok s w) : (Op.eqFields d xs ys (f :: fs)).run P w = .ok (r && s) w := by
  have hn' : f.name ≠ "_" := by simpa using hn
  rw [Op.eqFields]
  simp only [if_pos hn', Sem.run_bind, ha, hb, he, Result.andThen_ok]
  cases r
  · simp
  · simpa using hr
theorem eqA_of {t : TypeId} {fs : Array Field} (hu : P.underlying t = some (.struct fs)) (hp : P.stoodInHeld t = false) (h : (Op.eqFields d xs ys fs.toList).run P w = .ok r w) : (Op.equalIn (d + 1) t (.agg xs) (.agg ys)).run P w = .ok r w := by
  have hf : P.fieldsOf t = fs := by simp [Program.fieldsOf, hu]
  rw [run_equalIn_struct (P := P) w d t xs ys (by rw [hf]; exact hu) hp, hf]
  exact h
end

theorem eqOp (x y : Opx) (w : World) : (Op.equalIn 10000 23 (.agg x.cells) (.agg y.cells)).run Tryd.prog w =
    .ok (x.K == y.K && (x.P == y.P && (x.T == y.T && (x.N == y.N && (x.A == y.A && (x.M == y.M && (x.Pa.toList == y.Pa.toList && (x.Da.toList == y.Da.toList)))))))) w := by
  unfold Opx.cells
  refine eqA_of (d := 9999) Tryd.underlying23 (by kernel_rfl) ?_
  refine eqf_cons (by rfl) (by go_simp; rfl) (by go_simp; rfl) (by go_simp) ?_
  refine eqf_cons (by rfl) (by go_simp; rfl) (by go_simp; rfl) (by go_simp) ?_
  refine eqf_cons (by rfl) (by go_simp; rfl) (by go_simp; rfl) (by go_simp) ?_
  refine eqf_cons (by rfl) (by go_simp; rfl) (by go_simp; rfl) (by go_simp) ?_
  refine eqf_cons (by rfl) (by go_simp; rfl) (by go_simp; rfl) (by go_simp) ?_
  refine eqf_cons (by rfl) (by go_simp; rfl) (by go_simp; rfl) (by go_simp) ?_
  refine eqf_cons (by rfl) (by go_simp; rfl) (by go_simp; rfl) (by go_simp) ?_
  exact eqf_last (by rfl) (by go_simp; rfl) (by go_simp; rfl) (by go_simp)

def badB (k : Nat) (b0 b1 b2 b3 b4 b5 : Bool) : Bool :=
  (b0 && !(decide (4 ≤ k) && decide (k ≤ 7))) || (b1 && !(decide (2 ≤ k) && decide (k ≤ 9))) || (b2 && !(decide (k = 7) || decide (k = 9))) || (b3 && !decide (k = 7)) || (b4 && !decide (k < 2)) || (b5 && !decide (k = 0))
theorem spare_bad : ∀ (k : Fin 13) (b0 b1 b2 b3 b4 b5 : Bool), (bits .andNot .i64 (hasV [b0, b1, b2, b3, b4, b5] 6) (flds.getD k.val 0) != 0) = badB k.val b0 b1 b2 b3 b4 b5 := by decide +kernel
theorem eqE (s : ByteArray) : (s.toList == (⟨#[]⟩ : ByteArray).toList) = s.toList.isEmpty := by
  have h : (⟨#[]⟩ : ByteArray).toList = [] := by rw [ByteArray.toList_eq]
  rw [h]
  cases s.toList <;> rfl
theorem eqEE : ((⟨#[]⟩ : ByteArray).toList == (⟨#[]⟩ : ByteArray).toList) = true := by simp
/-- the document's look at the fields says what the program's does -/
theorem bare_eq (x : Opx) (h0 : 0 ≤ x.K) (h1 : x.K ≤ 12) : (((bareV x).K == x.K) && (((bareV x).P == x.P) && (((bareV x).T == 0) && (((bareV x).N == 0) && (((bareV x).A == 0) && (((bareV x).M == 0) && (((bareV x).Pa.toList == (⟨#[]⟩ : ByteArray).toList) && ((bareV x).Da.toList == (⟨#[]⟩ : ByteArray).toList)))))))) = !spareB x := by
  obtain ⟨K, P, T, N, A, M, Pa, Da⟩ := x
  simp only at h0 h1
  obtain ⟨k, rfl⟩ : ∃ k : Nat, K = k := ⟨K.toNat, by omega⟩
  have hs := spare_bad ⟨k, by omega⟩ (T != 0) (N != 0) (A != 0) (M != 0) (!Pa.toList.isEmpty) (!Da.toList.isEmpty)
  have hsp : spareB ⟨k, P, T, N, A, M, Pa, Da⟩ = badB k (T != 0) (N != 0) (A != 0) (M != 0) (!Pa.toList.isEmpty) (!Da.toList.isEmpty) := hs
  rw [hsp]
  clear hs hsp
  have hk : k = 0 ∨ k = 1 ∨ k = 2 ∨ k = 3 ∨ k = 4 ∨ k = 5 ∨ k = 6 ∨ k = 7 ∨ k = 8 ∨ k = 9 ∨ k = 10 ∨ k = 11 ∨ k = 12 := by omega
  have ePa := eqE Pa
  have eDa := eqE Da
  have e0 := eqEE
  clear h0 h1
  rcases hk with rfl | rfl | rfl | rfl | rfl | rfl | rfl | rfl | rfl | rfl | rfl | rfl | rfl
  all_goals
    simp only [bareV, beq_self_eq_true, Bool.true_and]
    simp [badB, ePa, eDa, bne]
  all_goals simp only [Bool.and_assoc]
end Go.Proofs.YtjjdgmabgiembaaDoor
