/- The document's num, bare. -/
import Derived.Test.YtjjdgmabgiembaaDoorOpsC
import Derived.Laws.StructEq
set_option linter.unusedVariables false
set_option linter.unusedSimpArgs false
set_option maxHeartbeats 400000
namespace Go.Proofs.YtjjdgmabgiembaaDoor
open Go.RowKit Go.Shelf

theorem num_any (k : Int) (w : World) : Calls Tryd.prog 23 #[.int .i64 k] w fun r w' => r = .returned (.bool (numOk k)) ∧ w' = w := by
  by_cases h : 0 ≤ k
  · have hb : decide (0 ≤ k) = true := decide_eq_true h
    go_enter Tryd.func23, Tryd.ntmps23
    go_wp2
    go_ret
    exact ⟨ret_bool (by simp [numOk, h]), rfl⟩
  · have hb : decide (0 ≤ k) = false := decide_eq_false h
    go_enter Tryd.func23, Tryd.ntmps23
    go_wp2
    go_ret
    exact ⟨ret_bool (by simp [numOk]; omega), rfl⟩

/-- an operation without its own fields -/
def bareV (x : Opx) : Opx :=
  { x with
    T := if 4 ≤ x.K ∧ x.K ≤ 7 then 0 else x.T
    N := if 2 ≤ x.K ∧ x.K ≤ 9 then 0 else x.N
    A := if x.K = 7 ∨ x.K = 9 then 0 else x.A
    M := if x.K = 7 then 0 else x.M
    Pa := if x.K < 2 then ⟨#[]⟩ else x.Pa
    Da := if x.K = 0 then ⟨#[]⟩ else x.Da }

theorem asA2 (g : Nat) (W : World) : (asAddr (.pointer (some ⟨g, 0, none⟩))).run Tryd.prog W = .ok ⟨g, 0, none⟩ W := rfl
theorem two_last (w : World) (c1 c2 : Obj) : ((w.alloc c1).alloc c2).heap[w.heap.size + 1]? = some c2 := by
  have := World.alloc_heap_new (w.alloc c1) c2
  rwa [World.size_alloc] at this
set_option maxRecDepth 100000 in
theorem bare_any (x : Opx) (h0 : 0 ≤ x.K) (h1 : x.K ≤ 12) (w : World) : Calls Tryd.prog 24 #[.agg x.cells] w fun r w' => r = .returned (.agg (bareV x).cells) ∧ Gr w w' := by
  obtain ⟨K, P, T, N, A, M, Pa, Da⟩ := x
  simp only at h0 h1
  have hk : K = 0 ∨ K = 1 ∨ K = 2 ∨ K = 3 ∨ K = 4 ∨ K = 5 ∨ K = 6 ∨ K = 7 ∨ K = 8 ∨ K = 9 ∨ K = 10 ∨ K = 11 ∨ K = 12 := by omega
  clear h0 h1
  rcases hk with rfl | rfl | rfl | rfl | rfl | rfl | rfl | rfl | rfl | rfl | rfl | rfl | rfl
  all_goals
    go_enter Tryd.func24, Tryd.ntmps24
    unfold Opx.cells
    go_wp2
    refine bodyPost_ret (v := .agg (bareV ⟨_, P, T, N, A, M, Pa, Da⟩).cells) ?_ rfl ⟨rfl, ((Gr.rfl' _).al _).al _⟩
    simp [results, Tryd.results24, Act.put, asA2]
    exact run_loadVar_row _ _ 23 23 _ (0, 0) _ (two_last _ _ _) Tryd.underlying23 rfl (by kernel_rfl)
end Go.Proofs.YtjjdgmabgiembaaDoor
