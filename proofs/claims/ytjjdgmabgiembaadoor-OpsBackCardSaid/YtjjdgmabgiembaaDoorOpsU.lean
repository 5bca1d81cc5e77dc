/- The document's Same at two that are the same; what was read may be read on. -/
import Derived.Test.YtjjdgmabgiembaaDoorOpsT
import Derived.Test.YtjjdgmabgiembaaDoorOpsI
import Derived.BigQuiet
set_option linter.unusedVariables false
set_option linter.unusedSimpArgs false
set_option maxHeartbeats 4000000
namespace Go.Proofs.YtjjdgmabgiembaaDoor
open Go.RowKit Go.Shelf

/-- a variable of several cells, read whole, in a region that only reads -/
theorem quiet_load_at {P : Program} {ops : Array Oper} {C : World → Prop} {Q : Act → Prop} {rest : List Oper} {o : Oper} {a : Act} (hg : o.guard = none) (ty : TypeId) (x : Operand) (ho : o.op = .load ty x)
    (ad : Addr) (hx : a.eval x = .pointer (some ad)) (cs : List Value) (d : TypeDesc) (hc : ∀ w, C w → ∀ j v, cs[j]? = some v → w.cell? (ad.add j) = some v)
    (hu : P.underlying ty = some d) (hd : d.isRow = true) (hi : (P.info? ty).map (·.size) = some cs.length)
    (h : wpQuiet P ops C Q rest (a.put o.dst (.agg cs.toArray))) : wpQuiet P ops C Q (o :: rest) a := by
  refine wpQuiet_step fun K hK => ?_
  rw [if_pos (by unfold Region.wanted; rw [hg])]
  refine ⟨_, fun w hw => ?_, hK _ h⟩
  unfold Oper.quietAt execOp
  simp only [ho, hx, Instr.loadAt, Instr.sureAddr, Sem.run_bind, Sem.run_pure, Result.andThen_ok, run_loadVar_at w ad ty cs d (hc w hw) hu hd hi]
  exact ⟨rfl, rfl⟩

theorem eqSelf (x : Opx) (w : World) : (Op.equalIn 10000 23 (.agg x.cells) (.agg x.cells)).run Tryd.prog w = .ok true w := by
  rw [eqOp]; simp
set_option maxRecDepth 100000 in
theorem Same_any (A B : Option Addr) (ca cb : Nat) (l : List Opx) (w : World) (hA : Oxs w A l) (hB : Oxs w B l) :
    Calls Tryd.prog 17 #[.slice A l.length ca, .slice B l.length cb] w fun r w' => r = .returned (.bool true) ∧ Gr w w' := by
  have HA := Lib.hid hA; clear hA
  have HB := Lib.hid hB; clear hB
  have hll := HA.out.1
  have hg0 := Lib.hid (Gr.rfl' w)
  go_enter Tryd.func17, Tryd.ntmps17
  go_wp2
  go_loopw [5] (fun i wr => ∃ k : Nat, k ≤ l.length ∧ i = .int .i64 k ∧ Hid (Gr w wr)) (fun i _ => l.length - (intOf i).toNat)
  case atStart => exact ⟨0, Nat.zero_le _, rfl, hg0⟩
  case round =>
    clear hg0
    obtain ⟨k, hk, rfl, HG⟩ := hrel
    by_cases hlt : k < l.length
    · have hki : (k : Int) < l.length := by omega
      obtain ⟨ad, rfl, _, hcs⟩ := (HA.out.gr HG.out).2 k hlt
      obtain ⟨bd, rfl, _, hds⟩ := (HB.out.gr HG.out).2 k hlt
      have HCS : Hid (∀ (n : Nat) (j : Nat) (v : Value), l[k].cells.toList[j]? = some v → (wr.drewN n).cell? ((ad.add (k * 8)).add j) = some v) := Lib.hid fun n j v hv => (hcs j v (by simpa using hv))
      have HDS : Hid (∀ (n : Nat) (j : Nat) (v : Value), l[k].cells.toList[j]? = some v → (wr.drewN n).cell? ((bd.add (k * 8)).add j) = some v) := Lib.hid fun n j v hv => (hds j v (by simpa using hv))
      clear hcs hds
      obtain ⟨x, hx⟩ : ∃ x, l[k] = x := ⟨_, rfl⟩
      rw [hx] at HCS HDS
      have hEq : ∀ w, (Op.equalIn 10000 23 (.agg x.cells) (.agg x.cells)).run Tryd.prog w = .ok true w := eqSelf x
      clear hx
      go_wp2
      refine wp_region_quiet_lit (by kernel_rfl) (by kernel_rfl) ?_
      repeat (first
        | (refine quiet_load_at rfl 23 (.tmp 19) rfl _ rfl x.cells.toList _ (fun w hw => by obtain ⟨n, rfl⟩ := hw; exact HCS.out n) Tryd.underlying23 rfl (by kernel_rfl) ?_)
        | (refine quiet_load_at rfl 23 (.tmp 23) rfl _ rfl x.cells.toList _ (fun w hw => by obtain ⟨n, rfl⟩ := hw; exact HDS.out n) Tryd.underlying23 rfl (by kernel_rfl) ?_)
        | go_big_quiet_step (fail) | quiet_step (fail))
      refine wpQuiet_nil ?_
      intro _ hw'
      obtain ⟨nq, hw''⟩ := hw'
      subst hw''
      have HGq := Lib.hid (HG.out.drN nq)
      go_wp2
      go_roundw
      case rel => exact ⟨k + 1, by omega, by go_num, HGq⟩
      case measure => simp [intOf]; omega
    · have hki : ¬ (k : Int) < l.length := by omega
      go_wp2
      go_ret
      exact ⟨rfl, HG.out⟩
end Go.Proofs.YtjjdgmabgiembaaDoor
