/- Kids: how they lie; whether two are the same. -/
import Derived.Test.YtfobnemocodomaaSibE
import Derived.Test.YtfobnemocodomaaDigEq
import Derived.DeepKeys
import Derived.BigQuiet
set_option linter.unusedVariables false
set_option linter.unusedSimpArgs false
set_option maxHeartbeats 1000000
namespace Go.Proofs.Ytfobnemocodomaa
open Go.RowKit Go.Great

structure Kx where
  S : ByteArray
  D : List UInt8
deriving DecidableEq
def Kx.cells (x : Kx) : List Value := .string x.S :: (digC x.D).toList
structure Kx.ok (x : Kx) : Prop where
  d : x.D.length = 32
  s : x.S.size ≤ 9223372036854775807
theorem Kx.len {x : Kx} (h : x.ok) : x.cells.length = 33 := by simp [Kx.cells, digC, h.d]
/-- kids in a row -/
def Kids (w : World) (A : Option Addr) (l : List Kx) : Prop :=
  l.length ≤ 9223372036854775807 ∧ ∀ i (h : i < l.length), ∃ ad, A = some ad ∧ l[i].ok ∧ ∀ j v, l[i].cells[j]? = some v → w.cell? ((ad.add (i * 33)).add j) = some v
theorem Kids.gr {w w' : World} {A : Option Addr} {l : List Kx} (h : Kids w A l) (g : Gr w w') : Kids w' A l :=
  ⟨h.1, fun i hi => let ⟨ad, e, a, b⟩ := h.2 i hi; ⟨ad, e, a, fun j v hj => g.cell (b j v hj)⟩⟩
theorem Kids.nil (w : World) (A : Option Addr) : Kids w A [] := ⟨by simp, fun i h => by simp at h⟩
theorem sizeKid : (Try.prog.info? 88).map (·.size) = some 33 := by kernel_rfl
theorem cDig : Try.prog.cellsOf 71 = 32 := by kernel_rfl
theorem part_dig (x : Kx) (h : x.ok) (w : World) : (part 71 x.cells.toArray 1).run Try.prog w = .ok (.agg (digC x.D)) w := by
  obtain ⟨i, hi⟩ := info_of_underlying Try.underlying71
  have hl : x.cells.toArray.extract 1 (1 + Try.prog.cellsOf 71) = digC x.D := by
    rw [cDig]
    apply Array.ext'
    rw [Array.toList_extract]
    simp only [Kx.cells, List.extract, digC, List.toArray_cons]
    simp
    exact List.take_of_length_le (by simp [h.d])
  rw [← hl]
  simp [part, isAgg, run_underlying Try.underlying71, run_sizeOf w hi, cDig]
theorem eqKid (x y : Kx) (hx : x.ok) (hy : y.ok) (w : World) : (Op.equalIn 10000 88 (.agg x.cells.toArray) (.agg y.cells.toArray)).run Try.prog w = .ok (decide (x = y)) w := by
  have e : decide (x = y) = ((x.S.toList == y.S.toList) && decide (x.D = y.D)) := by
    obtain ⟨S, D⟩ := x
    obtain ⟨S', D'⟩ := y
    have hs : (S.toList == S'.toList) = decide (S = S') := by
      rw [Bool.eq_iff_iff]
      simp only [beq_iff_eq, decide_eq_true_eq]
      constructor
      · intro h
        rw [Lib.toList_data, Lib.toList_data] at h
        exact ByteArray.ext (Array.ext' h)
      · rintro rfl; rfl
    simp only [Kx.mk.injEq]
    rw [hs, Bool.eq_iff_iff]
    simp
  rw [e]
  refine eqA_of (d := 9999) Try.underlying88 (by kernel_rfl) ?_
  refine eqf_cons (by rfl) (run_part_plain w (by kernel_rfl) (v := .string x.S) (by simp [Kx.cells])) (run_part_plain w (by kernel_rfl) (v := .string y.S) (by simp [Kx.cells])) (by go_simp) ?_
  exact eqf_last (by rfl) (part_dig x hx w) (part_dig y hy w) (eqDig 9997 x.D y.D hx.d hy.d w)

theorem kdrop_ne {l m : List Kx} {k : Nat} (hl : k < l.length) (hm : k < m.length) (h : l[k] ≠ m[k]) : l ≠ m := by rintro rfl; exact h rfl
/-- a variable of several cells, read whole, in a region that only reads -/
theorem ldq_at {P : Program} {ops : Array Oper} {C : World → Prop} {Q : Act → Prop} {rest : List Oper} {o : Oper} {a : Act} (hg : o.guard = none) (ty : TypeId) (x : Operand) (ho : o.op = .load ty x)
    (ad : Addr) (hx : a.eval x = .pointer (some ad)) (cs : List Value) (d : TypeDesc) (hc : ∀ w, C w → ∀ j v, cs[j]? = some v → w.cell? (ad.add j) = some v)
    (hu : P.underlying ty = some d) (hd : d.isRow = true) (hi : (P.info? ty).map (·.size) = some cs.length)
    (h : wpQuiet P ops C Q rest (a.put o.dst (.agg cs.toArray))) : wpQuiet P ops C Q (o :: rest) a := by
  refine wpQuiet_step fun K hK => ?_
  rw [if_pos (by unfold Region.wanted; rw [hg])]
  refine ⟨_, fun w hw => ?_, hK _ h⟩
  unfold Oper.quietAt execOp
  simp only [ho, hx, Instr.loadAt, Instr.sureAddr, Sem.run_bind, Sem.run_pure, Result.andThen_ok, ldv_run w ad ty cs d (hc w hw) hu hd hi]
  exact ⟨rfl, rfl⟩

set_option maxRecDepth 100000 in
theorem kEq_any (A B : Option Addr) (ca cb : Nat) (a b : List Kx) (w : World) (h1 : Kids w A a) (h2 : Kids w B b) :
    Calls Try.prog 77 #[.slice A a.length ca, .slice B b.length cb] w fun r w' => r = .returned (.bool (decide (a = b))) ∧ Gr w w' := by
  have H1 := Lib.hid h1; clear h1
  have H2 := Lib.hid h2; clear h2
  have hm := H1.out.1
  have hg0 := Lib.hid (Gr.rfl' w)
  by_cases hlen : a.length = b.length
  · have hlb : ((a.length : Int) != (b.length : Int)) = false := by simp [hlen]
    have HL := Lib.hid hlen; clear hlen
    go_enter Try.func77, Try.ntmps77
    go_wp2
    go_loopw [13] (fun i wr => ∃ k : Nat, k ≤ a.length ∧ i = .int .i64 k ∧ Hid (a.take k = b.take k) ∧ Hid (Gr w wr)) (fun i _ => a.length - (intOf i).toNat)
    case atStart => exact ⟨0, Nat.zero_le _, rfl, Lib.hid rfl, hg0⟩
    case round =>
      clear hg0
      obtain ⟨k, hk, rfl, hch, HG⟩ := hrel
      by_cases hlt : k < a.length
      · have hlt2 : k < b.length := by rw [← HL.out]; exact hlt
        have hi1 : (k : Int) < (a.length : Int) := by omega
        have hi2 : (k : Int) < (b.length : Int) := by omega
        obtain ⟨ad, rfl, hox, hcx⟩ := (H1.out.gr HG.out).2 k hlt
        obtain ⟨bd, rfl, hoy, hcy⟩ := (H2.out.gr HG.out).2 k hlt2
        have hne : Hid (a[k] ≠ b[k] → a ≠ b) := Lib.hid fun h => kdrop_ne hlt hlt2 h
        have heq : Hid (a[k] = b[k] → a.take (k + 1) = b.take (k + 1)) := Lib.hid fun h => by rw [List.take_succ_eq_append_getElem hlt, List.take_succ_eq_append_getElem hlt2, hch.out, h]
        obtain ⟨x, hx⟩ : ∃ x, a[k] = x := ⟨_, rfl⟩
        obtain ⟨y, hy⟩ : ∃ y, b[k] = y := ⟨_, rfl⟩
        rw [hx] at hox hcx hne heq
        rw [hy] at hoy hcy hne heq
        have HOX := Lib.hid hox
        have HOY := Lib.hid hoy
        have HCX : Hid (∀ (n j : Nat) (v : Value), x.cells[j]? = some v → (wr.drewN n).cell? ((ad.add (k * 33)).add j) = some v) := Lib.hid fun n j v hv => hcx j v hv
        have HCY : Hid (∀ (n j : Nat) (v : Value), y.cells[j]? = some v → (wr.drewN n).cell? ((bd.add (k * 33)).add j) = some v) := Lib.hid fun n j v hv => hcy j v hv
        clear hox hoy hcx hcy hx hy
        by_cases hxy : x = y
        · have hEq : ∀ w, (Op.equalIn 10000 88 (.agg x.cells.toArray) (.agg y.cells.toArray)).run Try.prog w = .ok true w := fun w => by rw [eqKid x y HOX.out HOY.out, decide_eq_true hxy]
          have HEQ := Lib.hid (heq.out hxy)
          clear hxy
          clear hne heq
          go_wp2
          refine wp_region_quiet_lit (by kernel_rfl) (by kernel_rfl) ?_
          repeat (first
            | (refine ldq_at rfl 88 (.tmp 18) rfl _ rfl x.cells _ (fun w hw => by obtain ⟨n, rfl⟩ := hw; exact HCX.out n) Try.underlying88 rfl (by rw [Kx.len HOX.out]; exact sizeKid) ?_)
            | (refine ldq_at rfl 88 (.tmp 22) rfl _ rfl y.cells _ (fun w hw => by obtain ⟨n, rfl⟩ := hw; exact HCY.out n) Try.underlying88 rfl (by rw [Kx.len HOY.out]; exact sizeKid) ?_)
            | go_big_quiet_step (fail) | quiet_step (fail))
          refine wpQuiet_nil ?_
          intro _ hw'
          obtain ⟨nq, hw''⟩ := hw'
          subst hw''
          go_wp2
          go_roundw
          case rel => exact ⟨k + 1, by omega, by go_num, HEQ, Lib.hid (HG.out.drN nq)⟩
          case measure => simp [intOf]; omega
        · have hEq : ∀ w, (Op.equalIn 10000 88 (.agg x.cells.toArray) (.agg y.cells.toArray)).run Try.prog w = .ok false w := fun w => by rw [eqKid x y HOX.out HOY.out, decide_eq_false hxy]
          have HNE := Lib.hid (hne.out hxy)
          clear hxy
          clear hne heq
          go_wp2
          refine wp_region_quiet_lit (by kernel_rfl) (by kernel_rfl) ?_
          repeat (first
            | (refine ldq_at rfl 88 (.tmp 18) rfl _ rfl x.cells _ (fun w hw => by obtain ⟨n, rfl⟩ := hw; exact HCX.out n) Try.underlying88 rfl (by rw [Kx.len HOX.out]; exact sizeKid) ?_)
            | (refine ldq_at rfl 88 (.tmp 22) rfl _ rfl y.cells _ (fun w hw => by obtain ⟨n, rfl⟩ := hw; exact HCY.out n) Try.underlying88 rfl (by rw [Kx.len HOY.out]; exact sizeKid) ?_)
            | go_big_quiet_step (fail) | quiet_step (fail))
          refine wpQuiet_nil ?_
          intro _ hw'
          obtain ⟨nq, hw''⟩ := hw'
          subst hw''
          go_wp2
          go_ret
          exact ⟨ret_bool (by simp [HNE.out]), HG.out.drN _⟩
      · have hk' : k = a.length := by omega
        subst hk'
        have hEQ : a = b := by
          have := hch.out
          rw [List.take_length] at this
          rw [this, List.take_of_length_le (by have := HL.out; omega)]
        have HEQ := Lib.hid hEQ; clear hEQ
        go_wp2
        go_ret
        exact ⟨ret_bool (by simp [← HEQ.out]), HG.out⟩
  · have hlb : ((a.length : Int) != (b.length : Int)) = true := by simp; omega
    have hNE : a ≠ b := fun h => hlen (by rw [h])
    have HNE := Lib.hid hNE; clear hNE hlen
    go_enter Try.func77, Try.ntmps77
    go_wp2
    go_ret
    exact ⟨ret_bool (by simp [HNE.out]), hg0.out⟩
end Go.Proofs.Ytfobnemocodomaa
