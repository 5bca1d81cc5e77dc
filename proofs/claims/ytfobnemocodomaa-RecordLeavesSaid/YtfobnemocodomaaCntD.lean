/- count.groups: the bytes of a number, told one by one. -/
import Derived.Test.YtfobnemocodomaaIter
import Derived.Test.YtfobnemocodomaaCntC
import Derived.Maps.AppendAt
import Derived.Laws.BytesArg
set_option linter.unusedVariables false
set_option linter.unusedSimpArgs false
set_option maxHeartbeats 400000
namespace Go.Proofs.Ytfobnemocodomaa
open Go.RowKit

/-- a number's bytes, the lowest first -/
def grpN (n : Nat) : List Int := if 128 ≤ n then ((n : Int) % 128 + 128) :: grpN (n / 128) else [(n : Int)]
termination_by n
theorem grpN_big {n : Nat} (h : 128 ≤ n) : grpN n = ((n : Int) % 128 + 128) :: grpN (n / 128) := by rw [grpN]; exact if_pos h
theorem grpN_small {n : Nat} (h : n < 128) : grpN n = [(n : Int)] := by rw [grpN]; exact if_neg (by omega)
theorem grpN_len : ∀ (f n : Nat), n < 128 ^ (f + 1) → (grpN n).length ≤ f + 1
  | 0, n, h => by rw [grpN_small (by simpa using h)]; simp
  | f + 1, n, h => by
    by_cases c : 128 ≤ n
    · rw [grpN_big c]
      have := grpN_len f (n / 128) (by rw [Nat.pow_succ] at h; exact Nat.div_lt_of_lt_mul (by rw [Nat.mul_comm]; exact h))
      simp only [List.length_cons]; omega
    · rw [grpN_small (by omega)]; simp
theorem grpN_len5 (n : Nat) (h : n ≤ 1073741824) : (grpN n).length ≤ 5 := grpN_len 4 n (by omega)
theorem grpN_bd : ∀ (f n : Nat), n ≤ f → ∀ x ∈ grpN n, 0 ≤ x ∧ x < 256
  | f, n, h => by
    by_cases c : 128 ≤ n
    · rw [grpN_big c]
      intro x hx
      rcases List.mem_cons.1 hx with rfl | hx
      · omega
      · cases f with
        | zero => omega
        | succ f => exact grpN_bd f (n / 128) (by omega) x hx
    · rw [grpN_small (by omega)]
      intro x hx
      simp at hx
      omega

theorem or128 (x : Int) (h0 : 0 ≤ x) (h1 : x < 128) : bits .or .u8 x 128 = x + 128 := by
  obtain ⟨n, rfl⟩ : ∃ n : Nat, x = n := ⟨x.toNat, by omega⟩
  have key : ∀ k : Fin 128, bits .or .u8 ((k.val : Nat) : Int) 128 = (k.val : Int) + 128 := by decide
  exact key ⟨n, by omega⟩

def encB (x : Int) : Array Value := #[.int .u8 x]

theorem groups_any (m : Int) (w : World) :
    Calls Try.prog 189 #[.int .i64 m] w fun e w' => e = .returned (.func (.func 206) #[] #[.pointer (some ⟨w.heap.size, 0, none⟩)]) ∧
      w' = w.alloc (.cells #[.int .i64 m] 3) := by
  go_enter Try.func189, Try.ntmps189
  go_wp2
  go_ret
  exact ⟨rfl, rfl⟩

set_option maxRecDepth 100000 in
set_option maxHeartbeats 4000000 in
theorem groups1_any (n l : Nat) (w0 : World) (bn : Nat) (xs : List Int) (hbn : w0.heap.size ≤ bn)
    (J Jx : List Int → World → Prop)
    (hJ : ∀ pre A B, J pre A → Mv (fun k => k = bn) A.heap.size A B → J pre B)
    (hY : ∀ pre x W1, J pre W1 → (pre ++ [x]) <+: xs → YieldAt Fence.wide n Try.prog l (encB x) W1 fun e W' =>
      Kp (fun k => k = bn) w0.heap.size W1 W' ∧ ((e = .returned (.bool true) ∧ J (pre ++ [x]) W') ∨ (e = .returned (.bool false) ∧ Jx (pre ++ [x]) W')))
    (m : Nat) (hm : m ≤ 1073741824) (hxs : xs = grpN m) (W : World) (hP : Boxed W bn 3 (.int .i64 m)) (hg : Gr w0 W) (h0 : J [] W) :
    Calls Try.prog 206 #[.func (.yield l) #[] #[], .pointer (some ⟨bn, 0, none⟩)] W fun e W' => (∃ v, e = .returned v) ∧ (J xs W' ∨ ∃ pre, pre <+: xs ∧ Jx pre W') := by
  have HP := Lib.hid hP; clear hP
  have HX := Lib.hid hxs; clear hxs
  have HJ := Lib.hid hJ; clear hJ
  have HY := Lib.hid hY; clear hY
  go_enter Try.func206, Try.ntmps206
  go_wp2
  go_loopg [3] (m) (fun k p1 wr => ∃ pre, ∃ q : Nat, q ≤ 1073741824 ∧ Hid (k = q ∧ xs = pre ++ grpN q ∧ J pre wr) ∧ Boxed wr bn 3 (.int .i64 q))
  case atStart => exact ⟨[], m, hm, Lib.hid ⟨rfl, by simpa using HX.out, h0⟩, HP.out⟩
  case round =>
    clear HP HX h0
    obtain ⟨pre, q, hq, hr, hb⟩ := hrel
    obtain ⟨hk, hxs, hj⟩ := hr.out
    have hc := cell_of_one hb
    have hf := free_of_one hb
    have HB := Lib.hid hb; clear hb
    have HJ0 := Lib.hid hj; clear hj
    have HX := Lib.hid hxs; clear hxs
    have HK := Lib.hid hk; clear hk
    clear hr
    by_cases hq1 : 128 ≤ q
    · have hqi : (128 : Int) ≤ q := by omega
      have hX2 : Hid (xs = pre ++ bits .or .u8 ((q : Int) % 128) 128 :: grpN (q / 128)) := by show _ = _; rw [HX.out, grpN_big hq1, or128 _ (by omega) (by omega)]
      obtain ⟨fn, tmps, assign, body, hy, hR⟩ := HY.out pre (bits .or .u8 ((q : Int) % 128) 128) wr HJ0.out (by rw [hX2.out]; simp)
      simp only [encB] at hy
      have HR := Lib.hid hR; clear hR
      go_upto_region 2 with (fail)
      refine (wpIn_wide (n := n + 1)).1 ?_
      gi_wp2
      refine HR.out.mono ?_
      clear hy HR hc hf
      rintro e W3 ⟨hkp, (⟨rfl, hJ3⟩ | ⟨rfl, hJx3⟩)⟩
      · have hb3 := hkp.boxed HB.out (.inr rfl)
        have hc := cell_of_one hb3
        have hf := free_of_one hb3
        have HB3 := Lib.hid hb3; clear hb3
        gi_wp2
        go_wp2
        have hmv := (Mv.refl (fun k => k = bn) W3.heap.size W3).setCell (p := ⟨bn, 0, none⟩) (.inl rfl) (.int .i64 ((q : Int) / 128))
        go_roundg (q / 128)
        case measure => have := HK.out; omega
        case rel => exact ⟨pre ++ [bits .or .u8 ((q : Int) % 128) 128], q / 128, by omega, Lib.hid ⟨rfl, by rw [hX2.out]; simp, HJ.out _ _ _ hJ3 hmv⟩, one_setCell HB3.out⟩
      · gi_wp2
        go_wp2
        refine bodyPost_ret (results_none rfl _ _ _) rfl ?_
        exact ⟨⟨_, rfl⟩, .inr ⟨pre ++ [bits .or .u8 ((q : Int) % 128) 128], by rw [hX2.out]; simp, hJx3⟩⟩
    · have hqi : ¬ (128 : Int) ≤ q := by omega
      have hX2 : Hid (xs = pre ++ [(q : Int)]) := by show _ = _; rw [HX.out, grpN_small (by omega)]
      obtain ⟨fn, tmps, assign, body, hy, hR⟩ := HY.out pre (q : Int) wr HJ0.out (by rw [hX2.out]; exact List.prefix_refl _)
      simp only [encB] at hy
      have HR := Lib.hid hR; clear hR
      go_upto_region 3 with (fail)
      refine (wpIn_wide (n := n + 1)).1 ?_
      gi_wp2
      refine HR.out.mono ?_
      clear hy HR hc hf
      rintro e W3 ⟨hkp, (⟨rfl, hJ3⟩ | ⟨rfl, hJx3⟩)⟩
      · gi_wp2
        go_end0
        exact ⟨⟨_, rfl⟩, .inl (by rw [hX2.out]; exact hJ3)⟩
      · gi_wp2
        go_end0
        exact ⟨⟨_, rfl⟩, .inr ⟨pre ++ [(q : Int)], by rw [hX2.out]; exact List.prefix_refl _, hJx3⟩⟩
end Go.Proofs.Ytfobnemocodomaa
