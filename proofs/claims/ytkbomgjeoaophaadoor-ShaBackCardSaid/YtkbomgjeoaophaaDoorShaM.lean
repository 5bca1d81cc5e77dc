/- sha: Hex, both. -/
import Derived.Test.YtkbomgjeoaophaaDoorShaL
import Derived.Deep.RegionLaw
set_option linter.unusedVariables false
set_option linter.unusedSimpArgs false
set_option maxHeartbeats 4000000
namespace Go.Proofs.YtkbomgjeoaophaaDoor
open Go.RowKit Go.Great

def hexT : List UInt8 := [48, 49, 50, 51, 52, 53, 54, 55, 56, 57, 97, 98, 99, 100, 101, 102]
def hx (n : Nat) : UInt8 := hexT.getD n 0
def hexS (l : List UInt8) : List UInt8 := l.flatMap fun b => [hx (b.toNat / 16), hx (b.toNat % 16)]
theorem hexS_len (l : List UInt8) : (hexS l).length = 2 * l.length := by
  induction l with
  | nil => rfl
  | cons a r ih => simp only [hexS, List.flatMap_cons, List.length_append, List.length_cons, List.length_nil] at ih ⊢; omega
theorem hexS_snoc (l : List UInt8) (b : UInt8) : hexS (l ++ [b]) = hexS l ++ [hx (b.toNat / 16), hx (b.toNat % 16)] := by simp [hexS]
def hexStr : ByteArray := ⟨#[48, 49, 50, 51, 52, 53, 54, 55, 56, 57, 97, 98, 99, 100, 101, 102]⟩

theorem step_append2 {ops : Array Oper} {o : Oper} {a : Act} {w : World} {K : Act → World → Prop} {Q : Exit → Act → World → Prop} {E : Prop} (hg : o.guard = none) (s x : Operand)
    (ho : o.op = .call { callee := .builtin .append, args := #[s, x], argTypes := #[31, 31] }) (B : Nat) (v : Value) (l : List UInt8) (c d : UInt8) (hs : a.eval s = v) (hown : OwnR w B v l)
    (ad : Addr) (hx : a.eval x = .slice (some ad) 2 2) (hc : ∀ j u, ([.int .u8 (c.toNat : Int), .int .u8 (d.toNat : Int)] : List Value)[j]? = some u → w.cell? (ad.add j) = some u) (hbytes : l.length + 2 ≤ 140737488355328) (hbase : B ≤ w.heap.size)
    (h : ∀ v' w', OwnR w' B v' (l ++ [c, d]) → w.grownBy w' v.ownBlock → K (a.put o.dst v') w') : if Region.wanted o (yielded ops a.tmps) = true then Oper.wp Tryd.prog o a w K Q else E := by
  have hw : Region.wanted o (yielded ops a.tmps) = true := by simp [Region.wanted, hg]
  rw [if_pos hw]
  obtain ⟨i0, hi, hz0, hz1, hz2⟩ := info_parts infoByteS
  refine wp_append_own w s x 31 ho B 5 i0 (.int .u8 0) 1 1 Tryd.underlying31 hi hz0 hz1 hz2 rfl (by decide) v l.length (byC l) hs hown ad 2 2 [.int .u8 (c.toNat : Int), .int .u8 (d.toNat : Int)] hx rfl hc ?_ (by unfold maxLen; omega) (by omega) hbase ?_
  · intro u hu
    simp at hu
    rcases hu with rfl | rfl <;> rfl
  · intro v' w' h1 h2 _
    refine h v' w' ?_ h2
    have e1 : (l ++ [c, d]).length = l.length + 2 := by simp
    have e2 : byC (l ++ [c, d]) = byC l ++ [.int .u8 (c.toNat : Int), .int .u8 (d.toNat : Int)] := by simp [byC]
    unfold OwnR
    rw [e1, e2]
    exact h1
theorem idxB (l : List UInt8) (hl : l.length = 32) (k : Nat) (hk : k < 32) (w : World) :
    (Instr.index 24 (.agg (bC l)) (.int .i64 k)).run Tryd.prog w = .ok (.int .u8 ((gb l k).toNat : Int)) w := by
  have hkl : k < l.length := by omega
  have hat : (bC l)[k]? = some (.int .u8 ((gb l k).toNat : Int)) := by rw [bC_at l k hkl, gb_at]
  have p1 := run_part_plain (P := Tryd.prog) w (e := 5) (by kernel_rfl) hat
  have hs : (sizeOf 5).run Tryd.prog w = .ok 1 w := by kernel_rfl
  have h1 : (0 : Int) ≤ k := by omega
  have h2 : (k : Int) < 32 := by omega
  unfold Instr.index
  have h3 : (k : Int) < ((32 : Nat) : Int) := by omega
  simp only [Sem.run_bind, asIntOf, Sem.run_pure, Result.andThen_ok, run_underlying Tryd.underlying24 w, h1, h3, and_self, if_true, hs, Int.toNat_natCast, Nat.mul_one, p1]

theorem and15 : ∀ n : Fin 256, bits .and .u8 (n.val : Int) 15 = ((n.val % 16 : Nat) : Int) := by decide +kernel
theorem hexAt : ∀ q : Fin 16, (hexStr.data[q.val]'(q.isLt)).toNat = (hx q.val).toNat := by decide +kernel
theorem hexAt' (q : Nat) (hq : q < 16) (h) : ((((⟨#[48, 49, 50, 51, 52, 53, 54, 55, 56, 57, 97, 98, 99, 100, 101, 102]⟩ : ByteArray)[q]'h).toNat : Nat) : Int) = ((hx q).toNat : Int) := by
  have := hexAt ⟨q, hq⟩
  exact congrArg Int.ofNat this
theorem cellsUU (w : World) (t : TypeId) (c d : UInt8) (i j : Int) (hi : i = (c.toNat : Int)) (hj : j = (d.toNat : Int)) : ∀ n u, ([.int .u8 (c.toNat : Int), .int .u8 (d.toNat : Int)] : List Value)[n]? = some u → (w.alloc (.cells #[.int .u8 i, .int .u8 j] t)).cell? ((⟨w.heap.size, 0, none⟩ : Addr).add n) = some u := by
  subst hi hj
  intro n u hn
  rw [Addr.add_mid, Nat.zero_add]
  have h1 : (w.alloc (.cells #[.int .u8 (c.toNat : Int), .int .u8 (d.toNat : Int)] t)).heap[w.heap.size]? = some (.cells #[.int .u8 (c.toNat : Int), .int .u8 (d.toNat : Int)] t) := World.alloc_heap_new _ _
  simp only [World.cell?, h1]
  rw [← hn]
  simp

set_option maxRecDepth 100000 in
theorem Hex_any (d : List UInt8) (hd : d.length = 32) (w : World) : Calls Tryd.prog 13 #[.agg (bC d)] w fun r w' => r = .returned (.string ⟨(hexS d).toArray⟩) ∧ Gr w w' := by
  obtain ⟨w1, e1⟩ : ∃ w1, w.alloc (.cells (bC d) 24) = w1 := ⟨_, rfl⟩
  have HD : Hid (Bs w1 w.heap.size 24 d) := by rw [← e1]; exact Lib.hid (Bs.new _ _ _)
  have g1 : Gr w w1 := by rw [← e1]; exact (Gr.rfl' _).al _
  have HG0 : Hid (Gr w1 w1) := Lib.hid (Gr.rfl' _)
  have HG1 := Lib.hid g1
  have HO0 : Hid (OwnR w1 w1.heap.size (.slice none 0 0) (hexS (d.take 0))) := Lib.hid ⟨rfl, .inl ⟨rfl, rfl⟩⟩
  clear g1
  go_enter Tryd.func13, Tryd.ntmps13
  go_upto_block 0 with (first | rw [e1] | (with_reducible refine at_ld 24 (.tmp 1) ?_; refine loadD w.heap.size d rfl _ rfl rfl HD.out hd ?_))
  clear e1
  go_wp2
  go_loopw [3, 7] (fun v i wx => ∃ k : Nat, k ≤ 32 ∧ i = .int .i64 k ∧ Hid (OwnR wx w1.heap.size v (hexS (d.take k))) ∧ Hid (Gr w1 wx)) (fun _ i _ => 32 - (intOf i).toNat)
  case atStart => exact ⟨0, Nat.zero_le _, rfl, HO0, HG0⟩
  case round =>
    clear HO0 HG0
    obtain ⟨k, hk, rfl, HO, HG⟩ := hrel
    obtain ⟨l, hl⟩ : ∃ l, hexS (d.take k) = l := ⟨_, rfl⟩
    have hll : l.length ≤ 64 := by rw [← hl, hexS_len, List.length_take]; omega
    rw [hl] at HO
    have HL := Lib.hid hl
    clear hl
    obtain ⟨A, cap, rfl⟩ := HO.out.shape
    by_cases hlt : k < 32
    · have hki : (k : Int) < 32 := by omega
      have hix : ∀ W, (Instr.index 24 (.agg (bC d)) (.int .i64 k)).run Tryd.prog W = .ok (.int .u8 ((gb d k).toNat : Int)) W := idxB d hd k hlt
      obtain ⟨x, hx0⟩ : ∃ x, gb d k = x := ⟨_, rfl⟩
      rw [hx0] at hix
      have hs1 : hexS (d.take (k + 1)) = l ++ [hx (x.toNat / 16), hx (x.toNat % 16)] := by
        have e : d.take (k + 1) = d.take k ++ [x] := by
          rw [List.take_succ_eq_append_getElem (by omega), ← hx0, ← gb_at (by omega)]
        rw [e, hexS_snoc, HL.out]
      have hx1 := x.toNat_lt
      have e2 : bits .and .u8 (x.toNat : Int) 15 = ((x.toNat % 16 : Nat) : Int) := and15 ⟨x.toNat, by omega⟩
      obtain ⟨q, hq⟩ : ∃ q, x.toNat / 16 = q := ⟨_, rfl⟩
      obtain ⟨r, hr⟩ : ∃ r, x.toNat % 16 = r := ⟨_, rfl⟩
      rw [hq, hr] at hs1
      rw [hr] at e2
      have hq16 : q < 16 := by omega
      have hr16 : r < 16 := by omega
      have e1 : (x.toNat : Int) / 16 = (q : Int) := by omega
      have q0 : (0 : Int) ≤ (q : Int) ∧ (q : Int) < 16 := by omega
      have r0 : (0 : Int) ≤ (r : Int) ∧ (r : Int) < 16 := by omega
      have HS1 := Lib.hid hs1
      have HB : Hid (∀ o, w1.heap.size ≤ (wr.drew.alloc o).heap.size) := Lib.hid (fun o => by rw [World.size_alloc]; exact Nat.le_succ_of_le HG.out.size)
      have HLm : Hid (l.length + 2 ≤ 140737488355328) := Lib.hid (by omega)
      clear hs1 hx0 hq hr hx1
      go_upto_region 5 with fail
      go_region_law ((refine step_append2 rfl _ _ rfl w1.heap.size (.slice A l.length cap) l (hx q) (hx r) rfl (HO.out.drew.alloc _) ⟨wr.heap.size, 0, none⟩ rfl (cellsUU wr.drew _ _ _ _ _ (hexAt' q hq16 _) (hexAt' r hr16 _)) HLm.out (HB.out _) ?_; intro v2 w2 hown2 hgrow2))
      all_goals
        have HO2 : Hid (OwnR w2 w1.heap.size v2 (hexS (d.take (k + 1)))) := by rw [HS1.out]; exact Lib.hid hown2
        have HG2 : Hid (Gr w1 w2) := Lib.hid (((HG.out.dr).al _).grown hgrow2 (fun k hk => HO.out.blk hk))
        clear hown2 hgrow2 HO HG HS1 HB HLm hix
        go_wp2
        go_roundw
        case rel => exact ⟨k + 1, by omega, by go_num, HO2, HG2⟩
        case measure => simp [intOf]; omega
    · have hk32 : k = 32 := by omega
      subst hk32
      have hfull : l = hexS d := by rw [← HL.out, List.take_of_length_le (by omega)]
      have hl64 : l.length = 64 := by rw [hfull, hexS_len, hd]
      obtain ⟨gb, ob, rfl, _⟩ := HO.out.b.addr (by omega)
      have hcv : (convert 31 9 (.slice (some ⟨gb, ob, none⟩) l.length cap)).run Tryd.prog wr = .ok (.string ⟨l.toArray⟩) wr := by
        refine run_convert_bytes_back wr 31 9 5 ⟨gb, ob, none⟩ cap l Tryd.underlying31 Tryd.underlying5 Tryd.underlying9 (fun j hj => ?_)
        obtain ⟨g, o, he, hc⟩ := HO.out.b.cell j hj
        cases he
        rw [Addr.add_mid]
        exact hc
      have HF := Lib.hid hfull
      clear hfull hl64 hlt hll
      go_wp2
      go_ret
      obtain rfl := HF.out
      exact ⟨rfl, HG1.out.tr HG.out⟩

theorem slice1 (q : Nat) (hq : q < 16) : ((⟨#[48, 49, 50, 51, 52, 53, 54, 55, 56, 57, 97, 98, 99, 100, 101, 102]⟩ : ByteArray).extract q (q + 1)) = ⟨#[hx q]⟩ := by
  have h : ∀ q : Fin 16, ((⟨#[48, 49, 50, 51, 52, 53, 54, 55, 56, 57, 97, 98, 99, 100, 101, 102]⟩ : ByteArray).extract q.val (q.val + 1)) = ⟨#[hx q.val]⟩ := by decide +kernel
  exact h ⟨q, hq⟩
theorem cat3 (l : List UInt8) (a b : UInt8) : ((⟨l.toArray⟩ : ByteArray) ++ ((⟨#[a]⟩ : ByteArray) ++ (⟨#[b]⟩ : ByteArray))) = ⟨(l ++ [a, b]).toArray⟩ := by
  apply ByteArray.ext
  simp [ByteArray.data_append]
set_option maxRecDepth 100000 in
theorem rHex_any (d : List UInt8) (hd : d.length = 32) (w : World) : Calls Tryd.prog 14 #[.agg (bC d)] w fun r w' => r = .returned (.string ⟨(hexS d).toArray⟩) ∧ Gr w w' := by
  obtain ⟨w1, e1⟩ : ∃ w1, w.alloc (.cells (bC d) 24) = w1 := ⟨_, rfl⟩
  have HD : Hid (Bs w1 w.heap.size 24 d) := by rw [← e1]; exact Lib.hid (Bs.new _ _ _)
  have g1 : Gr w w1 := by rw [← e1]; exact (Gr.rfl' _).al _
  have HG0 : Hid (Gr w1 w1) := Lib.hid (Gr.rfl' _)
  have HG1 := Lib.hid g1
  clear g1
  go_enter Tryd.func14, Tryd.ntmps14
  go_upto_block 0 with (first | rw [e1])
  clear e1
  go_wp2
  go_loopw [3, 4] (fun v i wx => ∃ k : Nat, k ≤ 32 ∧ i = .int .i64 k ∧ v = .string ⟨(hexS (d.take k)).toArray⟩ ∧ Hid (Gr w1 wx)) (fun _ i _ => 32 - (intOf i).toNat)
  case atStart => exact ⟨0, Nat.zero_le _, rfl, rfl, HG0⟩
  case round =>
    clear HG0
    obtain ⟨k, hk, rfl, rfl, HG⟩ := hrel
    obtain ⟨l, hl⟩ : ∃ l, hexS (d.take k) = l := ⟨_, rfl⟩
    have HL := Lib.hid hl
    rw [hl]
    have hll : l.length ≤ 64 := by rw [← hl, hexS_len, List.length_take]; omega
    clear hl
    by_cases hlt : k < 32
    · have hki : (k : Int) < 32 := by omega
      obtain ⟨x, hx0⟩ : ∃ x, gb d k = x := ⟨_, rfl⟩
      have c0 : wr.cell? ⟨w.heap.size, k, none⟩ = some (.int .u8 (x.toNat : Int)) := by rw [← hx0]; exact (HD.out.gr HG.out).cg (by omega)
      have hs1 : hexS (d.take (k + 1)) = l ++ [hx (x.toNat / 16), hx (x.toNat % 16)] := by
        have e : d.take (k + 1) = d.take k ++ [x] := by
          rw [List.take_succ_eq_append_getElem (by omega), ← hx0, ← gb_at (by omega)]
        rw [e, hexS_snoc, HL.out]
      have hx1 := x.toNat_lt
      obtain ⟨q, hq⟩ : ∃ q, x.toNat / 16 = q := ⟨_, rfl⟩
      obtain ⟨r, hr⟩ : ∃ r, x.toNat % 16 = r := ⟨_, rfl⟩
      rw [hq, hr] at hs1
      have hq16 : q < 16 := by omega
      have hr16 : r < 16 := by omega
      have e1 : (x.toNat : Int) / 16 = (q : Int) := by omega
      have e2 : (x.toNat : Int) % 16 = (r : Int) := by omega
      have q0 : (0 : Int) ≤ (q : Int) ∧ (q : Int) < 16 ∧ (q : Int) + 1 ≤ 16 := by omega
      have r0 : (0 : Int) ≤ (r : Int) ∧ (r : Int) < 16 ∧ (r : Int) + 1 ≤ 16 := by omega
      have HS1 := Lib.hid hs1
      clear hs1 hx0 hq hr
      go_upto_region 5 with fail
      go_quiet (fail)
      rw [slice1 q hq16, slice1 r hr16, cat3, ← HS1.out]
      have HG2 : Hid (Gr w1 (wr.drewN nq)) := Lib.hid (HG.out.drN nq)
      clear HG c0 e1 e2 HS1
      go_wp2
      go_roundw
      case rel => exact ⟨k + 1, by omega, by go_num, rfl, HG2⟩
      case measure => simp [intOf]; omega
    · have hk32 : k = 32 := by omega
      subst hk32
      have hfull : l = hexS d := by rw [← HL.out, List.take_of_length_le (by omega)]
      have HF := Lib.hid hfull
      clear hfull hlt hll
      go_wp2
      go_ret
      obtain rfl := HF.out
      exact ⟨rfl, HG1.out.tr HG.out⟩
end Go.Proofs.YtkbomgjeoaophaaDoor
