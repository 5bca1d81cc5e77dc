/- hearsayref03: Of. -/
import Derived.Test.YtkbomgjeoaophaaDoorShaK
import Derived.StillTailTactics
set_option linter.unusedVariables false
set_option linter.unusedSimpArgs false
set_option maxHeartbeats 4000000
namespace Go.Proofs.YtkbomgjeoaophaaDoor
open Go.RowKit Go.Great

theorem Zw64_built : Tryd.prog.built 45 [] = some (wC (Zw 64)) := by kernel_rfl
theorem buildW64 {ops : Array Oper} {rest : List Oper} {o : Oper} {a : Act} {w : World} {Q : Exit → Act → World → Prop} (hg : o.guard = none) (ho : o.op = .build 45 #[])
    (h : wpList Tryd.prog ops Q rest (a.put o.dst (.agg (wC (Zw 64)))) w) : wpList Tryd.prog ops Q (o :: rest) a w := by
  have e : ((#[] : Array (Nat × Operand)).map fun (i, x) => (i, a.eval x)).toList = [] := by simp
  refine wpList_build hg 45 #[] ho (by rw [e, Zw64_built]; rfl) ?_
  rw [e, Zw64_built]; exact h
theorem Zb_built : Tryd.prog.built 24 [] = some (bC Zb) := by kernel_rfl
theorem buildD {ops : Array Oper} {rest : List Oper} {o : Oper} {a : Act} {w : World} {Q : Exit → Act → World → Prop} (hg : o.guard = none) (ho : o.op = .build 24 #[])
    (h : wpList Tryd.prog ops Q rest (a.put o.dst (.agg (bC Zb))) w) : wpList Tryd.prog ops Q (o :: rest) a w := by
  have e : ((#[] : Array (Nat × Operand)).map fun (i, x) => (i, a.eval x)).toList = [] := by simp
  refine wpList_build hg 24 #[] ho (by rw [e, Zb_built]; rfl) ?_
  rw [e, Zb_built]; exact h

/-- a word out of j bytes of four -/
def part4 (b : List UInt8) (i : Nat) : Nat → W32
  | 0 => 0
  | j + 1 => part4 b i j * 256 + b32 (gb b (4 * i + j))
def partW (x : W32) (y : W32) : W32 := x * 256 + y
theorem u_part (x y : W32) : ((x.toNat : Int) * (256 : Int) + (y.toNat : Int)) % (4294967296 : Int) = ((partW x y).toNat : Int) := by
  unfold partW
  rw [BitVec.toNat_add, BitVec.toNat_mul]
  have : BitVec.toNat (256 : W32) = 256 := rfl
  rw [this]
  omega
theorem or_add (x y : W32) (k : Nat) (hx : x.toNat % 2 ^ k = 0) (hy : y.toNat < 2 ^ k) : (x ||| y).toNat = x.toNat + y.toNat := by
  rw [BitVec.toNat_or]
  have h := Nat.two_pow_add_eq_or_of_lt hy (x.toNat / 2 ^ k)
  have e : 2 ^ k * (x.toNat / 2 ^ k) = x.toNat := by
    have := Nat.div_add_mod x.toNat (2 ^ k); omega
  rw [e] at h
  exact h.symm
theorem b32_lt (x : UInt8) : (b32 x).toNat < 256 := by
  unfold b32
  rw [BitVec.toNat_ofNat]
  have := x.toNat_lt
  omega
theorem shl_val (x : UInt8) (n : Nat) (hn : n ≤ 24) : (b32 x <<< n).toNat = (b32 x).toNat * 2 ^ n := by
  rw [BitVec.toNat_shiftLeft, Nat.shiftLeft_eq]
  apply Nat.mod_eq_of_lt
  have h1 := b32_lt x
  have h2 : 2 ^ n ≤ 2 ^ 24 := Nat.pow_le_pow_right (by omega) hn
  calc (b32 x).toNat * 2 ^ n ≤ 255 * 2 ^ 24 := Nat.mul_le_mul (by omega) h2
    _ < 2 ^ 32 := by decide
theorem part4_eq (b : List UInt8) (i : Nat) : part4 b i 4 = word4 b i := by
  have h0 := b32_lt (gb b (4 * i))
  have h1 := b32_lt (gb b (4 * i + 1))
  have h2 := b32_lt (gb b (4 * i + 2))
  have h3 := b32_lt (gb b (4 * i + 3))
  apply BitVec.eq_of_toNat_eq
  have e : (word4 b i).toNat = (b32 (gb b (4 * i))).toNat * 2 ^ 24 + (b32 (gb b (4 * i + 1))).toNat * 2 ^ 16 + (b32 (gb b (4 * i + 2))).toNat * 2 ^ 8 + (b32 (gb b (4 * i + 3))).toNat := by
    unfold word4
    have s0 := shl_val (gb b (4 * i)) 24 (by omega)
    have s1 := shl_val (gb b (4 * i + 1)) 16 (by omega)
    have s2 := shl_val (gb b (4 * i + 2)) 8 (by omega)
    have a1 := or_add (b32 (gb b (4 * i)) <<< 24) (b32 (gb b (4 * i + 1)) <<< 16) 24 (by rw [s0]; omega) (by rw [s1]; omega)
    rw [s0, s1] at a1
    have a2 := or_add (b32 (gb b (4 * i)) <<< 24 ||| b32 (gb b (4 * i + 1)) <<< 16) (b32 (gb b (4 * i + 2)) <<< 8) 16 (by rw [a1]; omega) (by rw [s2]; omega)
    rw [a1, s2] at a2
    have a3 := or_add (b32 (gb b (4 * i)) <<< 24 ||| b32 (gb b (4 * i + 1)) <<< 16 ||| b32 (gb b (4 * i + 2)) <<< 8) (b32 (gb b (4 * i + 3))) 8 (by rw [a2]; omega) (by omega)
    rw [a3, a2]
  rw [e]
  simp only [part4, BitVec.toNat_add, BitVec.toNat_mul]
  have h256 : BitVec.toNat (256 : W32) = 256 := rfl
  have hz : BitVec.toNat (0 : W32) = 0 := rfl
  rw [h256, hz]
  simp only [Nat.add_zero]
  omega
theorem gw_set_same {l : List W32} {k : Nat} (h : k < l.length) (x : W32) : gw (l.set k x) k = x := by simp [gw, h]
theorem spr16_zero (b : List UInt8) : ∀ k j, k ≤ j → j < 64 → gw (spr16 b k) j = 0
  | 0, j, _, h => by
    show (List.replicate 64 (0 : W32)).getD j 0 = 0
    rw [List.getD_eq_getElem?_getD, List.getElem?_replicate]
    split <;> rfl
  | k + 1, j, hk, h => by
    have := spr16_zero b k j (by omega) h
    simp only [spr16, gw, List.getD_eq_getElem?_getD] at this ⊢
    rw [List.getElem?_set_ne (by omega)]
    exact this
theorem set_self {l : List W32} {k : Nat} (h : k < l.length) : l.set k (gw l k) = l := by
  simp [gw, h]
theorem spr16_start (b : List UInt8) (k : Nat) (h : k < 16) : (spr16 b k).set k (part4 b k 0) = spr16 b k := by
  have e : part4 b k 0 = gw (spr16 b k) k := by rw [spr16_zero b k k (Nat.le_refl _) (by omega)]; rfl
  rw [e]
  exact set_self (by rw [spr16_len]; omega)
theorem OwnF.kept {w w' : World} {B : Nat} {v : Value} {l : List UInt8} (h : OwnF w B v l) (hk : ∀ k, B ≤ k → k < w.heap.size → w'.heap[k]? = w.heap[k]?) : OwnF w' B v l := by
  obtain ⟨b, cap, cur, fr, rfl, hb, hg, r⟩ := h
  exact ⟨b, cap, cur, fr, rfl, hb, (hk b hb (Array.getElem?_eq_some_iff.1 hg).1).trans hg, r⟩
theorem startC' : (#[.int .u32 1779033703, .int .u32 3144134277, .int .u32 1013904242, .int .u32 2773480762, .int .u32 1359893119, .int .u32 2600822924, .int .u32 528734635, .int .u32 1541459225] : Array Value) = wC startL := startC

theorem u_add4m (x y z u : W32) : ((((x.toNat : Int) + (y.toNat : Int)) % (4294967296 : Int) + (z.toNat : Int)) % (4294967296 : Int) + (u.toNat : Int)) % (4294967296 : Int) = ((x + y + z + u).toNat : Int) := by
  rw [← u_add4]; omega
theorem storeWcs {ops : Array Oper} {rest : List Oper} {o : Oper} {a : Act} {w : World} {Q : Exit → Act → World → Prop} (t : TypeId) (b n : Nat) (l l' : List W32) (hg : o.guard = none) (x y : Operand) (ho : o.op = .store t x y) (hd : o.dst = none)
    (hx : a.eval x = .pointer (some ⟨b, 0, none⟩)) (cs : Array Value) (hy : a.eval y = .agg cs) (hcs : cs = wC l') (hB : Ws w b t l) (hn : (Tryd.prog.info? t).map (·.size) = some n) (hl : l.length = n) (hl' : l'.length = n)
    (h : wpList Tryd.prog ops Q rest a (w.setRow b (wC l'))) : wpList Tryd.prog ops Q (o :: rest) a w := storeWc t b n l l' hg x y ho hd hx cs hy hcs hB hn hl hl' h

theorem byN (x : W32) (n : Nat) : (x.toNat : Int) / 2 ^ n % (256 : Int) = ((UInt8.ofNat (x >>> n).toNat).toNat : Int) := by
  rw [u_shr, UInt8.toNat_ofNat']; omega
/-- the digest's first I bytes, as the reference lays them -/
def rouB (h : List W32) : Nat → List UInt8
  | 0 => Zb
  | I + 1 => (rouB h I).set I (UInt8.ofNat ((gw h (I / 4)) >>> (24 - 8 * (I % 4))).toNat)
theorem rouB_len (h : List W32) : ∀ I, (rouB h I).length = 32
  | 0 => by simp [rouB, Zb]
  | I + 1 => by simp [rouB, rouB_len h I]
theorem rouB_outs (h : List W32) : rouB h 32 = outs h 8 := rfl

set_option maxRecDepth 100000 in
theorem rOf_any (t : ByteArray) (w : World) (hK : Keys w 0) (ht : t.size + 200 ≤ 140737488355328) :
    Calls Tryd.prog 10 #[.string t] w fun r w' => r = .returned (.agg (bC (shaV t.data.toList))) ∧ Gr w w' := by
  have HK := Lib.hid hK; clear hK
  obtain ⟨w1, e1⟩ : ∃ w1, w.alloc (.cells (bC Zb) 24) = w1 := ⟨_, rfl⟩
  obtain ⟨w2, e2⟩ : ∃ w2, (w1.alloc (.cells (wC (Zw 8)) 30)).setRow w1.heap.size (wC startL) = w2 := ⟨_, rfl⟩
  have z1 : w1.heap.size = w.heap.size + 1 := by rw [← e1, World.size_alloc]
  have g1 : Gr w w1 := by rw [← e1]; exact (Gr.rfl' _).al _
  have g2 : Gr w1 w2 := by rw [← e2]; exact ((Gr.rfl' _).al _).row (Nat.le_refl _) _
  have HN : Hid (Ws (w1.alloc (.cells (wC (Zw 8)) 30)) w1.heap.size 30 (Zw 8)) := Lib.hid (Ws.new w1 30 (Zw 8))
  have HH2 : Hid (Ws w2 w1.heap.size 30 startL) := by rw [← e2]; exact Lib.hid (HN.out.row startL)
  have HR2 : Hid (Bs w2 w.heap.size 24 Zb) := by
    have : Bs w1 w.heap.size 24 Zb := by rw [← e1]; exact Bs.new _ _ _
    exact Lib.hid (this.gr g2)
  have HG2 := Lib.hid (g1.tr g2)
  have Z1 := Lib.hid z1
  have HZ2 : Hid (w1.heap.size < w2.heap.size) := Lib.hid HH2.out.lt
  clear z1 g1 g2
  go_enter Tryd.func10, Tryd.ntmps10
  go_upto_region 2 with (first | rw [e1] | rw [e2] | (with_reducible refine at_st 30 (.tmp 3) (.tmp 12) ?_; refine storeWcs 30 w1.heap.size 8 (Zw 8) startL rfl _ _ rfl rfl rfl _ rfl startC HN.out sz8 rfl rfl ?_) | refine allocD rfl rfl ?_ | refine allocZ 30 Zw_info8 rfl rfl ?_)
  clear e1 e2 HN
  go_wp2_with fail
  refine (padded_any t _ ht).mono ?_
  rintro r w3 ⟨vb, rfl, hO3, g3⟩
  obtain ⟨L, hL⟩ : ∃ L, pad8 t.data.toList t.size = L := ⟨_, rfl⟩
  have hLm : L.length % 64 = 0 := by rw [← hL]; exact pad8_mod _ _
  have hLl : L.length ≤ 140737488355328 := by rw [← hL, pad8_len]; have := zer_lt t.data.toList.length; have := Lib.size_eq t; omega
  rw [hL] at hO3
  have HL := Lib.hid hL
  have HLM := Lib.hid hLm
  obtain ⟨A, cap, rfl⟩ := hO3.shape
  obtain ⟨g, rfl, hBg, _, hlc, hcm, hcell⟩ := hO3.cell
  have HO0 := Lib.hid hO3
  have HH0 : Hid (Ws w3 w1.heap.size 30 (blks startL L 0)) := Lib.hid (HH2.out.gr g3)
  have HR0 := Lib.hid (HR2.out.gr g3)
  have HG0 := Lib.hid (HG2.out.tr g3)
  unfold maxLen at hcm
  clear hO3 g3 hcell hL hLm HH2 HR2 HG2
  go_upto_block 0 with fail
  go_wp2
  go_loopw [5] (fun i wx => ∃ K : Nat, 64 * K ≤ L.length ∧ i = .int .i64 ((64 * K : Nat) : Int) ∧ Hid (Ws wx w1.heap.size 30 (blks startL L K)) ∧ Hid (OwnF wx w2.heap.size (.slice (some ⟨g, 0, none⟩) L.length cap) L) ∧ Hid (Bs wx w.heap.size 24 Zb) ∧ Hid (Gr w wx)) (fun i _ => L.length - (intOf i).toNat)
  case atStart => exact ⟨0, Nat.zero_le _, rfl, HH0, HO0, HR0, HG0⟩
  case round =>
    clear HH0 HO0 HR0 HG0
    obtain ⟨K, hKL, rfl, HH, HO, HR, HG⟩ := hrel
    obtain ⟨wo, rfl⟩ : ∃ wo : World, wo = wr := ⟨_, rfl⟩
    have hk8 := blks_len (h := startL) rfl L K
    by_cases hlt : 64 * K < L.length
    · have hlt2 : 64 * K + 64 ≤ L.length := by have := HLM.out; omega
      have hKi : (64 * (K : Int)) < (L.length : Int) := by omega
      obtain ⟨blk, hblk⟩ : ∃ blk, (L.drop (64 * K)).take 64 = blk := ⟨_, rfl⟩
      have hbl : blk.length = 64 := by rw [← hblk, List.length_take, List.length_drop]; omega
      have HBC : Hid (∀ w', Gr wo w' → ∀ j, j < 64 → w'.cell? ⟨g, 64 * K + j, none⟩ = some (.int .u8 ((gb blk j).toNat : Int))) := Lib.hid (fun w' g' j hj => by
        obtain ⟨g0, he, _, _, _, _, hc⟩ := (HO.out.gr g').cell
        cases he
        rw [hc (64 * K + j) (by omega)]
        have : L[64 * K + j] = gb blk j := by
          rw [← hblk]
          simp only [gb, List.getD_eq_getElem?_getD]
          rw [List.getElem?_take_of_lt hj, List.getElem?_drop, List.getElem?_eq_getElem (by omega)]
          rfl
        rw [this])
      have HBLK := Lib.hid hblk
      clear hblk
      obtain ⟨w5, e5⟩ : ∃ w5, (wo.alloc (.cells (wC (Zw 64)) 45)).setRow wo.heap.size (wC (Zw 64)) = w5 := ⟨_, rfl⟩
      have HN : Hid (Ws (wo.alloc (.cells (wC (Zw 64)) 45)) wo.heap.size 45 (Zw 64)) := Lib.hid (Ws.new wo _ _)
      have HS5 : Hid (Ws w5 wo.heap.size 45 (spr16 blk 0)) := by rw [← e5]; exact Lib.hid (HN.out.row _)
      have HG5 : Hid (Gr wo w5) := by rw [← e5]; exact Lib.hid (((Gr.rfl' _).al _).row (Nat.le_refl _) _)
      go_upto_region 7 with (first | rw [e5] | refine buildW64 rfl rfl ?_ | (with_reducible refine at_st 45 (.tmp 6) (.tmp 21) ?_; refine storeWs 45 wo.heap.size 64 (Zw 64) (Zw 64) rfl _ _ rfl rfl rfl rfl HN.out sz64 rfl rfl ?_) | refine allocZ 45 Zw_info64 rfl rfl ?_)
      clear e5 HN
      go_wp2
      go_loopw [7] (fun i wx => ∃ I : Nat, I ≤ 16 ∧ i = .int .i64 I ∧ Hid (Ws wx wo.heap.size 45 (spr16 blk I)) ∧ Hid (Gr wo wx)) (fun i _ => 16 - (intOf i).toNat)
      case atStart => exact ⟨0, Nat.zero_le _, rfl, HS5, HG5⟩
      case round =>
        clear HS5 HG5
        obtain ⟨I, hI, rfl, HS, HG5⟩ := hrel
        by_cases hlI : I < 16
        · have hIi : (I : Int) < 16 := by omega
          have HS0 : Hid (Ws wr wo.heap.size 45 ((spr16 blk I).set I (part4 blk I 0))) := by rw [spr16_start blk I hlI]; exact HS
          clear HS
          go_upto_block 4 with fail
          go_wp2
          go_loopw [8] (fun i wx => ∃ J : Nat, J ≤ 4 ∧ i = .int .i64 J ∧ Hid (Ws wx wo.heap.size 45 ((spr16 blk I).set I (part4 blk I J))) ∧ Hid (Gr wo wx)) (fun i _ => 4 - (intOf i).toNat)
          case atStart => exact ⟨0, Nat.zero_le _, rfl, HS0, HG5⟩
          case round =>
            clear HS0 HG5
            obtain ⟨J, hJ, rfl, HS, HG5⟩ := hrel
            have l64 := spr16_len blk I
            by_cases hlJ : J < 4
            · have hJi : (J : Int) < 4 := by omega
              have q0 : wr.cell? ⟨wo.heap.size, I, none⟩ = some (.int .u32 ((part4 blk I J).toNat : Int)) := by
                have := HS.out.cg (j := I) (by simp only [List.length_set]; omega)
                rw [gw_set_same (by omega)] at this
                exact this
              have q1 : wr.cell? ⟨g, 64 * K + 4 * I + J, none⟩ = some (.int .u8 ((gb blk (4 * I + J)).toNat : Int)) := by
                rw [Nat.add_assoc]; exact HBC.out _ HG5.out _ (by omega)
              have f0 := HS.out.frz I
              have hlt3 : 64 * K + 4 * I + J < L.length := by omega
              have hlt4 : 64 * (K : Int) + 4 * (I : Int) + (J : Int) < (L.length : Int) := by omega
              have H2 := Lib.hid (HS.out.set I (part4 blk I (J + 1)))
              have G2 := Lib.hid ((HG5.out.set (p := ⟨wo.heap.size, I, none⟩) (Nat.le_refl _) (.int .u32 ((part4 blk I (J + 1)).toNat : Int))).dr)
              have HP : Hid (part4 blk I (J + 1) = partW (part4 blk I J) (b32 (gb blk (4 * I + J)))) := Lib.hid rfl
              go_upto_region 13 with fail
              go_region
              rw [b32_cast (gb blk (4 * I + J)), u_part, ← HP.out]
              rw [List.set_set] at H2
              have H3 : Hid (Ws ((wr.setCell ⟨wo.heap.size, I, none⟩ (.int .u32 ((part4 blk I (J + 1)).toNat : Int))).drew) wo.heap.size 45 ((spr16 blk I).set I (part4 blk I (J + 1)))) := H2
              clear H2 HP HS HG5 q0 q1 f0 hlt3 hlt4 l64
              go_wp2
              go_roundw
              case rel => exact ⟨J + 1, by omega, by go_num, H3, G2⟩
              case measure => simp [intOf]; omega
            · have hJ4 : J = 4 := by omega
              subst hJ4
              have HS1 : Hid (Ws wr wo.heap.size 45 (spr16 blk (I + 1))) := by
                show Hid (Ws wr wo.heap.size 45 ((spr16 blk I).set I (word4 blk I)))
                rw [← part4_eq]; exact HS
              clear HS l64 hlJ
              go_wp2
              go_roundw
              case rel => exact ⟨I + 1, by omega, by go_num, HS1, HG5⟩
              case measure => simp [intOf]; omega
        · have hI16 : I = 16 := by omega
          subst hI16
          have HS0 : Hid (Ws wr wo.heap.size 45 (spr blk 0)) := HS
          clear HS hlI
          go_upto_block 6 with fail
          try rw [show (((16 : Nat)) : Int) = (16 : Int) from rfl]
          go_wp2
          go_loopw [9] (fun i wx => ∃ k : Nat, k ≤ 48 ∧ i = .int .i64 ((k : Int) + 16) ∧ Hid (Ws wx wo.heap.size 45 (spr blk k)) ∧ Hid (Gr wo wx)) (fun i _ => 64 - (intOf i).toNat)
          case atStart => exact ⟨0, Nat.zero_le _, rfl, HS0, HG5⟩
          case round =>
            clear HS0 HG5
            obtain ⟨k, hk, rfl, HS, HG5⟩ := hrel
            have l64 := spr_len blk k
            by_cases hlk : k < 48
            · have hki : (k : Int) + 16 < 64 := by omega
              have c0 : wr.cell? ⟨wo.heap.size, k, none⟩ = some (.int .u32 ((gw (spr blk k) k).toNat : Int)) := HS.out.cg (by omega)
              have c1 : wr.cell? ⟨wo.heap.size, k + 1, none⟩ = some (.int .u32 ((gw (spr blk k) (k + 1)).toNat : Int)) := HS.out.cg (by omega)
              have c2 : wr.cell? ⟨wo.heap.size, k + 9, none⟩ = some (.int .u32 ((gw (spr blk k) (k + 9)).toNat : Int)) := HS.out.cg (by omega)
              have c3 : wr.cell? ⟨wo.heap.size, k + 14, none⟩ = some (.int .u32 ((gw (spr blk k) (k + 14)).toNat : Int)) := HS.out.cg (by omega)
              have d := HS.out.cg (j := k + 16) (by omega)
              have f := HS.out.frz (k + 16)
              have i16 : IntKind.i64.wrap (k : Int) = (k : Int) := IntWalk.i64_in _ (by omega)
              have i15 : IntKind.i64.wrap ((k : Int) + 16 - 15) = (k : Int) + 1 := by rw [show (k : Int) + 16 - 15 = k + 1 by omega]; exact IntWalk.i64_in _ (by omega)
              have i7 : IntKind.i64.wrap ((k : Int) + 16 - 7) = (k : Int) + 9 := by rw [show (k : Int) + 16 - 7 = k + 9 by omega]; exact IntWalk.i64_in _ (by omega)
              have i2 : IntKind.i64.wrap ((k : Int) + 16 - 2) = (k : Int) + 14 := by rw [show (k : Int) + 16 - 2 = k + 14 by omega]; exact IntWalk.i64_in _ (by omega)
              have p0 : (0 : Int) ≤ (k : Int) ∧ (k : Int) < 64 := by omega
              have p1 : (0 : Int) ≤ (k : Int) + 1 ∧ (k : Int) + 1 < 64 := by omega
              have p9 : (0 : Int) ≤ (k : Int) + 9 ∧ (k : Int) + 9 < 64 := by omega
              have p14 : (0 : Int) ≤ (k : Int) + 14 ∧ (k : Int) + 14 < 64 := by omega
              have p16 : (0 : Int) ≤ (k : Int) + 16 ∧ (k : Int) + 16 < 64 := by omega
              have t1 : ((k : Int) + 1).toNat = k + 1 := by omega
              have t9 : ((k : Int) + 9).toNat = k + 9 := by omega
              have t14 : ((k : Int) + 14).toNat = k + 14 := by omega
              have t16 : ((k : Int) + 16).toNat = k + 16 := by omega
              go_upto_region 17 with fail
              refine wp_region_still_tail 47 (by kernel_rfl) (by kernel_rfl) ?_
              simp only [List.take_succ_cons, List.take_zero, List.drop_succ_cons, List.drop_zero]
              change wpStill _ _ wr.drew _ _ _
              repeat still_step
              still_call (turn_any _ 7 (by decide) (by decide) _)
              repeat still_step
              still_call (turn_any _ 18 (by decide) (by decide) _)
              repeat still_step
              still_call (turn_any _ 17 (by decide) (by decide) _)
              repeat still_step
              still_call (turn_any _ 19 (by decide) (by decide) _)
              repeat still_step
              refine wpStill_nil ?_
              change wpList _ _ _ _ _ wr.drew
              clear c0 c1 c2 c3 i16 i15 i7 i2 p0 p1 p9 p14 t1 t9 t14
              go_upto_region 16 with fail
              simp only [u_xor, u_shr3, lowS_def, u_shr10, highS_def]
              rw [u_add4m (gw (spr blk k) k) (lowS (gw (spr blk k) (k + 1))) (gw (spr blk k) (k + 9)) (highS (gw (spr blk k) (k + 14))), nxt_def]
              have H2 : Hid (Ws ((wr.setCell ⟨wo.heap.size, k + 16, none⟩ (.int .u32 ((nxt (spr blk k) k).toNat : Int))).drew) wo.heap.size 45 (spr blk (k + 1))) := Ws.set (W := wr) HS.out (k + 16) (nxt (spr blk k) k)
              have G2 := Lib.hid ((HG5.out.set (p := ⟨wo.heap.size, k + 16, none⟩) (Nat.le_refl _) (.int .u32 ((nxt (spr blk k) k).toNat : Int))).dr)
              clear HS HG5 d f p16 t16
              go_wp2
              go_roundw
              case rel => exact ⟨k + 1, by omega, by go_num, H2, G2⟩
              case measure => simp [intOf]; omega
            · have hki : ¬ (k : Int) + 16 < 64 := by omega
              have hkk : k = 48 := by omega
              subst hkk
              obtain ⟨ws, hws⟩ : ∃ ws, spr blk 48 = ws := ⟨_, rfl⟩
              rw [hws] at HS l64
              obtain ⟨hb, hhb⟩ : ∃ hb, blks startL L K = hb := ⟨_, rfl⟩
              rw [hhb] at HH hk8
              have HB1 : Hid (blks startL L (K + 1) = adds (rnds hb ws 64) hb 8) := by
                show Hid (mixV (blks startL L K) ((L.drop (64 * K)).take 64) = _)
                rw [HBLK.out, hhb]
                unfold mixV
                rw [hws]
                exact Lib.hid rfl
              have HHr := Lib.hid (HH.out.gr HG5.out)
              have HOr := Lib.hid (HO.out.gr HG5.out)
              have HRr := Lib.hid (HR.out.gr HG5.out)
              have HGr := Lib.hid (HG.out.tr HG5.out)
              have HKr := Lib.hid (HK.out.gr HGr.out)
              have HK8 := Lib.hid hk8
              have HL64 := Lib.hid l64
              clear hws hhb HH HO HR HG HG5 hki hlk hk8 l64 HBLK HBC
              go_wp2_with (first | (with_reducible refine at_ld 30 (.tmp 3) ?_; refine loadW 30 8 _ w1.heap.size hb rfl _ rfl rfl HHr.out rfl Tryd.underlying30 sz8 HK8.out ?_) | (with_reducible refine at_ld 45 (.tmp 6) ?_; refine loadW 45 64 _ wo.heap.size ws rfl _ rfl rfl HS.out rfl Tryd.underlying45 sz64 HL64.out ?_))
              refine (round_any hb ws HK8.out HL64.out _ HKr.out).mono ?_
              rintro r w9 ⟨rfl, g9⟩
              have HHx := Lib.hid (HHr.out.gr g9)
              have hla : (adds (rnds hb ws 64) hb 8).length = 8 := adds_len (rnds_len HK8.out ws 64) hb 8
              go_upto_region 5 with (with_reducible refine at_st 30 (.tmp 3) (.tmp 100) ?_; refine storeWs 30 w1.heap.size 8 hb (adds (rnds hb ws 64) hb 8) rfl _ _ rfl rfl rfl rfl HHx.out sz8 HK8.out hla ?_)
              have z1 := Z1.out
              have z2 := HZ2.out
              have H2 : Hid (Ws (w9.setRow w1.heap.size (wC (adds (rnds hb ws 64) hb 8))) w1.heap.size 30 (blks startL L (K + 1))) := by rw [HB1.out]; exact Lib.hid (HHx.out.row _)
              have O2 : Hid (OwnF (w9.setRow w1.heap.size (wC (adds (rnds hb ws 64) hb 8))) w2.heap.size (.slice (some ⟨g, 0, none⟩) L.length cap) L) := Lib.hid ((HOr.out.gr g9).kept (fun k hk _ => setRow_other _ _ _ _ (by omega)))
              have R2 : Hid (Bs (w9.setRow w1.heap.size (wC (adds (rnds hb ws 64) hb 8))) w.heap.size 24 Zb) := Lib.hid ((setRow_other _ _ _ _ (by omega)).trans (HRr.out.gr g9))
              have G2 := Lib.hid ((HGr.out.tr g9).row (g := w1.heap.size) (by omega) (wC (adds (rnds hb ws 64) hb 8)))
              clear z1 z2 g9 HHx hla HHr HOr HRr HGr HKr HB1 HS
              go_wp2
              go_roundw
              case rel => exact ⟨K + 1, by omega, by go_num, H2, O2, R2, G2⟩
              case measure => simp [intOf]; omega
    · have hKe : 64 * K = L.length := by omega
      have hKi : ¬ (64 * (K : Int)) < (L.length : Int) := by omega
      have HEK : Hid (outs (blks startL L K) 8 = shaV t.data.toList) := by
        have e : K = L.length / 64 := by omega
        unfold shaV valV
        have hN : t.data.toList.length = t.size := (Lib.size_eq t).symm
        rw [hN, HL.out, ← e]
        exact Lib.hid rfl
      obtain ⟨hf, hhf⟩ : ∃ hf, blks startL L K = hf := ⟨_, rfl⟩
      rw [hhf] at HH hk8 HEK
      clear hhf hlt HO
      obtain ⟨w5, e5⟩ : ∃ w5, (wo.alloc (.cells (bC Zb) 24)).setRow wo.heap.size (bC Zb) = w5 := ⟨_, rfl⟩
      have HN : Hid (Bs (wo.alloc (.cells (bC Zb) 24)) wo.heap.size 24 Zb) := Lib.hid (Bs.new wo _ _)
      have HD5 : Hid (Bs w5 wo.heap.size 24 (rouB hf 0)) := by rw [← e5]; exact Lib.hid (HN.out.row _)
      have HG5 : Hid (Gr wo w5) := by rw [← e5]; exact Lib.hid (((Gr.rfl' _).al _).row (Nat.le_refl _) _)
      go_upto_region 20 with (first | rw [e5] | refine buildD rfl rfl ?_ | (with_reducible refine at_st 24 (.tmp 10) (.tmp 101) ?_; refine storeD wo.heap.size Zb Zb rfl _ _ rfl rfl rfl rfl HN.out rfl rfl ?_) | refine allocD rfl rfl ?_)
      clear e5 HN
      go_wp2
      go_loopw [11] (fun i wx => ∃ I : Nat, I ≤ 32 ∧ i = .int .i64 I ∧ Hid (Bs wx wo.heap.size 24 (rouB hf I)) ∧ Hid (Gr wo wx)) (fun i _ => 32 - (intOf i).toNat)
      case atStart => exact ⟨0, Nat.zero_le _, rfl, HD5, HG5⟩
      case round =>
        clear HD5 HG5
        obtain ⟨I, hI, rfl, HD, HG5⟩ := hrel
        have l32 := rouB_len hf I
        by_cases hlI : I < 32
        · have hIi : (I : Int) < 32 := by omega
          have q0 : wr.cell? ⟨w1.heap.size, I / 4, none⟩ = some (.int .u32 ((gw hf (I / 4)).toNat : Int)) := (HH.out.gr HG5.out).cg (by omega)
          have d0 := HD.out.cg (j := I) (by omega)
          have f0 := HD.out.frz I
          have b4 : (0 : Int) ≤ (I : Int) / 4 ∧ (I : Int) / 4 < 8 := by omega
          have b5 : (0 : Int) ≤ (I : Int) % 4 ∧ (I : Int) % 4 < 4 := by omega
          go_upto_region 22 with fail
          rw [byN]
          have H2 : Hid (Bs (wr.setCell ⟨wo.heap.size, I, none⟩ (.int .u8 ((UInt8.ofNat (gw hf (I / 4) >>> (24 - 8 * (I % 4))).toNat).toNat : Int))) wo.heap.size 24 (rouB hf (I + 1))) := Lib.hid (HD.out.set I _)
          have G2 := Lib.hid (HG5.out.set (p := ⟨wo.heap.size, I, none⟩) (Nat.le_refl _) (.int .u8 ((UInt8.ofNat (gw hf (I / 4) >>> (24 - 8 * (I % 4))).toNat).toNat : Int)))
          clear HD HG5 q0 d0 f0 b4 b5 l32
          go_wp2
          go_roundw
          case rel => exact ⟨I + 1, by omega, by go_num, H2, G2⟩
          case measure => simp [intOf]; omega
        · have hI32 : I = 32 := by omega
          subst hI32
          rw [rouB_outs, HEK.out] at HD l32
          have HRr := Lib.hid (HR.out.gr HG5.out)
          have HGx := Lib.hid (((HG.out.tr HG5.out)).row (g := w.heap.size) (Nat.le_refl _) (bC (shaV t.data.toList)))
          go_wp2_with (first | (with_reducible refine at_ld 24 (.tmp 10) ?_; refine loadD wo.heap.size (shaV t.data.toList) rfl _ rfl rfl HD.out l32 ?_) | (with_reducible refine at_st 24 (.tmp 2) (.tmp 119) ?_; refine storeD w.heap.size Zb (shaV t.data.toList) rfl _ _ rfl rfl rfl rfl HRr.out rfl l32 ?_))
          refine bodyPost_ret (v := .agg (bC (shaV t.data.toList))) ?_ rfl ⟨rfl, HGx.out⟩
          simp [results, Tryd.results10, Act.put]
          exact run_loadVar_row _ _ 24 24 _ (0, 0) _ (HRr.out.row _) Tryd.underlying24 rfl (by rw [bC_size, l32, sz32])
end Go.Proofs.YtkbomgjeoaophaaDoor
