/- sha.mix. -/
import Derived.Test.YtkbomgjeoaophaaDoorShaB
import Derived.ChangeKeysEq
set_option linter.unusedVariables false
set_option linter.unusedSimpArgs false
set_option maxHeartbeats 4000000
namespace Go.Proofs.YtkbomgjeoaophaaDoor
open Go.RowKit Go.Great

def keysN : List Nat := [
  0x428a2f98, 0x71374491, 0xb5c0fbcf, 0xe9b5dba5, 0x3956c25b, 0x59f111f1, 0x923f82a4, 0xab1c5ed5,
  0xd807aa98, 0x12835b01, 0x243185be, 0x550c7dc3, 0x72be5d74, 0x80deb1fe, 0x9bdc06a7, 0xc19bf174,
  0xe49b69c1, 0xefbe4786, 0x0fc19dc6, 0x240ca1cc, 0x2de92c6f, 0x4a7484aa, 0x5cb0a9dc, 0x76f988da,
  0x983e5152, 0xa831c66d, 0xb00327c8, 0xbf597fc7, 0xc6e00bf3, 0xd5a79147, 0x06ca6351, 0x14292967,
  0x27b70a85, 0x2e1b2138, 0x4d2c6dfc, 0x53380d13, 0x650a7354, 0x766a0abb, 0x81c2c92e, 0x92722c85,
  0xa2bfe8a1, 0xa81a664b, 0xc24b8b70, 0xc76c51a3, 0xd192e819, 0xd6990624, 0xf40e3585, 0x106aa070,
  0x19a4c116, 0x1e376c08, 0x2748774c, 0x34b0bcb5, 0x391c0cb3, 0x4ed8aa4a, 0x5b9cca4f, 0x682e6ff3,
  0x748f82ee, 0x78a5636f, 0x84c87814, 0x8cc70208, 0x90befffa, 0xa4506ceb, 0xbef9a3f7, 0xc67178f2]
def keysW : List W32 := keysN.map (BitVec.ofNat 32)
/-- a table of keys, as the program lays it -/
def Keys (W : World) (g : Nat) : Prop := ∀ j, j < 64 → W.cell? ⟨g, j, none⟩ = some (.int .u32 ((gw keysW j).toNat : Int))
theorem Keys.gr {w w' : World} {g : Nat} (h : Keys w g) (k : Gr w w') : Keys w' g := fun j hj => k.cell (h j hj)

def bigE (e : W32) : W32 := rotR e 6 ^^^ rotR e 11 ^^^ rotR e 25
def bigA (a : W32) : W32 := rotR a 2 ^^^ rotR a 13 ^^^ rotR a 22
def chooseW (e f g : W32) : W32 := e &&& f ^^^ ~~~e &&& g
def majorW (a b c : W32) : W32 := a &&& b ^^^ a &&& c ^^^ b &&& c
theorem bigE_def (e : W32) : rotR e 6 ^^^ rotR e 11 ^^^ rotR e 25 = bigE e := rfl
theorem bigA_def (e : W32) : rotR e 2 ^^^ rotR e 13 ^^^ rotR e 22 = bigA e := rfl
theorem choose_def (e f g : W32) : e &&& f ^^^ ~~~e &&& g = chooseW e f g := rfl
theorem major_def (a b c : W32) : a &&& b ^^^ a &&& c ^^^ b &&& c = majorW a b c := rfl
def oneW (l : List W32) (k x : W32) : W32 := gw l 7 + bigE (gw l 4) + chooseW (gw l 4) (gw l 5) (gw l 6) + k + x
def twoW (l : List W32) : W32 := bigA (gw l 0) + majorW (gw l 0) (gw l 1) (gw l 2)
def addW (x y : W32) : W32 := x + y
def stepW (l : List W32) (k x : W32) : List W32 := [addW (oneW l k x) (twoW l), gw l 0, gw l 1, gw l 2, addW (gw l 3) (oneW l k x), gw l 4, gw l 5, gw l 6]
theorem u_add5 (x y z u v : W32) : ((x.toNat : Int) + (y.toNat : Int) + (z.toNat : Int) + (u.toNat : Int) + (v.toNat : Int)) % (4294967296 : Int) = ((x + y + z + u + v).toNat : Int) := by
  rw [BitVec.toNat_add, BitVec.toNat_add, BitVec.toNat_add, BitVec.toNat_add]; omega
theorem u_addW (x y : W32) : ((x.toNat : Int) + (y.toNat : Int)) % (4294967296 : Int) = ((addW x y).toNat : Int) := u_addm x y
theorem one_def (l : List W32) (k x : W32) : gw l 7 + bigE (gw l 4) + chooseW (gw l 4) (gw l 5) (gw l 6) + k + x = oneW l k x := rfl
theorem two_def (l : List W32) : addW (bigA (gw l 0)) (majorW (gw l 0) (gw l 1) (gw l 2)) = twoW l := rfl
/-- the rounds -/
def rnds (l ws : List W32) : Nat → List W32
  | 0 => l
  | k + 1 => stepW (rnds l ws k) (gw keysW k) (gw ws k)
theorem rnds_len {l : List W32} (h : l.length = 8) (ws : List W32) : ∀ k, (rnds l ws k).length = 8
  | 0 => h
  | k + 1 => rfl
def adds (h was : List W32) : Nat → List W32
  | 0 => h
  | k + 1 => (adds h was k).set k (addW (gw (adds h was k) k) (gw was k))
theorem adds_len {h : List W32} (hh : h.length = 8) (was : List W32) : ∀ k, (adds h was k).length = 8
  | 0 => hh
  | k + 1 => by simp [adds, adds_len hh was k]
/-- a block of 64 bytes mixed in -/
def mixV (was : List W32) (b : List UInt8) : List W32 := adds (rnds was (spr b 48) 64) was 8
theorem mixV_len {was : List W32} (h : was.length = 8) (b : List UInt8) : (mixV was b).length = 8 := adds_len (rnds_len h _ _) _ _

theorem idxW (t : TypeId) (n : Nat) (hu : Tryd.prog.underlying t = some (.array n 29)) (l : List W32) (hl : l.length = n) (k : Nat) (hk : k < n) (w : World) :
    (Instr.index t (.agg (wC l)) (.int .i64 k)).run Tryd.prog w = .ok (.int .u32 ((gw l k).toNat : Int)) w := by
  have hkl : k < l.length := by omega
  have hat : (wC l)[k]? = some (.int .u32 ((gw l k).toNat : Int)) := by rw [wC_at l k hkl, gw_at]
  have p1 := run_part_plain (P := Tryd.prog) w (e := 29) (by kernel_rfl) hat
  have hs : (sizeOf 29).run Tryd.prog w = .ok 1 w := by kernel_rfl
  have h1 : (0 : Int) ≤ k := by omega
  have h2 : (k : Int) < n := by omega
  unfold Instr.index
  simp only [Sem.run_bind, asIntOf, Sem.run_pure, Result.andThen_ok, run_underlying hu w, h1, h2, and_self, if_true, hs, Int.toNat_natCast, Nat.mul_one, p1]

theorem storeNewW {ops : Array Oper} {rest : List Oper} {o : Oper} {a : Act} {w : World} {Q : Exit → Act → World → Prop} (t : TypeId) (n : Nat) (l l' : List W32) (hg : o.guard = none) (x y : Operand) (ho : o.op = .store t x y) (hd : o.dst = none)
    (hx : a.eval x = .pointer (some ⟨w.heap.size, 0, none⟩)) (hy : a.eval y = .agg (wC l')) (hn : (Tryd.prog.info? t).map (·.size) = some n) (hl : l.length = n) (hl' : l'.length = n)
    (h : wpList Tryd.prog ops Q rest a (w.alloc (.cells (wC l') t))) : wpList Tryd.prog ops Q (o :: rest) a (w.alloc (.cells (wC l) t)) := by
  refine storeW t w.heap.size n l l' hg x y ho hd hx hy (World.alloc_heap_new _ _) hn hl hl' ?_
  rw [World.setRow_alloc_new]
  exact h
theorem storeWc {ops : Array Oper} {rest : List Oper} {o : Oper} {a : Act} {w : World} {Q : Exit → Act → World → Prop} (t : TypeId) (b n : Nat) (l l' : List W32) (hg : o.guard = none) (x y : Operand) (ho : o.op = .store t x y) (hd : o.dst = none)
    (hx : a.eval x = .pointer (some ⟨b, 0, none⟩)) (cs : Array Value) (hy : a.eval y = .agg cs) (hcs : cs = wC l') (hB : w.heap[b]? = some (.cells (wC l) t (0, 0))) (hn : (Tryd.prog.info? t).map (·.size) = some n) (hl : l.length = n) (hl' : l'.length = n)
    (h : wpList Tryd.prog ops Q rest a (w.setRow b (wC l'))) : wpList Tryd.prog ops Q (o :: rest) a w :=
  storeW t b n l l' hg x y ho hd hx (hy.trans (by rw [hcs])) hB hn hl hl' h
theorem loadB {ops : Array Oper} {rest : List Oper} {o : Oper} {a : Act} {w : World} {Q : Exit → Act → World → Prop} (t : TypeId) (n : Nat) (d : TypeDesc) (b : Nat) (l : List UInt8) (hg : o.guard = none) (x : Operand) (ho : o.op = .load t x)
    (hx : a.eval x = .pointer (some ⟨b, 0, none⟩)) (H : Bs w b t l) (hd : (match d with | .struct _ | .array _ _ => true | _ => false) = true) (hu : Tryd.prog.underlying t = some d) (hn : (Tryd.prog.info? t).map (·.size) = some n) (hl : l.length = n)
    (h : wpList Tryd.prog ops Q rest (a.put o.dst (.agg (bC l))) w) : wpList Tryd.prog ops Q (o :: rest) a w :=
  wpList_load_row hg t x ho b hx t (bC l) (0, 0) d H hu (by cases d <;> first | rfl | exact hd) (by rw [bC_size, hl, hn]) h
theorem sz64b : (Tryd.prog.info? 51).map (·.size) = some 64 := by kernel_rfl

theorem quiet_same2 {P : Program} {f : FuncId} {args : Array Value} {w : World} {m n : Nat} {v : Value}
    (h : Calls P f args (w.drewN (m + n)) fun e w' => e = .returned v ∧ w' = w.drewN (m + n)) : Calls P f args (w.drewN (m + n)) fun e w'' => e = .returned v ∧ ∃ n, w'' = w.drewN (m + n) :=
  h.mono fun _ _ ⟨he, hm⟩ => ⟨he, n, hm⟩
theorem turned6 (x : W32) (w : World) : Calls Tryd.prog 25 #[.int .u32 x.toNat, .int .i64 6] w fun r w' => r = .returned (.int .u32 ((rotR x 6).toNat : Int)) ∧ w' = w := turned_any x 6 (by decide) (by decide) w
theorem turned11 (x : W32) (w : World) : Calls Tryd.prog 25 #[.int .u32 x.toNat, .int .i64 11] w fun r w' => r = .returned (.int .u32 ((rotR x 11).toNat : Int)) ∧ w' = w := turned_any x 11 (by decide) (by decide) w
theorem turned25 (x : W32) (w : World) : Calls Tryd.prog 25 #[.int .u32 x.toNat, .int .i64 25] w fun r w' => r = .returned (.int .u32 ((rotR x 25).toNat : Int)) ∧ w' = w := turned_any x 25 (by decide) (by decide) w
theorem turned2 (x : W32) (w : World) : Calls Tryd.prog 25 #[.int .u32 x.toNat, .int .i64 2] w fun r w' => r = .returned (.int .u32 ((rotR x 2).toNat : Int)) ∧ w' = w := turned_any x 2 (by decide) (by decide) w
theorem turned13 (x : W32) (w : World) : Calls Tryd.prog 25 #[.int .u32 x.toNat, .int .i64 13] w fun r w' => r = .returned (.int .u32 ((rotR x 13).toNat : Int)) ∧ w' = w := turned_any x 13 (by decide) (by decide) w
theorem turned22 (x : W32) (w : World) : Calls Tryd.prog 25 #[.int .u32 x.toNat, .int .i64 22] w fun r w' => r = .returned (.int .u32 ((rotR x 22).toNat : Int)) ∧ w' = w := turned_any x 22 (by decide) (by decide) w

set_option maxRecDepth 100000 in
theorem mix_any (was : List W32) (b : List UInt8) (hw : was.length = 8) (hb : b.length = 64) (w : World) (hK : Keys w 1) : Calls Tryd.prog 22 #[.agg (wC was), .agg (bC b)] w fun r w' => r = .returned (.agg (wC (mixV was b))) ∧ Gr w w' := by
  have HK := Lib.hid hK; clear hK
  obtain ⟨w1, e1⟩ : ∃ w1, w.alloc (.cells (wC was) 30) = w1 := ⟨_, rfl⟩
  obtain ⟨w2, e2⟩ : ∃ w2, w1.alloc (.cells (bC b) 51) = w2 := ⟨_, rfl⟩
  obtain ⟨w3, e3⟩ : ∃ w3, w2.alloc (.cells (wC (Zw 8)) 30) = w3 := ⟨_, rfl⟩
  obtain ⟨w4, e4⟩ : ∃ w4, (w3.alloc (.cells (wC (Zw 8)) 30)).setRow w3.heap.size (wC was) = w4 := ⟨_, rfl⟩
  have z1 : w1.heap.size = w.heap.size + 1 := by rw [← e1, World.size_alloc]
  have z2 : w2.heap.size = w.heap.size + 2 := by rw [← e2, World.size_alloc, z1]
  have z3 : w3.heap.size = w.heap.size + 3 := by rw [← e3, World.size_alloc, z2]
  have g1 : Gr w w1 := by rw [← e1]; exact (Gr.rfl' _).al _
  have g2 : Gr w1 w2 := by rw [← e2]; exact (Gr.rfl' _).al _
  have g3 : Gr w2 w3 := by rw [← e3]; exact (Gr.rfl' _).al _
  have g4 : Gr w3 w4 := by rw [← e4]; exact ((Gr.rfl' _).al _).row (Nat.le_refl _) _
  have HN : Hid (Ws (w3.alloc (.cells (wC (Zw 8)) 30)) w3.heap.size 30 (Zw 8)) := Lib.hid (Ws.new w3 30 (Zw 8))
  have HW1 : Hid (Ws w1 w.heap.size 30 was) := by rw [← e1]; exact Lib.hid (Ws.new _ _ _)
  have HB4 : Hid (Bs w4 w1.heap.size 51 b) := by
    have : Bs w2 w1.heap.size 51 b := by rw [← e2]; exact Bs.new _ _ _
    exact Lib.hid ((this.gr g3).gr g4)
  have HR4 : Hid (Ws w4 w2.heap.size 30 (Zw 8)) := by
    have : Ws w3 w2.heap.size 30 (Zw 8) := by rw [← e3]; exact Ws.new _ _ _
    exact Lib.hid (this.gr g4)
  have HH4 : Hid (Ws w4 w3.heap.size 30 (rnds was (spr b 48) 0)) := by
    rw [← e4]
    exact Lib.hid (HN.out.row was)
  have HW4 : Hid (Ws w4 w.heap.size 30 was) := Lib.hid (((HW1.out.gr g2).gr g3).gr g4)
  have HW3 : Hid (Ws w3 w.heap.size 30 was) := Lib.hid ((HW1.out.gr g2).gr g3)
  have HG := Lib.hid (((g1.tr g2).tr g3).tr g4)
  have Z1 := Lib.hid z1
  have Z2 := Lib.hid z2
  have Z3 := Lib.hid z3
  clear z1 z2 z3
  clear g1 g2 g3 g4 HW1
  go_enter Tryd.func22, Tryd.ntmps22
  go_wp2_with (first | rw [e1] | rw [e2] | rw [e3] | rw [e4] | refine loadW 30 8 _ w.heap.size was rfl _ rfl rfl HW3.out rfl Tryd.underlying30 sz8 hw ?_ | refine storeW 30 w3.heap.size 8 (Zw 8) was rfl _ _ rfl rfl rfl rfl HN.out sz8 rfl hw ?_ | refine loadB 51 64 _ w1.heap.size b rfl _ rfl rfl HB4.out rfl Tryd.underlying51 sz64b hb ?_ | refine allocZ 30 Zw_info8 rfl rfl ?_)
  refine (spread_any b hb _).mono ?_
  rintro r w5 ⟨rfl, g5⟩
  have HW5 := Lib.hid (HW4.out.gr g5)
  have HR5 := Lib.hid (HR4.out.gr g5)
  have HH5 := Lib.hid (HH4.out.gr g5)
  have HG5 := Lib.hid (HG.out.tr g5)
  have HX : Hid (mixV was b = adds (rnds was (spr b 48) 64) was 8) := rfl
  obtain ⟨ws, hws⟩ : ∃ ws, spr b 48 = ws := ⟨_, rfl⟩
  have lws : ws.length = 64 := by rw [← hws]; exact spr_len b 48
  rw [hws] at HH5 HX ⊢
  clear hws g5 HW4 HR4 HH4 HG HB4 HN HW3 e1 e2 e3 e4
  go_wp2
  go_loopw [16] (fun i wr => ∃ k : Nat, k ≤ 64 ∧ i = .int .i64 k ∧ Hid (Ws wr w3.heap.size 30 (rnds was ws k)) ∧ Hid (Ws wr w2.heap.size 30 (Zw 8)) ∧ Hid (Ws wr w.heap.size 30 was) ∧ Hid (Gr w wr)) (fun i _ => 64 - (intOf i).toNat)
  case atStart => exact ⟨0, Nat.zero_le _, rfl, HH5, HR5, HW5, HG5⟩
  case round =>
    clear HH5 HR5 HW5 HG5
    obtain ⟨k, hk, rfl, HS, HR, HW, HG⟩ := hrel
    have l8 := rnds_len hw ws k
    by_cases hlt : k < 64
    · have hki : (k : Int) < 64 := by omega
      obtain ⟨l, hl⟩ : ∃ l, rnds was ws k = l := ⟨_, rfl⟩
      have hl1 : rnds was ws (k + 1) = stepW l (gw keysW k) (gw ws k) := by rw [← hl]; rfl
      have HL1 := Lib.hid hl1
      rw [hl] at HS l8
      clear hl hl1
      have hix : ∀ W, (Instr.index 45 (.agg (wC ws)) (.int .i64 k)).run Tryd.prog W = .ok (.int .u32 ((gw ws k).toNat : Int)) W := idxW 45 64 Tryd.underlying45 ws lws k hlt
      have c0 : wr.cell? ⟨w3.heap.size, 0, none⟩ = some (.int .u32 ((gw l 0).toNat : Int)) := HS.out.cg (by omega)
      have c1 : wr.cell? ⟨w3.heap.size, 1, none⟩ = some (.int .u32 ((gw l 1).toNat : Int)) := HS.out.cg (by omega)
      have c2 : wr.cell? ⟨w3.heap.size, 2, none⟩ = some (.int .u32 ((gw l 2).toNat : Int)) := HS.out.cg (by omega)
      have c3 : wr.cell? ⟨w3.heap.size, 3, none⟩ = some (.int .u32 ((gw l 3).toNat : Int)) := HS.out.cg (by omega)
      have c4 : wr.cell? ⟨w3.heap.size, 4, none⟩ = some (.int .u32 ((gw l 4).toNat : Int)) := HS.out.cg (by omega)
      have c5 : wr.cell? ⟨w3.heap.size, 5, none⟩ = some (.int .u32 ((gw l 5).toNat : Int)) := HS.out.cg (by omega)
      have c6 : wr.cell? ⟨w3.heap.size, 6, none⟩ = some (.int .u32 ((gw l 6).toNat : Int)) := HS.out.cg (by omega)
      have c7 : wr.cell? ⟨w3.heap.size, 7, none⟩ = some (.int .u32 ((gw l 7).toNat : Int)) := HS.out.cg (by omega)
      have ck : wr.cell? ⟨1, k, none⟩ = some (.int .u32 ((gw keysW k).toNat : Int)) := (HK.out.gr HG.out) k hlt
      go_wp2
      refine wp_region_quiet_lit (by kernel_rfl) (by kernel_rfl) ?_
      repeat (first | go_big_quiet_step (fail) | quiet_step (fail))
      refine wpQuiet_nil ?_
      intro _ hw'
      obtain ⟨n1, hw''⟩ := hw'
      subst hw''
      go_wp2
      refine wp_region_quiet_lit (by kernel_rfl) (by kernel_rfl) ?_
      repeat (first | go_big_quiet_step (first | (go_at_call_of 25 (6 : Int); exact quiet_same2 (turned6 _ _)) | (go_at_call_of 25 (11 : Int); exact quiet_same2 (turned11 _ _)) | (go_at_call_of 25 (25 : Int); exact quiet_same2 (turned25 _ _))) | quiet_step (first | (go_at_call_of 25 (6 : Int); exact quiet_same2 (turned6 _ _)) | (go_at_call_of 25 (11 : Int); exact quiet_same2 (turned11 _ _)) | (go_at_call_of 25 (25 : Int); exact quiet_same2 (turned25 _ _))))
      refine wpQuiet_nil ?_
      intro _ hw'
      obtain ⟨n2, hw''⟩ := hw'
      subst hw''
      go_wp2
      obtain ⟨wm, hwm⟩ : ∃ wm, wr.drewN (n1 + n2) = wm := ⟨_, rfl⟩
      have HSm : Hid (Ws wm w3.heap.size 30 l) := by rw [← hwm]; exact HS
      have HRm : Hid (Ws wm w2.heap.size 30 (Zw 8)) := by rw [← hwm]; exact HR
      have HWm : Hid (Ws wm w.heap.size 30 was) := by rw [← hwm]; exact HW
      have HGm : Hid (Gr w wm) := by rw [← hwm]; exact Lib.hid (HG.out.drN _)
      rw [hwm]
      clear hwm HS HR HW HG c0 c1 c2 c3 c4 c5 c6 c7 ck
      have c0 : wm.cell? ⟨w3.heap.size, 0, none⟩ = some (.int .u32 ((gw l 0).toNat : Int)) := HSm.out.cg (by omega)
      have c1 : wm.cell? ⟨w3.heap.size, 1, none⟩ = some (.int .u32 ((gw l 1).toNat : Int)) := HSm.out.cg (by omega)
      have c2 : wm.cell? ⟨w3.heap.size, 2, none⟩ = some (.int .u32 ((gw l 2).toNat : Int)) := HSm.out.cg (by omega)
      have c3 : wm.cell? ⟨w3.heap.size, 3, none⟩ = some (.int .u32 ((gw l 3).toNat : Int)) := HSm.out.cg (by omega)
      have c4 : wm.cell? ⟨w3.heap.size, 4, none⟩ = some (.int .u32 ((gw l 4).toNat : Int)) := HSm.out.cg (by omega)
      have c5 : wm.cell? ⟨w3.heap.size, 5, none⟩ = some (.int .u32 ((gw l 5).toNat : Int)) := HSm.out.cg (by omega)
      have c6 : wm.cell? ⟨w3.heap.size, 6, none⟩ = some (.int .u32 ((gw l 6).toNat : Int)) := HSm.out.cg (by omega)
      refine wp_region_quiet_lit (by kernel_rfl) (by kernel_rfl) ?_
      repeat (first | go_big_quiet_step (first | (go_at_call_of 25 (2 : Int); exact Calls.quiet_of_same (turned2 _ _)) | (go_at_call_of 25 (13 : Int); exact Calls.quiet_of_same (turned13 _ _)) | (go_at_call_of 25 (22 : Int); exact Calls.quiet_of_same (turned22 _ _))) | quiet_step (first | (go_at_call_of 25 (2 : Int); exact Calls.quiet_of_same (turned2 _ _)) | (go_at_call_of 25 (13 : Int); exact Calls.quiet_of_same (turned13 _ _)) | (go_at_call_of 25 (22 : Int); exact Calls.quiet_of_same (turned22 _ _))))
      refine wpQuiet_nil ?_
      intro _ hw'
      obtain ⟨n3, hw''⟩ := hw'
      subst hw''
      simp only [u_xor, u_and, u_nt, bigE_def, bigA_def, choose_def, major_def]
      rw [u_add5 (gw l 7) (bigE (gw l 4)) (chooseW (gw l 4) (gw l 5) (gw l 6)) (gw keysW k) (gw ws k), one_def, u_addW (bigA (gw l 0)) (majorW (gw l 0) (gw l 1) (gw l 2)), two_def]
      obtain ⟨o1, ho1⟩ : ∃ o1, oneW l (gw keysW k) (gw ws k) = o1 := ⟨_, rfl⟩
      obtain ⟨t2, ht2⟩ : ∃ t2, twoW l = t2 := ⟨_, rfl⟩
      rw [ho1, ht2]
      have hst : stepW l (gw keysW k) (gw ws k) = [addW o1 t2, gw l 0, gw l 1, gw l 2, addW (gw l 3) o1, gw l 4, gw l 5, gw l 6] := by unfold stepW; rw [ho1, ht2]
      have HST := Lib.hid hst
      clear ho1 ht2 hst
      have HM : Hid (Ws (wm.drewN n3) w3.heap.size 30 l) := HSm
      go_wp2_with (refine storeWc 30 w3.heap.size 8 l [addW o1 t2, gw l 0, gw l 1, gw l 2, addW (gw l 3) o1, gw l 4, gw l 5, gw l 6] rfl _ _ rfl rfl rfl _ rfl (by rw [u_addW, u_addW]; rfl) HM.out sz8 l8 rfl ?_)
      have q3 := Z3.out
      have q2 := Z2.out
      have hS1 : Ws ((wm.drewN n3).setRow w3.heap.size (wC [addW o1 t2, gw l 0, gw l 1, gw l 2, addW (gw l 3) o1, gw l 4, gw l 5, gw l 6])) w3.heap.size 30 (rnds was ws (k + 1)) := by rw [HL1.out, HST.out]; exact HM.out.row _
      have hR1 : Ws ((wm.drewN n3).setRow w3.heap.size (wC [addW o1 t2, gw l 0, gw l 1, gw l 2, addW (gw l 3) o1, gw l 4, gw l 5, gw l 6])) w2.heap.size 30 (Zw 8) := Ws.otherRow (W := wm.drewN n3) HRm.out (by omega) _
      have hW1 : Ws ((wm.drewN n3).setRow w3.heap.size (wC [addW o1 t2, gw l 0, gw l 1, gw l 2, addW (gw l 3) o1, gw l 4, gw l 5, gw l 6])) w.heap.size 30 was := Ws.otherRow (W := wm.drewN n3) HWm.out (by omega) _
      exact ⟨⟨k + 1, by omega, by go_num, Lib.hid hS1, Lib.hid hR1, Lib.hid hW1, Lib.hid ((HGm.out.drN n3).row (by omega) _)⟩, by simp [intOf]; omega⟩
    · have hki : ¬ (k : Int) < 64 := by omega
      have hkk : k = 64 := by omega
      subst hkk
      have HH := Lib.hid (show Ws wr w3.heap.size 30 (adds (rnds was ws 64) was 0) from HS.out)
      clear HS
      go_wp2
      go_loopw [97] (fun i wx => ∃ k : Nat, k ≤ 8 ∧ i = .int .i64 k ∧ Hid (Ws wx w3.heap.size 30 (adds (rnds was ws 64) was k)) ∧ Hid (Ws wx w2.heap.size 30 (Zw 8)) ∧ Hid (Ws wx w.heap.size 30 was) ∧ Hid (Gr w wx)) (fun i _ => 8 - (intOf i).toNat)
      case atStart => exact ⟨0, Nat.zero_le _, rfl, HH, HR, HW, HG⟩
      case round =>
        clear HH HR HW HG
        obtain ⟨k, hk, rfl, HS, HR, HW, HG⟩ := hrel
        have q3 := Z3.out
        have q2 := Z2.out
        by_cases hlt : k < 8
        · have hki : (k : Int) < 8 := by omega
          have la := adds_len (rnds_len hw ws 64) was k
          have c0 : wr.cell? ⟨w3.heap.size, k, none⟩ = some (.int .u32 ((gw (adds (rnds was ws 64) was k) k).toNat : Int)) := HS.out.cg (by omega)
          have c1 : wr.cell? ⟨w.heap.size, k, none⟩ = some (.int .u32 ((gw was k).toNat : Int)) := HW.out.cg (by omega)
          have f := HS.out.frz k
          have H2 := Lib.hid (HS.out.set k (addW (gw (adds (rnds was ws 64) was k) k) (gw was k)))
          have R2 : Hid (Ws (wr.setCell ⟨w3.heap.size, k, none⟩ (.int .u32 ((addW (gw (adds (rnds was ws 64) was k) k) (gw was k)).toNat : Int))) w2.heap.size 30 (Zw 8)) := (heap_set_other (by omega) _).trans HR.out
          have W2 : Hid (Ws (wr.setCell ⟨w3.heap.size, k, none⟩ (.int .u32 ((addW (gw (adds (rnds was ws 64) was k) k) (gw was k)).toNat : Int))) w.heap.size 30 was) := (heap_set_other (by omega) _).trans HW.out
          have G2 := Lib.hid ((HG.out.set (p := ⟨w3.heap.size, k, none⟩) (by show w.heap.size ≤ w3.heap.size; omega) (.int .u32 ((addW (gw (adds (rnds was ws 64) was k) k) (gw was k)).toNat : Int))).dr)
          clear q2 q3
          go_wp2
          go_region
          rw [u_addW]
          clear c0 c1 f HS HR HW HG
          go_wp2
          go_roundw
          case rel => exact ⟨k + 1, by omega, by go_num, H2, R2, W2, G2⟩
          case measure => simp [intOf]; omega
        · have hki : ¬ (k : Int) < 8 := by omega
          have hkk : k = 8 := by omega
          subst hkk
          have la := adds_len (rnds_len hw ws 64) was 8
          have hG1 := HG.out.row (g := w2.heap.size) (by omega) (wC (adds (rnds was ws 64) was 8))
          clear q2 q3
          go_wp2_with (first | refine loadW 30 8 _ w3.heap.size (adds (rnds was ws 64) was 8) rfl _ rfl rfl HS.out rfl Tryd.underlying30 sz8 la ?_ | refine storeW 30 w2.heap.size 8 (Zw 8) (adds (rnds was ws 64) was 8) rfl _ _ rfl rfl rfl rfl HR.out sz8 rfl la ?_)
          refine bodyPost_ret (v := .agg (wC (mixV was b))) ?_ rfl ⟨rfl, hG1⟩
          rw [HX.out]
          simp [results, Tryd.results22, Act.put]
          exact run_loadVar_row _ _ 30 30 _ (0, 0) _ (HR.out.row _) Tryd.underlying30 rfl (by rw [wC_size, la, sz8])
end Go.Proofs.YtkbomgjeoaophaaDoor
