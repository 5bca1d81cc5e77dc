/- What arguments of texts and digests read as; what the listed tables hold. -/
import Derived.Test.YtkbomgjeoaophaaDoorRows
import Derived.Test.YtkbomgjeoaophaaDoorShaO
import Derived.ProofKit
import Derived.OpenShut
import Derived.ShutString
import Derived.ChangeOld
import Derived.Below
import Derived.Deep.Slices
import Derived.Lib.SmallJoins
import Derived.SliceStrings
import Derived.LaidMore
import Derived.Lay
import Derived.MakeChecks
set_option linter.unusedVariables false
set_option linter.unusedSimpArgs false
namespace Go.Proofs.YtkbomgjeoaophaaDoor
open Go.ChangeShapes Go.WideShapes Go.ChangeAt Go.RowKit Go.Deep Go.Joins

theorem own : ownKnob Tryd.prog.godebug = none := by kernel_rfl
theorem laidOut : laidOutB Tryd.prog = true := by kernel_rfl
theorem gK0 : Tryd.prog.globalNamed "hearsay/hearsayref03.keys" = some 0 := by kernel_rfl
theorem gK1 : Tryd.prog.globalNamed "hearsay/sha.keys" = some 1 := by kernel_rfl
theorem tK0 : (Tryd.prog.globals[0]?).map (·.type) = some 45 := by kernel_rfl
theorem tK1 : (Tryd.prog.globals[1]?).map (·.type) = some 45 := by kernel_rfl
theorem cU32 : Tryd.prog.cellsOf 29 = 1 := by kernel_rfl
theorem cU8 : Tryd.prog.cellsOf 5 = 1 := by kernel_rfl
theorem cStr : Tryd.prog.cellsOf 9 = 1 := by kernel_rfl
theorem cDig : Tryd.prog.cellsOf 24 = 32 := by kernel_rfl
theorem laid0 {H : Type} : (Rows.laid_hearsay_hearsayref03_keys : DataW H) = .agg (keysN.map fun (k : Nat) => DataW.lit (.int .u32 ((k : Nat) : Int))) := by kernel_rfl
theorem laid1 {H : Type} : (Rows.laid_hearsay_sha_keys : DataW H) = .agg (keysN.map fun (k : Nat) => DataW.lit (.int .u32 ((k : Nat) : Int))) := by kernel_rfl
theorem keysN_lt : ∀ n ∈ keysN, n < 4294967296 := by decide
theorem keys_at (j : Nat) (h : j < keysN.length) : ((gw keysW j).toNat : Int) = (keysN[j] : Int) := by
  have h1 := keysN_lt _ (List.getElem_mem h)
  have h2 : gw keysW j = BitVec.ofNat 32 keysN[j] := by simp [gw, keysW, h]
  rw [h2, BitVec.toNat_ofNat]
  omega
theorem Keys.lt {w : World} {g : Nat} (h : Keys w g) : g < w.heap.size := World.block_lt_of_cell? w ⟨g, 0, none⟩ (h 0 (by decide))
theorem u8_wf {n : Int} (h : (Lit.int .u8 n).wf = true) : 0 ≤ n ∧ n < 256 := by
  simp [Lit.wf, IntKind.min, IntKind.max, IntKind.signed, IntKind.bits] at h
  omega
theorem open_dig0 {H : Type} {enc : TypeId × Value → H} {W : World} {base : Nat} {sp : Nat → Bool} {held : Bool} {n : Nat} {cs : List Value} {x : DataW H × List MemPlace} (h : DataW.trod enc Tryd.prog W base sp held n 24 cs = some x) :
    ∃ D : List UInt8, D.length = 32 ∧ cs = D.map fun b => Value.int .u8 b.toNat := by
  obtain ⟨xs, m, rfl, _, hl, hx, hf⟩ := DataW.trod_array Tryd.underlying24 h
  rw [cDig] at hl
  have each : ∀ i, i < 32 → ∃ b : UInt8, cs[i]? = some (.int .u8 b.toNat) := by
    intro i hi
    have g := hf i hi
    rw [cU8, Nat.mul_one, List.getElem?_eq_getElem (by omega)] at g
    obtain ⟨k, e, _, hw⟩ := DataW.trod_int Tryd.underlying5 g
    have hb := u8_wf hw
    refine ⟨UInt8.ofNat k.toNat, ?_⟩
    have h1 : ((cs.drop i).take 1)[0]? = some (.int .u8 k) := by rw [e]; rfl
    rw [List.getElem?_take_of_lt (by omega), List.getElem?_drop] at h1
    rw [show i + 0 = i by omega] at h1
    rw [h1, UInt8.toNat_ofNat']
    congr 2
    omega
  refine ⟨(List.range 32).map fun i => if h : i < 32 then (each i h).choose else 0, by simp, ?_⟩
  apply List.ext_getElem?
  intro i
  by_cases hi : i < 32
  · rw [(each i hi).choose_spec]
    simp [hi]
  · rw [List.getElem?_eq_none (by omega), List.getElem?_eq_none (by simp; omega)]

theorem keysGen {W : World} {nm : String} {g n base : Nat} {sp : Nat → Bool} {held : Bool} {cs0 : Array Value} {p0 : List MemPlace} {D : DataW Unit} (hg0 : Tryd.prog.globalNamed nm = some g) (hv0 : World.var? Tryd.prog W nm = some cs0)
    (hd0 : DataW.trod (fun _ => ()) Tryd.prog W base sp held n 45 cs0.toList = some (D, p0)) (hD : D = .agg (keysN.map fun (k : Nat) => DataW.lit (.int .u32 ((k : Nat) : Int)))) : Keys W g := by
  obtain ⟨xs, m1, rfl, hx1, hlen, hn, hel⟩ := DataW.trod_array Tryd.underlying45 hd0
  rw [hD] at hx1
  simp only [Prod.mk.injEq, DataW.agg.injEq] at hx1
  intro j hj
  have hj64 : j < xs.length := by rw [hn]; exact hj
  have hjN : j < keysN.length := hj
  have h0 := hel j hj
  rw [List.getElem?_eq_getElem hj64] at h0
  obtain ⟨n, e1, e2, _⟩ := DataW.trod_int Tryd.underlying29 h0
  have hv : (xs.map (·.1))[j]? = some (.lit (.int .u32 n)) := by simp [List.getElem?_eq_getElem hj64, e2]
  rw [← hx1.1] at hv
  have hn' : n = (keysN[j] : Int) := by
    simp only [List.getElem?_map, List.getElem?_eq_getElem hjN, Option.map_some, Option.some.injEq, DataW.lit.injEq, Lit.int.injEq] at hv
    exact hv.2.symm
  have hc := World.var?_cell hg0 hv0 j
  rw [cU32, Nat.mul_one] at e1
  have h2 : ((cs0.toList.drop j).take 1)[0]? = some (.int .u32 n) := by rw [e1]; rfl
  rw [List.getElem?_take_of_lt (by omega), List.getElem?_drop, Nat.add_zero] at h2
  have h3 : cs0[j]? = some (.int .u32 n) := by simpa using h2
  rw [hc, h3, keys_at j hjN, hn']
theorem of_laid1 {W : World} (h : laidMetH Tryd.prog [("hearsay/sha.keys", Rows.laid_hearsay_sha_keys)] W) : Keys W 1 := by
  rw [MakeChecks.laidMetH_plain _ _ _ (by kernel_rfl)] at h
  obtain ⟨ps, ⟨g0, t0, cs0, f0, p0, q0, hg0, ht0, hv0, hd0, _, _⟩, _, _⟩ := h
  obtain rfl := Option.some.inj (gK1.symm.trans hg0)
  obtain rfl := Option.some.inj (tK1.symm.trans ht0)
  exact keysGen hg0 hv0 hd0 laid1
theorem of_laid2 {W : World} (h : laidMetH Tryd.prog [("hearsay/hearsayref03.keys", Rows.laid_hearsay_hearsayref03_keys), ("hearsay/sha.keys", Rows.laid_hearsay_sha_keys)] W) : Keys W 0 ∧ Keys W 1 := by
  rw [MakeChecks.laidMetH_plain _ _ _ (by kernel_rfl)] at h
  obtain ⟨ps, ⟨g0, t0, cs0, f0, p0, q0, hg0, ht0, hv0, hd0, ⟨g1, t1, cs1, f1, p1, q1, hg1, ht1, hv1, hd1, _, _⟩, _⟩, _, _⟩ := h
  obtain rfl := Option.some.inj (gK0.symm.trans hg0)
  obtain rfl := Option.some.inj (tK0.symm.trans ht0)
  obtain rfl := Option.some.inj (gK1.symm.trans hg1)
  obtain rfl := Option.some.inj (tK1.symm.trans ht1)
  exact ⟨keysGen hg0 hv0 hd0 laid0, keysGen hg1 hv1 hd1 laid1⟩
theorem open_dig {H : Type} {enc : TypeId × Value → H} {W : World} {b0 : Nat} {r : Reach} {v : Value} {d : DataW H} {p : List MemPlace} (hv : Value.okWide Tryd.prog W r b0 24 v) (h : DataW.Trod enc Tryd.prog W 0 (fun _ => true) true 24 v d p) :
    ∃ l : List UInt8, v = .agg (bC l) ∧ l.length = 32 := by
  obtain ⟨fuel, hf⟩ := h
  obtain ⟨D, hD, hc⟩ := open_dig0 hf
  refine ⟨D, ?_, hD⟩
  cases v <;> simp_all [Value.cells, Value.okWide, Tryd.underlying24, Cell.okWide, Cell.ok]
  apply Array.ext'
  rw [hc]
  simp [bC]
theorem open_txts {H : Type} {enc : TypeId × Value → H} {W : World} {A : Option Addr} {n c : Nat} {d : DataW H} {p : List MemPlace} (h : DataW.Trod enc Tryd.prog W 0 (fun _ => true) true 27 (.slice A n c) d p) :
    ∃ l : List ByteArray, n = l.length ∧ l.length ≤ 9223372036854775807 ∧ Txts W A l ∧ ∀ s ∈ l, s.size ≤ maxLen := by
  obtain ⟨fuel, hf⟩ := h
  rcases open_strings Tryd.underlying27 Tryd.underlying9 cStr hf with ⟨hcs, _⟩ | ⟨a, len, cap, ss, hcs, _, hl, hm, hss, _, hx, hok⟩
  · simp [Value.cells] at hcs
    obtain ⟨rfl, rfl, rfl⟩ := hcs
    exact ⟨[], rfl, by simp, fun i hi => by simp at hi, fun s hs => by simp at hs⟩
  · simp [Value.cells] at hcs
    obtain ⟨rfl, rfl, rfl⟩ := hcs
    have hsc : ss.length = c := by simpa using hss
    refine ⟨ss.take n, by rw [List.length_take]; omega, ?_, fun i hi => ?_, fun s hs => hok s (List.mem_of_mem_take hs)⟩
    · rw [List.length_take]; simp only [maxLen] at *; omega
    · have hin : i < n := by rw [List.length_take] at hi; omega
      refine ⟨a, rfl, ?_⟩
      rw [hx i (by omega), List.getD_eq_getElem?_getD, List.getElem?_eq_getElem (by omega)]
      simp
theorem open_str {H : Type} {enc : TypeId × Value → H} {W : World} {b0 : Nat} {r : Reach} {v : Value} {d : DataW H} {p : List MemPlace} (hv : Value.okWide Tryd.prog W r b0 9 v) (h : DataW.Trod enc Tryd.prog W 0 (fun _ => true) true 9 v d p) :
    ∃ s : ByteArray, v = .string s ∧ d = .lit (.string s.data.toList) ∧ p = [] ∧ s.size ≤ maxLen := by
  obtain ⟨fuel, hf⟩ := h
  obtain ⟨s, hc, hx, hs⟩ := DataW.trod_string Tryd.underlying9 hf
  simp only [Prod.mk.injEq] at hx
  refine ⟨s, ?_, hx.1, hx.2, hs⟩
  cases v <;> simp_all [Value.cells, Value.okWide, Tryd.underlying9, Cell.okWide, Cell.ok]
theorem shut_str {H : Type} {enc : TypeId × Value → H} {W : World} {sp : Nat → Bool} {s : ByteArray} (h : s.size ≤ maxLen) : DataW.Trod enc Tryd.prog W 0 sp true 9 (.string s) (.lit (.string s.data.toList)) [] := ⟨1, by simp [DataW.trod, Value.cells, Tryd.underlying9, h]⟩
end Go.Proofs.YtkbomgjeoaophaaDoor
