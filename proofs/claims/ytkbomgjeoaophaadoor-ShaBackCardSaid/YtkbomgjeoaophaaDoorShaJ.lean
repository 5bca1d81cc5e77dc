/- hearsayref03: padded. -/
import Derived.Test.YtkbomgjeoaophaaDoorShaI
import Derived.Laws.IdiomStrings
import Derived.ArgAppend
set_option linter.unusedVariables false
set_option linter.unusedSimpArgs false
set_option maxHeartbeats 4000000
namespace Go.Proofs.YtkbomgjeoaophaaDoor
open Go.RowKit Go.Great

/-- bytes in a row that may bear a string's mark behind its end -/
def OwnF (w : World) (B : Nat) (v : Value) (l : List UInt8) : Prop :=
  ∃ g cap cur fr, v = .slice (some ⟨g, 0, none⟩) l.length cap ∧ B ≤ g ∧ w.heap[g]? = some (.cells cur 5 fr) ∧ l.length ≤ cap ∧ cap ≤ maxLen ∧ cap ≤ cur.size ∧ (∀ j, j < cap → ¬ (fr.1 ≤ j ∧ j < fr.2)) ∧
    ∀ j (h : j < l.length), cur[j]? = some (.int .u8 (l[j].toNat : Int))
section
variable {w w' : World} {B : Nat} {v : Value} {l : List UInt8}
theorem OwnF.shape (h : OwnF w B v l) : ∃ A cap, v = .slice A l.length cap := by
  obtain ⟨g, cap, cur, fr, rfl, _⟩ := h; exact ⟨_, _, rfl⟩
theorem OwnF.blk (h : OwnF w B v l) {k : Nat} (hk : v.ownBlock = some k) : B ≤ k := by
  obtain ⟨g, cap, cur, fr, rfl, hb, _⟩ := h
  have : g = k := by simpa [Value.ownBlock] using hk
  omega
theorem OwnF.gr (h : OwnF w B v l) (g : Gr w w') : OwnF w' B v l := by
  obtain ⟨b, cap, cur, fr, rfl, hb, hg, r⟩ := h
  exact ⟨b, cap, cur, fr, rfl, hb, (g.block b (Array.getElem?_eq_some_iff.1 hg).1).trans hg, r⟩
theorem OwnF.alloc (h : OwnF w B v l) (o : Obj) : OwnF (w.alloc o) B v l := h.gr ((Gr.rfl' _).al _)
theorem OwnF.cell {A : Option Addr} {n cap : Nat} (h : OwnF w B (.slice A n cap) l) : ∃ g, A = some ⟨g, 0, none⟩ ∧ B ≤ g ∧ n = l.length ∧ n ≤ cap ∧ cap ≤ maxLen ∧ ∀ j (hj : j < l.length), w.cell? ⟨g, j, none⟩ = some (.int .u8 (l[j].toNat : Int)) := by
  obtain ⟨b, c, cur, fr, hv, hb, hg, h1, h2, _, _, r⟩ := h
  simp only [Value.slice.injEq] at hv
  obtain ⟨rfl, rfl, rfl⟩ := hv
  exact ⟨b, rfl, hb, rfl, h1, h2, fun j hj => by simp only [World.cell?, hg]; exact r j hj⟩
end
theorem appendF {w : World} {ops : Array Oper} {rest : List Oper} {o : Oper} {a : Act} {Q : Exit → Act → World → Prop} (hgd : o.guard = none) (s x : Operand)
    (ho : o.op = .call { callee := .builtin .append, args := #[s, x], argTypes := #[31, 31] }) (B : Nat) (v : Value) (l : List UInt8) (c : UInt8) (hs : a.eval s = v) (hown : OwnF w B v l)
    (ad : Addr) (hx : a.eval x = .slice (some ad) 1 1) (hc : w.cell? ad = some (.int .u8 (c.toNat : Int))) (hbytes : l.length + 1 ≤ 140737488355328) (hbase : B ≤ w.heap.size)
    (h : ∀ v' w', OwnF w' B v' (l ++ [c]) → w.grownBy w' v.ownBlock → wpList Tryd.prog ops Q rest (a.put o.dst v') w') : wpList Tryd.prog ops Q (o :: rest) a w := by
  obtain ⟨i0, hi, hz0, hz1, hz2⟩ := info_parts infoByteS
  have e0 : ad.add 0 = ad := by unfold Addr.add; simp
  have hnews : ∀ j u, ([.int .u8 (c.toNat : Int)] : List Value)[j]? = some u → w.cell? (ad.add j) = some u := by
    intro j u hj
    have : j = 0 := by
      have := (List.getElem?_eq_some_iff.1 hj).1
      simp at this; omega
    subst this
    cases hj
    rw [e0]; exact hc
  have h1c : ∀ u ∈ ([.int .u8 (c.toNat : Int)] : List Value), u.oneCell' = true := by
    intro u hu; simp at hu; subst hu; rfl
  have key : ∃ v' w', (Builtin.append_ #[31, 31] o.type #[v, .slice (some ad) 1 1]).run Tryd.prog w = .ok v' w' ∧ OwnF w' B v' (l ++ [c]) ∧ w.grownBy w' v.ownBlock := by
    obtain ⟨g, cap, cur, fr, rfl, hb, hg, h1, h2, h3, h4, h5⟩ := hown
    by_cases hroom : l.length + 1 ≤ cap
    · have hlt : l.length < cur.size := by omega
      have hnf : ¬ (fr.1 ≤ l.length ∧ l.length < fr.2) := h4 _ (by omega)
      have hr := run_append_room_cells (P := Tryd.prog) w 31 o.type 5 i0 Tryd.underlying31 hi g 0 l.length cap ad 1 1 [.int .u8 (c.toNat : Int)] (by rw [hz1]; rfl) hnews h1c hroom
        (by intro j hj; rw [hz1]; have : j = 0 := by simp at hj; exact hj
            subst this; simp [World.cell?, hg, hlt])
        (by intro j hj; rw [hz1]; have : j = 0 := by simp at hj; exact hj
            subst this
            simp only [World.frozen?, hg]
            simp only [Nat.zero_add, Nat.mul_one, Nat.add_zero, Bool.and_eq_false_iff, decide_eq_false_iff_not]
            omega)
      rw [hz1] at hr
      simp only [Nat.zero_add, Nat.mul_one] at hr
      obtain ⟨cs', k1, k2, k3, k4, _⟩ := heap_setCells_same [.int .u8 (c.toNat : Int)] l.length w cur hg (by simp; omega)
      refine ⟨_, _, hr, ⟨g, cap, cs', fr, by simp, hb, k1, by simp; omega, h2, by omega, h4, fun j hj => ?_⟩, ⟨(os_setCells _ _ _).1, (os_setCells _ _ _).2.1, (os_setCells _ _ _).2.2, by rw [size_setCells]; exact Nat.le_refl _, fun k _ hk => heap_setCells_other (fun e => hk (by simp [Value.ownBlock, e])) _ _ _⟩⟩
      by_cases hjl : j < l.length
      · rw [k3 _ hjl, h5 j hjl, List.getElem_append_left hjl]
      · have hje : j = l.length := by simp at hj; omega
        subst hje
        have := k4 0 (by simp)
        rw [Nat.add_zero] at this
        rw [this]
        simp
    · obtain ⟨v', w', hr, ho', hgr⟩ := run_append_arg_grows (P := Tryd.prog) w 31 o.type 5 i0 (.int .u8 0) 1 1 Tryd.underlying31 hi hz0 hz1 hz2 rfl (by decide) ⟨g, 0, none⟩ l.length cap (byC l) (by simp [byC])
        (fun j u hj => by
          have hl : j < l.length := by
            have := (List.getElem?_eq_some_iff.1 hj).1
            simpa [byC] using this
          rw [Addr.add_mid, Nat.zero_add]
          simp only [World.cell?, hg]
          rw [h5 j hl, ← hj]
          simp [byC, hl]) ad 1 1 [.int .u8 (c.toNat : Int)] rfl hnews (by omega) (by unfold maxLen; omega) (by omega)
      refine ⟨v', w', hr, ?_, ⟨hgr.os, hgr.tape, hgr.output, hgr.size, fun k hk _ => hgr.block k hk (by simp)⟩⟩
      have e1 : (l ++ [c]).length = l.length + 1 := by simp
      have e2 : byC (l ++ [c]) = byC l ++ [.int .u8 (c.toNat : Int)] := by simp [byC]
      rw [← e1, ← e2] at ho'
      rcases ho'.2 with ⟨k1, k2⟩ | ⟨g', cap', cur', hv, hb', hg', hn', hm', hs', ht'⟩
      · simp at k2
      · refine ⟨g', cap', cur', (0, 0), hv, by omega, hg', hn', hm', by omega, fun j _ => by omega, fun j hj => ?_⟩
        have h1 : (cur'.toList.take ((l ++ [c]).length * 1))[j]? = some (.int .u8 ((l ++ [c])[j].toNat : Int)) := by rw [ht']; simp only [byC, List.getElem?_map, List.getElem?_eq_getElem hj, Option.map_some]
        rw [List.getElem?_take_of_lt (by omega)] at h1
        simpa using h1
  refine wpList_plain hgd fun K hK => ?_
  obtain ⟨v', w', hr, h2, h3⟩ := key
  unfold Oper.wp execOp
  simp only [ho, resolve, invoke, builtin, Sem.run_bind, Sem.run_pure, Result.andThen_ok, List.map_toArray, List.map_cons, List.map_nil, hs, hx, hr]
  exact hK _ _ (h v' w' h2 h3)
/-- '[]byte(t)' -/
theorem OwnF.conv (w : World) (t : ByteArray) (cap : Nat) (hcap : t.size ≤ cap) (hm : cap ≤ maxLen) :
    OwnF (w.drew.alloc (.cells (bytesRow t cap) 5 ((bytesRow t cap).size, (bytesRow t cap).size + 1))) w.heap.size (.slice (some ⟨w.heap.size, 0, none⟩) t.size cap) t.data.toList := by
  have hsz : (bytesRow t cap).size = cap := by
    simp only [bytesRow, Array.size_append, Array.size_map, Array.size_replicate]
    have : t.data.size = t.size := rfl
    omega
  refine ⟨w.heap.size, cap, bytesRow t cap, _, by rw [Lib.size_eq], Nat.le_refl _, heap_alloc_new w.drew _, by rw [← Lib.size_eq]; exact hcap, hm, by omega, fun j hj => by rw [hsz]; omega, fun j hj => ?_⟩
  have hj' : j < t.data.size := by simpa using hj
  rw [bytesRow_at t cap j hj']
  simp
theorem grownCap0 (w : World) (t : ByteArray) (e : TypeId) (ht : t.size ≤ maxLen) : t.size ≤ grownCap w t.size 0 e ∧ grownCap w t.size 0 e ≤ maxLen :=
  ⟨grownCap_ge w t.size 0 e, grownCap_le_maxLen w t.size 0 e ht⟩

set_option maxRecDepth 100000 in
theorem padded_any (t : ByteArray) (w : World) (ht : t.size + 200 ≤ 140737488355328) :
    Calls Tryd.prog 18 #[.string t] w fun r w' => ∃ v, r = .returned v ∧ OwnF w' w.heap.size v (pad8 t.data.toList t.size) ∧ Gr w w' := by
  obtain ⟨rest, hrest⟩ : ∃ rest, t.data.toList = rest := ⟨_, rfl⟩
  have hts : t.size = rest.length := by rw [← hrest, ← Lib.size_eq]
  have HTS := Lib.hid hts
  have hcc := grownCap0 w t 5 (by unfold maxLen; omega)
  have HOc := Lib.hid (OwnF.conv w t _ hcc.1 hcc.2)
  rw [hrest] at HOc
  rw [hrest]
  have HCV : ∀ W : World, (convert 9 31 (.string t)).run Tryd.prog W = _ := fun W => run_bytes_of_string W 9 31 5 t Tryd.underlying9 Tryd.underlying31 Tryd.underlying5
  have HZ0 := Lib.hid (zer_lt rest.length)
  have HLR : Hid (rest.length + 200 ≤ 140737488355328) := Lib.hid (by omega)
  clear hcc hts hrest
  go_enter Tryd.func18, Tryd.ntmps18
  go_upto_region 2 with fail
  clear HCV
  obtain ⟨w6, hw6⟩ : ∃ w6, (w.alloc (.cells (bytesRow t (grownCap w t.size 0 5)) 5 ((bytesRow t (grownCap w t.size 0 5)).size, (bytesRow t (grownCap w t.size 0 5)).size + 1))).drew = w6 := ⟨_, rfl⟩
  have HG6 : Hid (Gr w w6) := by rw [← hw6]; exact Lib.hid (((Gr.rfl' _).al _).dr)
  obtain ⟨c6, hc6⟩ : ∃ c6, grownCap w t.size 0 5 = c6 := ⟨_, rfl⟩
  have HO6 : Hid (OwnF w6 w.heap.size (.slice (some ⟨w.heap.size, 0, none⟩) t.size c6) rest) := by rw [← hw6, ← hc6]; exact HOc
  rw [hw6, hc6]
  clear hw6 hc6 HOc
  have HLp : Hid (rest.length + 1 ≤ 140737488355328) := Lib.hid (by have := HLR.out; omega)
  have HB7 : Hid (w.heap.size ≤ (w6.alloc (.cells #[.int .u8 128] 5)).heap.size) := Lib.hid (by rw [World.size_alloc]; exact Nat.le_succ_of_le HG6.out.size)
  go_upto_block 1 with (at_builtin; refine appendF rfl _ _ rfl w.heap.size _ rest 128 rfl (HO6.out.alloc _) ⟨w6.heap.size, 0, none⟩ rfl (cellU _ _ _ _ rfl) HLp.out HB7.out ?_; intro v7 w7 hown7 hgrow7)
  have hG7 : Gr w w7 := (HG6.out.al _).grown hgrow7 (fun k hk => HO6.out.blk hk)
  have hO7 : OwnF w7 w.heap.size v7 (padZ rest 0) := by rw [padZ_zero]; exact hown7
  have HG7 := Lib.hid hG7
  have HO7 := Lib.hid hO7
  clear hG7 hO7 hown7 hgrow7 HG6 HO6 HLp HB7
  go_loopg [3] (zer rest.length) (fun g v wr => ∃ k, k ≤ zer rest.length ∧ Hid (g = zer rest.length - k) ∧ Hid (OwnF wr w.heap.size v (padZ rest k)) ∧ Hid (Gr w wr))
  case atStart => exact ⟨0, Nat.zero_le _, Lib.hid rfl, HO7, HG7⟩
  case round =>
    clear HG7 HO7
    obtain ⟨k, hk, HGK, HOk, HGk⟩ := hrel
    obtain ⟨Ak, ck, rfl⟩ := HOk.out.shape
    have HM := Lib.hid (padZ_len rest k)
    have hmb : (padZ rest k).length ≤ 140737488355300 := by have := HM.out; have := HZ0.out; have := HLR.out; omega
    have HLm : Hid ((padZ rest k).length + 1 ≤ 140737488355328) := Lib.hid (by omega)
    by_cases hlt : k < zer rest.length
    · have hmod := zer_more rest.length k hlt
      have hA : ((((padZ rest k).length : Int) % 64) != 56) = true := by have := HM.out; simp; omega
      have hB : ¬ (((padZ rest k).length : Int) % 64 = 56) := by have := HM.out; omega
      have HB8 : Hid (w.heap.size ≤ (wr.alloc (.cells #[.int .u8 0] 5)).heap.size) := Lib.hid (by rw [World.size_alloc]; exact Nat.le_succ_of_le HGk.out.size)
      clear hmod
      go_wp2_with (at_builtin; refine appendF rfl _ _ rfl w.heap.size _ (padZ rest k) 0 rfl (HOk.out.alloc _) ⟨wr.heap.size, 0, none⟩ rfl (cellU _ _ _ _ rfl) HLm.out HB8.out ?_; intro v8 w8 hown8 hgrow8)
      have HG8 := Lib.hid ((HGk.out.al _).grown hgrow8 (fun k hk => HOk.out.blk hk))
      have HO8 : Hid (OwnF w8 w.heap.size v8 (padZ rest (k + 1))) := by rw [padZ_succ]; exact Lib.hid hown8
      clear hown8 hgrow8 hA hB HB8
      go_wp2
      go_roundg (zer rest.length - (k + 1))
      case measure => have := HGK.out; omega
      case rel => exact ⟨k + 1, by omega, Lib.hid rfl, HO8, HG8⟩
    · have hkz : k = zer rest.length := by omega
      subst hkz
      have hA : ((((padZ rest (zer rest.length)).length : Int) % 64) != 56) = false := by have := HM.out; have := zer_done rest.length; simp; omega
      have hB : ((padZ rest (zer rest.length)).length : Int) % 64 = 56 := by have := HM.out; have := zer_done rest.length; omega
      obtain ⟨l8, hl8⟩ : ∃ l8, padZ rest (zer rest.length) = l8 := ⟨_, rfl⟩
      rw [hl8] at HOk hA hB hmb HM ⊢
      have HL8 := Lib.hid hl8
      have hlb : l8.length ≤ 140737488355300 := hmb
      clear hl8 HLm hmb HGK hlt hk
      go_upto_region 5 with fail
      clear hA hB
      have HO9 : Hid (OwnF wr w.heap.size (.slice Ak l8.length ck) (l8 ++ tail8 (8 * t.size) 0)) := by simpa [tail8] using HOk
      clear HOk
      have hN0 : (0 : Int) ≤ (t.size : Int) := by omega
      have hN1 : (t.size : Int) ≤ 1152921504606846975 := by omega
      go_upto_block 3 with fail
      go_loopw [3, 5] (fun v i wx => ∃ k : Nat, k ≤ 8 ∧ i = .int .i64 k ∧ Hid (OwnF wx w.heap.size v (l8 ++ tail8 (8 * t.size) k)) ∧ Hid (Gr w wx)) (fun _ i _ => 8 - (intOf i).toNat)
      case atStart => exact ⟨0, Nat.zero_le _, rfl, HO9, HGk⟩
      case round =>
        clear HO9 HGk
        obtain ⟨k, hk, rfl, HOk, HGk⟩ := hrel
        obtain ⟨l9, hl9⟩ : ∃ l9, l8 ++ tail8 (8 * t.size) k = l9 := ⟨_, rfl⟩
        have HL9 := Lib.hid hl9
        rw [hl9] at HOk
        have hl9b : l9.length ≤ 140737488355308 := by rw [← hl9, List.length_append, tail8_len]; omega
        clear hl9
        obtain ⟨A9, c9, rfl⟩ := HOk.out.shape
        by_cases hlt : k < 8
        · have hki : (k : Int) < 8 := by omega
          have HLm : Hid (l9.length + 1 ≤ 140737488355328) := Lib.hid (by omega)
          have HB8 : Hid (w.heap.size ≤ (wr.alloc (.cells #[.int .u8 ((t.size : Int) * 8 / 2 ^ (56 - 8 * k) % 256)] 5)).heap.size) := Lib.hid (by rw [World.size_alloc]; exact Nat.le_succ_of_le HGk.out.size)
          go_wp2_with (at_builtin; go_loud (refine appendF rfl _ _ rfl w.heap.size _ l9 (lenB (8 * t.size) k) rfl (HOk.out.alloc _) ⟨wr.heap.size, 0, none⟩ rfl (cellU _ _ _ _ (lenB_val t.size k)) HLm.out HB8.out ?_; intro v10 w10 hown10 hgrow10))
          have HG10 := Lib.hid ((HGk.out.al _).grown hgrow10 (fun k hk => HOk.out.blk hk))
          have HO10 : Hid (OwnF w10 w.heap.size v10 (l8 ++ tail8 (8 * t.size) (k + 1))) := by rw [tail8_succ, ← List.append_assoc, HL9.out]; exact Lib.hid hown10
          clear hown10 hgrow10 HB8 HLm
          go_wp2
          go_roundw
          case rel => exact ⟨k + 1, by omega, by go_num, HO10, HG10⟩
          case measure => simp [intOf]; omega
        · have hk8 : k = 8 := by omega
          subst hk8
          have HE10 : Hid (pad8 rest t.size = l9) := by rw [← HL9.out, ← HL8.out]; exact Lib.hid rfl
          clear hlt hN0 hN1
          go_wp2
          go_ret
          exact ⟨_, rfl, by rw [HE10.out]; exact HOk.out, HGk.out⟩
end Go.Proofs.YtkbomgjeoaophaaDoor
