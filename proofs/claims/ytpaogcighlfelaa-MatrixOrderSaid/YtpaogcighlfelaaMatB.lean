/- matrix: New, Learn. -/
import Derived.Test.YtpaogcighlfelaaMatA
import Derived.Test.YtpaogcighlfelaaRegT
import Derived.Laws.MakeOwn
set_option linter.unusedVariables false
set_option linter.unusedSimpArgs false
set_option maxHeartbeats 4000000
namespace Go.Proofs.Ytpaogcighlfelaa
open Go.RowKit

/-- nothing has turned but the block of rows -/
abbrev Gm (rb : Nat) (w w' : World) : Prop := w.grownBy w' (some rb)
theorem Gr.gm {w w' : World} (h : Gr w w') (rb : Nat) : Gm rb w w' := ⟨h.os, h.tape, h.output, h.size, fun k hk _ => h.block k hk⟩
theorem Gm.rfl' (rb : Nat) (w : World) : Gm rb w w := (Gr.rfl' w).gm rb
theorem Gm.tr {rb : Nat} {a b c : World} (h : Gm rb a b) (k : Gm rb b c) : Gm rb a c :=
  ⟨k.os.trans h.os, k.tape.trans h.tape, k.output.trans h.output, Nat.le_trans h.size k.size, fun j hj hne => (k.block j (Nat.lt_of_lt_of_le hj h.size) hne).trans (h.block j hj hne)⟩
theorem Gm.trR {rb : Nat} {a b c : World} (h : Gm rb a b) (k : Gr b c) : Gm rb a c := h.tr (k.gm rb)
theorem Gm.set {rb i : Nat} {a b : World} (h : Gm rb a b) (u : Value) : Gm rb a (b.setCell ⟨rb, i, none⟩ u) :=
  ⟨h.os, h.tape, h.output, by show a.heap.size ≤ (b.heap.modify _ _).size; rw [Array.size_modify]; exact h.size, fun j hj hne => (Below.heap_setCell _ _ _ _ (fun e => hne (by rw [e]))).trans (h.block j hj hne)⟩
theorem Gm.cell {rb : Nat} {w w' : World} (h : Gm rb w w') {p : Addr} {v : Value} (hp : p.block ≠ rb) (hc : w.cell? p = some v) : w'.cell? p = some v :=
  (World.cell?_of_block (h.block _ (World.block_lt_of_cell? w p hc) (fun e => hp (Option.some.inj e)))).trans hc
theorem MatI.int_off {W : World} {mb rb : Nat} {rs : Rws} (h : MatI W mb rb rs) {p : Addr} {k : IntKind} {x : Int} (hc : W.cell? p = some (.int k x)) : p.block ≠ rb := by
  intro e
  obtain ⟨cs, h1, h2, h3⟩ := h.row
  simp only [World.cell?, e, h1] at hc
  split at hc
  · cases hc
  · obtain ⟨hlt, _⟩ := Array.getElem?_eq_some_iff.1 hc
    obtain ⟨A, c, k1, _⟩ := h3 p.off (by omega)
    rw [k1] at hc; cases hc
theorem Dots.gm {W W' : World} {mb rb : Nat} {rs : Rws} {A : Option Addr} {l : List Dot} (h : Dots W A l) (m : MatI W mb rb rs) (g : Gm rb W W') : Dots W' A l :=
  ⟨h.1, fun i hi => let ⟨ad, e, a, b⟩ := h.2 i hi; ⟨ad, e, g.cell (m.int_off a) a, g.cell (p := ⟨(ad.add (i * 2)).block, (ad.add (i * 2)).off + 1, none⟩) (m.int_off b) b⟩⟩
theorem MatI.ne {W : World} {mb rb : Nat} {rs : Rws} (h : MatI W mb rb rs) (ht : 53 ≠ 28) : mb ≠ rb := by
  rintro rfl
  obtain ⟨cs, h1, _⟩ := h.row
  rw [h.box] at h1
  simp only [Option.some.injEq, Obj.cells.injEq] at h1
  exact ht h1.2.1
/-- a row turned -/
theorem MatI.set {W : World} {mb rb : Nat} {rs : Rws} (h : MatI W mb rb rs) {i : Nat} (hi : i < rs.length) {A : Option Addr} {c : Nat} {l : List Dot} (hl : Okv l) (hc : l.length ≤ c) (hd : Dots W A l) :
    MatI (W.setCell ⟨rb, i, none⟩ (.slice A l.length c)) mb rb (rs.set i l) := by
  have hne : mb ≠ rb := h.ne (by decide)
  have hg : Gm rb W (W.setCell ⟨rb, i, none⟩ (.slice A l.length c)) := (Gm.rfl' rb W).set _
  obtain ⟨cs, h1, h2, h3⟩ := h.row
  refine ⟨?_, ⟨cs.setIfInBounds i (.slice A l.length c), ?_, by simp [h2], fun j hj => ?_⟩, ?_, by rw [List.length_set]; exact h.pos, by rw [List.length_set]; exact h.le⟩
  · rw [List.length_set]
    exact (hg.block mb (Array.getElem?_eq_some_iff.1 h.box).1 (fun e => hne (Option.some.inj e))).trans h.box
  · exact heap_set_same h1 _
  · rw [List.length_set] at hj
    rw [Array.getElem?_setIfInBounds, List.getElem_set]
    by_cases e : i = j
    · subst e
      rw [if_pos rfl, if_pos (by omega)]
      simp only [if_true]
      exact ⟨A, c, rfl, hc, hd.gm h hg⟩
    · rw [if_neg e]
      simp only [if_neg e]
      obtain ⟨A', c', k1, k2, k3⟩ := h3 j hj
      exact ⟨A', c', k1, k2, k3.gm h hg⟩
  · intro r hr
    rcases List.mem_or_eq_of_mem_set hr with hr | rfl
    · exact h.ok r hr
    · exact hl
theorem infoRow : (Try.prog.info? 28).map (fun i => (i.zero, i.size, i.bytes)) = some (some (.slice none 0 0), 1, 24) := by kernel_rfl
theorem madeRows (w : World) (k : Nat) (hk : k ≤ 64) : ∃ cs : Array Value, (Instr.makeSlice 31 (.int .i64 k) (.int .i64 k)).run Try.prog w = .ok (.slice (some ⟨w.heap.size, 0, none⟩) k k) (w.alloc (.cells cs 28)) ∧ cs.size = k ∧ ∀ j, j < k → cs[j]? = some (.slice none 0 0) := by
  obtain ⟨i0, hi, hz0, hz1, hz2⟩ := info_parts infoRow
  have hr := run_make (P := Try.prog) w 31 28 i0 _ Try.underlying31 hi hz0 .i64 .i64 k k (by omega) (Int.le_refl _) (by rw [hz2]; omega) (by omega)
  simp only [Int.toNat_natCast, hz1, Nat.mul_one] at hr
  refine ⟨_, hr, by simp [madeCells], fun j hj => ?_⟩
  simp [madeCells, hj, Value.cells, Nat.mod_one]
theorem New_any (n : Int) (w : World) (h1 : 1 ≤ n) (h2 : n ≤ 64) : Calls Try.prog 8 #[.int .i64 n] w fun e w' => ∃ mb rb, e = .returned (.pointer (some ⟨mb, 0, none⟩)) ∧ MatI w' mb rb (List.replicate n.toNat []) ∧ w.heap.size ≤ mb ∧ w.heap.size ≤ rb ∧ Gr w w' := by
  obtain ⟨k, rfl⟩ : ∃ k : Nat, n = (k : Int) := ⟨n.toNat, by omega⟩
  have hk : ((k : Int)).toNat = k := by omega
  obtain ⟨cs, hrun, hcs, hat⟩ := madeRows w k (by omega)
  have HAT := Lib.hid hat
  have HCS := Lib.hid hcs
  have HK := Lib.hid hk
  clear hat hcs hk
  go_enter Try.func8, Try.ntmps8
  go_wp2
  go_ret
  have g1 : Gr w (w.alloc (.cells cs 28)) := (Gr.rfl' w).al _
  have hb := World.alloc_heap_new (w.alloc (.cells cs 28)) (.cells #[.slice (some ⟨w.heap.size, 0, none⟩) k k] 53)
  have hr := World.alloc_heap_new w (.cells cs 28)
  rw [World.size_alloc] at hb
  refine ⟨_, _, rfl, ⟨?_, ⟨cs, ?_, ?_, fun i hi => ?_⟩, AllOk.rep _, ?_, ?_⟩, Nat.le_succ _, Nat.le_refl _, g1.al _⟩
  · rw [List.length_replicate, HK.out]; exact hb
  · exact (Below.heap_alloc _ _ _ (by simp)).trans hr
  · rw [List.length_replicate, HK.out]; exact HCS.out
  · rw [List.length_replicate, HK.out] at hi
    refine ⟨none, 0, ?_, ?_, ?_⟩
    · rw [HAT.out i hi]; simp
    · simp
    · simp only [List.getElem_replicate]; exact Dots.nil _ _
  · rw [List.length_replicate]; omega
  · rw [List.length_replicate]; omega
theorem New_no (n : Int) (w : World) (h : ¬ (1 ≤ n ∧ n ≤ 64)) : Calls Try.prog 8 #[.int .i64 n] w fun e w' => e = .returned (.pointer none) ∧ Gr w w' := by
  by_cases h1 : n < 1
  · go_enter Try.func8, Try.ntmps8
    go_wp2
    go_ret
    exact ⟨rfl, Gr.rfl' _⟩
  · have h2 : 64 < n := by omega
    go_enter Try.func8, Try.ntmps8
    go_wp2
    go_ret
    exact ⟨rfl, Gr.rfl' _⟩
theorem Learn_any (mb rb : Nat) (rs : Rws) (p : Int) (A : Option Addr) (c : Nat) (v : List Dot) (w : World) (h : MatI w mb rb rs) (hv : Dots w A v) (hvc : v.length ≤ c) :
    Calls Try.prog 9 #[.pointer (some ⟨mb, 0, none⟩), .int .i64 p, .slice A v.length c] w fun e w' => e = .returned (.int .i64 (mayV rs.length p v)) ∧ MatI w' mb rb (learnR rs p v) ∧ Gm rb w w' := by
  have HMY := Lib.hid (may_any mb rb rs p A c v w h hv)
  by_cases hm : mayV rs.length p v = 0
  · obtain ⟨hp, hov⟩ := mayV_zero hm
    obtain ⟨i, rfl⟩ : ∃ i : Nat, p = (i : Int) := ⟨p.toNat, by omega⟩
    have hi : i < rs.length := by omega
    have hl : learnR rs i v = rs.set i (joinL rs[i] v) := by
      unfold learnR
      rw [if_pos hm]
      have e : ((i : Int)).toNat = i := by omega
      rw [e, List.getD_eq_getElem?_getD, List.getElem?_eq_getElem hi]; rfl
    rw [hl, hm]
    rw [hm] at HMY
    obtain ⟨A2, c2, hc, hlc, hd⟩ := h.at i hi
    have hb := h.cell
    have HJ := Lib.hid (fun w2 (g : Gr w w2) => Join_any A2 A c2 c rs[i] v w2 (hd.gr g) (hv.gr g) hlc hvc)
    have HS := Lib.hid (fun w2 (g : Gr w w2) (A3 : Option Addr) (c3 : Nat) (hlc3 : (joinL rs[i] v).length ≤ c3) (hd3 : Dots w2 A3 (joinL rs[i] v)) => (h.gr g).set hi (join_spec (h.ok _ (List.getElem_mem hi)) hov).1 hlc3 hd3)
    have HF := Lib.hid (fun w2 (g : Gr w w2) => (h.gr g).free i)
    obtain ⟨n, hn⟩ : ∃ n, rs.length = n := ⟨_, rfl⟩
    have hin : (i : Int) < (n : Int) := by omega
    have hin2 : i < n := by omega
    rw [hn] at hb
    obtain ⟨l, hl⟩ : ∃ l, rs[i] = l := ⟨_, rfl⟩
    rw [hl] at hc HJ HS ⊢
    have HCB : Hid (∀ w2, Gr w w2 → w2.cell? ⟨mb, 0, none⟩ = some (.slice (some ⟨rb, 0, none⟩) n n)) := Lib.hid (fun w2 g => g.cell hb)
    have HCR : Hid (∀ w2, Gr w w2 → w2.cell? ⟨rb, i, none⟩ = some (.slice A2 l.length c2)) := Lib.hid (fun w2 g => g.cell hc)
    clear h hd hn hl hm hp hov hlc hvc hv hb hc
    go_enter Try.func9, Try.ntmps9
    go_wp2_with fail
    refine (HMY.out).mono ?_
    rintro e w1 ⟨rfl, hg⟩
    have HG := Lib.hid hg
    clear hg HMY
    have hcb := HCB.out _ HG.out
    have hcr := HCR.out _ HG.out
    have hSS : Gr w1 w1.drew := (Gr.rfl' _).dr
    go_wp2
    refine region_T 15 (fun w' => Gr w1 w') (by kernel_rfl) ?_
    refine anyT_take (i := 0) (v := ?_) (some 15) rfl rfl (by kernel_rfl) (fun _ _ _ h => h) (Or.inl ⟨by rfl, ?_⟩) hSS ?_
    rotate_left
    · intro w' hSw; go_simp; (try with_reducible rfl)
    simp only [Act.put, List.setIfInBounds_toArray, List.set_cons_zero, List.set_cons_succ]
    refine anyT_take (i := 1) (v := ?_) (some 16) rfl rfl (by kernel_rfl) (fun _ _ _ h => h) (Or.inl ⟨by rfl, ?_⟩) hSS ?_
    rotate_left
    · intro w' hSw; go_simp; (try with_reducible rfl)
    simp only [Act.put, List.setIfInBounds_toArray, List.set_cons_zero, List.set_cons_succ]
    refine anyT_take (i := 2) (v := ?_) (some 17) rfl rfl (by kernel_rfl) (fun _ _ _ h => h) (Or.inl ⟨by rfl, ?_⟩) hSS ?_
    rotate_left
    · intro w' hSw; go_simp; (try with_reducible rfl)
    simp only [Act.put, List.setIfInBounds_toArray, List.set_cons_zero, List.set_cons_succ]
    refine anyT_take (i := 3) (v := ?_) (some 18) rfl rfl (by kernel_rfl) (fun _ _ _ h => h) (Or.inl ⟨by rfl, ?_⟩) hSS ?_
    rotate_left
    · intro w' hSw; have c3 := hSw.cell hcb; go_simp; (try with_reducible rfl)
    simp only [Act.put, List.setIfInBounds_toArray, List.set_cons_zero, List.set_cons_succ]
    refine anyT_take (i := 4) (v := ?_) (some 19) rfl rfl (by kernel_rfl) (fun _ _ _ h => h) (Or.inl ⟨by rfl, ?_⟩) hSS ?_
    rotate_left
    · intro w' hSw; go_simp; (try with_reducible rfl)
    simp only [Act.put, List.setIfInBounds_toArray, List.set_cons_zero, List.set_cons_succ]
    refine anyT_take (i := 5) (v := ?_) (some 20) rfl rfl (by kernel_rfl) (fun _ _ _ h => h) (Or.inl ⟨by rfl, ?_⟩) hSS ?_
    rotate_left
    · intro w' hSw; go_simp; (try with_reducible rfl)
    simp only [Act.put, List.setIfInBounds_toArray, List.set_cons_zero, List.set_cons_succ]
    refine anyT_take (i := 6) (v := ?_) (some 21) rfl rfl (by kernel_rfl) (fun _ _ _ h => h) (Or.inl ⟨by rfl, ?_⟩) hSS ?_
    rotate_left
    · intro w' hSw; go_simp; (try with_reducible rfl)
    simp only [Act.put, List.setIfInBounds_toArray, List.set_cons_zero, List.set_cons_succ]
    refine anyT_take (i := 7) (v := ?_) (some 22) rfl rfl (by kernel_rfl) (fun _ _ _ h => h) (Or.inl ⟨by rfl, ?_⟩) hSS ?_
    rotate_left
    · intro w' hSw; go_simp; (try with_reducible rfl)
    simp only [Act.put, List.setIfInBounds_toArray, List.set_cons_zero, List.set_cons_succ]
    refine anyT_take (i := 8) (v := ?_) (some 23) rfl rfl (by kernel_rfl) (fun _ _ _ h => h) (Or.inl ⟨by rfl, ?_⟩) hSS ?_
    rotate_left
    · intro w' hSw; have c8 := hSw.cell hcb; go_simp; (try with_reducible rfl)
    simp only [Act.put, List.setIfInBounds_toArray, List.set_cons_zero, List.set_cons_succ]
    refine anyT_take (i := 9) (v := ?_) (some 24) rfl rfl (by kernel_rfl) (fun _ _ _ h => h) (Or.inl ⟨by rfl, ?_⟩) hSS ?_
    rotate_left
    · intro w' hSw; go_simp; (try with_reducible rfl)
    simp only [Act.put, List.setIfInBounds_toArray, List.set_cons_zero, List.set_cons_succ]
    refine anyT_take (i := 10) (v := ?_) (some 25) rfl rfl (by kernel_rfl) (fun _ _ _ h => h) (Or.inl ⟨by rfl, ?_⟩) hSS ?_
    rotate_left
    · intro w' hSw; go_simp; (try with_reducible rfl)
    simp only [Act.put, List.setIfInBounds_toArray, List.set_cons_zero, List.set_cons_succ]
    refine anyT_take (i := 11) (v := ?_) (some 26) rfl rfl (by kernel_rfl) (fun _ _ _ h => h) (Or.inl ⟨by rfl, ?_⟩) hSS ?_
    rotate_left
    · intro w' hSw; have c11 := hSw.cell hcr; go_simp; (try with_reducible rfl)
    simp only [Act.put, List.setIfInBounds_toArray, List.set_cons_zero, List.set_cons_succ]
    refine anyT_take (i := 12) (v := ?_) (some 27) rfl rfl (by kernel_rfl) (fun _ _ _ h => h) (Or.inl ⟨by rfl, ?_⟩) hSS ?_
    rotate_left
    · intro w' hSw; go_simp; (try with_reducible rfl)
    simp only [Act.put, List.setIfInBounds_toArray, List.set_cons_zero, List.set_cons_succ]
    refine anyT_call (i := 13) (some 28) 24 #[.slice A2 l.length c2, .slice A v.length c] (by kernel_rfl) rfl rfl rfl (by kernel_rfl) ?_
    refine (HJ.out _ (HG.out.tr hSS)).mono ?_
    rintro e wc ⟨u, rfl, ho, hgc⟩
    replace hSS := hSS.tr hgc
    refine ⟨_, rfl, fun _ => hSS, ?_⟩
    simp only [Act.put, List.setIfInBounds_toArray, List.set_cons_zero, List.set_cons_succ]
    refine anyT_take (i := 14) (v := ?_) (some 29) rfl rfl (by kernel_rfl) (fun _ _ _ h => h) (Or.inl ⟨by rfl, ?_⟩) hSS ?_
    rotate_left
    · intro w' hSw; go_simp; (try with_reducible rfl)
    simp only [Act.put, List.setIfInBounds_toArray, List.set_cons_zero, List.set_cons_succ]
    obtain ⟨A3, c3, rfl, hlc3, hd3⟩ := ho.dots
    have HGC := Lib.hid (HG.out.tr hSS)
    have hcr2 := HCR.out _ HGC.out
    have hfr2 := HF.out _ HGC.out
    have HM3 := Lib.hid (HS.out _ HGC.out _ _ hlc3 hd3)
    have HGM := Lib.hid (((HGC.out.gm rb).set (i := i) (.slice A3 (joinL l v).length c3)))
    clear HS HJ ho hd3
    refine anyT_one (i := 15) (by kernel_rfl) rfl rfl ?_
    unfold Oper.wp
    go_simp
    refine anyT_done (by kernel_rfl) ?_ 0
    go_wp2
    go_ret
    exact ⟨rfl, HM3.out, HGM.out⟩
  · have hl : learnR rs p v = rs := by unfold learnR; rw [if_neg hm]
    rw [hl]
    have HM := Lib.hid (fun w2 (g : Gr w w2) => h.gr g)
    obtain ⟨x, hx⟩ : ∃ x, mayV rs.length p v = x := ⟨_, rfl⟩
    rw [hx] at HMY hm ⊢
    clear h hv hl hx
    go_enter Try.func9, Try.ntmps9
    go_wp2_with fail
    refine (HMY.out).mono ?_
    rintro e w1 ⟨rfl, hg⟩
    have HG := Lib.hid hg
    clear hg HMY
    go_wp2
    go_ret
    exact ⟨rfl, HM.out _ HG.out, HG.out.gm rb⟩
end Go.Proofs.Ytpaogcighlfelaa
