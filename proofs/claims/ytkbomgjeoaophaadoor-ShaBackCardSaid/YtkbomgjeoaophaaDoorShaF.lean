/- sha: Write. -/
import Derived.Test.YtkbomgjeoaophaaDoorShaE
import Derived.Test.YtkbomgjeoaophaaDoorRegT
set_option linter.unusedVariables false
set_option linter.unusedSimpArgs false
set_option maxHeartbeats 4000000
namespace Go.Proofs.YtkbomgjeoaophaaDoor
open Go.RowKit Go.Great

theorem OwnB.range {w : World} {B g o n cap : Nat} {l : List UInt8} (h : OwnB w B (.slice (some ⟨g, o, none⟩) n cap) l) (k : Nat) (hk : k ≤ l.length) : w.rangeAt g o (bC (l.take k)).toList := by
  intro j v hj
  have hj' : (bC (l.take k))[j]? = some v := by simpa using hj
  have hjl : j < (l.take k).length := by
    have := (Array.getElem?_eq_some_iff.1 hj').1
    rwa [bC_size] at this
  rw [bC_at _ j hjl] at hj'
  cases hj'
  have hl : j < l.length := by rw [List.length_take] at hjl; omega
  obtain ⟨g', o', he, hc⟩ := h.cell j hl
  cases he
  rw [hc]
  simp
theorem OwnB.lenle {w : World} {B : Nat} {A : Option Addr} {n cap : Nat} {l : List UInt8} (h : OwnB w B (.slice A n cap) l) : n = l.length ∧ n ≤ cap ∧ cap ≤ maxLen := by
  rcases h with ⟨h1, h2⟩ | ⟨g, o, c, cur, hv, _, _, h1, h2, _⟩
  · cases h1; subst h2; exact ⟨rfl, Nat.le_refl _, by decide⟩
  · cases hv; exact ⟨rfl, h1, h2⟩
theorem OwnB.addr {w : World} {B : Nat} {A : Option Addr} {n cap : Nat} {l : List UInt8} (h : OwnB w B (.slice A n cap) l) (hl : 0 < l.length) : ∃ g o, A = some ⟨g, o, none⟩ ∧ B ≤ g := by
  rcases h with ⟨h1, h2⟩ | ⟨g, o, c, cur, hv, hb, _⟩
  · subst h2; simp at hl
  · cases hv; exact ⟨g, o, rfl, hb⟩
/-- the slice from k on -/
theorem OwnB.drop {w : World} {B g o n cap : Nat} {l : List UInt8} (h : OwnB w B (.slice (some ⟨g, o, none⟩) n cap) l) (k : Nat) (hk : k ≤ l.length) :
    OwnB w B (.slice (some ⟨g, o + k, none⟩) (l.length - k) (cap - k)) (l.drop k) := by
  rcases h with ⟨h1, h2⟩ | ⟨g', o', c, cur, hv, hb, hg, h1, h2, h3, h4⟩
  · cases h1
  · cases hv
    refine .inr ⟨g, o + k, cap - k, cur, by rw [List.length_drop], hb, hg, by rw [List.length_drop]; omega, by omega, by omega, fun j hj => ?_⟩
    rw [List.length_drop] at hj
    rw [Nat.add_assoc, h4 (k + j) (by omega)]
    simp

/-- the slice from its capacity on -/
theorem OwnB.end_ {w : World} {B g o n cap : Nat} {l : List UInt8} (h : OwnB w B (.slice (some ⟨g, o, none⟩) n cap) l) (k : Nat) (hk : k = cap) (hkl : k ≤ l.length) :
    OwnB w B (.slice (some ⟨g, o, none⟩) (l.length - k) 0) (l.drop k) := by
  rcases h with ⟨h1, h2⟩ | ⟨g', o', c, cur, hv, hb, hg, h1, h2, h3, h4⟩
  · cases h1
  · cases hv
    have : l.length = k := by omega
    refine .inr ⟨g, o, 0, cur, by rw [List.length_drop], hb, hg, by rw [List.length_drop]; omega, by decide, by omega, fun j hj => ?_⟩
    rw [List.length_drop] at hj
    omega

set_option maxRecDepth 100000 in
theorem Write_any (B b : Nat) (bg : Bool) (h : List W32) (rest : List UInt8) (v : Value) (n : Int) (t : ByteArray) (w : World) (hh : h.length = 8) (hK : Keys w 1) (hS : SumAt w b bg h v n) (hO : OwnB w B v rest) (hBb : B ≤ b) (hB1 : 1 < B)
    (hlen : rest.length + t.size ≤ 140737488355328) (hn0 : 0 ≤ n) (hn1 : n + t.size ≤ 9223372036854775807) :
    Calls Tryd.prog 11 #[.pointer (some ⟨b, 0, none⟩), .string t] w fun r w' => r = .returned (.tuple #[]) ∧ (∃ v', SumAt w' b true (blks (effH bg h) (rest ++ t.data.toList) ((rest ++ t.data.toList).length / 64)) v' (n + t.size) ∧ OwnB w' B v' ((rest ++ t.data.toList).drop (64 * ((rest ++ t.data.toList).length / 64)))) ∧ Below B w w' := by
  have HK := Lib.hid hK; clear hK
  have HS := Lib.hid hS; clear hS
  have HO := Lib.hid hO; clear hO
  obtain ⟨L, hL⟩ : ∃ L, rest ++ t.data.toList = L := ⟨_, rfl⟩
  rw [hL]
  have hBw : B ≤ w.heap.size := Nat.le_of_lt (Nat.lt_of_le_of_lt hBb HS.out.lt)
  obtain ⟨A, cap, rfl⟩ := HO.out.shape
  cases bg with
  | true =>
    have c0 : w.cell? ⟨b, 0, none⟩ = some (.bool true) := HS.out.at_ (j := 0) rfl
    obtain ⟨hc, hce⟩ : ∃ hc, effH true h = hc := ⟨_, rfl⟩
    have e1 : hc = h := hce.symm
    have hcl : hc.length = 8 := by rw [e1]; exact hh
    rw [hce]
    clear hce
    obtain ⟨w1, hw1⟩ : ∃ w1, w = w1 := ⟨_, rfl⟩
    have HS1 : Hid (SumAt w1 b true hc (.slice A rest.length cap) n) := by rw [← hw1, e1]; exact HS
    have HO1 : Hid (OwnB w1 B (.slice A rest.length cap) rest) := by rw [← hw1]; exact HO
    have HG1 : Hid (Below B w w1) := by rw [← hw1]; exact Lib.hid (Below.refl _ _)
    clear e1
    go_enter Tryd.func11, Tryd.ntmps11
    rw [hw1] at c0 ⊢
    have HPO : Hid (∀ W, Below B w W → Below B w1 W) := Lib.hid (fun W h => by rw [← hw1]; exact h)
    have c9 : w1.cell? ⟨b, 9, none⟩ = some (.slice A rest.length cap) := HS1.out.at_ (j := 9) rfl
    have c10 : w1.cell? ⟨b, 10, none⟩ = some (.int .u64 n) := HS1.out.at_ (j := 10) rfl
    have f9 := HS1.out.frz 9
    have f10 := HS1.out.frz 10
    have hSn := HS1.out.setN (n + t.size)
    have hne := HS1.out.ne HO1.out
    have hOn : OwnB (w1.setCell ⟨b, 10, none⟩ (.int .u64 (n + t.size))) B (.slice A rest.length cap) rest := HO1.out.kept (fun k hk => heap_set_other (fun e => hne (by rw [hk, e])) _)
    have hBn : B ≤ (w1.setCell ⟨b, 10, none⟩ (.int .u64 (n + t.size))).heap.size := by
      have h1 := HG1.out.size
      simp only [World.setCell, Array.size_modify]
      exact Nat.le_trans hBw h1
    have HGn : Hid (Below B w (w1.setCell ⟨b, 10, none⟩ (.int .u64 (n + t.size)))) := Lib.hid (HG1.out.setCell hBb _)
    have HSn := Lib.hid hSn
    have HOn := Lib.hid hOn
    have HBn := Lib.hid hBn
    have HLn := Lib.hid hlen
    clear hSn hOn hBn hne
    go_wp2_with (at_builtin; refine wpList_append_own_at rfl _ _ rfl B _ rest rfl HOn.out t rfl HLn.out HBn.out ?_)
    intro v2 w2 hown hgrow
    have hneb : some b ≠ (Value.slice A rest.length cap).ownBlock := fun e => HSn.out.ne HOn.out e.symm
    have HS2 := Lib.hid (HSn.out.kept (hgrow.block b HSn.out.lt hneb))
    have hG2 : Below B w w2 := ⟨hgrow.os.trans HGn.out.os, hgrow.tape.trans HGn.out.tape, hgrow.output.trans HGn.out.output, Nat.le_trans HGn.out.size hgrow.size, fun k hk => (hgrow.block k (Nat.lt_of_lt_of_le hk HBn.out) (fun e => by have := (HOn.out.blk k e.symm).1; omega)).trans (HGn.out.block k hk)⟩
    obtain ⟨A2, cap2, rfl⟩ := hown.shape
    have d9 : w2.cell? ⟨b, 9, none⟩ = some (.slice A rest.length cap) := HS2.out.at_ (j := 9) rfl
    have e9 := HS2.out.frz 9
    have HS3 := Lib.hid (HS2.out.setV (.slice A2 L.length cap2))
    have hne2 := HS2.out.ne hown
    have HO3 : Hid (OwnB (w2.setCell ⟨b, 9, none⟩ (.slice A2 L.length cap2)) B (.slice A2 L.length cap2) L) := Lib.hid (hown.kept (fun k hk => heap_set_other (fun e => hne2 (by rw [hk, e])) _))
    have HG3 : Hid (Below B w (w2.setCell ⟨b, 9, none⟩ (.slice A2 L.length cap2))) := Lib.hid (hG2.setCell hBb _)
    clear hown hgrow hneb hG2 hne2 HSn HOn HBn HLn HGn HS2 HS1 HO1 HG1 c9 c10 f9 f10
    go_wp2
    obtain ⟨w3, hw3⟩ : ∃ w3, w2.setCell ⟨b, 9, none⟩ (.slice A2 L.length cap2) = w3 := ⟨_, rfl⟩
    rw [hw3] at HS3 HO3 HG3 ⊢
    go_loopg [37] (L.length / 64) (fun g p wr => ∃ k v, g = L.length / 64 - k ∧ 64 * k ≤ L.length ∧ Hid (SumAt wr b true (blks hc L k) v (n + t.size)) ∧ Hid (OwnB wr B v (L.drop (64 * k))) ∧ Hid (Below B w wr))
    case atStart => exact ⟨0, _, by simp, by omega, HS3, HO3, HG3⟩
    case round =>
      clear HS3 HO3 HG3 hw3
      obtain ⟨k, v, hgk, hkl, HSk, HOk, HGk⟩ := hrel
      have hdl : (L.drop (64 * k)).length = L.length - 64 * k := List.length_drop
      obtain ⟨Ak, ck, rfl⟩ := HOk.out.shape
      obtain ⟨Lk, hLk⟩ : ∃ Lk, L.drop (64 * k) = Lk := ⟨_, rfl⟩
      have hb1 : blks hc L (k + 1) = mixV (blks hc L k) (Lk.take 64) := by rw [← hLk]; rfl
      have hd1 : L.drop (64 * (k + 1)) = Lk.drop 64 := by rw [← hLk, List.drop_drop]; rfl
      have hkl8 := blks_len hcl L k
      obtain ⟨hk, hhk⟩ : ∃ hk, blks hc L k = hk := ⟨_, rfl⟩
      rw [hLk] at HOk hdl
      have HSE := Lib.hid (show blks hc L k = hk from hhk)
      rw [hhk] at HSk hkl8 hb1
      rw [hLk] at HSk
      have HB1 := Lib.hid hb1
      have HD1 := Lib.hid hd1
      have HDL := Lib.hid hdl
      have HGKK := Lib.hid hgk
      have HLk := Lib.hid hLk
      clear hb1 hd1 hLk hhk hdl hgk
      have c9 : wr.cell? ⟨b, 9, none⟩ = some (.slice Ak Lk.length ck) := HSk.out.at_ (j := 9) rfl
      have hlc : Lk.length ≤ ck := (HOk.out.lenle).2.1
      have hcm : ck ≤ maxLen := (HOk.out.lenle).2.2
      unfold maxLen at hcm
      by_cases hge : 64 ≤ Lk.length
      · have hgi : (64 : Int) ≤ (Lk.length : Int) := by omega
        have hg64 : 64 ≤ ck := by omega
        have hgc : (64 : Int) ≤ (ck : Int) := by omega
        obtain ⟨g, o, rfl, hBg⟩ := HOk.out.addr (by omega)
        have hblk : (Lk.take 64).length = 64 := by rw [List.length_take]; omega
        have HKY : Hid (∀ w', Gr wr w' → Keys w' 1) := Lib.hid (fun w' g' => by
          intro j hj
          have h1 := HK.out j hj
          have h2 : wr.heap[1]? = w.heap[1]? := HGk.out.block 1 (by omega)
          have h3 : w.heap[1]? ≠ none := by
            intro e
            rw [World.cell?] at h1
            simp only [e] at h1
            cases h1
          have h4 : 1 < wr.heap.size := by
            rcases Nat.lt_or_ge 1 wr.heap.size with c | c
            · exact c
            · rw [← h2, Array.getElem?_eq_none c] at h3; exact absurd rfl h3
          have h5 : w'.heap[1]? = w.heap[1]? := (g'.block 1 h4).trans h2
          rw [World.cell?_of_block (w := w) (by exact h5)]
          exact h1)
        have hSS : Gr wr wr.drew := (Gr.rfl' _).dr
        have hu64 := Tryd.underlying51
        have hu8 := Tryd.underlying30
        have hs64 : (Tryd.prog.info? 51).map (·.size) = some (bC (Lk.take 64)).toList.length := by rw [sz64b]; simp [bC]; omega
        have hs8 : (Tryd.prog.info? 30).map (·.size) = some (wC hk).toList.length := by rw [sz8]; simp [wC, hkl8]
        have hAA : ∀ W, (Instr.arrayAt 51 (.slice (some ⟨g, o, none⟩) Lk.length ck)).run Tryd.prog W = .ok (.pointer (some ⟨g, o, none⟩)) W := fun W => run_arrayAt W 51 5 64 _ _ _ Tryd.underlying51 hge
        have hml := mixV_len hkl8 (Lk.take 64)
        obtain ⟨hm, hhm⟩ : ∃ hm, mixV hk (Lk.take 64) = hm := ⟨_, rfl⟩
        rw [hhm] at hml
        have hsm : (Tryd.prog.info? 30).map (·.size) = some (wC hm).size := by rw [sz8, wC_size, hml]
        have HMIX : Hid (∀ w', Gr wr w' → Calls Tryd.prog 22 #[.agg (wC hk), .agg (bC (Lk.take 64))] w' fun r w'' => r = .returned (.agg (wC hm)) ∧ Gr w' w'') := Lib.hid (fun w' g' => by
          have := mix_any hk (Lk.take 64) hkl8 hblk w' (HKY.out _ g')
          rw [hhm] at this
          exact this)
        have HHM := Lib.hid hhm
        clear hhm
        go_wp2
        refine region_T 14 (fun w' => Gr wr w') (by kernel_rfl) ?_
        refine anyT_take (i := 0) (v := ?_) (some 43) rfl rfl (by kernel_rfl) (fun _ _ _ h => h) (Or.inl ⟨by rfl, ?_⟩) hSS ?_
        rotate_left
        · intro w' hSw; go_simp; (try with_reducible rfl)
        simp only [Act.put, List.setIfInBounds_toArray, List.set_cons_zero, List.set_cons_succ]
        refine anyT_take (i := 1) (v := ?_) (some 44) rfl rfl (by kernel_rfl) (fun _ _ _ h => h) (Or.inl ⟨by rfl, ?_⟩) hSS ?_
        rotate_left
        · intro w' hSw; go_simp; (try with_reducible rfl)
        simp only [Act.put, List.setIfInBounds_toArray, List.set_cons_zero, List.set_cons_succ]
        refine anyT_take (i := 2) (v := ?_) (some 45) rfl rfl (by kernel_rfl) (fun _ _ _ h => h) (Or.inl ⟨by rfl, ?_⟩) hSS ?_
        rotate_left
        · intro w' hSw; go_simp; (try with_reducible rfl)
        simp only [Act.put, List.setIfInBounds_toArray, List.set_cons_zero, List.set_cons_succ]
        refine anyT_take (i := 3) (v := ?_) (some 46) rfl rfl (by kernel_rfl) (fun _ _ _ h => h) (Or.inl ⟨by rfl, ?_⟩) hSS ?_
        rotate_left
        · intro w' hSw; go_simp; (try with_reducible rfl)
        simp only [Act.put, List.setIfInBounds_toArray, List.set_cons_zero, List.set_cons_succ]
        refine anyT_take (i := 4) (some 47) rfl rfl (by kernel_rfl) (fun _ _ _ h => h) (yieldsIf_load_mid (by rfl) _ _ rfl _ _ rfl (wC hk).toList _ (fun w' hSw => (HSk.out.gr hSw).range hkl8) hu8 rfl hs8) hSS ?_
        simp only [Act.put, List.setIfInBounds_toArray, List.set_cons_zero, List.set_cons_succ, Array.toArray_toList]
        refine anyT_take (i := 5) (v := ?_) (some 48) rfl rfl (by kernel_rfl) (fun _ _ _ h => h) (Or.inl ⟨by rfl, ?_⟩) hSS ?_
        rotate_left
        · intro w' hSw; go_simp; (try with_reducible rfl)
        simp only [Act.put, List.setIfInBounds_toArray, List.set_cons_zero, List.set_cons_succ]
        refine anyT_take (i := 6) (v := ?_) (some 49) rfl rfl (by kernel_rfl) (fun _ _ _ h => h) (Or.inl ⟨by rfl, ?_⟩) hSS ?_
        rotate_left
        · intro w' hSw; go_simp; (try with_reducible rfl)
        simp only [Act.put, List.setIfInBounds_toArray, List.set_cons_zero, List.set_cons_succ]
        refine anyT_take (i := 7) (v := ?_) (some 50) rfl rfl (by kernel_rfl) (fun _ _ _ h => h) (Or.inl ⟨by rfl, ?_⟩) hSS ?_
        rotate_left
        · intro w' hSw; go_simp; (try with_reducible rfl)
        simp only [Act.put, List.setIfInBounds_toArray, List.set_cons_zero, List.set_cons_succ]
        refine anyT_take (i := 8) (v := ?_) (some 51) rfl rfl (by kernel_rfl) (fun _ _ _ h => h) (Or.inl ⟨by rfl, ?_⟩) hSS ?_
        rotate_left
        · intro w' hSw; have c9' : w'.cell? ⟨b, 9, none⟩ = some (.slice (some ⟨g, o, none⟩) Lk.length ck) := (HSk.out.gr hSw).at_ (j := 9) rfl; go_simp; (try with_reducible rfl)
        simp only [Act.put, List.setIfInBounds_toArray, List.set_cons_zero, List.set_cons_succ]
        refine anyT_take (i := 9) (v := ?_) (some 52) rfl rfl (by kernel_rfl) (fun _ _ _ h => h) (Or.inl ⟨by rfl, ?_⟩) hSS ?_
        rotate_left
        · intro w' hSw; go_simp; (try with_reducible rfl)
        simp only [Act.put, List.setIfInBounds_toArray, List.set_cons_zero, List.set_cons_succ]
        refine anyT_take (i := 10) (some 53) rfl rfl (by kernel_rfl) (fun _ _ _ h => h) (yieldsIf_load_mid (by rfl) _ _ rfl _ _ rfl (bC (Lk.take 64)).toList _ (fun w' hSw => (HOk.out.gr hSw).range 64 hge) hu64 rfl hs64) hSS ?_
        simp only [Act.put, List.setIfInBounds_toArray, List.set_cons_zero, List.set_cons_succ, Array.toArray_toList]
        refine anyT_call (i := 11) (some 54) 22 #[.agg (wC hk), .agg (bC (Lk.take 64))] (by kernel_rfl) rfl rfl rfl (by kernel_rfl) ?_
        refine (HMIX.out _ hSS).mono ?_
        rintro r wc ⟨rfl, hgc⟩
        replace hSS := hSS.tr hgc
        refine ⟨_, rfl, fun _ => hSS, ?_⟩
        simp only [Act.put, List.setIfInBounds_toArray, List.set_cons_zero, List.set_cons_succ]
        refine anyT_take (i := 12) (v := ?_) (some 55) rfl rfl (by kernel_rfl) (fun _ _ _ h => h) (Or.inl ⟨by rfl, ?_⟩) hSS ?_
        rotate_left
        · intro w' hSw; go_simp; (try with_reducible rfl)
        simp only [Act.put, List.setIfInBounds_toArray, List.set_cons_zero, List.set_cons_succ]
        refine anyT_take (i := 13) (v := ?_) (some 56) rfl rfl (by kernel_rfl) (fun _ _ _ h => h) (Or.inl ⟨by rfl, ?_⟩) hSS ?_
        rotate_left
        · intro w' hSw; go_simp; (try with_reducible rfl)
        simp only [Act.put, List.setIfInBounds_toArray, List.set_cons_zero, List.set_cons_succ]
        have hSc := Lib.hid (HSk.out.gr hSS)
        have hOc := Lib.hid (HOk.out.gr hSS)
        refine anyT_store 30 (.tmp 56) (.tmp 54) (by kernel_rfl) (by kernel_rfl) rfl rfl rfl rfl b 1 (wC hm) rfl rfl (by rw [wC_size, hml]; exact hSc.out.there) hsm (wC_one hm) ?_
        obtain ⟨ws, hws⟩ : ∃ ws, wc.setCells b 1 (wC hm).toList = ws := ⟨_, rfl⟩
        have hSs : SumAt ws b true hm (.slice (some ⟨g, o, none⟩) Lk.length ck) (n + t.size) := by rw [← hws]; exact hSc.out.setH hm hml
        have hOs : OwnB ws B (.slice (some ⟨g, o, none⟩) Lk.length ck) Lk := by
          rw [← hws]
          have hne := hSc.out.ne hOc.out
          exact hOc.out.kept (fun k hk => heap_setCells_other (fun e => hne (by rw [hk, e])) _ _ _)
        have hGs : Below B w ws := by
          have h1 : Below B w wc := HGk.out.trans (hSS.mono (Nat.le_trans hBw HGk.out.size))
          rw [← hws]
          exact ⟨(os_setCells _ _ _).1.trans h1.os, (os_setCells _ _ _).2.1.trans h1.tape, (os_setCells _ _ _).2.2.trans h1.output, by rw [size_setCells]; exact h1.size, fun k hk => (heap_setCells_other (by omega) _ _ _).trans (h1.block k hk)⟩
        rw [hws]
        have HSs := Lib.hid hSs
        have HOs := Lib.hid hOs
        have HGs := Lib.hid hGs
        clear hSs hOs hGs hws hSc hOc hSS hgc hAA hu64 hu8 hs64 hs8 hsm HMIX HKY c9
        have c9 : ws.cell? ⟨b, 9, none⟩ = some (.slice (some ⟨g, o, none⟩) Lk.length ck) := HSs.out.at_ (j := 9) rfl
        have f9 := HSs.out.frz 9
        have hne := HSs.out.ne HOs.out
        have hbk : ∀ W : World, ∀ u : Value, W = ws.setCell ⟨b, 9, none⟩ u → ∀ k, (Value.slice (some ⟨g, o, none⟩) Lk.length ck).ownBlock = some k → W.heap[k]? = ws.heap[k]? := fun W u hW k hk => by
          rw [hW]; exact heap_set_other (fun e => hne (by rw [hk, e])) _
        have HBK := Lib.hid hbk
        clear hbk hne
        by_cases hcap : ck = 64
        · subst hcap
          have e0 : Lk.length - 64 = 0 := by omega
          have hOd : OwnB (ws.setCell ⟨b, 9, none⟩ (.slice (some ⟨g, o, none⟩) (Lk.length - 64) 0)) B (.slice (some ⟨g, o, none⟩) (Lk.length - 64) 0) (Lk.drop 64) := (HOs.out.kept (HBK.out _ _ rfl)).end_ 64 rfl hge
          have hSd := HSs.out.setV (.slice (some ⟨g, o, none⟩) (Lk.length - 64) 0)
          have hGd := HGs.out.setCell (p := ⟨b, 9, none⟩) hBb (.slice (some ⟨g, o, none⟩) (Lk.length - 64) 0)
          rw [← HHM.out, ← HB1.out] at hSd
          rw [← HD1.out] at hOd
          rw [e0] at hSd hOd hGd
          have HSd := Lib.hid hSd
          have HOd := Lib.hid hOd
          have HGd := Lib.hid hGd
          clear hSd hOd hGd e0
          go_wp2
          go_roundg (L.length / 64 - (k + 1))
          case measure => have := HGKK.out; have := HDL.out; omega
          case rel => exact ⟨k + 1, _, rfl, by have := HDL.out; omega, HSd, HOd, HGd⟩
        · have hcap2 : 64 < ck := by omega
          have hOd : OwnB (ws.setCell ⟨b, 9, none⟩ (.slice (some ⟨g, o + 64, none⟩) (Lk.length - 64) (ck - 64))) B (.slice (some ⟨g, o + 64, none⟩) (Lk.length - 64) (ck - 64)) (Lk.drop 64) := (HOs.out.kept (HBK.out _ _ rfl)).drop 64 hge
          have hSd := HSs.out.setV (.slice (some ⟨g, o + 64, none⟩) (Lk.length - 64) (ck - 64))
          have hGd := HGs.out.setCell (p := ⟨b, 9, none⟩) hBb (.slice (some ⟨g, o + 64, none⟩) (Lk.length - 64) (ck - 64))
          rw [← HHM.out, ← HB1.out] at hSd
          rw [← HD1.out] at hOd
          have HSd := Lib.hid hSd
          have HOd := Lib.hid hOd
          have HGd := Lib.hid hGd
          clear hSd hOd hGd
          go_wp2
          go_roundg (L.length / 64 - (k + 1))
          case measure => have := HGKK.out; have := HDL.out; omega
          case rel => exact ⟨k + 1, _, rfl, by have := HDL.out; omega, HSd, HOd, HGd⟩
      · have hgi : ¬ (64 : Int) ≤ (Lk.length : Int) := by omega
        go_wp2
        go_end0
        have e64 : L.length / 64 = k := by have := HDL.out; omega
        rw [e64, HLk.out, HSE.out]
        exact ⟨rfl, ⟨_, HSk.out, HOk.out⟩, HPO.out _ HGk.out⟩
  | false =>
    have c0 : w.cell? ⟨b, 0, none⟩ = some (.bool false) := HS.out.at_ (j := 0) rfl
    obtain ⟨hc, hce⟩ : ∃ hc, effH false h = hc := ⟨_, rfl⟩
    have e1 : startL = hc := hce
    have hcl : hc.length = 8 := by rw [← e1]; rfl
    rw [hce]
    clear hce
    have E1 := Lib.hid e1
    clear e1
    go_enter Tryd.func11, Tryd.ntmps11
    go_wp2_with fail
    refine (start_any _).mono ?_
    rintro r w0 ⟨rfl, g0⟩
    have HS0 := Lib.hid (HS.out.gr g0)
    have HO0 := Lib.hid (HO.out.gr g0)
    have HG0 : Hid (Below B w w0) := Lib.hid (g0.mono hBw)
    have k0 : w0.cell? ⟨b, 0, none⟩ = some (.bool false) := HS0.out.at_ (j := 0) rfl
    have f0 := HS0.out.frz 0
    have HSa := Lib.hid (HS0.out.setB true)
    have hsm : (Tryd.prog.info? 30).map (·.size) = some (wC startL).size := by kernel_rfl
    have hth : (w0.setCell ⟨b, 0, none⟩ (.bool true)).there b 1 (wC startL).size := by rw [wC_size]; exact HSa.out.there
    have HTH := Lib.hid hth
    have HST := Lib.hid (HSa.out.setH startL rfl)
    clear g0 c0 hth
    go_upto_region 3 with (with_reducible refine at_st 30 (.tmp 17) (.tmp 13) ?_; refine wpList_store_mid rfl 30 (.tmp 17) (.tmp 13) rfl b 1 (wC startL) rfl rfl HTH.out hsm (wC_one startL) ?_)
    obtain ⟨w1, hw1⟩ : ∃ w1, (w0.setCell ⟨b, 0, none⟩ (.bool true)).setCells b 1 (wC startL).toList = w1 := ⟨_, rfl⟩
    have HS1 : Hid (SumAt w1 b true hc (.slice A rest.length cap) n) := by rw [← hw1, ← E1.out]; exact HST
    have hne := HS0.out.ne HO0.out
    have HO1 : Hid (OwnB w1 B (.slice A rest.length cap) rest) := by
      rw [← hw1]
      exact Lib.hid ((HO0.out.kept (fun k hk => heap_set_other (fun e => hne (by rw [hk, e])) _)).kept (fun k hk => heap_setCells_other (fun e => hne (by rw [hk, e])) _ _ _))
    have HG1 : Hid (Below B w w1) := by
      have h1 := HG0.out.setCell (p := ⟨b, 0, none⟩) hBb (.bool true)
      rw [← hw1]
      exact Lib.hid ⟨(os_setCells _ _ _).1.trans h1.os, (os_setCells _ _ _).2.1.trans h1.tape, (os_setCells _ _ _).2.2.trans h1.output, by rw [size_setCells]; exact h1.size, fun k hk => (heap_setCells_other (by omega) _ _ _).trans (h1.block k hk)⟩
    have HPO : Hid (∀ W, Below B w W → Below B w W) := Lib.hid (fun W h => h)
    rw [hw1]
    clear hw1 hne HTH HST HSa k0 f0 HS0 HO0 HG0
    have c9 : w1.cell? ⟨b, 9, none⟩ = some (.slice A rest.length cap) := HS1.out.at_ (j := 9) rfl
    have c10 : w1.cell? ⟨b, 10, none⟩ = some (.int .u64 n) := HS1.out.at_ (j := 10) rfl
    have f9 := HS1.out.frz 9
    have f10 := HS1.out.frz 10
    have hSn := HS1.out.setN (n + t.size)
    have hne := HS1.out.ne HO1.out
    have hOn : OwnB (w1.setCell ⟨b, 10, none⟩ (.int .u64 (n + t.size))) B (.slice A rest.length cap) rest := HO1.out.kept (fun k hk => heap_set_other (fun e => hne (by rw [hk, e])) _)
    have hBn : B ≤ (w1.setCell ⟨b, 10, none⟩ (.int .u64 (n + t.size))).heap.size := by
      have h1 := HG1.out.size
      simp only [World.setCell, Array.size_modify]
      exact Nat.le_trans hBw h1
    have HGn : Hid (Below B w (w1.setCell ⟨b, 10, none⟩ (.int .u64 (n + t.size)))) := Lib.hid (HG1.out.setCell hBb _)
    have HSn := Lib.hid hSn
    have HOn := Lib.hid hOn
    have HBn := Lib.hid hBn
    have HLn := Lib.hid hlen
    clear hSn hOn hBn hne
    go_wp2_with (at_builtin; refine wpList_append_own_at rfl _ _ rfl B _ rest rfl HOn.out t rfl HLn.out HBn.out ?_)
    intro v2 w2 hown hgrow
    have hneb : some b ≠ (Value.slice A rest.length cap).ownBlock := fun e => HSn.out.ne HOn.out e.symm
    have HS2 := Lib.hid (HSn.out.kept (hgrow.block b HSn.out.lt hneb))
    have hG2 : Below B w w2 := ⟨hgrow.os.trans HGn.out.os, hgrow.tape.trans HGn.out.tape, hgrow.output.trans HGn.out.output, Nat.le_trans HGn.out.size hgrow.size, fun k hk => (hgrow.block k (Nat.lt_of_lt_of_le hk HBn.out) (fun e => by have := (HOn.out.blk k e.symm).1; omega)).trans (HGn.out.block k hk)⟩
    obtain ⟨A2, cap2, rfl⟩ := hown.shape
    have d9 : w2.cell? ⟨b, 9, none⟩ = some (.slice A rest.length cap) := HS2.out.at_ (j := 9) rfl
    have e9 := HS2.out.frz 9
    have HS3 := Lib.hid (HS2.out.setV (.slice A2 L.length cap2))
    have hne2 := HS2.out.ne hown
    have HO3 : Hid (OwnB (w2.setCell ⟨b, 9, none⟩ (.slice A2 L.length cap2)) B (.slice A2 L.length cap2) L) := Lib.hid (hown.kept (fun k hk => heap_set_other (fun e => hne2 (by rw [hk, e])) _))
    have HG3 : Hid (Below B w (w2.setCell ⟨b, 9, none⟩ (.slice A2 L.length cap2))) := Lib.hid (hG2.setCell hBb _)
    clear hown hgrow hneb hG2 hne2 HSn HOn HBn HLn HGn HS2 HS1 HO1 HG1 c9 c10 f9 f10
    go_wp2
    obtain ⟨w3, hw3⟩ : ∃ w3, w2.setCell ⟨b, 9, none⟩ (.slice A2 L.length cap2) = w3 := ⟨_, rfl⟩
    rw [hw3] at HS3 HO3 HG3 ⊢
    go_loopg [37] (L.length / 64) (fun g p wr => ∃ k v, g = L.length / 64 - k ∧ 64 * k ≤ L.length ∧ Hid (SumAt wr b true (blks hc L k) v (n + t.size)) ∧ Hid (OwnB wr B v (L.drop (64 * k))) ∧ Hid (Below B w wr))
    case atStart => exact ⟨0, _, by simp, by omega, HS3, HO3, HG3⟩
    case round =>
      clear HS3 HO3 HG3 hw3
      obtain ⟨k, v, hgk, hkl, HSk, HOk, HGk⟩ := hrel
      have hdl : (L.drop (64 * k)).length = L.length - 64 * k := List.length_drop
      obtain ⟨Ak, ck, rfl⟩ := HOk.out.shape
      obtain ⟨Lk, hLk⟩ : ∃ Lk, L.drop (64 * k) = Lk := ⟨_, rfl⟩
      have hb1 : blks hc L (k + 1) = mixV (blks hc L k) (Lk.take 64) := by rw [← hLk]; rfl
      have hd1 : L.drop (64 * (k + 1)) = Lk.drop 64 := by rw [← hLk, List.drop_drop]; rfl
      have hkl8 := blks_len hcl L k
      obtain ⟨hk, hhk⟩ : ∃ hk, blks hc L k = hk := ⟨_, rfl⟩
      rw [hLk] at HOk hdl
      have HSE := Lib.hid (show blks hc L k = hk from hhk)
      rw [hhk] at HSk hkl8 hb1
      rw [hLk] at HSk
      have HB1 := Lib.hid hb1
      have HD1 := Lib.hid hd1
      have HDL := Lib.hid hdl
      have HGKK := Lib.hid hgk
      have HLk := Lib.hid hLk
      clear hb1 hd1 hLk hhk hdl hgk
      have c9 : wr.cell? ⟨b, 9, none⟩ = some (.slice Ak Lk.length ck) := HSk.out.at_ (j := 9) rfl
      have hlc : Lk.length ≤ ck := (HOk.out.lenle).2.1
      have hcm : ck ≤ maxLen := (HOk.out.lenle).2.2
      unfold maxLen at hcm
      by_cases hge : 64 ≤ Lk.length
      · have hgi : (64 : Int) ≤ (Lk.length : Int) := by omega
        have hg64 : 64 ≤ ck := by omega
        have hgc : (64 : Int) ≤ (ck : Int) := by omega
        obtain ⟨g, o, rfl, hBg⟩ := HOk.out.addr (by omega)
        have hblk : (Lk.take 64).length = 64 := by rw [List.length_take]; omega
        have HKY : Hid (∀ w', Gr wr w' → Keys w' 1) := Lib.hid (fun w' g' => by
          intro j hj
          have h1 := HK.out j hj
          have h2 : wr.heap[1]? = w.heap[1]? := HGk.out.block 1 (by omega)
          have h3 : w.heap[1]? ≠ none := by
            intro e
            rw [World.cell?] at h1
            simp only [e] at h1
            cases h1
          have h4 : 1 < wr.heap.size := by
            rcases Nat.lt_or_ge 1 wr.heap.size with c | c
            · exact c
            · rw [← h2, Array.getElem?_eq_none c] at h3; exact absurd rfl h3
          have h5 : w'.heap[1]? = w.heap[1]? := (g'.block 1 h4).trans h2
          rw [World.cell?_of_block (w := w) (by exact h5)]
          exact h1)
        have hSS : Gr wr wr.drew := (Gr.rfl' _).dr
        have hu64 := Tryd.underlying51
        have hu8 := Tryd.underlying30
        have hs64 : (Tryd.prog.info? 51).map (·.size) = some (bC (Lk.take 64)).toList.length := by rw [sz64b]; simp [bC]; omega
        have hs8 : (Tryd.prog.info? 30).map (·.size) = some (wC hk).toList.length := by rw [sz8]; simp [wC, hkl8]
        have hAA : ∀ W, (Instr.arrayAt 51 (.slice (some ⟨g, o, none⟩) Lk.length ck)).run Tryd.prog W = .ok (.pointer (some ⟨g, o, none⟩)) W := fun W => run_arrayAt W 51 5 64 _ _ _ Tryd.underlying51 hge
        have hml := mixV_len hkl8 (Lk.take 64)
        obtain ⟨hm, hhm⟩ : ∃ hm, mixV hk (Lk.take 64) = hm := ⟨_, rfl⟩
        rw [hhm] at hml
        have hsm : (Tryd.prog.info? 30).map (·.size) = some (wC hm).size := by rw [sz8, wC_size, hml]
        have HMIX : Hid (∀ w', Gr wr w' → Calls Tryd.prog 22 #[.agg (wC hk), .agg (bC (Lk.take 64))] w' fun r w'' => r = .returned (.agg (wC hm)) ∧ Gr w' w'') := Lib.hid (fun w' g' => by
          have := mix_any hk (Lk.take 64) hkl8 hblk w' (HKY.out _ g')
          rw [hhm] at this
          exact this)
        have HHM := Lib.hid hhm
        clear hhm
        go_wp2
        refine region_T 14 (fun w' => Gr wr w') (by kernel_rfl) ?_
        refine anyT_take (i := 0) (v := ?_) (some 43) rfl rfl (by kernel_rfl) (fun _ _ _ h => h) (Or.inl ⟨by rfl, ?_⟩) hSS ?_
        rotate_left
        · intro w' hSw; go_simp; (try with_reducible rfl)
        simp only [Act.put, List.setIfInBounds_toArray, List.set_cons_zero, List.set_cons_succ]
        refine anyT_take (i := 1) (v := ?_) (some 44) rfl rfl (by kernel_rfl) (fun _ _ _ h => h) (Or.inl ⟨by rfl, ?_⟩) hSS ?_
        rotate_left
        · intro w' hSw; go_simp; (try with_reducible rfl)
        simp only [Act.put, List.setIfInBounds_toArray, List.set_cons_zero, List.set_cons_succ]
        refine anyT_take (i := 2) (v := ?_) (some 45) rfl rfl (by kernel_rfl) (fun _ _ _ h => h) (Or.inl ⟨by rfl, ?_⟩) hSS ?_
        rotate_left
        · intro w' hSw; go_simp; (try with_reducible rfl)
        simp only [Act.put, List.setIfInBounds_toArray, List.set_cons_zero, List.set_cons_succ]
        refine anyT_take (i := 3) (v := ?_) (some 46) rfl rfl (by kernel_rfl) (fun _ _ _ h => h) (Or.inl ⟨by rfl, ?_⟩) hSS ?_
        rotate_left
        · intro w' hSw; go_simp; (try with_reducible rfl)
        simp only [Act.put, List.setIfInBounds_toArray, List.set_cons_zero, List.set_cons_succ]
        refine anyT_take (i := 4) (some 47) rfl rfl (by kernel_rfl) (fun _ _ _ h => h) (yieldsIf_load_mid (by rfl) _ _ rfl _ _ rfl (wC hk).toList _ (fun w' hSw => (HSk.out.gr hSw).range hkl8) hu8 rfl hs8) hSS ?_
        simp only [Act.put, List.setIfInBounds_toArray, List.set_cons_zero, List.set_cons_succ, Array.toArray_toList]
        refine anyT_take (i := 5) (v := ?_) (some 48) rfl rfl (by kernel_rfl) (fun _ _ _ h => h) (Or.inl ⟨by rfl, ?_⟩) hSS ?_
        rotate_left
        · intro w' hSw; go_simp; (try with_reducible rfl)
        simp only [Act.put, List.setIfInBounds_toArray, List.set_cons_zero, List.set_cons_succ]
        refine anyT_take (i := 6) (v := ?_) (some 49) rfl rfl (by kernel_rfl) (fun _ _ _ h => h) (Or.inl ⟨by rfl, ?_⟩) hSS ?_
        rotate_left
        · intro w' hSw; go_simp; (try with_reducible rfl)
        simp only [Act.put, List.setIfInBounds_toArray, List.set_cons_zero, List.set_cons_succ]
        refine anyT_take (i := 7) (v := ?_) (some 50) rfl rfl (by kernel_rfl) (fun _ _ _ h => h) (Or.inl ⟨by rfl, ?_⟩) hSS ?_
        rotate_left
        · intro w' hSw; go_simp; (try with_reducible rfl)
        simp only [Act.put, List.setIfInBounds_toArray, List.set_cons_zero, List.set_cons_succ]
        refine anyT_take (i := 8) (v := ?_) (some 51) rfl rfl (by kernel_rfl) (fun _ _ _ h => h) (Or.inl ⟨by rfl, ?_⟩) hSS ?_
        rotate_left
        · intro w' hSw; have c9' : w'.cell? ⟨b, 9, none⟩ = some (.slice (some ⟨g, o, none⟩) Lk.length ck) := (HSk.out.gr hSw).at_ (j := 9) rfl; go_simp; (try with_reducible rfl)
        simp only [Act.put, List.setIfInBounds_toArray, List.set_cons_zero, List.set_cons_succ]
        refine anyT_take (i := 9) (v := ?_) (some 52) rfl rfl (by kernel_rfl) (fun _ _ _ h => h) (Or.inl ⟨by rfl, ?_⟩) hSS ?_
        rotate_left
        · intro w' hSw; go_simp; (try with_reducible rfl)
        simp only [Act.put, List.setIfInBounds_toArray, List.set_cons_zero, List.set_cons_succ]
        refine anyT_take (i := 10) (some 53) rfl rfl (by kernel_rfl) (fun _ _ _ h => h) (yieldsIf_load_mid (by rfl) _ _ rfl _ _ rfl (bC (Lk.take 64)).toList _ (fun w' hSw => (HOk.out.gr hSw).range 64 hge) hu64 rfl hs64) hSS ?_
        simp only [Act.put, List.setIfInBounds_toArray, List.set_cons_zero, List.set_cons_succ, Array.toArray_toList]
        refine anyT_call (i := 11) (some 54) 22 #[.agg (wC hk), .agg (bC (Lk.take 64))] (by kernel_rfl) rfl rfl rfl (by kernel_rfl) ?_
        refine (HMIX.out _ hSS).mono ?_
        rintro r wc ⟨rfl, hgc⟩
        replace hSS := hSS.tr hgc
        refine ⟨_, rfl, fun _ => hSS, ?_⟩
        simp only [Act.put, List.setIfInBounds_toArray, List.set_cons_zero, List.set_cons_succ]
        refine anyT_take (i := 12) (v := ?_) (some 55) rfl rfl (by kernel_rfl) (fun _ _ _ h => h) (Or.inl ⟨by rfl, ?_⟩) hSS ?_
        rotate_left
        · intro w' hSw; go_simp; (try with_reducible rfl)
        simp only [Act.put, List.setIfInBounds_toArray, List.set_cons_zero, List.set_cons_succ]
        refine anyT_take (i := 13) (v := ?_) (some 56) rfl rfl (by kernel_rfl) (fun _ _ _ h => h) (Or.inl ⟨by rfl, ?_⟩) hSS ?_
        rotate_left
        · intro w' hSw; go_simp; (try with_reducible rfl)
        simp only [Act.put, List.setIfInBounds_toArray, List.set_cons_zero, List.set_cons_succ]
        have hSc := Lib.hid (HSk.out.gr hSS)
        have hOc := Lib.hid (HOk.out.gr hSS)
        refine anyT_store 30 (.tmp 56) (.tmp 54) (by kernel_rfl) (by kernel_rfl) rfl rfl rfl rfl b 1 (wC hm) rfl rfl (by rw [wC_size, hml]; exact hSc.out.there) hsm (wC_one hm) ?_
        obtain ⟨ws, hws⟩ : ∃ ws, wc.setCells b 1 (wC hm).toList = ws := ⟨_, rfl⟩
        have hSs : SumAt ws b true hm (.slice (some ⟨g, o, none⟩) Lk.length ck) (n + t.size) := by rw [← hws]; exact hSc.out.setH hm hml
        have hOs : OwnB ws B (.slice (some ⟨g, o, none⟩) Lk.length ck) Lk := by
          rw [← hws]
          have hne := hSc.out.ne hOc.out
          exact hOc.out.kept (fun k hk => heap_setCells_other (fun e => hne (by rw [hk, e])) _ _ _)
        have hGs : Below B w ws := by
          have h1 : Below B w wc := HGk.out.trans (hSS.mono (Nat.le_trans hBw HGk.out.size))
          rw [← hws]
          exact ⟨(os_setCells _ _ _).1.trans h1.os, (os_setCells _ _ _).2.1.trans h1.tape, (os_setCells _ _ _).2.2.trans h1.output, by rw [size_setCells]; exact h1.size, fun k hk => (heap_setCells_other (by omega) _ _ _).trans (h1.block k hk)⟩
        rw [hws]
        have HSs := Lib.hid hSs
        have HOs := Lib.hid hOs
        have HGs := Lib.hid hGs
        clear hSs hOs hGs hws hSc hOc hSS hgc hAA hu64 hu8 hs64 hs8 hsm HMIX HKY c9
        have c9 : ws.cell? ⟨b, 9, none⟩ = some (.slice (some ⟨g, o, none⟩) Lk.length ck) := HSs.out.at_ (j := 9) rfl
        have f9 := HSs.out.frz 9
        have hne := HSs.out.ne HOs.out
        have hbk : ∀ W : World, ∀ u : Value, W = ws.setCell ⟨b, 9, none⟩ u → ∀ k, (Value.slice (some ⟨g, o, none⟩) Lk.length ck).ownBlock = some k → W.heap[k]? = ws.heap[k]? := fun W u hW k hk => by
          rw [hW]; exact heap_set_other (fun e => hne (by rw [hk, e])) _
        have HBK := Lib.hid hbk
        clear hbk hne
        by_cases hcap : ck = 64
        · subst hcap
          have e0 : Lk.length - 64 = 0 := by omega
          have hOd : OwnB (ws.setCell ⟨b, 9, none⟩ (.slice (some ⟨g, o, none⟩) (Lk.length - 64) 0)) B (.slice (some ⟨g, o, none⟩) (Lk.length - 64) 0) (Lk.drop 64) := (HOs.out.kept (HBK.out _ _ rfl)).end_ 64 rfl hge
          have hSd := HSs.out.setV (.slice (some ⟨g, o, none⟩) (Lk.length - 64) 0)
          have hGd := HGs.out.setCell (p := ⟨b, 9, none⟩) hBb (.slice (some ⟨g, o, none⟩) (Lk.length - 64) 0)
          rw [← HHM.out, ← HB1.out] at hSd
          rw [← HD1.out] at hOd
          rw [e0] at hSd hOd hGd
          have HSd := Lib.hid hSd
          have HOd := Lib.hid hOd
          have HGd := Lib.hid hGd
          clear hSd hOd hGd e0
          go_wp2
          go_roundg (L.length / 64 - (k + 1))
          case measure => have := HGKK.out; have := HDL.out; omega
          case rel => exact ⟨k + 1, _, rfl, by have := HDL.out; omega, HSd, HOd, HGd⟩
        · have hcap2 : 64 < ck := by omega
          have hOd : OwnB (ws.setCell ⟨b, 9, none⟩ (.slice (some ⟨g, o + 64, none⟩) (Lk.length - 64) (ck - 64))) B (.slice (some ⟨g, o + 64, none⟩) (Lk.length - 64) (ck - 64)) (Lk.drop 64) := (HOs.out.kept (HBK.out _ _ rfl)).drop 64 hge
          have hSd := HSs.out.setV (.slice (some ⟨g, o + 64, none⟩) (Lk.length - 64) (ck - 64))
          have hGd := HGs.out.setCell (p := ⟨b, 9, none⟩) hBb (.slice (some ⟨g, o + 64, none⟩) (Lk.length - 64) (ck - 64))
          rw [← HHM.out, ← HB1.out] at hSd
          rw [← HD1.out] at hOd
          have HSd := Lib.hid hSd
          have HOd := Lib.hid hOd
          have HGd := Lib.hid hGd
          clear hSd hOd hGd
          go_wp2
          go_roundg (L.length / 64 - (k + 1))
          case measure => have := HGKK.out; have := HDL.out; omega
          case rel => exact ⟨k + 1, _, rfl, by have := HDL.out; omega, HSd, HOd, HGd⟩
      · have hgi : ¬ (64 : Int) ≤ (Lk.length : Int) := by omega
        go_wp2
        go_end0
        have e64 : L.length / 64 = k := by have := HDL.out; omega
        rw [e64, HLk.out, HSE.out]
        exact ⟨rfl, ⟨_, HSk.out, HOk.out⟩, HPO.out _ HGk.out⟩
end Go.Proofs.YtkbomgjeoaophaaDoor
