/- Joined texts: SynK SrtC SynL SrtS. -/
import Derived.Test.YtfobnemocodomaaZBf
import Derived.Test.YtfobnemocodomaaZBp
set_option linter.unusedVariables false
set_option linter.unusedSimpArgs false
set_option maxHeartbeats 2000000
namespace Go.Proofs.Ytfobnemocodomaa
open Go.RowKit Go.Great

theorem cut_addrI (i : Nat) (gl : Nat) : ((⟨gl, 0, none⟩ : Addr).add (i * 5)) = ⟨gl, i * 5, none⟩ := by rw [add_mid', Nat.zero_add]
/-- the row that is cut, beside the leaves that cover -/
structure CovK (gl : Nat) (w0 : World) (A : Option Addr) (rs : List VRow) (g capA : Nat) (W : World) : Prop where
  ne : g ≠ gl
  len : rs.length ≤ 9223372036854775807
  cl : W.cell? ⟨g, 0, none⟩ = some (.slice A rs.length capA)
  row : ∀ i (h : i < rs.length), ∃ ad, A = some ad ∧ ad.block ≠ gl ∧ W.cell? (ad.add i) = some (.slice rs[i].A rs[i].l.length rs[i].cap)
  vs : ∀ i (h : i < rs.length), Vers w0 rs[i].A rs[i].l
theorem add_block (a : Addr) (i : Nat) : (a.add i).block = a.block := by unfold Addr.add; split <;> rfl
theorem Sg.cell {gl : Nat} {w wt : World} (h : Sg gl w wt) {p : Addr} (hp : p.block ≠ gl) {v : Value} (hc : w.cell? p = some v) : wt.cell? p = some v := by
  rw [← hc]; simp only [World.cell?, h.keep _ hp]
theorem CovK.gr {gl : Nat} {w0 W W' : World} {A : Option Addr} {rs : List VRow} {g capA : Nat} (h : CovK gl w0 A rs g capA W) (k : Gr W W') : CovK gl w0 A rs g capA W' :=
  ⟨h.ne, h.len, k.cell h.cl, fun i hi => let ⟨ad, e, n, c⟩ := h.row i hi; ⟨ad, e, n, k.cell c⟩, h.vs⟩
theorem CovK.sg {gl : Nat} {w0 W W' : World} {A : Option Addr} {rs : List VRow} {g capA : Nat} (h : CovK gl w0 A rs g capA W) (k : Sg gl W W') : CovK gl w0 A rs g capA W' :=
  ⟨h.ne, h.len, k.cell h.ne h.cl, fun i hi => let ⟨ad, e, n, c⟩ := h.row i hi; ⟨ad, e, n, k.cell (by rw [add_block]; exact n) c⟩, h.vs⟩
theorem CovK.rows {gl : Nat} {w0 W : World} {A : Option Addr} {rs : List VRow} {g capA : Nat} (h : CovK gl w0 A rs g capA W) (k : Gr w0 W) : VRows W A rs :=
  ⟨h.len, fun i hi => let ⟨ad, e, _, c⟩ := h.row i hi; ⟨ad, e, c, (h.vs i hi).gr k⟩⟩
structure RK (w0 : World) (gl : Nat) (A : Option Addr) (rs : List VRow) (g capA : Nat) (xs : List Vx) (W : World) : Prop where
  rs' : RS w0 gl xs W
  k : CovK gl w0 A rs g capA W
theorem RK.next {w0 : World} {gl : Nat} {A : Option Addr} {rs : List VRow} {g capA : Nat} {xs : List Vx} {W W' : World} (h : RK w0 gl A rs g capA xs W) (k : Gr W W') : RK w0 gl A rs g capA xs W' := ⟨h.rs'.next k, h.k.gr k⟩
set_option maxRecDepth 100000 in
theorem dele_any (gl n cap : Nat) (l : List Vx) (A : Option Addr) (capA : Nat) (rs : List VRow) (g : Nat) (w0 w : World) (hR : RK w0 gl A rs g capA l w) (hn : l.length = n) (hnc : n ≤ cap) (hlb : n ≤ 1000000)
    (hlr : (allV rs).length ≤ 1000000) (ho : vsOk w0 l) :
    Calls Try.prog 104 #[.slice (some ⟨gl, 0, none⟩) n cap, .func (.func 160) #[] #[.pointer (some ⟨g, 0, none⟩)]] w fun r w' =>
      r = .returned (.slice (some ⟨gl, 0, none⟩) (unc (allV rs) l).length cap) ∧ RS w0 gl (unc (allV rs) l) w' := by
  have R0 := Lib.hid hR
  have hv := hR.rs'.vers (fun x hx => (ho x hx).gr hR.rs'.gr) (by omega)
  have hidx := cov1Index_any (some ⟨gl, 0, none⟩) cap l A capA rs g w hv (hR.k.rows hR.rs'.gr) hR.k.cl hlr
  rw [hn] at hidx
  have HN := Lib.hid hn
  have HCC : Hid (∀ (x : Vx) (W : World) (xs : List Vx), RK w0 gl A rs g capA xs W → Calls Try.prog 160 #[.agg x.cells, .pointer (some ⟨g, 0, none⟩)] W fun e w' => e = .returned (.bool (covB (allV rs) x.P x.C)) ∧ Gr W w') := Lib.hid (fun x W _ h => cov1_any A capA rs x g W (h.k.rows h.rs'.gr) h.k.cl hlr)
  obtain ⟨ad, had⟩ : ∃ ad, (⟨gl, 0, none⟩ : Addr) = ad := ⟨_, rfl⟩
  have HAD : Hid (ad = ⟨gl, 0, none⟩) := Lib.hid had.symm
  rw [had] at hidx ⊢
  rcases cvIdx_cases (allV rs) l 0 with ⟨h1, h2, _⟩ | ⟨k0, hk0, h1, h2, h3⟩
  · rw [h1] at hidx
    have HI := Lib.hid hidx
    have H2 := Lib.hid h2
    clear hidx h1 h2 hv hn had hR ho
    go_enter Try.func104, Try.ntmps104
    go_wp2_with fail
    refine (HI.out).mono ?_
    rintro r w1 ⟨rfl, g1⟩
    go_wp2
    go_ret
    rw [H2.out]
    refine ⟨?_, (R0.out.next g1).rs'⟩
    have := HN.out
    subst this
    rfl
  · rw [h1, Int.zero_add] at hidx
    have HI := Lib.hid hidx
    have hk0n : k0 < n := by omega
    have HS : Hid (unc (allV rs) (l.take (k0 + 1)) = l.take k0) := Lib.hid (by have e := unc_take (m := allV rs) hk0; rw [h2, if_pos h3, List.append_nil] at e; exact e)
    have HK0 := Lib.hid hk0
    have hkm : ((k0 : Int) == -1) = false := by simp
    clear hidx h1 h2 h3 hv hn had hR ho hk0
    have hu0 : Hid (∃ kept mid, kept = unc (allV rs) (l.take (k0 + 1)) ∧ kept.length = k0 ∧ mid.length = k0 + 1 - k0 ∧ RK w0 gl A rs g capA (kept ++ (mid ++ l.drop (k0 + 1))) w) := Lib.hid (by
      refine ⟨l.take k0, [l[k0]'HK0.out], HS.out.symm, by rw [List.length_take]; have := HK0.out; omega, by simp, ?_⟩
      have e : l.take k0 ++ ([l[k0]'HK0.out] ++ l.drop (k0 + 1)) = l := by
        rw [List.singleton_append, ← List.drop_eq_getElem_cons HK0.out, List.take_append_drop]
      rw [e]; exact R0.out)
    go_enter Try.func104, Try.ntmps104
    go_wp2_with fail
    refine (HI.out).mono ?_
    rintro r w1 ⟨rfl, g1⟩
    have hu1 : Hid (∃ kept mid, kept = unc (allV rs) (l.take (k0 + 1)) ∧ kept.length = k0 ∧ mid.length = k0 + 1 - k0 ∧ RK w0 gl A rs g capA (kept ++ (mid ++ l.drop (k0 + 1))) w1) := Lib.hid (by
      obtain ⟨a, b, c1, c2, c3, c4⟩ := hu0.out
      exact ⟨a, b, c1, c2, c3, c4.next g1⟩)
    clear hu0 R0 g1
    go_wp2
    go_loopw [5, 6] (fun s t wr => ∃ i j : Nat, s = .int .i64 i ∧ t = .int .i64 j ∧ i < j ∧ j ≤ n ∧ Hid (∃ kept mid, kept = unc (allV rs) (l.take j) ∧ kept.length = i ∧ mid.length = j - i ∧ RK w0 gl A rs g capA (kept ++ (mid ++ l.drop j)) wr)) (fun _ t _ => n - (intOf t).toNat)
    case atStart => exact ⟨k0, k0 + 1, rfl, by go_num, by omega, by omega, hu1⟩
    case round =>
      clear hu1 hk0n hkm HS
      obtain ⟨i, j, rfl, rfl, hij, hjn, HU⟩ := hrel
      by_cases hlt : j < n
      · have hji : (j : Int) < n := by omega
        have hjl : j < l.length := by rw [HN.out]; exact hlt
        obtain ⟨x, hx⟩ : ∃ x, l[j] = x := ⟨_, rfl⟩
        obtain ⟨kept, mid, hk, hkl, hml, hR⟩ := HU.out
        have hut := unc_take (m := allV rs) hjl
        rw [hx, ← hk] at hut
        have ed : l.drop j = x :: l.drop (j + 1) := by rw [List.drop_eq_getElem_cons hjl, hx]
        rw [ed] at hR
        have hget : (kept ++ (mid ++ x :: l.drop (j + 1)))[j]? = some x := by
          rw [← List.append_assoc]
          have e : j = (kept ++ mid).length := by rw [List.length_append]; omega
          conv => lhs; rw [e]
          exact get_mid _ _ _
        have hlen : (kept ++ (mid ++ x :: l.drop (j + 1))).length = n := by
          have hh := HN.out
          simp only [List.length_append, List.length_cons, List.length_drop]
          omega
        have LX : Hid (∀ q v, x.cells.toList[q]? = some v → wr.cell? ((ad.add (j * 5)).add q) = some v) := Lib.hid (fun q v hq => hR.rs'.ld HAD.out hget q v hq)
        have HR := Lib.hid hR
        have hc := fun (W : World) (g : Gr wr W) => HCC.out x W _ (HR.out.next g)
        by_cases hq : covB (allV rs) x.P x.C = true
        · simp only [hq] at hc
          have HC := Lib.hid hc
          have HF : Hid (∀ W', RK w0 gl A rs g capA (kept ++ (mid ++ x :: l.drop (j + 1))) W' → ∃ kept mid, kept = unc (allV rs) (l.take (j + 1)) ∧ kept.length = i ∧ mid.length = j + 1 - i ∧ RK w0 gl A rs g capA (kept ++ (mid ++ l.drop (j + 1))) W') := Lib.hid (fun W' h => by
            rw [if_pos hq, List.append_nil] at hut
            exact ⟨kept, mid ++ [x], hut.symm, hkl, by simp; omega, by simpa using h⟩)
          clear hc hq hR hut ed hget hlen hk hkl hml HU hx
          go_upto_region 8 with (first
            | refine ld_at rfl 49 (.tmp 24) rfl _ rfl x.cells.toList _ LX.out Try.underlying49 rfl (by kernel_rfl) ?_
            | refine allocV rfl rfl ?_
            | (refine storeV x rfl (.tmp 7) _ rfl rfl rfl rfl ?_; intro W1 hx1 hg1; obtain ⟨gX, hgX⟩ : ∃ g, wr.heap.size = g := ⟨_, rfl⟩; rw [hgX] at hx1 ⊢; have HX1 := Lib.hid hx1; have G1 := Lib.hid hg1; clear hx1 hg1 hgX))
          go_wp2_with (first | refine wpList_load_row rfl 49 (.tmp 7) rfl gX rfl 49 x.cells (0, 0) _ HX1.out Try.underlying49 rfl (by kernel_rfl) ?_)
          refine (HC.out W1 G1.out).mono ?_
          rintro e w4 ⟨rfl, hg4⟩
          have HX4 := Lib.hid ((hg4.block _ (Array.getElem?_eq_some_iff.1 HX1.out).1).trans HX1.out)
          have HR4 := Lib.hid (HR.out.next (G1.out.tr hg4))
          clear HX1 G1 hg4 HR LX
          go_wp2
          go_roundw
          case rel => exact ⟨i, j + 1, rfl, by go_num, by omega, by omega, Lib.hid (HF.out _ HR4.out)⟩
          case measure => simp [intOf]; omega
        · have hq : covB (allV rs) x.P x.C = false := by simpa using hq
          simp only [hq] at hc
          have HC := Lib.hid hc
          have HF : Hid (∀ W', RK w0 gl A rs g capA ((kept ++ (mid ++ x :: l.drop (j + 1))).set i x) W' → ∃ kept mid, kept = unc (allV rs) (l.take (j + 1)) ∧ kept.length = i + 1 ∧ mid.length = j + 1 - (i + 1) ∧ RK w0 gl A rs g capA (kept ++ (mid ++ l.drop (j + 1))) W') := Lib.hid (fun W' h => by
            rw [if_neg (by rw [hq]; simp)] at hut
            cases mid with
            | nil => simp at hml; omega
            | cons m0 mr =>
              refine ⟨kept ++ [x], mr ++ [x], hut.symm, by simp; omega, by simp at hml ⊢; omega, ?_⟩
              rw [← hkl, List.cons_append, set_mid] at h
              simpa using h)
          have HL : Hid (i < (kept ++ (mid ++ x :: l.drop (j + 1))).length) := Lib.hid (by rw [hlen]; omega)
          have z1 : (0 : Int) ≤ i := by omega
          have z2 : (i : Int) < n := by omega
          clear hc hq hR hut ed hget hlen hk hkl hml HU hx
          go_upto_region 8 with (first
            | refine ld_at rfl 49 (.tmp 24) rfl _ rfl x.cells.toList _ LX.out Try.underlying49 rfl (by kernel_rfl) ?_
            | refine allocV rfl rfl ?_
            | (refine storeV x rfl (.tmp 7) _ rfl rfl rfl rfl ?_; intro W1 hx1 hg1; obtain ⟨gX, hgX⟩ : ∃ g, wr.heap.size = g := ⟨_, rfl⟩; rw [hgX] at hx1 ⊢; have HX1 := Lib.hid hx1; have G1 := Lib.hid hg1; clear hx1 hg1 hgX))
          go_wp2_with (first | refine wpList_load_row rfl 49 (.tmp 7) rfl gX rfl 49 x.cells (0, 0) _ HX1.out Try.underlying49 rfl (by kernel_rfl) ?_)
          refine (HC.out W1 G1.out).mono ?_
          rintro e w4 ⟨rfl, hg4⟩
          have HX4 := Lib.hid ((hg4.block _ (Array.getElem?_eq_some_iff.1 HX1.out).1).trans HX1.out)
          have HR4 := Lib.hid (HR.out.next (G1.out.tr hg4))
          clear HX1 G1 hg4 HR LX
          go_wp2_with (first
            | refine wpList_load_row rfl 49 (.tmp 7) rfl gX rfl 49 x.cells (0, 0) _ HX4.out Try.underlying49 rfl (by kernel_rfl) ?_
            | (refine storeR x ad i HAD.out rfl (.tmp 33) (.tmp 32) rfl rfl rfl rfl HR4.out.rs' HL.out ?_; intro w5 hR5 hs5; have HR5 := Lib.hid (RK.mk hR5 (HR4.out.k.sg hs5)); clear hR5 hs5))
          go_roundw
          case rel => exact ⟨i + 1, j + 1, by go_num, by go_num, by omega, by omega, Lib.hid (HF.out _ HR5.out)⟩
          case measure => simp [intOf]; omega
      · have hji : ¬ (j : Int) < n := by omega
        have hjn' : j = n := by omega
        subst hjn'
        have HF : Hid (∃ mid, (unc (allV rs) l).length = i ∧ mid.length = j - i ∧ RK w0 gl A rs g capA (unc (allV rs) l ++ mid) wr) := Lib.hid (by
          obtain ⟨kept, mid, hk, hkl, hml, hR⟩ := HU.out
          rw [List.take_of_length_le (by have := HN.out; omega)] at hk
          rw [List.drop_of_length_le (by have := HN.out; omega), List.append_nil] at hR
          exact ⟨mid, by rw [← hk]; exact hkl, hml, by rw [← hk]; exact hR⟩)
        clear HU
        have z1 : (0 : Int) ≤ i := by omega
        have z2 : (i : Int) ≤ j := by omega
        have z3 : (j : Int) ≤ cap := by omega
        have z4 : (i : Int) ≤ cap := by omega
        have hc1 : ¬ (cap - i = 0) := by omega
        have hc2 : ¬ (cap = i) := by omega
        have hh := HAD.out
        subst hh
        obtain ⟨mid, hf1, hf2, hf3⟩ := HF.out
        obtain ⟨uu, huu⟩ : ∃ u, unc (allV rs) l = u := ⟨_, rfl⟩
        rw [huu] at hf1 hf3
        have HUU := Lib.hid huu
        have HX := Lib.hid hf3
        have HLN : Hid (0 < j - i ∧ i + (j - i) = (uu ++ mid).length) := Lib.hid (by rw [List.length_append]; omega)
        have HT : Hid ((uu ++ mid).take i = uu) := Lib.hid (by rw [← hf1, List.take_left])
        have HU := Lib.hid hf1
        clear hf1 hf2 hf3 huu HF
        go_wp2_with (refine clearR i (j - i) (cap - i) rfl (.tmp 38) rfl rfl rfl HX.out.rs' HLN.out.1 HLN.out.2 ?_; intro w5 hR5 _; rw [HT.out] at hR5; have HR5 := Lib.hid hR5; clear hR5)
        go_ret
        rw [HUU.out, HU.out]
        exact ⟨rfl, HR5.out⟩
theorem fil_unc (X : List Vx) : filS X = unc X X := rfl
set_option maxRecDepth 100000 in
theorem deleNil_any (A : Option Addr) (capA : Nat) (rs : List VRow) (g : Nat) (w : World) (hV : VRows w A rs) (hgc : w.cell? ⟨g, 0, none⟩ = some (.slice A rs.length capA)) (hlr : (allV rs).length ≤ 1000000) :
    Calls Try.prog 104 #[.slice none 0 0, .func (.func 160) #[] #[.pointer (some ⟨g, 0, none⟩)]] w fun r w' => r = .returned (.slice none 0 0) ∧ Gr w w' := by
  have HI := Lib.hid (cov1Index_any none 0 [] A capA rs g w ⟨by simp, fun i hi => absurd hi (by simp)⟩ hV hgc hlr)
  go_enter Try.func104, Try.ntmps104
  go_wp2_with fail
  refine (HI.out).mono ?_
  rintro r w1 ⟨rfl, g1⟩
  go_wp2
  go_ret
  exact ⟨rfl, g1⟩
theorem VRows.two {w : World} {A B : Option Addr} {ca cb : Nat} {a b : List Vx} (ha : Vers w A a) (hb : Vers w B b) (t : TypeId) : VRows (w.alloc (.cells #[.slice A a.length ca, .slice B b.length cb] t)) (some ⟨w.heap.size, 0, none⟩) [⟨A, ca, a⟩, ⟨B, cb, b⟩] := by
  obtain ⟨k0, k1⟩ := two_ints (W := w) (.slice A a.length ca) (.slice B b.length cb) t
  have hg : Gr w (w.alloc (.cells #[.slice A a.length ca, .slice B b.length cb] t)) := (Gr.rfl' w).al _
  refine ⟨by simp, fun i hi => ⟨_, rfl, ?_⟩⟩
  rw [add_mid', Nat.zero_add]
  match i, hi with
  | 0, _ => exact ⟨k0, ha.gr hg⟩
  | 1, _ => exact ⟨k1, hb.gr hg⟩
theorem allV_two (A B : Option Addr) (ca cb : Nat) (a b : List Vx) : allV [⟨A, ca, a⟩, ⟨B, cb, b⟩] = a ++ b := by simp [allV]
end Go.Proofs.Ytfobnemocodomaa
set_option linter.unusedVariables false
set_option linter.unusedSimpArgs false
set_option maxHeartbeats 2000000
namespace Go.Proofs.Ytfobnemocodomaa
open Go.RowKit Go.Great

abbrev ltV (x y : Vx) : Bool := ltk Vx.P Vx.C x y
abbrev MrgV (r l : List Vx) : Prop := Mrg Vx.P Vx.C r l
theorem synC_lt (x y : Vx) : synC x y < 0 ↔ ltV x y = true := by
  unfold synC orC cmpC ltV ltk
  simp only [decide_eq_true_eq]
  by_cases h1 : x.P < y.P
  · rw [if_pos h1]; simp; omega
  · rw [if_neg h1]
    by_cases h2 : y.P < x.P
    · rw [if_pos h2]; simp; omega
    · rw [if_neg h2]
      by_cases h3 : y.C < x.C
      · rw [if_pos h3]; simp; omega
      · rw [if_neg h3]
        by_cases h4 : x.C < y.C
        · rw [if_pos h4]; simp; omega
        · rw [if_neg h4]; simp; omega
theorem set_swap2 (x z : List Vx) (p q : Vx) : ((x ++ p :: q :: z).set (x.length + 1) p).set x.length q = x ++ q :: p :: z := by
  have e : x ++ p :: q :: z = (x ++ [p]) ++ q :: z := by simp
  have h : (x ++ [p]).length = x.length + 1 := by simp
  rw [e, ← h, set_mid, show x ++ [p] ++ p :: z = x ++ p :: p :: z by simp, set_mid]
theorem get_at0 (x z : List Vx) (p q : Vx) : (x ++ p :: q :: z)[x.length]? = some p ∧ (x ++ p :: q :: z)[x.length + 1]? = some q := by
  refine ⟨get_mid _ _ _, ?_⟩
  have e : x ++ p :: q :: z = (x ++ [p]) ++ q :: z := by simp
  have h : (x ++ [p]).length = x.length + 1 := by simp
  rw [e, ← h, get_mid]
/-- one more is set into its place -/
theorem ins_step {S1 S2 U : List Vx} {x : Vx} {k : Nat} (hx0 : U[k]? = some x) (hM : MrgV (S1 ++ S2) (U.take k)) (h2 : ∀ y ∈ S2, ltV x y = true) (h1 : S1 = [] ∨ ∃ T y, S1 = T ++ [y] ∧ ltV x y = false) :
    MrgV (S1 ++ x :: S2) (U.take (k + 1)) := by
  obtain ⟨hk, hx⟩ := List.getElem?_eq_some_iff.1 hx0
  have hs := hM.srt
  have ha : ∀ z ∈ S1, ltV x z = false := by
    intro z hz
    rcases h1 with rfl | ⟨T, y, rfl, hy⟩
    · cases hz
    · rcases List.mem_append.1 hz with hz | hz
      · exact ltk_trans1 (Srt.cross (Srt.left hs) z hz y (by simp)) hy
      · simp at hz; subst hz; exact hy
  have hi := Mrg.ins2 (v := x) hs (i := S1.length) (by simp) (by rw [List.take_left]; exact ha) (by rw [List.drop_left]; exact h2)
  rw [List.take_left, List.drop_left] at hi
  have hU : U.take (k + 1) = U.take k ++ [x] := by rw [List.take_succ_eq_append_getElem hk, hx]
  rw [hU]
  refine ⟨?_, hi.srt, hi.stb.trans (hM.stb.app (Stb.refl _))⟩
  have a := hi.len
  have b := hM.len
  simp only [List.length_append, List.length_cons, List.length_nil] at *
  omega
set_option maxRecDepth 100000 in
theorem insert_any (gl n cap a b : Nat) (X U Z : List Vx) (w0 w : World) (hR : RS w0 gl (X ++ (U ++ Z)) w) (ha : X.length = a) (hb : a + U.length = b) (hn : (X ++ (U ++ Z)).length = n) (hlb : n ≤ 1000000) :
    Calls Try.prog 198 #[.slice (some ⟨gl, 0, none⟩) n cap, .int .i64 a, .int .i64 b, synF] w fun r w' => r = .returned (.tuple #[]) ∧ ∃ R, MrgV R U ∧ RS w0 gl (X ++ (R ++ Z)) w' := by
  have hlen : n = X.length + (U.length + Z.length) := by rw [← hn]; simp
  have R0 := Lib.hid hR
  obtain ⟨ad, had⟩ : ∃ ad, (⟨gl, 0, none⟩ : Addr) = ad := ⟨_, rfl⟩
  have HAD : Hid (ad = ⟨gl, 0, none⟩) := Lib.hid had.symm
  rw [had]
  have hb6 : b ≤ n := by omega
  have hab : a ≤ b := by omega
  have hb7 : b ≤ 1000000 := by omega
  have HX := Lib.hid ha
  have HU := Lib.hid hb
  have HN := Lib.hid hn
  clear hR ha hb hn hlen had
  have v1 : IntKind.i64.wrap ((a : Int) + 1) = ((a + 1 : Nat) : Int) := wrapk _ _ (by omega) (by omega)
  go_enter Try.func198, Try.ntmps198
  go_wp2
  go_loopw [8] (fun s wr => ∃ i : Nat, s = .int .i64 i ∧ a + 1 ≤ i ∧ i ≤ b + 1 ∧ Hid (∃ S, MrgV S (U.take (i - a)) ∧ RS w0 gl (X ++ (S ++ (U.drop (i - a) ++ Z))) wr)) (fun s _ => b + 1 - (intOf s).toNat)
  case atStart =>
    refine ⟨a + 1, rfl, Nat.le_refl _, by omega, Lib.hid ⟨U.take 1, ?_, ?_⟩⟩
    · rw [show a + 1 - a = 1 by omega]
      refine Mrg.refl ?_
      cases U with
      | nil => exact List.Pairwise.nil
      | cons u r => simp [Srt]
    · rw [show a + 1 - a = 1 by omega, ← List.append_assoc (U.take 1), List.take_append_drop]
      exact R0.out
  case round =>
    clear R0 v1
    obtain ⟨i, rfl, hi1, hi2, HS⟩ := hrel
    by_cases hlt : i < b
    · have hib : (i : Int) < b := by omega
      have hk : i - a < U.length := by have := HU.out; omega
      obtain ⟨x, hx⟩ : ∃ x, U[i - a] = x := ⟨_, rfl⟩
      have HUX : Hid (U[i - a]? = some x) := Lib.hid (by rw [← hx]; exact List.getElem?_eq_getElem hk)
      have ed : U.drop (i - a) = x :: U.drop (i - a + 1) := by rw [List.drop_eq_getElem_cons hk, hx]
      have HS0 : Hid (∃ S1 S2, a + S1.length = i ∧ MrgV (S1 ++ S2) (U.take (i - a)) ∧ (∀ y ∈ S2, ltV x y = true) ∧ RS w0 gl (X ++ (S1 ++ (x :: (S2 ++ (U.drop (i - a + 1) ++ Z))))) wr) := Lib.hid (by
        obtain ⟨S, hM, hR⟩ := HS.out
        have hl := hM.len
        rw [List.length_take] at hl
        refine ⟨S, [], by omega, by simpa using hM, by simp, ?_⟩
        rw [ed] at hR
        simpa using hR)
      clear HS hx ed hk
      go_wp2
      go_loopw [9] (fun s wi => ∃ j : Nat, s = .int .i64 j ∧ a ≤ j ∧ j ≤ i ∧ Hid (∃ S1 S2, a + S1.length = j ∧ MrgV (S1 ++ S2) (U.take (i - a)) ∧ (∀ y ∈ S2, ltV x y = true) ∧ RS w0 gl (X ++ (S1 ++ (x :: (S2 ++ (U.drop (i - a + 1) ++ Z))))) wi)) (fun s _ => (intOf s).toNat)
      case atStart => exact ⟨i, rfl, by omega, Nat.le_refl _, HS0⟩
      case round =>
        clear HS0
        obtain ⟨j, rfl, hj1, hj2, HJ⟩ := hrel
        by_cases hja : j = a
        · subst hja
          have hgt : ¬ ((j : Int) > (j : Int)) := by omega
          have HE : Hid (∃ S, MrgV S (U.take (i + 1 - j)) ∧ RS w0 gl (X ++ (S ++ (U.drop (i + 1 - j) ++ Z))) wr.drew) := Lib.hid (by
            obtain ⟨S1, S2, h1, hM, h2, hR⟩ := HJ.out
            obtain rfl : S1 = [] := List.eq_nil_of_length_eq_zero (by omega)
            rw [show i + 1 - j = i - j + 1 by omega]
            exact ⟨x :: S2, ins_step HUX.out hM h2 (Or.inl rfl), by simpa using hR.next (Gr.rfl' wr).dr⟩)
          clear HJ
          go_upto_region 4 with (fail)
          have hSS : Gr wr wr.drew := (Gr.rfl' _).dr
          refine region_T 16 (fun w' => Gr wr w') (by kernel_rfl) ?_
          refine anyT_take (i := 0) (v := ?_) (some 18) rfl rfl (by kernel_rfl) (fun _ _ _ h => h) (Or.inl ⟨by rfl, ?_⟩) hSS ?_
          rotate_left
          · intro w' hSw; go_simp; (try with_reducible rfl)
          simp only [Act.put, List.setIfInBounds_toArray, List.set_cons_zero, List.set_cons_succ]
          refine anyT_take (i := 1) (v := ?_) (some 19) rfl rfl (by kernel_rfl) (fun _ _ _ h => h) (Or.inl ⟨by rfl, ?_⟩) hSS ?_
          rotate_left
          · intro w' hSw; go_simp; (try with_reducible rfl)
          simp only [Act.put, List.setIfInBounds_toArray, List.set_cons_zero, List.set_cons_succ]
          refine anyT_take (i := 2) (v := ?_) (some 20) rfl rfl (by kernel_rfl) (fun _ _ _ h => h) (Or.inl ⟨by rfl, ?_⟩) hSS ?_
          rotate_left
          · intro w' hSw; go_simp; (try with_reducible rfl)
          simp only [Act.put, List.setIfInBounds_toArray, List.set_cons_zero, List.set_cons_succ]
          refine anyT_take (i := 3) (v := ?_) (some 21) rfl rfl (by kernel_rfl) (fun _ _ _ h => h) (Or.inl ⟨by rfl, ?_⟩) hSS ?_
          rotate_left
          · intro w' hSw; go_simp; (try with_reducible rfl)
          simp only [Act.put, List.setIfInBounds_toArray, List.set_cons_zero, List.set_cons_succ]
          refine anyT_take (i := 4) (v := undef) (some 22) rfl rfl (by kernel_rfl) (fun _ _ _ h => h) (Or.inr ⟨by rfl, rfl⟩) hSS ?_
          simp only [Act.put, List.setIfInBounds_toArray, List.set_cons_zero, List.set_cons_succ]
          refine anyT_take (i := 5) (v := undef) (some 23) rfl rfl (by kernel_rfl) (fun _ _ _ h => h) (Or.inr ⟨by rfl, rfl⟩) hSS ?_
          simp only [Act.put, List.setIfInBounds_toArray, List.set_cons_zero, List.set_cons_succ]
          refine anyT_take (i := 6) (v := undef) (some 24) rfl rfl (by kernel_rfl) (fun _ _ _ h => h) (Or.inr ⟨by rfl, rfl⟩) hSS ?_
          simp only [Act.put, List.setIfInBounds_toArray, List.set_cons_zero, List.set_cons_succ]
          refine anyT_take (i := 7) (v := undef) (some 25) rfl rfl (by kernel_rfl) (fun _ _ _ h => h) (Or.inr ⟨by rfl, rfl⟩) hSS ?_
          simp only [Act.put, List.setIfInBounds_toArray, List.set_cons_zero, List.set_cons_succ]
          refine anyT_take (i := 8) (v := undef) (some 26) rfl rfl (by kernel_rfl) (fun _ _ _ h => h) (Or.inr ⟨by rfl, rfl⟩) hSS ?_
          simp only [Act.put, List.setIfInBounds_toArray, List.set_cons_zero, List.set_cons_succ]
          refine anyT_take (i := 9) (v := undef) (some 27) rfl rfl (by kernel_rfl) (fun _ _ _ h => h) (Or.inr ⟨by rfl, rfl⟩) hSS ?_
          simp only [Act.put, List.setIfInBounds_toArray, List.set_cons_zero, List.set_cons_succ]
          refine anyT_take (i := 10) (v := undef) (some 28) rfl rfl (by kernel_rfl) (fun _ _ _ h => h) (Or.inr ⟨by rfl, rfl⟩) hSS ?_
          simp only [Act.put, List.setIfInBounds_toArray, List.set_cons_zero, List.set_cons_succ]
          refine anyT_take (i := 11) (v := undef) (some 29) rfl rfl (by kernel_rfl) (fun _ _ _ h => h) (Or.inr ⟨by rfl, rfl⟩) hSS ?_
          simp only [Act.put, List.setIfInBounds_toArray, List.set_cons_zero, List.set_cons_succ]
          refine anyT_take (i := 12) (v := undef) (some 30) rfl rfl (by kernel_rfl) (fun _ _ _ h => h) (Or.inr ⟨by rfl, rfl⟩) hSS ?_
          simp only [Act.put, List.setIfInBounds_toArray, List.set_cons_zero, List.set_cons_succ]
          refine anyT_take (i := 13) (v := undef) (some 31) rfl rfl (by kernel_rfl) (fun _ _ _ h => h) (Or.inr ⟨by rfl, rfl⟩) hSS ?_
          simp only [Act.put, List.setIfInBounds_toArray, List.set_cons_zero, List.set_cons_succ]
          refine anyT_take (i := 14) (v := undef) (some 32) rfl rfl (by kernel_rfl) (fun _ _ _ h => h) (Or.inr ⟨by rfl, rfl⟩) hSS ?_
          simp only [Act.put, List.setIfInBounds_toArray, List.set_cons_zero, List.set_cons_succ]
          refine anyT_take (i := 15) (v := undef) (some 33) rfl rfl (by kernel_rfl) (fun _ _ _ h => h) (Or.inr ⟨by rfl, rfl⟩) hSS ?_
          simp only [Act.put, List.setIfInBounds_toArray, List.set_cons_zero, List.set_cons_succ]
          refine anyT_last (some 34) (.bool false) (by kernel_rfl) (by kernel_rfl) rfl (by kernel_rfl) rfl (by kernel_rfl) ?_
          simp only [Act.put, List.setIfInBounds_toArray, List.set_cons_zero, List.set_cons_succ]
          go_wp2
          go_roundw
          case rel => exact ⟨i + 1, by go_num, by omega, by omega, HE⟩
          case measure => simp [intOf]; omega
        · obtain ⟨jp, rfl⟩ : ∃ jp, j = jp + 1 := ⟨j - 1, by omega⟩
          have hgt : ((jp + 1 : Nat) : Int) > (a : Int) := by omega
          obtain ⟨S1, S2, h1, hM, h2, hR⟩ := HJ.out
          obtain ⟨T, y, rfl⟩ : ∃ T y, S1 = T ++ [y] := by
            have hne : S1 ≠ [] := fun e => by rw [e] at h1; simp at h1; omega
            exact ⟨S1.dropLast, S1.getLast hne, (List.dropLast_concat_getLast hne).symm⟩
          have hform : X ++ ((T ++ [y]) ++ (x :: (S2 ++ (U.drop (i - a + 1) ++ Z)))) = (X ++ T) ++ y :: x :: (S2 ++ (U.drop (i - a + 1) ++ Z)) := by simp
          rw [hform] at hR
          have hl : (X ++ T).length = jp := by rw [List.length_append, HX.out]; simp at h1; omega
          have hg0 := get_at0 (X ++ T) (S2 ++ (U.drop (i - a + 1) ++ Z)) y x
          rw [hl] at hg0
          have LX : Hid (∀ w', Gr wr w' → ∀ q v, x.cells.toList[q]? = some v → w'.cell? ((ad.add ((jp + 1) * 5)).add q) = some v) := Lib.hid (fun w' g q v hq => (hR.next g).ld HAD.out hg0.2 q v hq)
          have LY : Hid (∀ w', Gr wr w' → ∀ q v, y.cells.toList[q]? = some v → w'.cell? ((ad.add (jp * 5)).add q) = some v) := Lib.hid (fun w' g q v hq => (hR.next g).ld HAD.out hg0.1 q v hq)
          have z1 : (0 : Int) ≤ ((jp + 1 : Nat) : Int) := by omega
          have z2 : ((jp + 1 : Nat) : Int) < n := by omega
          have z3 : (0 : Int) ≤ (jp : Int) := by omega
          have z4 : (jp : Int) < n := by omega
          have v2 : IntKind.i64.wrap (((jp + 1 : Nat) : Int) - 1) = (jp : Int) := wrapk _ _ (by omega) (by omega)
          have hiff := synC_lt x y
          obtain ⟨J, hJ⟩ : ∃ J, jp + 1 = J := ⟨_, rfl⟩
          rw [hJ] at LX hgt z1 z2 v2 hj1 hj2 ⊢
          have HJJ := Lib.hid hJ
          by_cases hlv : ltV x y = true
          · have hlt9 := hiff.2 hlv
            have HL : Hid (((X ++ T) ++ y :: x :: (S2 ++ (U.drop (i - a + 1) ++ Z))).length = n) := Lib.hid (by
              have hl2 := hM.len
              have hn2 := HN.out
              have hu2 := (List.getElem?_eq_some_iff.1 HUX.out).1
              simp only [List.length_append, List.length_take, List.length_cons, List.length_drop, List.length_nil] at *
              omega)
            have HSW : Hid ((((X ++ T) ++ y :: x :: (S2 ++ (U.drop (i - a + 1) ++ Z))).set J y).set jp x = (X ++ T) ++ x :: y :: (S2 ++ (U.drop (i - a + 1) ++ Z))) := Lib.hid (by rw [← hJ, ← hl]; exact set_swap2 _ _ _ _)
            have HNX : Hid (a + T.length = jp ∧ MrgV (T ++ (y :: S2)) (U.take (i - a)) ∧ (∀ z ∈ y :: S2, ltV x z = true)) := Lib.hid ⟨by simp at h1; omega, by simpa using hM, fun z hz => by
              rcases List.mem_cons.1 hz with rfl | hz
              · exact hlv
              · exact h2 z hz⟩
            have HR := Lib.hid hR
            clear hR hM h2 h1 hform hl hg0 hiff hlv HJ hJ
            go_upto_region 4 with (fail)
            have hSS : Gr wr wr.drew := (Gr.rfl' _).dr
            refine region_T 16 (fun w' => Gr wr w') (by kernel_rfl) ?_
            refine anyT_take (i := 0) (v := ?_) (some 18) rfl rfl (by kernel_rfl) (fun _ _ _ h => h) (Or.inl ⟨by rfl, ?_⟩) hSS ?_
            rotate_left
            · intro w' hSw; go_simp; (try with_reducible rfl)
            simp only [Act.put, List.setIfInBounds_toArray, List.set_cons_zero, List.set_cons_succ]
            refine anyT_take (i := 1) (v := ?_) (some 19) rfl rfl (by kernel_rfl) (fun _ _ _ h => h) (Or.inl ⟨by rfl, ?_⟩) hSS ?_
            rotate_left
            · intro w' hSw; go_simp; (try with_reducible rfl)
            simp only [Act.put, List.setIfInBounds_toArray, List.set_cons_zero, List.set_cons_succ]
            refine anyT_take (i := 2) (v := ?_) (some 20) rfl rfl (by kernel_rfl) (fun _ _ _ h => h) (Or.inl ⟨by rfl, ?_⟩) hSS ?_
            rotate_left
            · intro w' hSw; go_simp; (try with_reducible rfl)
            simp only [Act.put, List.setIfInBounds_toArray, List.set_cons_zero, List.set_cons_succ]
            refine anyT_take (i := 3) (v := ?_) (some 21) rfl rfl (by kernel_rfl) (fun _ _ _ h => h) (Or.inl ⟨by rfl, ?_⟩) hSS ?_
            rotate_left
            · intro w' hSw; go_simp; (try with_reducible rfl)
            simp only [Act.put, List.setIfInBounds_toArray, List.set_cons_zero, List.set_cons_succ]
            refine anyT_take (i := 4) (v := ?_) (some 22) rfl rfl (by kernel_rfl) (fun _ _ _ h => h) (Or.inl ⟨by rfl, ?_⟩) hSS ?_
            rotate_left
            · intro w' hSw; go_simp; (try with_reducible rfl)
            simp only [Act.put, List.setIfInBounds_toArray, List.set_cons_zero, List.set_cons_succ]
            refine anyT_take (i := 5) (v := ?_) (some 23) rfl rfl (by kernel_rfl) (fun _ _ _ h => h) (Or.inl ⟨by rfl, ?_⟩) hSS ?_
            rotate_left
            · intro w' hSw; go_simp; (try with_reducible rfl)
            simp only [Act.put, List.setIfInBounds_toArray, List.set_cons_zero, List.set_cons_succ]
            refine anyT_take (i := 6) (v := ?_) (some 24) rfl rfl (by kernel_rfl) (fun _ _ _ h => h) (Or.inl ⟨by rfl, ?_⟩) hSS ?_
            rotate_left
            · intro w' hSw; go_simp; (try with_reducible rfl)
            simp only [Act.put, List.setIfInBounds_toArray, List.set_cons_zero, List.set_cons_succ]
            refine anyT_take (i := 7) (v := ?_) (some 25) rfl rfl (by kernel_rfl) (fun _ _ _ h => h) (Or.inl ⟨by rfl, ?_⟩) hSS ?_
            rotate_left
            · intro w' hSw; go_simp; (try with_reducible rfl)
            simp only [Act.put, List.setIfInBounds_toArray, List.set_cons_zero, List.set_cons_succ]
            refine anyT_take (i := 8) (some 26) rfl rfl (by kernel_rfl) (fun _ _ _ h => h) (yieldsIf_ld (by rfl) 49 (.tmp 25) rfl (ad.add (J * 5)) rfl x.cells.toList _ (fun w' hSw => LX.out w' hSw) Try.underlying49 rfl (by kernel_rfl)) hSS ?_
            simp only [Act.put, List.setIfInBounds_toArray, List.set_cons_zero, List.set_cons_succ]
            refine anyT_take (i := 9) (v := ?_) (some 27) rfl rfl (by kernel_rfl) (fun _ _ _ h => h) (Or.inl ⟨by rfl, ?_⟩) hSS ?_
            rotate_left
            · intro w' hSw; go_simp; (try with_reducible rfl)
            simp only [Act.put, List.setIfInBounds_toArray, List.set_cons_zero, List.set_cons_succ]
            refine anyT_take (i := 10) (v := ?_) (some 28) rfl rfl (by kernel_rfl) (fun _ _ _ h => h) (Or.inl ⟨by rfl, ?_⟩) hSS ?_
            rotate_left
            · intro w' hSw; go_simp; (try with_reducible rfl)
            simp only [Act.put, List.setIfInBounds_toArray, List.set_cons_zero, List.set_cons_succ]
            refine anyT_take (i := 11) (v := ?_) (some 29) rfl rfl (by kernel_rfl) (fun _ _ _ h => h) (Or.inl ⟨by rfl, ?_⟩) hSS ?_
            rotate_left
            · intro w' hSw; go_simp; (try with_reducible rfl)
            simp only [Act.put, List.setIfInBounds_toArray, List.set_cons_zero, List.set_cons_succ]
            refine anyT_take (i := 12) (v := ?_) (some 30) rfl rfl (by kernel_rfl) (fun _ _ _ h => h) (Or.inl ⟨by rfl, ?_⟩) hSS ?_
            rotate_left
            · intro w' hSw; go_simp; (try with_reducible rfl)
            simp only [Act.put, List.setIfInBounds_toArray, List.set_cons_zero, List.set_cons_succ]
            refine anyT_take (i := 13) (some 31) rfl rfl (by kernel_rfl) (fun _ _ _ h => h) (yieldsIf_ld (by rfl) 49 (.tmp 30) rfl (ad.add (jp * 5)) rfl y.cells.toList _ (fun w' hSw => LY.out w' hSw) Try.underlying49 rfl (by kernel_rfl)) hSS ?_
            simp only [Act.put, List.setIfInBounds_toArray, List.set_cons_zero, List.set_cons_succ]
            refine anyT_callG (i := 14) (some 32) 107 #[.agg x.cells, .agg y.cells] (by kernel_rfl) rfl (by kernel_rfl) rfl (by kernel_rfl) ?_
            refine (sync1_any x y _).mono ?_
            rintro e wd ⟨rfl, hgd⟩
            replace hSS := hSS.tr hgd
            refine ⟨_, rfl, fun _ => hSS, ?_⟩
            simp only [Act.put, List.setIfInBounds_toArray, List.set_cons_zero, List.set_cons_succ]
            clear hgd
            obtain ⟨sv, hsv⟩ : ∃ s, synC x y = s := ⟨_, rfl⟩
            rw [hsv] at hlt9
            rw [hsv]
            clear hsv
            refine anyT_take (i := 15) (v := ?_) (some 33) rfl rfl (by kernel_rfl) (fun _ _ _ h => h) (Or.inl ⟨by rfl, ?_⟩) hSS ?_
            rotate_left
            · intro w' hSw; go_simp; (try with_reducible rfl)
            simp only [Act.put, List.setIfInBounds_toArray, List.set_cons_zero, List.set_cons_succ]
            refine anyT_last (some 34) (.bool true) (by kernel_rfl) (by kernel_rfl) rfl (by kernel_rfl) rfl (by kernel_rfl) ?_
            simp only [Act.put, List.setIfInBounds_toArray, List.set_cons_zero, List.set_cons_succ]
            have HR2 := Lib.hid (HR.out.next hSS)
            have LX2 : Hid (∀ q v, x.cells.toList[q]? = some v → wd.drew.cell? ((ad.add (J * 5)).add q) = some v) := Lib.hid (fun q v hq => LX.out _ (hSS.tr ((Gr.rfl' _).dr)) q v hq)
            have LY2 : Hid (∀ q v, y.cells.toList[q]? = some v → wd.drew.cell? ((ad.add (jp * 5)).add q) = some v) := Lib.hid (fun q v hq => LY.out _ (hSS.tr ((Gr.rfl' _).dr)) q v hq)
            clear HR LX LY hSS hlt9
            go_upto_region 6 with (fail)
            obtain ⟨wq, hwq⟩ : ∃ wq, wd.drew = wq := ⟨_, rfl⟩
            have HQ := Lib.hid (HR2.out.next (hwq ▸ (Gr.rfl' wd).dr))
            rw [hwq] at LX2 LY2
            refine region_F [15, 17] (fun w' => w' = wq) (by kernel_rfl) ?_
            rw [hwq]
            clear hwq HR2
            have hSS : wq = wq := rfl
            refine anyF_take (i := 0) (v := ?_) (some 37) rfl rfl (by kernel_rfl) (fun _ _ _ h => h) (Or.inl ⟨by rfl, ?_⟩) (fun _ => hSS) ?_
            rotate_left
            · intro w' _; go_simp; (try with_reducible rfl)
            simp only [Act.put, List.setIfInBounds_toArray, List.set_cons_zero, List.set_cons_succ]
            refine anyF_take (i := 1) (v := ?_) (some 38) rfl rfl (by kernel_rfl) (fun _ _ _ h => h) (Or.inl ⟨by rfl, ?_⟩) (fun _ => hSS) ?_
            rotate_left
            · intro w' _; go_simp; (try with_reducible rfl)
            simp only [Act.put, List.setIfInBounds_toArray, List.set_cons_zero, List.set_cons_succ]
            refine anyF_take (i := 2) (v := ?_) (some 39) rfl rfl (by kernel_rfl) (fun _ _ _ h => h) (Or.inl ⟨by rfl, ?_⟩) (fun _ => hSS) ?_
            rotate_left
            · intro w' _; go_simp; (try with_reducible rfl)
            simp only [Act.put, List.setIfInBounds_toArray, List.set_cons_zero, List.set_cons_succ]
            refine anyF_take (i := 3) (v := ?_) (some 40) rfl rfl (by kernel_rfl) (fun _ _ _ h => h) (Or.inl ⟨by rfl, ?_⟩) (fun _ => hSS) ?_
            rotate_left
            · intro w' _; go_simp; (try with_reducible rfl)
            simp only [Act.put, List.setIfInBounds_toArray, List.set_cons_zero, List.set_cons_succ]
            refine anyF_take (i := 4) (v := ?_) (some 41) rfl rfl (by kernel_rfl) (fun _ _ _ h => h) (Or.inl ⟨by rfl, ?_⟩) (fun _ => hSS) ?_
            rotate_left
            · intro w' _; go_simp; (try with_reducible rfl)
            simp only [Act.put, List.setIfInBounds_toArray, List.set_cons_zero, List.set_cons_succ]
            refine anyF_take (i := 5) (v := ?_) (some 42) rfl rfl (by kernel_rfl) (fun _ _ _ h => h) (Or.inl ⟨by rfl, ?_⟩) (fun _ => hSS) ?_
            rotate_left
            · intro w' _; go_simp; (try with_reducible rfl)
            simp only [Act.put, List.setIfInBounds_toArray, List.set_cons_zero, List.set_cons_succ]
            refine anyF_take (i := 6) (v := ?_) (some 43) rfl rfl (by kernel_rfl) (fun _ _ _ h => h) (Or.inl ⟨by rfl, ?_⟩) (fun _ => hSS) ?_
            rotate_left
            · intro w' _; go_simp; (try with_reducible rfl)
            simp only [Act.put, List.setIfInBounds_toArray, List.set_cons_zero, List.set_cons_succ]
            refine anyF_take (i := 7) (v := ?_) (some 44) rfl rfl (by kernel_rfl) (fun _ _ _ h => h) (Or.inl ⟨by rfl, ?_⟩) (fun _ => hSS) ?_
            rotate_left
            · intro w' _; go_simp; (try with_reducible rfl)
            simp only [Act.put, List.setIfInBounds_toArray, List.set_cons_zero, List.set_cons_succ]
            refine anyF_take (i := 8) (v := ?_) (some 45) rfl rfl (by kernel_rfl) (fun _ _ _ h => h) (Or.inl ⟨by rfl, ?_⟩) (fun _ => hSS) ?_
            rotate_left
            · intro w' _; go_simp; (try with_reducible rfl)
            simp only [Act.put, List.setIfInBounds_toArray, List.set_cons_zero, List.set_cons_succ]
            refine anyF_read (i := 9) (some 46) rfl rfl (by kernel_rfl) (by kernel_rfl) (fun _ _ _ h => h) (yieldsIf_ld (by rfl) 49 (.tmp 45) rfl (ad.add (jp * 5)) rfl y.cells.toList _ (fun w' hSw => by rw [hSw]; exact LY2.out) Try.underlying49 rfl (by kernel_rfl)) hSS ?_
            simp only [Act.put, List.setIfInBounds_toArray, List.set_cons_zero, List.set_cons_succ]
            refine anyF_take (i := 10) (v := ?_) (some 47) rfl rfl (by kernel_rfl) (fun _ _ _ h => h) (Or.inl ⟨by rfl, ?_⟩) (fun _ => hSS) ?_
            rotate_left
            · intro w' _; go_simp; (try with_reducible rfl)
            simp only [Act.put, List.setIfInBounds_toArray, List.set_cons_zero, List.set_cons_succ]
            refine anyF_take (i := 11) (v := ?_) (some 48) rfl rfl (by kernel_rfl) (fun _ _ _ h => h) (Or.inl ⟨by rfl, ?_⟩) (fun _ => hSS) ?_
            rotate_left
            · intro w' _; go_simp; (try with_reducible rfl)
            simp only [Act.put, List.setIfInBounds_toArray, List.set_cons_zero, List.set_cons_succ]
            refine anyF_take (i := 12) (v := ?_) (some 49) rfl rfl (by kernel_rfl) (fun _ _ _ h => h) (Or.inl ⟨by rfl, ?_⟩) (fun _ => hSS) ?_
            rotate_left
            · intro w' _; go_simp; (try with_reducible rfl)
            simp only [Act.put, List.setIfInBounds_toArray, List.set_cons_zero, List.set_cons_succ]
            refine anyF_read (i := 13) (some 50) rfl rfl (by kernel_rfl) (by kernel_rfl) (fun _ _ _ h => h) (yieldsIf_ld (by rfl) 49 (.tmp 49) rfl (ad.add (J * 5)) rfl x.cells.toList _ (fun w' hSw => by rw [hSw]; exact LX2.out) Try.underlying49 rfl (by kernel_rfl)) hSS ?_
            simp only [Act.put, List.setIfInBounds_toArray, List.set_cons_zero, List.set_cons_succ]
            refine anyF_take (i := 14) (v := ?_) (some 51) rfl rfl (by kernel_rfl) (fun _ _ _ h => h) (Or.inl ⟨by rfl, ?_⟩) (fun _ => hSS) ?_
            rotate_left
            · intro w' _; go_simp; (try with_reducible rfl)
            simp only [Act.put, List.setIfInBounds_toArray, List.set_cons_zero, List.set_cons_succ]
            refine anyF_its (i := 15) (by kernel_rfl) ?_
            refine wpOp_storeR y ad J HAD.out rfl rfl (.tmp 51) (.tmp 46) rfl rfl rfl rfl HQ.out (by rw [HL.out]; have := HJJ.out; omega) ?_
            intro w2 hR2 _
            refine ⟨fun hn => absurd' (by kernel_rfl) hn, ?_⟩
            have HR3 := Lib.hid hR2
            clear hR2 hSS HQ LX2 LY2
            refine anyF_take (i := 16) (v := ?_) (some 52) rfl rfl (by kernel_rfl) (fun _ _ _ h => h) (Or.inl ⟨by rfl, ?_⟩) (fun hn => absurd' (by kernel_rfl) hn) ?_
            rotate_left
            · intro w' _; go_simp; (try with_reducible rfl)
            simp only [Act.put, List.setIfInBounds_toArray, List.set_cons_zero, List.set_cons_succ]
            refine anyF_its (i := 17) (by kernel_rfl) ?_
            refine wpOp_storeR x ad jp HAD.out rfl rfl (.tmp 52) (.tmp 50) rfl rfl rfl rfl HR3.out (by rw [List.length_set, HL.out]; omega) ?_
            intro w3 hR3 _
            refine ⟨fun hn => absurd' (by kernel_rfl) hn, ?_⟩
            rw [HSW.out] at hR3
            have HR4 : Hid (RS w0 gl (X ++ (T ++ (x :: ((y :: S2) ++ (U.drop (i - a + 1) ++ Z))))) w3) := Lib.hid (by simpa using hR3)
            clear hR3 HR3 HSW HL
            refine anyF_done (by kernel_rfl) ?_ _
            go_wp2
            go_roundw
            case rel => exact ⟨jp, by go_num, by have := HJJ.out; have := HNX.out.1; omega, by have := HJJ.out; omega, Lib.hid ⟨T, y :: S2, HNX.out.1, HNX.out.2.1, HNX.out.2.2, HR4.out⟩⟩
            case measure => have := HJJ.out; simp [intOf]; omega
          · have hlt9 : ¬ synC x y < 0 := fun k => hlv (hiff.1 k)
            have HE : Hid (∃ S, MrgV S (U.take (i + 1 - a)) ∧ ∀ w', Gr wr w' → RS w0 gl (X ++ (S ++ (U.drop (i + 1 - a) ++ Z))) w') := Lib.hid (by
              rw [show i + 1 - a = i - a + 1 by omega]
              refine ⟨(T ++ [y]) ++ x :: S2, ins_step HUX.out hM h2 (Or.inr ⟨T, y, rfl, by simpa using hlv⟩), fun w' g => ?_⟩
              have := hR.next g
              rw [← hform] at this
              simpa using this)
            clear hR hM h2 h1 hform hl hg0 hiff hlv HJ hJ
            go_upto_region 4 with (fail)
            have hSS : Gr wr wr.drew := (Gr.rfl' _).dr
            refine region_T 16 (fun w' => Gr wr w') (by kernel_rfl) ?_
            refine anyT_take (i := 0) (v := ?_) (some 18) rfl rfl (by kernel_rfl) (fun _ _ _ h => h) (Or.inl ⟨by rfl, ?_⟩) hSS ?_
            rotate_left
            · intro w' hSw; go_simp; (try with_reducible rfl)
            simp only [Act.put, List.setIfInBounds_toArray, List.set_cons_zero, List.set_cons_succ]
            refine anyT_take (i := 1) (v := ?_) (some 19) rfl rfl (by kernel_rfl) (fun _ _ _ h => h) (Or.inl ⟨by rfl, ?_⟩) hSS ?_
            rotate_left
            · intro w' hSw; go_simp; (try with_reducible rfl)
            simp only [Act.put, List.setIfInBounds_toArray, List.set_cons_zero, List.set_cons_succ]
            refine anyT_take (i := 2) (v := ?_) (some 20) rfl rfl (by kernel_rfl) (fun _ _ _ h => h) (Or.inl ⟨by rfl, ?_⟩) hSS ?_
            rotate_left
            · intro w' hSw; go_simp; (try with_reducible rfl)
            simp only [Act.put, List.setIfInBounds_toArray, List.set_cons_zero, List.set_cons_succ]
            refine anyT_take (i := 3) (v := ?_) (some 21) rfl rfl (by kernel_rfl) (fun _ _ _ h => h) (Or.inl ⟨by rfl, ?_⟩) hSS ?_
            rotate_left
            · intro w' hSw; go_simp; (try with_reducible rfl)
            simp only [Act.put, List.setIfInBounds_toArray, List.set_cons_zero, List.set_cons_succ]
            refine anyT_take (i := 4) (v := ?_) (some 22) rfl rfl (by kernel_rfl) (fun _ _ _ h => h) (Or.inl ⟨by rfl, ?_⟩) hSS ?_
            rotate_left
            · intro w' hSw; go_simp; (try with_reducible rfl)
            simp only [Act.put, List.setIfInBounds_toArray, List.set_cons_zero, List.set_cons_succ]
            refine anyT_take (i := 5) (v := ?_) (some 23) rfl rfl (by kernel_rfl) (fun _ _ _ h => h) (Or.inl ⟨by rfl, ?_⟩) hSS ?_
            rotate_left
            · intro w' hSw; go_simp; (try with_reducible rfl)
            simp only [Act.put, List.setIfInBounds_toArray, List.set_cons_zero, List.set_cons_succ]
            refine anyT_take (i := 6) (v := ?_) (some 24) rfl rfl (by kernel_rfl) (fun _ _ _ h => h) (Or.inl ⟨by rfl, ?_⟩) hSS ?_
            rotate_left
            · intro w' hSw; go_simp; (try with_reducible rfl)
            simp only [Act.put, List.setIfInBounds_toArray, List.set_cons_zero, List.set_cons_succ]
            refine anyT_take (i := 7) (v := ?_) (some 25) rfl rfl (by kernel_rfl) (fun _ _ _ h => h) (Or.inl ⟨by rfl, ?_⟩) hSS ?_
            rotate_left
            · intro w' hSw; go_simp; (try with_reducible rfl)
            simp only [Act.put, List.setIfInBounds_toArray, List.set_cons_zero, List.set_cons_succ]
            refine anyT_take (i := 8) (some 26) rfl rfl (by kernel_rfl) (fun _ _ _ h => h) (yieldsIf_ld (by rfl) 49 (.tmp 25) rfl (ad.add (J * 5)) rfl x.cells.toList _ (fun w' hSw => LX.out w' hSw) Try.underlying49 rfl (by kernel_rfl)) hSS ?_
            simp only [Act.put, List.setIfInBounds_toArray, List.set_cons_zero, List.set_cons_succ]
            refine anyT_take (i := 9) (v := ?_) (some 27) rfl rfl (by kernel_rfl) (fun _ _ _ h => h) (Or.inl ⟨by rfl, ?_⟩) hSS ?_
            rotate_left
            · intro w' hSw; go_simp; (try with_reducible rfl)
            simp only [Act.put, List.setIfInBounds_toArray, List.set_cons_zero, List.set_cons_succ]
            refine anyT_take (i := 10) (v := ?_) (some 28) rfl rfl (by kernel_rfl) (fun _ _ _ h => h) (Or.inl ⟨by rfl, ?_⟩) hSS ?_
            rotate_left
            · intro w' hSw; go_simp; (try with_reducible rfl)
            simp only [Act.put, List.setIfInBounds_toArray, List.set_cons_zero, List.set_cons_succ]
            refine anyT_take (i := 11) (v := ?_) (some 29) rfl rfl (by kernel_rfl) (fun _ _ _ h => h) (Or.inl ⟨by rfl, ?_⟩) hSS ?_
            rotate_left
            · intro w' hSw; go_simp; (try with_reducible rfl)
            simp only [Act.put, List.setIfInBounds_toArray, List.set_cons_zero, List.set_cons_succ]
            refine anyT_take (i := 12) (v := ?_) (some 30) rfl rfl (by kernel_rfl) (fun _ _ _ h => h) (Or.inl ⟨by rfl, ?_⟩) hSS ?_
            rotate_left
            · intro w' hSw; go_simp; (try with_reducible rfl)
            simp only [Act.put, List.setIfInBounds_toArray, List.set_cons_zero, List.set_cons_succ]
            refine anyT_take (i := 13) (some 31) rfl rfl (by kernel_rfl) (fun _ _ _ h => h) (yieldsIf_ld (by rfl) 49 (.tmp 30) rfl (ad.add (jp * 5)) rfl y.cells.toList _ (fun w' hSw => LY.out w' hSw) Try.underlying49 rfl (by kernel_rfl)) hSS ?_
            simp only [Act.put, List.setIfInBounds_toArray, List.set_cons_zero, List.set_cons_succ]
            refine anyT_callG (i := 14) (some 32) 107 #[.agg x.cells, .agg y.cells] (by kernel_rfl) rfl (by kernel_rfl) rfl (by kernel_rfl) ?_
            refine (sync1_any x y _).mono ?_
            rintro e wd ⟨rfl, hgd⟩
            replace hSS := hSS.tr hgd
            refine ⟨_, rfl, fun _ => hSS, ?_⟩
            simp only [Act.put, List.setIfInBounds_toArray, List.set_cons_zero, List.set_cons_succ]
            clear hgd
            obtain ⟨sv, hsv⟩ : ∃ s, synC x y = s := ⟨_, rfl⟩
            rw [hsv] at hlt9
            rw [hsv]
            clear hsv
            refine anyT_take (i := 15) (v := ?_) (some 33) rfl rfl (by kernel_rfl) (fun _ _ _ h => h) (Or.inl ⟨by rfl, ?_⟩) hSS ?_
            rotate_left
            · intro w' hSw; go_simp; (try with_reducible rfl)
            simp only [Act.put, List.setIfInBounds_toArray, List.set_cons_zero, List.set_cons_succ]
            refine anyT_last (some 34) (.bool false) (by kernel_rfl) (by kernel_rfl) rfl (by kernel_rfl) rfl (by kernel_rfl) ?_
            simp only [Act.put, List.setIfInBounds_toArray, List.set_cons_zero, List.set_cons_succ]
            go_wp2
            go_roundw
            case rel => exact ⟨i + 1, by go_num, by omega, by omega, Lib.hid (by obtain ⟨S, a1, a2⟩ := HE.out; exact ⟨S, a1, a2 _ hSS⟩)⟩
            case measure => simp [intOf]; omega
    · have hib : ¬ (i : Int) < b := by omega
      have HE : Hid (∃ R, MrgV R U ∧ RS w0 gl (X ++ (R ++ Z)) wr) := Lib.hid (by
        obtain ⟨S, hM, hR⟩ := HS.out
        have hu := HU.out
        rw [List.take_of_length_le (by omega)] at hM
        rw [List.drop_of_length_le (by omega), List.nil_append] at hR
        exact ⟨S, hM, hR⟩)
      clear HS
      go_wp2
      go_end0
      exact ⟨rfl, HE.out⟩
end Go.Proofs.Ytfobnemocodomaa
set_option linter.unusedVariables false
set_option linter.unusedSimpArgs false
set_option maxHeartbeats 2000000
namespace Go.Proofs.Ytfobnemocodomaa
open Go.RowKit Go.Great

theorem cgo_take : ∀ (l : List Vx) (prev : Vx) (k : Nat) (h : k < l.length), cgo prev (l.take (k + 1)) = cgo prev (l.take k) ++ (if l[k].P = ((prev :: l)[k]'(by simp; omega)).P then [] else [l[k]])
  | [], _, _, h => by simp at h
  | y :: r, prev, 0, _ => by simp [cgo]
  | y :: r, prev, k + 1, h => by
    have ih := cgo_take r y k (by simpa using h)
    rw [List.take_succ_cons, List.take_succ_cons]
    unfold cgo
    by_cases e : y.P = prev.P
    · rw [if_pos e, if_pos e, ih]; simp
    · rw [if_neg e, if_neg e, ih]; simp
theorem cmp_take {l : List Vx} {k : Nat} (h : k + 1 < l.length) : cmpV (l.take (k + 2)) = cmpV (l.take (k + 1)) ++ (if l[k + 1].P = l[k].P then [] else [l[k + 1]]) := by
  cases l with
  | nil => simp at h
  | cons x r =>
    have := cgo_take r x k (by simpa using h)
    rw [List.take_succ_cons, List.take_succ_cons]
    show x :: cgo x (r.take (k + 1)) = (x :: cgo x (r.take k)) ++ _
    rw [this]; simp
abbrev synE : Value := .func (.func 109) #[] #[]
set_option maxRecDepth 100000 in
theorem compNil_any (w : World) : Calls Try.prog 108 #[.slice none 0 0, synE] w fun r w' => r = .returned (.slice none 0 0) ∧ w' = w := by
  go_enter Try.func108, Try.ntmps108
  go_wp2
  go_ret
  exact ⟨rfl, rfl⟩
theorem two_at {R : List Vx} {p : Nat} (h : p + 1 < R.length) {x y : Vx} (hx : R[p + 1] = x) (hy : R[p] = y) : R.drop p = y :: x :: R.drop (p + 2) := by
  rw [List.drop_eq_getElem_cons (by omega), hy, List.drop_eq_getElem_cons h, hx]
/-- one step of the inner loop -/
theorem cmp_step {R : List Vx} {m : Nat} {kept mid : List Vx} {x y : Vx} (h : m + 1 < R.length) (hx : R[m + 1] = x) (hy : R[m] = y) (hk : kept = cmpV (R.take (m + 1))) (hm : kept.length + mid.length = m) :
    (x.P = y.P → kept = cmpV (R.take (m + 2))) ∧ (x.P ≠ y.P → ∃ t, t.length = mid.length ∧ kept ++ [x] = cmpV (R.take (m + 2)) ∧ (kept ++ (mid ++ R.drop m)).set kept.length x = (kept ++ [x]) ++ (t ++ R.drop (m + 1))) := by
  have hc := cmp_take h
  rw [hx, hy, ← hk] at hc
  constructor
  · intro e; rw [hc, if_pos e, List.append_nil]
  · intro e
    rw [if_neg e] at hc
    have ed : R.drop m = y :: R.drop (m + 1) := by rw [List.drop_eq_getElem_cons (by omega), hy]
    cases hmid : mid ++ [y] with
    | nil => simp at hmid
    | cons a t =>
      have hl := congrArg List.length hmid
      simp at hl
      refine ⟨t, by omega, hc.symm, ?_⟩
      have e1 : mid ++ R.drop m = a :: (t ++ R.drop (m + 1)) := by
        rw [ed, show mid ++ y :: R.drop (m + 1) = (mid ++ [y]) ++ R.drop (m + 1) by simp, hmid]; rfl
      rw [e1, set_mid]; simp
set_option maxRecDepth 100000 in
theorem comp_any (gl n cap : Nat) (l : List Vx) (w0 w : World) (hR : RS w0 gl l w) (hn : l.length = n) (hnc : n ≤ cap) (hlb : n ≤ 1000000) :
    Calls Try.prog 108 #[.slice (some ⟨gl, 0, none⟩) n cap, synE] w fun r w' =>
      r = .returned (.slice (some ⟨gl, 0, none⟩) (cmpV l).length cap) ∧ RS w0 gl (cmpV l) w' := by
  have R0 := Lib.hid hR
  have HN := Lib.hid hn
  obtain ⟨ad, had⟩ : ∃ ad, (⟨gl, 0, none⟩ : Addr) = ad := ⟨_, rfl⟩
  have HAD : Hid (ad = ⟨gl, 0, none⟩) := Lib.hid had.symm
  rw [had]
  clear hR had
  by_cases h2 : n < 2
  · have h2i : (n : Int) < 2 := by omega
    have HC : Hid (cmpV l = l) := Lib.hid (by
      match l, hn with
      | [], _ => rfl
      | [x], _ => rfl
      | _ :: _ :: _, h => simp at h; omega)
    clear hn
    go_enter Try.func108, Try.ntmps108
    go_wp2
    go_ret
    rw [HC.out, HN.out]
    exact ⟨rfl, R0.out⟩
  · have h2i : ¬ (n : Int) < 2 := by omega
    have hk0 : Hid (cmpV (l.take 1) = l.take 1) := Lib.hid (by
      match l, hn with
      | [], _ => rfl
      | x :: r, _ => rfl)
    clear hn
    go_enter Try.func108, Try.ntmps108
    go_wp2
    go_loopw [5] (fun s wr => ∃ k : Nat, s = .int .i64 k ∧ 1 ≤ k ∧ k ≤ n ∧ Hid (cmpV (l.take k) = l.take k) ∧ Hid (RS w0 gl l wr)) (fun s _ => n - (intOf s).toNat)
    case atStart => exact ⟨1, rfl, Nat.le_refl _, by omega, hk0, R0⟩
    case round =>
      clear hk0 R0
      obtain ⟨k, rfl, hk1, hkn, HK, HR⟩ := hrel
      by_cases hlt : k < n
      · have hki : (k : Int) < n := by omega
        obtain ⟨jp, hjp⟩ : ∃ jp, k = jp + 1 := ⟨k - 1, by omega⟩
        have hkl : jp + 1 < l.length := by rw [HN.out]; omega
        obtain ⟨x, hx⟩ : ∃ x, l[jp + 1] = x := ⟨_, rfl⟩
        obtain ⟨y, hy⟩ : ∃ y, l[jp] = y := ⟨_, rfl⟩
        have hc := cmp_take hkl
        rw [hx, hy] at hc
        have LX : Hid (∀ w', Gr wr w' → ∀ q v, x.cells.toList[q]? = some v → w'.cell? ((ad.add (k * 5)).add q) = some v) := Lib.hid (fun w' g q v hq => by rw [hjp]; exact (HR.out.next g).ld HAD.out (by rw [List.getElem?_eq_getElem hkl, hx]) q v hq)
        have LY : Hid (∀ w', Gr wr w' → ∀ q v, y.cells.toList[q]? = some v → w'.cell? ((ad.add (jp * 5)).add q) = some v) := Lib.hid (fun w' g q v hq => (HR.out.next g).ld HAD.out (by rw [List.getElem?_eq_getElem (by omega), hy]) q v hq)
        have z1 : (0 : Int) ≤ (k : Int) := by omega
        have z3 : (0 : Int) ≤ (jp : Int) := by omega
        have z4 : (jp : Int) < n := by omega
        have v2 : IntKind.i64.wrap ((k : Int) - 1) = (jp : Int) := wrapk _ _ (by omega) (by omega)
        have HJ := Lib.hid hjp
        by_cases hq : (x.P == y.P) = true
        · have HM0 : Hid (∃ kept mid, kept = cmpV (l.take (jp + 2)) ∧ kept.length = k ∧ mid.length = 0 ∧ RS w0 gl (kept ++ (mid ++ l.drop (jp + 1))) wr) := Lib.hid (by
            have e : x.P = y.P := by simpa using hq
            rw [if_pos e, List.append_nil] at hc
            refine ⟨l.take k, [], by rw [hc, ← hjp]; exact HK.out.symm, by rw [List.length_take]; omega, rfl, ?_⟩
            rw [List.nil_append, ← hjp, List.take_append_drop]
            exact HR.out)
          clear hc hx hy hkl HK hjp
          have c1 : (k : Int) ≤ n := by omega
          have c2 : (k : Int) ≤ cap := by omega
          have c2' : (n : Int) ≤ cap := by omega
          have c3 : ¬ (cap - k = 0) := by omega
          have c4 : ¬ (cap = k) := by omega
          go_upto_region 6 with (fail)
          have hSS : Gr wr wr.drew := (Gr.rfl' _).dr
          refine region_T 10 (fun w' => Gr wr w') (by kernel_rfl) ?_
          refine anyT_take (i := 0) (v := ?_) (some 18) rfl rfl (by kernel_rfl) (fun _ _ _ h => h) (Or.inl ⟨by rfl, ?_⟩) hSS ?_
          rotate_left
          · intro w' hSw; go_simp; (try with_reducible rfl)
          simp only [Act.put, List.setIfInBounds_toArray, List.set_cons_zero, List.set_cons_succ]
          refine anyT_take (i := 1) (v := ?_) (some 19) rfl rfl (by kernel_rfl) (fun _ _ _ h => h) (Or.inl ⟨by rfl, ?_⟩) hSS ?_
          rotate_left
          · intro w' hSw; go_simp; (try with_reducible rfl)
          simp only [Act.put, List.setIfInBounds_toArray, List.set_cons_zero, List.set_cons_succ]
          refine anyT_take (i := 2) (v := ?_) (some 20) rfl rfl (by kernel_rfl) (fun _ _ _ h => h) (Or.inl ⟨by rfl, ?_⟩) hSS ?_
          rotate_left
          · intro w' hSw; go_simp; (try with_reducible rfl)
          simp only [Act.put, List.setIfInBounds_toArray, List.set_cons_zero, List.set_cons_succ]
          refine anyT_take (i := 3) (v := ?_) (some 21) rfl rfl (by kernel_rfl) (fun _ _ _ h => h) (Or.inl ⟨by rfl, ?_⟩) hSS ?_
          rotate_left
          · intro w' hSw; go_simp; (try with_reducible rfl)
          simp only [Act.put, List.setIfInBounds_toArray, List.set_cons_zero, List.set_cons_succ]
          refine anyT_take (i := 4) (some 22) rfl rfl (by kernel_rfl) (fun _ _ _ h => h) (yieldsIf_ld (by rfl) 49 (.tmp 21) rfl (ad.add (k * 5)) rfl x.cells.toList _ (fun w' hSw => LX.out w' hSw) Try.underlying49 rfl (by kernel_rfl)) hSS ?_
          simp only [Act.put, List.setIfInBounds_toArray, List.set_cons_zero, List.set_cons_succ]
          refine anyT_take (i := 5) (v := ?_) (some 23) rfl rfl (by kernel_rfl) (fun _ _ _ h => h) (Or.inl ⟨by rfl, ?_⟩) hSS ?_
          rotate_left
          · intro w' hSw; go_simp; (try with_reducible rfl)
          simp only [Act.put, List.setIfInBounds_toArray, List.set_cons_zero, List.set_cons_succ]
          refine anyT_take (i := 6) (v := ?_) (some 24) rfl rfl (by kernel_rfl) (fun _ _ _ h => h) (Or.inl ⟨by rfl, ?_⟩) hSS ?_
          rotate_left
          · intro w' hSw; go_simp; (try with_reducible rfl)
          simp only [Act.put, List.setIfInBounds_toArray, List.set_cons_zero, List.set_cons_succ]
          refine anyT_take (i := 7) (v := ?_) (some 25) rfl rfl (by kernel_rfl) (fun _ _ _ h => h) (Or.inl ⟨by rfl, ?_⟩) hSS ?_
          rotate_left
          · intro w' hSw; go_simp; (try with_reducible rfl)
          simp only [Act.put, List.setIfInBounds_toArray, List.set_cons_zero, List.set_cons_succ]
          refine anyT_take (i := 8) (v := ?_) (some 26) rfl rfl (by kernel_rfl) (fun _ _ _ h => h) (Or.inl ⟨by rfl, ?_⟩) hSS ?_
          rotate_left
          · intro w' hSw; go_simp; (try with_reducible rfl)
          simp only [Act.put, List.setIfInBounds_toArray, List.set_cons_zero, List.set_cons_succ]
          refine anyT_take (i := 9) (some 27) rfl rfl (by kernel_rfl) (fun _ _ _ h => h) (yieldsIf_ld (by rfl) 49 (.tmp 26) rfl (ad.add (jp * 5)) rfl y.cells.toList _ (fun w' hSw => LY.out w' hSw) Try.underlying49 rfl (by kernel_rfl)) hSS ?_
          simp only [Act.put, List.setIfInBounds_toArray, List.set_cons_zero, List.set_cons_succ]
          refine anyT_callG (i := 10) (some 28) 109 #[.agg x.cells, .agg y.cells] (by kernel_rfl) rfl (by kernel_rfl) rfl (by kernel_rfl) ?_
          refine (sync2_any x y _).mono ?_
          rintro e wd ⟨rfl, hgd⟩
          replace hSS := hSS.tr hgd
          refine ⟨_, rfl, fun _ => hSS, ?_⟩
          simp only [Act.put, List.setIfInBounds_toArray, List.set_cons_zero, List.set_cons_succ]
          clear hgd
          refine anyT_done (by kernel_rfl) ?_ _
          rw [hq]
          simp only [Array.toArray_toList]
          have HM1 : Hid (∃ kept mid, kept = cmpV (l.take (jp + 2)) ∧ kept.length = k ∧ mid.length = 0 ∧ RS w0 gl (kept ++ (mid ++ l.drop (jp + 1))) wd) := Lib.hid (by
            obtain ⟨a, b, d1, d2, d3, d4⟩ := HM0.out
            exact ⟨a, b, d1, d2, d3, d4.next hSS⟩)
          clear HM0 HR LX LY hSS z1 z3 z4 v2 hq
          obtain ⟨M, hM⟩ : ∃ M, n - k = M := ⟨_, rfl⟩
          have hM2 : 1 ≤ M := by omega
          go_wp2
          have HMM := Lib.hid hM
          clear hM
          obtain ⟨ad2, hd2⟩ : ∃ ad2, ad.add (k * 5) = ad2 := ⟨_, rfl⟩
          have HD2 := Lib.hid hd2.symm
          rw [hd2]
          clear hd2
          have hMn : k + M = n := by have := HMM.out; omega
          have HMN := Lib.hid hMn
          clear hMn
          go_loopw [5, 7] (fun s t wr => ∃ i p q : Nat, s = .int .i64 i ∧ t = .int .i64 q ∧ Hid (q = p + 1) ∧ q ≤ M ∧ Hid (∃ kept mid, kept = cmpV (l.take (k + p + 1)) ∧ kept.length = i ∧ kept.length + mid.length = k + p ∧ RS w0 gl (kept ++ (mid ++ l.drop (k + p))) wr)) (fun _ t _ => M - (intOf t).toNat)
          case atStart =>
            refine ⟨k, 0, 1, rfl, rfl, Lib.hid rfl, hM2, Lib.hid ?_⟩
            obtain ⟨a, b, d1, d2, d3, d4⟩ := HM1.out
            have hj := HJ.out
            exact ⟨a, b, by rw [d1]; congr 2; omega, d2, by omega, by rw [show k + 0 = jp + 1 by omega]; exact d4⟩
          case round =>
            clear HM1 hM2
            obtain ⟨i, p, q, rfl, rfl, HQ, hqM, HU⟩ := hrel
            by_cases hqlt : q < M
            · have hqi : (q : Int) < M := by omega
              obtain ⟨kept, mid, hk, hkl, hml, hR⟩ := HU.out
              have hql : k + p + 1 < l.length := by have := HQ.out; have := HMN.out; rw [HN.out]; omega
              obtain ⟨x, hx⟩ : ∃ x, l[k + p + 1] = x := ⟨_, rfl⟩
              obtain ⟨y, hy⟩ : ∃ y, l[k + p] = y := ⟨_, rfl⟩
              have hst := cmp_step hql hx hy hk hml
              have ed := two_at hql hx hy
              have hg0 := get_at0 (kept ++ mid) (l.drop (k + p + 2)) y x
              have hform : kept ++ (mid ++ l.drop (k + p)) = (kept ++ mid) ++ y :: x :: l.drop (k + p + 2) := by rw [ed]; simp
              have hlm : (kept ++ mid).length = k + p := by rw [List.length_append]; exact hml
              rw [hlm, ← hform] at hg0
              have hAX : ad2.add (q * 5) = ad.add ((k + p + 1) * 5) := by rw [HD2.out, HAD.out, add_mid', add_mid', add_mid', HQ.out]; congr 1; omega
              have hAY : ad2.add (p * 5) = ad.add ((k + p) * 5) := by rw [HD2.out, HAD.out, add_mid', add_mid', add_mid']; congr 1; omega
              have LX : Hid (∀ w', Gr wr w' → ∀ j v, x.cells.toList[j]? = some v → w'.cell? ((ad2.add (q * 5)).add j) = some v) := Lib.hid (fun w' g j v hj => by rw [hAX]; exact (hR.next g).ld HAD.out hg0.2 j v hj)
              have LY : Hid (∀ w', Gr wr w' → ∀ j v, y.cells.toList[j]? = some v → w'.cell? ((ad2.add (p * 5)).add j) = some v) := Lib.hid (fun w' g j v hj => by rw [hAY]; exact (hR.next g).ld HAD.out hg0.1 j v hj)
              have HL : Hid (i < (kept ++ (mid ++ l.drop (k + p))).length) := Lib.hid (by rw [hform]; simp only [List.length_append, List.length_cons] at *; omega)
              have z1 : (0 : Int) ≤ (q : Int) := by omega
              have z3 : (0 : Int) ≤ (p : Int) := by omega
              have z4 : (p : Int) < M := by have := HQ.out; omega
              have v2 : IntKind.i64.wrap ((q : Int) - 1) = (p : Int) := wrapk _ _ (by have := HQ.out; omega) (by have := HQ.out; have := HMN.out; omega)
              have z5 : (0 : Int) ≤ (i : Int) := by omega
              have z7 : q ≤ 1000000 := by have := HMN.out; omega
              have z8 : i ≤ 1000000 := by have := HMN.out; have := HQ.out; omega
              have z6 : (i : Int) < n := by have := HMN.out; have := HQ.out; omega
              have HR := Lib.hid hR
              by_cases hq : (x.P == y.P) = true
              · have HE : Hid (∀ W', RS w0 gl (kept ++ (mid ++ l.drop (k + p))) W' → ∃ kept mid, kept = cmpV (l.take (k + (p + 1) + 1)) ∧ kept.length = i ∧ kept.length + mid.length = k + (p + 1) ∧ RS w0 gl (kept ++ (mid ++ l.drop (k + (p + 1)))) W') := Lib.hid (fun W' h => by
                  have e : x.P = y.P := by simpa using hq
                  refine ⟨kept, mid ++ [y], hst.1 e, hkl, by rw [List.length_append, List.length_singleton]; omega, ?_⟩
                  rw [List.drop_eq_getElem_cons (by omega), hy] at h
                  rw [List.append_assoc]; exact h)
                clear hst ed hg0 hform hlm hAX hAY hR hx hy hql hk hkl hml HU HL z5 z6
                go_upto_region 11 with (fail)
                have hSS : Gr wr wr.drew := (Gr.rfl' _).dr
                refine region_T 11 (fun w' => Gr wr w') (by kernel_rfl) ?_
                refine anyT_take (i := 0) (v := ?_) (some 38) rfl rfl (by kernel_rfl) (fun _ _ _ h => h) (Or.inl ⟨by rfl, ?_⟩) hSS ?_
                rotate_left
                · intro w' hSw; go_simp; (try with_reducible rfl)
                simp only [Act.put, List.setIfInBounds_toArray, List.set_cons_zero, List.set_cons_succ]
                refine anyT_take (i := 1) (v := ?_) (some 39) rfl rfl (by kernel_rfl) (fun _ _ _ h => h) (Or.inl ⟨by rfl, ?_⟩) hSS ?_
                rotate_left
                · intro w' hSw; go_simp; (try with_reducible rfl)
                simp only [Act.put, List.setIfInBounds_toArray, List.set_cons_zero, List.set_cons_succ]
                refine anyT_take (i := 2) (v := ?_) (some 40) rfl rfl (by kernel_rfl) (fun _ _ _ h => h) (Or.inl ⟨by rfl, ?_⟩) hSS ?_
                rotate_left
                · intro w' hSw; go_simp; (try with_reducible rfl)
                simp only [Act.put, List.setIfInBounds_toArray, List.set_cons_zero, List.set_cons_succ]
                refine anyT_take (i := 3) (v := ?_) (some 41) rfl rfl (by kernel_rfl) (fun _ _ _ h => h) (Or.inl ⟨by rfl, ?_⟩) hSS ?_
                rotate_left
                · intro w' hSw; go_simp; (try with_reducible rfl)
                simp only [Act.put, List.setIfInBounds_toArray, List.set_cons_zero, List.set_cons_succ]
                refine anyT_take (i := 4) (some 42) rfl rfl (by kernel_rfl) (fun _ _ _ h => h) (yieldsIf_ld (by rfl) 49 (.tmp 41) rfl (ad2.add (q * 5)) rfl x.cells.toList _ (fun w' hSw => LX.out w' hSw) Try.underlying49 rfl (by kernel_rfl)) hSS ?_
                simp only [Act.put, List.setIfInBounds_toArray, List.set_cons_zero, List.set_cons_succ]
                refine anyT_take (i := 5) (v := ?_) (some 43) rfl rfl (by kernel_rfl) (fun _ _ _ h => h) (Or.inl ⟨by rfl, ?_⟩) hSS ?_
                rotate_left
                · intro w' hSw; go_simp; (try with_reducible rfl)
                simp only [Act.put, List.setIfInBounds_toArray, List.set_cons_zero, List.set_cons_succ]
                refine anyT_take (i := 6) (v := ?_) (some 44) rfl rfl (by kernel_rfl) (fun _ _ _ h => h) (Or.inl ⟨by rfl, ?_⟩) hSS ?_
                rotate_left
                · intro w' hSw; go_simp; (try with_reducible rfl)
                simp only [Act.put, List.setIfInBounds_toArray, List.set_cons_zero, List.set_cons_succ]
                refine anyT_take (i := 7) (v := ?_) (some 45) rfl rfl (by kernel_rfl) (fun _ _ _ h => h) (Or.inl ⟨by rfl, ?_⟩) hSS ?_
                rotate_left
                · intro w' hSw; go_simp; (try with_reducible rfl)
                simp only [Act.put, List.setIfInBounds_toArray, List.set_cons_zero, List.set_cons_succ]
                refine anyT_take (i := 8) (v := ?_) (some 46) rfl rfl (by kernel_rfl) (fun _ _ _ h => h) (Or.inl ⟨by rfl, ?_⟩) hSS ?_
                rotate_left
                · intro w' hSw; go_simp; (try with_reducible rfl)
                simp only [Act.put, List.setIfInBounds_toArray, List.set_cons_zero, List.set_cons_succ]
                refine anyT_take (i := 9) (some 47) rfl rfl (by kernel_rfl) (fun _ _ _ h => h) (yieldsIf_ld (by rfl) 49 (.tmp 46) rfl (ad2.add (p * 5)) rfl y.cells.toList _ (fun w' hSw => LY.out w' hSw) Try.underlying49 rfl (by kernel_rfl)) hSS ?_
                simp only [Act.put, List.setIfInBounds_toArray, List.set_cons_zero, List.set_cons_succ]
                refine anyT_callG (i := 10) (some 48) 109 #[.agg x.cells, .agg y.cells] (by kernel_rfl) rfl (by kernel_rfl) rfl (by kernel_rfl) ?_
                refine (sync2_any x y _).mono ?_
                rintro e wd ⟨rfl, hgd⟩
                replace hSS := hSS.tr hgd
                refine ⟨_, rfl, fun _ => hSS, ?_⟩
                simp only [Act.put, List.setIfInBounds_toArray, List.set_cons_zero, List.set_cons_succ]
                clear hgd
                rw [hq]
                refine anyT_last (some 49) (.bool false) (by kernel_rfl) (by kernel_rfl) rfl (by kernel_rfl) rfl (by kernel_rfl) ?_
                simp only [Act.put, List.setIfInBounds_toArray, List.set_cons_zero, List.set_cons_succ]
                go_wp2
                go_roundw
                case rel => exact ⟨i, p + 1, q + 1, rfl, by go_num, Lib.hid (by rw [HQ.out]), by omega, Lib.hid (HE.out _ (HR.out.next hSS))⟩
                case measure => simp [intOf]; omega
              · have hq : (x.P == y.P) = false := by simpa using hq
                have HE : Hid (∀ W', RS w0 gl ((kept ++ (mid ++ l.drop (k + p))).set i x) W' → ∃ kept mid, kept = cmpV (l.take (k + (p + 1) + 1)) ∧ kept.length = i + 1 ∧ kept.length + mid.length = k + (p + 1) ∧ RS w0 gl (kept ++ (mid ++ l.drop (k + (p + 1)))) W') := Lib.hid (fun W' h => by
                  have e : ¬ x.P = y.P := by simpa using hq
                  obtain ⟨t, t1, t2, t3⟩ := hst.2 e
                  rw [← hkl, t3] at h
                  exact ⟨kept ++ [x], t, t2, by simp; omega, by rw [List.length_append, List.length_singleton]; omega, h⟩)
                clear hst ed hg0 hform hlm hAX hAY hR hx hy hql hk hkl hml HU
                go_upto_region 11 with (fail)
                have hSS : Gr wr wr.drew := (Gr.rfl' _).dr
                refine region_T 11 (fun w' => Gr wr w') (by kernel_rfl) ?_
                refine anyT_take (i := 0) (v := ?_) (some 38) rfl rfl (by kernel_rfl) (fun _ _ _ h => h) (Or.inl ⟨by rfl, ?_⟩) hSS ?_
                rotate_left
                · intro w' hSw; go_simp; (try with_reducible rfl)
                simp only [Act.put, List.setIfInBounds_toArray, List.set_cons_zero, List.set_cons_succ]
                refine anyT_take (i := 1) (v := ?_) (some 39) rfl rfl (by kernel_rfl) (fun _ _ _ h => h) (Or.inl ⟨by rfl, ?_⟩) hSS ?_
                rotate_left
                · intro w' hSw; go_simp; (try with_reducible rfl)
                simp only [Act.put, List.setIfInBounds_toArray, List.set_cons_zero, List.set_cons_succ]
                refine anyT_take (i := 2) (v := ?_) (some 40) rfl rfl (by kernel_rfl) (fun _ _ _ h => h) (Or.inl ⟨by rfl, ?_⟩) hSS ?_
                rotate_left
                · intro w' hSw; go_simp; (try with_reducible rfl)
                simp only [Act.put, List.setIfInBounds_toArray, List.set_cons_zero, List.set_cons_succ]
                refine anyT_take (i := 3) (v := ?_) (some 41) rfl rfl (by kernel_rfl) (fun _ _ _ h => h) (Or.inl ⟨by rfl, ?_⟩) hSS ?_
                rotate_left
                · intro w' hSw; go_simp; (try with_reducible rfl)
                simp only [Act.put, List.setIfInBounds_toArray, List.set_cons_zero, List.set_cons_succ]
                refine anyT_take (i := 4) (some 42) rfl rfl (by kernel_rfl) (fun _ _ _ h => h) (yieldsIf_ld (by rfl) 49 (.tmp 41) rfl (ad2.add (q * 5)) rfl x.cells.toList _ (fun w' hSw => LX.out w' hSw) Try.underlying49 rfl (by kernel_rfl)) hSS ?_
                simp only [Act.put, List.setIfInBounds_toArray, List.set_cons_zero, List.set_cons_succ]
                refine anyT_take (i := 5) (v := ?_) (some 43) rfl rfl (by kernel_rfl) (fun _ _ _ h => h) (Or.inl ⟨by rfl, ?_⟩) hSS ?_
                rotate_left
                · intro w' hSw; go_simp; (try with_reducible rfl)
                simp only [Act.put, List.setIfInBounds_toArray, List.set_cons_zero, List.set_cons_succ]
                refine anyT_take (i := 6) (v := ?_) (some 44) rfl rfl (by kernel_rfl) (fun _ _ _ h => h) (Or.inl ⟨by rfl, ?_⟩) hSS ?_
                rotate_left
                · intro w' hSw; go_simp; (try with_reducible rfl)
                simp only [Act.put, List.setIfInBounds_toArray, List.set_cons_zero, List.set_cons_succ]
                refine anyT_take (i := 7) (v := ?_) (some 45) rfl rfl (by kernel_rfl) (fun _ _ _ h => h) (Or.inl ⟨by rfl, ?_⟩) hSS ?_
                rotate_left
                · intro w' hSw; go_simp; (try with_reducible rfl)
                simp only [Act.put, List.setIfInBounds_toArray, List.set_cons_zero, List.set_cons_succ]
                refine anyT_take (i := 8) (v := ?_) (some 46) rfl rfl (by kernel_rfl) (fun _ _ _ h => h) (Or.inl ⟨by rfl, ?_⟩) hSS ?_
                rotate_left
                · intro w' hSw; go_simp; (try with_reducible rfl)
                simp only [Act.put, List.setIfInBounds_toArray, List.set_cons_zero, List.set_cons_succ]
                refine anyT_take (i := 9) (some 47) rfl rfl (by kernel_rfl) (fun _ _ _ h => h) (yieldsIf_ld (by rfl) 49 (.tmp 46) rfl (ad2.add (p * 5)) rfl y.cells.toList _ (fun w' hSw => LY.out w' hSw) Try.underlying49 rfl (by kernel_rfl)) hSS ?_
                simp only [Act.put, List.setIfInBounds_toArray, List.set_cons_zero, List.set_cons_succ]
                refine anyT_callG (i := 10) (some 48) 109 #[.agg x.cells, .agg y.cells] (by kernel_rfl) rfl (by kernel_rfl) rfl (by kernel_rfl) ?_
                refine (sync2_any x y _).mono ?_
                rintro e wd ⟨rfl, hgd⟩
                replace hSS := hSS.tr hgd
                refine ⟨_, rfl, fun _ => hSS, ?_⟩
                simp only [Act.put, List.setIfInBounds_toArray, List.set_cons_zero, List.set_cons_succ]
                clear hgd
                rw [hq]
                refine anyT_last (some 49) (.bool true) (by kernel_rfl) (by kernel_rfl) rfl (by kernel_rfl) rfl (by kernel_rfl) ?_
                simp only [Act.put, List.setIfInBounds_toArray, List.set_cons_zero, List.set_cons_succ]
                have LX2 : Hid (∀ j v, x.cells.toList[j]? = some v → wd.cell? ((ad2.add (q * 5)).add j) = some v) := Lib.hid (LX.out wd hSS)
                have HR2 := Lib.hid (HR.out.next hSS)
                clear HR LX LY hSS
                go_wp2_with (first
                  | refine ld_at rfl 49 (.tmp 54) rfl _ rfl x.cells.toList _ LX2.out Try.underlying49 rfl (by kernel_rfl) ?_
                  | (refine storeR x ad i HAD.out rfl (.tmp 56) (.tmp 55) rfl rfl rfl rfl HR2.out HL.out ?_; intro w5 hR5 _; have HR5 := Lib.hid hR5; clear hR5))
                go_roundw
                case rel => exact ⟨i + 1, p + 1, q + 1, by go_num, by go_num, Lib.hid (by rw [HQ.out]), by omega, Lib.hid (HE.out _ HR5.out)⟩
                case measure => simp [intOf]; omega
            · have hqi : ¬ (q : Int) < M := by omega
              have HF : Hid (∃ mid, (cmpV l).length = i ∧ i + mid.length = n ∧ 0 < mid.length ∧ RS w0 gl (cmpV l ++ mid) wr) := Lib.hid (by
                obtain ⟨kept, mid, hk, hkl, hml, hR⟩ := HU.out
                have a := HQ.out; have b := HMN.out; have c := HN.out
                rw [List.take_of_length_le (by omega)] at hk
                rw [hk] at hR hkl hml
                refine ⟨mid ++ l.drop (k + p), hkl, ?_, ?_, hR⟩
                · rw [List.length_append, List.length_drop]; omega
                · rw [List.length_append, List.length_drop]; omega)
              have hin : i < n := by obtain ⟨mid, h1, h2, h3, _⟩ := HF.out; omega
              clear HU
              have y1 : (0 : Int) ≤ i := by omega
              have y2 : (i : Int) ≤ n := by omega
              have y3 : (n : Int) ≤ cap := by omega
              have y4 : (i : Int) ≤ cap := by omega
              have hc1 : ¬ (cap - i = 0) := by omega
              have hc2 : ¬ (cap = i) := by omega
              have hh := HAD.out
              subst hh
              obtain ⟨mid, hf1, hf2, hf4, hf3⟩ := HF.out
              obtain ⟨uu, huu⟩ : ∃ u, cmpV l = u := ⟨_, rfl⟩
              rw [huu] at hf1 hf3
              have HUU := Lib.hid huu
              have HX := Lib.hid hf3
              have HLN : Hid (0 < n - i ∧ i + (n - i) = (uu ++ mid).length) := Lib.hid (by rw [List.length_append]; omega)
              have HT : Hid ((uu ++ mid).take i = uu) := Lib.hid (by rw [← hf1, List.take_left])
              have HU := Lib.hid hf1
              clear hf1 hf2 hf3 hf4 huu HF
              go_wp2_with (refine clearR i (n - i) (cap - i) rfl (.tmp 61) rfl rfl rfl HX.out HLN.out.1 HLN.out.2 ?_; intro w5 hR5 _; rw [HT.out] at hR5; have HR5 := Lib.hid hR5; clear hR5)
              go_ret
              rw [HUU.out, HU.out]
              exact ⟨rfl, HR5.out⟩
        · have hq : (x.P == y.P) = false := by simpa using hq
          have HK2 : Hid (cmpV (l.take (k + 1)) = l.take (k + 1)) := Lib.hid (by
            have e : ¬ x.P = y.P := by simpa using hq
            have hK := HK.out
            rw [if_neg e, ← hjp, hK] at hc
            rw [hjp] at hc ⊢
            rw [hc, List.take_succ_eq_append_getElem hkl, hx])
          clear hc hx hy hkl hjp
          go_upto_region 6 with (fail)
          have hSS : Gr wr wr.drew := (Gr.rfl' _).dr
          refine region_T 10 (fun w' => Gr wr w') (by kernel_rfl) ?_
          refine anyT_take (i := 0) (v := ?_) (some 18) rfl rfl (by kernel_rfl) (fun _ _ _ h => h) (Or.inl ⟨by rfl, ?_⟩) hSS ?_
          rotate_left
          · intro w' hSw; go_simp; (try with_reducible rfl)
          simp only [Act.put, List.setIfInBounds_toArray, List.set_cons_zero, List.set_cons_succ]
          refine anyT_take (i := 1) (v := ?_) (some 19) rfl rfl (by kernel_rfl) (fun _ _ _ h => h) (Or.inl ⟨by rfl, ?_⟩) hSS ?_
          rotate_left
          · intro w' hSw; go_simp; (try with_reducible rfl)
          simp only [Act.put, List.setIfInBounds_toArray, List.set_cons_zero, List.set_cons_succ]
          refine anyT_take (i := 2) (v := ?_) (some 20) rfl rfl (by kernel_rfl) (fun _ _ _ h => h) (Or.inl ⟨by rfl, ?_⟩) hSS ?_
          rotate_left
          · intro w' hSw; go_simp; (try with_reducible rfl)
          simp only [Act.put, List.setIfInBounds_toArray, List.set_cons_zero, List.set_cons_succ]
          refine anyT_take (i := 3) (v := ?_) (some 21) rfl rfl (by kernel_rfl) (fun _ _ _ h => h) (Or.inl ⟨by rfl, ?_⟩) hSS ?_
          rotate_left
          · intro w' hSw; go_simp; (try with_reducible rfl)
          simp only [Act.put, List.setIfInBounds_toArray, List.set_cons_zero, List.set_cons_succ]
          refine anyT_take (i := 4) (some 22) rfl rfl (by kernel_rfl) (fun _ _ _ h => h) (yieldsIf_ld (by rfl) 49 (.tmp 21) rfl (ad.add (k * 5)) rfl x.cells.toList _ (fun w' hSw => LX.out w' hSw) Try.underlying49 rfl (by kernel_rfl)) hSS ?_
          simp only [Act.put, List.setIfInBounds_toArray, List.set_cons_zero, List.set_cons_succ]
          refine anyT_take (i := 5) (v := ?_) (some 23) rfl rfl (by kernel_rfl) (fun _ _ _ h => h) (Or.inl ⟨by rfl, ?_⟩) hSS ?_
          rotate_left
          · intro w' hSw; go_simp; (try with_reducible rfl)
          simp only [Act.put, List.setIfInBounds_toArray, List.set_cons_zero, List.set_cons_succ]
          refine anyT_take (i := 6) (v := ?_) (some 24) rfl rfl (by kernel_rfl) (fun _ _ _ h => h) (Or.inl ⟨by rfl, ?_⟩) hSS ?_
          rotate_left
          · intro w' hSw; go_simp; (try with_reducible rfl)
          simp only [Act.put, List.setIfInBounds_toArray, List.set_cons_zero, List.set_cons_succ]
          refine anyT_take (i := 7) (v := ?_) (some 25) rfl rfl (by kernel_rfl) (fun _ _ _ h => h) (Or.inl ⟨by rfl, ?_⟩) hSS ?_
          rotate_left
          · intro w' hSw; go_simp; (try with_reducible rfl)
          simp only [Act.put, List.setIfInBounds_toArray, List.set_cons_zero, List.set_cons_succ]
          refine anyT_take (i := 8) (v := ?_) (some 26) rfl rfl (by kernel_rfl) (fun _ _ _ h => h) (Or.inl ⟨by rfl, ?_⟩) hSS ?_
          rotate_left
          · intro w' hSw; go_simp; (try with_reducible rfl)
          simp only [Act.put, List.setIfInBounds_toArray, List.set_cons_zero, List.set_cons_succ]
          refine anyT_take (i := 9) (some 27) rfl rfl (by kernel_rfl) (fun _ _ _ h => h) (yieldsIf_ld (by rfl) 49 (.tmp 26) rfl (ad.add (jp * 5)) rfl y.cells.toList _ (fun w' hSw => LY.out w' hSw) Try.underlying49 rfl (by kernel_rfl)) hSS ?_
          simp only [Act.put, List.setIfInBounds_toArray, List.set_cons_zero, List.set_cons_succ]
          refine anyT_callG (i := 10) (some 28) 109 #[.agg x.cells, .agg y.cells] (by kernel_rfl) rfl (by kernel_rfl) rfl (by kernel_rfl) ?_
          refine (sync2_any x y _).mono ?_
          rintro e wd ⟨rfl, hgd⟩
          replace hSS := hSS.tr hgd
          refine ⟨_, rfl, fun _ => hSS, ?_⟩
          simp only [Act.put, List.setIfInBounds_toArray, List.set_cons_zero, List.set_cons_succ]
          clear hgd
          refine anyT_done (by kernel_rfl) ?_ _
          rw [hq]
          go_wp2
          go_roundw
          case rel => exact ⟨k + 1, by go_num, by omega, by omega, HK2, Lib.hid (HR.out.next hSS)⟩
          case measure => simp [intOf]; omega
      · have hki : ¬ (k : Int) < n := by omega
        have HE : Hid (cmpV l = l) := Lib.hid (by
          have h := HK.out
          rw [List.take_of_length_le (by rw [HN.out]; omega)] at h
          exact h)
        go_wp2
        go_ret
        rw [HE.out, HN.out]
        exact ⟨rfl, HR.out⟩
end Go.Proofs.Ytfobnemocodomaa
set_option linter.unusedVariables false
set_option linter.unusedSimpArgs false
set_option maxHeartbeats 2000000
namespace Go.Proofs.Ytfobnemocodomaa
open Go.RowKit Go.Great

set_option maxRecDepth 100000 in
theorem insNil_any (w : World) :
    Calls Try.prog 198 #[.slice none 0 0, .int .i64 0, .int .i64 0, synF] w fun r w' => r = .returned (.tuple #[]) ∧ w' = w := by
  go_enter Try.func198, Try.ntmps198
  go_wp2
  go_loopw [8] (fun s wr => s = .int .i64 1 ∧ w = wr) (fun _ _ => 0)
  case atStart => exact ⟨rfl, rfl⟩
  case round =>
    obtain ⟨rfl, rfl⟩ := hrel
    go_wp2
    go_end0
    exact ⟨rfl, rfl⟩
set_option maxRecDepth 100000 in
theorem stableNil_any (w : World) :
    Calls Try.prog 171 #[.slice none 0 0, .int .i64 0, synF] w fun r w' => r = .returned (.tuple #[]) ∧ w' = w := by
  have HI := Lib.hid (insNil_any w)
  go_enter Try.func171, Try.ntmps171
  go_wp2
  go_loopw [7, 8] (fun s t wr => s = .int .i64 0 ∧ t = .int .i64 20 ∧ w = wr) (fun _ _ _ => 0)
  case atStart => exact ⟨rfl, rfl, rfl⟩
  case round =>
    obtain ⟨rfl, rfl, rfl⟩ := hrel
    go_wp2_with fail
    refine (HI.out).mono ?_
    rintro r w1 ⟨rfl, h1⟩
    have H1 := Lib.hid h1
    clear h1
    go_wp2
    go_loopw [6] (fun s wr => s = .int .i64 20 ∧ w1 = wr) (fun _ _ => 0)
    case atStart => exact ⟨rfl, rfl⟩
    case round =>
      obtain ⟨rfl, rfl⟩ := hrel
      go_wp2
      go_end0
      exact ⟨rfl, H1.out⟩
set_option maxRecDepth 100000 in
theorem stable19_any (gl n cap : Nat) (l : List Vx) (w0 w : World) (hR : RS w0 gl l w) (hn : l.length = n) (h19 : n ≤ 19) :
    Calls Try.prog 171 #[.slice (some ⟨gl, 0, none⟩) n cap, .int .i64 n, synF] w fun r w' => r = .returned (.tuple #[]) ∧ ∃ R, MrgV R l ∧ RS w0 gl R w' := by
  have hi := insert_any gl n cap 0 n [] l [] w0 w (by simpa using hR) rfl (by omega) (by simpa using hn) (by omega)
  simp only [List.nil_append, List.append_nil] at hi
  have HI := Lib.hid hi
  have h20 : ¬ (20 : Int) ≤ n := by omega
  have h21 : ¬ (20 : Int) < n := by omega
  clear hi hR hn
  go_enter Try.func171, Try.ntmps171
  go_wp2
  go_loopw [7, 8] (fun s t wr => s = .int .i64 0 ∧ t = .int .i64 20 ∧ w = wr) (fun _ _ _ => 0)
  case atStart => exact ⟨rfl, rfl, rfl⟩
  case round =>
    obtain ⟨rfl, rfl, rfl⟩ := hrel
    go_wp2_with fail
    refine (HI.out).mono ?_
    rintro r w1 ⟨rfl, h1⟩
    have H1 := Lib.hid h1
    clear h1
    go_wp2
    go_loopw [6] (fun s wr => s = .int .i64 20 ∧ w1 = wr) (fun _ _ => 0)
    case atStart => exact ⟨rfl, rfl⟩
    case round =>
      obtain ⟨rfl, rfl⟩ := hrel
      go_wp2
      go_end0
      exact ⟨rfl, H1.out⟩
/-- what is asked of sorting, up to N versions -/
def StableC (N : Nat) : Prop := ∀ (gl n cap : Nat) (l : List Vx) (w0 w : World), RS w0 gl l w → l.length = n → n ≤ N →
    Calls Try.prog 171 #[.slice (some ⟨gl, 0, none⟩) n cap, .int .i64 n, synF] w fun r w' => r = .returned (.tuple #[]) ∧ ∃ R, MrgV R l ∧ RS w0 gl R w'
theorem stableC19 : StableC 19 := fun gl n cap l w0 w h1 h2 h3 => stable19_any gl n cap l w0 w h1 h2 h3
set_option maxRecDepth 100000 in
theorem sortNil_any (w : World) :
    Calls Try.prog 106 #[.slice none 0 0, synF] w fun r w' => r = .returned (.tuple #[]) ∧ w' = w := by
  go_enter Try.func106, Try.ntmps106
  go_wp2_with fail
  refine (stableNil_any w).mono ?_
  rintro r w1 ⟨rfl, h1⟩
  go_wp2
  go_end0
  exact ⟨rfl, by first | exact h1 | rfl⟩
set_option maxRecDepth 100000 in
theorem sortRow_any {N : Nat} (hst : StableC N) (gl n cap : Nat) (l : List Vx) (w0 w : World) (hR : RS w0 gl l w) (hn : l.length = n) (hN : n ≤ N) :
    Calls Try.prog 106 #[.slice (some ⟨gl, 0, none⟩) n cap, synF] w fun r w' => r = .returned (.tuple #[]) ∧ ∃ R, MrgV R l ∧ RS w0 gl R w' := by
  have HI := Lib.hid (hst gl n cap l w0 w hR hn hN)
  clear hR hn
  go_enter Try.func106, Try.ntmps106
  go_wp2_with fail
  refine (HI.out).mono ?_
  rintro r w1 ⟨rfl, h1⟩
  have H1 := Lib.hid h1
  clear h1
  go_wp2
  go_end0
  exact ⟨rfl, H1.out⟩
end Go.Proofs.Ytfobnemocodomaa
