/- slices.DeleteFunc of the versions that some leaves cover: the walk. -/
import Derived.Test.YtfobnemocodomaaSynJ
import Derived.Test.YtfobnemocodomaaWldP
set_option linter.unusedVariables false
set_option linter.unusedSimpArgs false
set_option maxHeartbeats 2000000
namespace Go.Proofs.Ytfobnemocodomaa
open Go.RowKit Go.Great

theorem cut_addrI (i : Nat) (gl : Nat) : ((⟨gl, 0, none⟩ : Addr).add (i * 5)) = ⟨gl, i * 5, none⟩ := by rw [add_mid', Nat.zero_add]
/-- the row that is cut, beside the leaves that cover -/
structure CovK (gl : Nat) (w0 : World) (A : Option Addr) (rs : List VRow) (g capA : Nat) (W : World) : Prop where
  ne : g ≠ gl
  len : rs.length ≤ 9223372036854775807
  cl : W.cell? ⟨g, 0, none⟩ = some (.slice A rs.length capA)
  row : ∀ i (h : i < rs.length), ∃ ad, A = some ad ∧ ad.block ≠ gl ∧ W.cell? (ad.add i) = some (.slice rs[i].A rs[i].l.length rs[i].cap)
  vs : ∀ i (h : i < rs.length), Vers w0 rs[i].A rs[i].l
theorem add_block (a : Addr) (i : Nat) : (a.add i).block = a.block := by unfold Addr.add; split <;> rfl
theorem Sg.cell {gl : Nat} {w wt : World} (h : Sg gl w wt) {p : Addr} (hp : p.block ≠ gl) {v : Value} (hc : w.cell? p = some v) : wt.cell? p = some v := by
  rw [← hc]; simp only [World.cell?, h.keep _ hp]
theorem CovK.gr {gl : Nat} {w0 W W' : World} {A : Option Addr} {rs : List VRow} {g capA : Nat} (h : CovK gl w0 A rs g capA W) (k : Gr W W') : CovK gl w0 A rs g capA W' :=
  ⟨h.ne, h.len, k.cell h.cl, fun i hi => let ⟨ad, e, n, c⟩ := h.row i hi; ⟨ad, e, n, k.cell c⟩, h.vs⟩
theorem CovK.sg {gl : Nat} {w0 W W' : World} {A : Option Addr} {rs : List VRow} {g capA : Nat} (h : CovK gl w0 A rs g capA W) (k : Sg gl W W') : CovK gl w0 A rs g capA W' :=
  ⟨h.ne, h.len, k.cell h.ne h.cl, fun i hi => let ⟨ad, e, n, c⟩ := h.row i hi; ⟨ad, e, n, k.cell (by rw [add_block]; exact n) c⟩, h.vs⟩
theorem CovK.rows {gl : Nat} {w0 W : World} {A : Option Addr} {rs : List VRow} {g capA : Nat} (h : CovK gl w0 A rs g capA W) (k : Gr w0 W) : VRows W A rs :=
  ⟨h.len, fun i hi => let ⟨ad, e, _, c⟩ := h.row i hi; ⟨ad, e, c, (h.vs i hi).gr k⟩⟩
structure RK (w0 : World) (gl : Nat) (A : Option Addr) (rs : List VRow) (g capA : Nat) (xs : List Vx) (W : World) : Prop where
  rs' : RS w0 gl xs W
  k : CovK gl w0 A rs g capA W
theorem RK.next {w0 : World} {gl : Nat} {A : Option Addr} {rs : List VRow} {g capA : Nat} {xs : List Vx} {W W' : World} (h : RK w0 gl A rs g capA xs W) (k : Gr W W') : RK w0 gl A rs g capA xs W' := ⟨h.rs'.next k, h.k.gr k⟩
set_option maxRecDepth 100000 in
theorem dele_any (gl n cap : Nat) (l : List Vx) (A : Option Addr) (capA : Nat) (rs : List VRow) (g : Nat) (w0 w : World) (hR : RK w0 gl A rs g capA l w) (hn : l.length = n) (hnc : n ≤ cap) (hlb : n ≤ 1000000)
    (hlr : (allV rs).length ≤ 1000000) (ho : vsOk w0 l) :
    Calls Try.prog 104 #[.slice (some ⟨gl, 0, none⟩) n cap, .func (.func 160) #[] #[.pointer (some ⟨g, 0, none⟩)]] w fun r w' =>
      r = .returned (.slice (some ⟨gl, 0, none⟩) (unc (allV rs) l).length cap) ∧ RS w0 gl (unc (allV rs) l) w' := by
  have R0 := Lib.hid hR
  have hv := hR.rs'.vers (fun x hx => (ho x hx).gr hR.rs'.gr) (by omega)
  have hidx := cov1Index_any (some ⟨gl, 0, none⟩) cap l A capA rs g w hv (hR.k.rows hR.rs'.gr) hR.k.cl hlr
  rw [hn] at hidx
  have HN := Lib.hid hn
  have HCC : Hid (∀ (x : Vx) (W : World) (xs : List Vx), RK w0 gl A rs g capA xs W → Calls Try.prog 160 #[.agg x.cells, .pointer (some ⟨g, 0, none⟩)] W fun e w' => e = .returned (.bool (covB (allV rs) x.P x.C)) ∧ Gr W w') := Lib.hid (fun x W _ h => cov1_any A capA rs x g W (h.k.rows h.rs'.gr) h.k.cl hlr)
  obtain ⟨ad, had⟩ : ∃ ad, (⟨gl, 0, none⟩ : Addr) = ad := ⟨_, rfl⟩
  have HAD : Hid (ad = ⟨gl, 0, none⟩) := Lib.hid had.symm
  rw [had] at hidx ⊢
  rcases cvIdx_cases (allV rs) l 0 with ⟨h1, h2, _⟩ | ⟨k0, hk0, h1, h2, h3⟩
  · rw [h1] at hidx
    have HI := Lib.hid hidx
    have H2 := Lib.hid h2
    clear hidx h1 h2 hv hn had hR ho
    go_enter Try.func104, Try.ntmps104
    go_wp2_with fail
    refine (HI.out).mono ?_
    rintro r w1 ⟨rfl, g1⟩
    go_wp2
    go_ret
    rw [H2.out]
    refine ⟨?_, (R0.out.next g1).rs'⟩
    have := HN.out
    subst this
    rfl
  · rw [h1, Int.zero_add] at hidx
    have HI := Lib.hid hidx
    have hk0n : k0 < n := by omega
    have HS : Hid (unc (allV rs) (l.take (k0 + 1)) = l.take k0) := Lib.hid (by have e := unc_take (m := allV rs) hk0; rw [h2, if_pos h3, List.append_nil] at e; exact e)
    have HK0 := Lib.hid hk0
    have hkm : ((k0 : Int) == -1) = false := by simp
    clear hidx h1 h2 h3 hv hn had hR ho hk0
    have hu0 : Hid (∃ kept mid, kept = unc (allV rs) (l.take (k0 + 1)) ∧ kept.length = k0 ∧ mid.length = k0 + 1 - k0 ∧ RK w0 gl A rs g capA (kept ++ (mid ++ l.drop (k0 + 1))) w) := Lib.hid (by
      refine ⟨l.take k0, [l[k0]'HK0.out], HS.out.symm, by rw [List.length_take]; have := HK0.out; omega, by simp, ?_⟩
      have e : l.take k0 ++ ([l[k0]'HK0.out] ++ l.drop (k0 + 1)) = l := by
        rw [List.singleton_append, ← List.drop_eq_getElem_cons HK0.out, List.take_append_drop]
      rw [e]; exact R0.out)
    go_enter Try.func104, Try.ntmps104
    go_wp2_with fail
    refine (HI.out).mono ?_
    rintro r w1 ⟨rfl, g1⟩
    have hu1 : Hid (∃ kept mid, kept = unc (allV rs) (l.take (k0 + 1)) ∧ kept.length = k0 ∧ mid.length = k0 + 1 - k0 ∧ RK w0 gl A rs g capA (kept ++ (mid ++ l.drop (k0 + 1))) w1) := Lib.hid (by
      obtain ⟨a, b, c1, c2, c3, c4⟩ := hu0.out
      exact ⟨a, b, c1, c2, c3, c4.next g1⟩)
    clear hu0 R0 g1
    go_wp2
    go_loopw [5, 6] (fun s t wr => ∃ i j : Nat, s = .int .i64 i ∧ t = .int .i64 j ∧ i < j ∧ j ≤ n ∧ Hid (∃ kept mid, kept = unc (allV rs) (l.take j) ∧ kept.length = i ∧ mid.length = j - i ∧ RK w0 gl A rs g capA (kept ++ (mid ++ l.drop j)) wr)) (fun _ t _ => n - (intOf t).toNat)
    case atStart => exact ⟨k0, k0 + 1, rfl, by go_num, by omega, by omega, hu1⟩
    case round =>
      clear hu1 hk0n hkm HS
      obtain ⟨i, j, rfl, rfl, hij, hjn, HU⟩ := hrel
      by_cases hlt : j < n
      · have hji : (j : Int) < n := by omega
        have hjl : j < l.length := by rw [HN.out]; exact hlt
        obtain ⟨x, hx⟩ : ∃ x, l[j] = x := ⟨_, rfl⟩
        obtain ⟨kept, mid, hk, hkl, hml, hR⟩ := HU.out
        have hut := unc_take (m := allV rs) hjl
        rw [hx, ← hk] at hut
        have ed : l.drop j = x :: l.drop (j + 1) := by rw [List.drop_eq_getElem_cons hjl, hx]
        rw [ed] at hR
        have hget : (kept ++ (mid ++ x :: l.drop (j + 1)))[j]? = some x := by
          rw [← List.append_assoc]
          have e : j = (kept ++ mid).length := by rw [List.length_append]; omega
          conv => lhs; rw [e]
          exact get_mid _ _ _
        have hlen : (kept ++ (mid ++ x :: l.drop (j + 1))).length = n := by
          have hh := HN.out
          simp only [List.length_append, List.length_cons, List.length_drop]
          omega
        have LX : Hid (∀ q v, x.cells.toList[q]? = some v → wr.cell? ((ad.add (j * 5)).add q) = some v) := Lib.hid (fun q v hq => hR.rs'.ld HAD.out hget q v hq)
        have HR := Lib.hid hR
        have hc := fun (W : World) (g : Gr wr W) => HCC.out x W _ (HR.out.next g)
        by_cases hq : covB (allV rs) x.P x.C = true
        · simp only [hq] at hc
          have HC := Lib.hid hc
          have HF : Hid (∀ W', RK w0 gl A rs g capA (kept ++ (mid ++ x :: l.drop (j + 1))) W' → ∃ kept mid, kept = unc (allV rs) (l.take (j + 1)) ∧ kept.length = i ∧ mid.length = j + 1 - i ∧ RK w0 gl A rs g capA (kept ++ (mid ++ l.drop (j + 1))) W') := Lib.hid (fun W' h => by
            rw [if_pos hq, List.append_nil] at hut
            exact ⟨kept, mid ++ [x], hut.symm, hkl, by simp; omega, by simpa using h⟩)
          clear hc hq hR hut ed hget hlen hk hkl hml HU hx
          go_upto_region 8 with (first
            | refine ld_at rfl 49 (.tmp 24) rfl _ rfl x.cells.toList _ LX.out Try.underlying49 rfl (by kernel_rfl) ?_
            | refine allocV rfl rfl ?_
            | (refine storeV x rfl (.tmp 7) _ rfl rfl rfl rfl ?_; intro W1 hx1 hg1; obtain ⟨gX, hgX⟩ : ∃ g, wr.heap.size = g := ⟨_, rfl⟩; rw [hgX] at hx1 ⊢; have HX1 := Lib.hid hx1; have G1 := Lib.hid hg1; clear hx1 hg1 hgX))
          go_wp2_with (first | refine wpList_load_row rfl 49 (.tmp 7) rfl gX rfl 49 x.cells (0, 0) _ HX1.out Try.underlying49 rfl (by kernel_rfl) ?_)
          refine (HC.out W1 G1.out).mono ?_
          rintro e w4 ⟨rfl, hg4⟩
          have HX4 := Lib.hid ((hg4.block _ (Array.getElem?_eq_some_iff.1 HX1.out).1).trans HX1.out)
          have HR4 := Lib.hid (HR.out.next (G1.out.tr hg4))
          clear HX1 G1 hg4 HR LX
          go_wp2
          go_roundw
          case rel => exact ⟨i, j + 1, rfl, by go_num, by omega, by omega, Lib.hid (HF.out _ HR4.out)⟩
          case measure => simp [intOf]; omega
        · have hq : covB (allV rs) x.P x.C = false := by simpa using hq
          simp only [hq] at hc
          have HC := Lib.hid hc
          have HF : Hid (∀ W', RK w0 gl A rs g capA ((kept ++ (mid ++ x :: l.drop (j + 1))).set i x) W' → ∃ kept mid, kept = unc (allV rs) (l.take (j + 1)) ∧ kept.length = i + 1 ∧ mid.length = j + 1 - (i + 1) ∧ RK w0 gl A rs g capA (kept ++ (mid ++ l.drop (j + 1))) W') := Lib.hid (fun W' h => by
            rw [if_neg (by rw [hq]; simp)] at hut
            cases mid with
            | nil => simp at hml; omega
            | cons m0 mr =>
              refine ⟨kept ++ [x], mr ++ [x], hut.symm, by simp; omega, by simp at hml ⊢; omega, ?_⟩
              rw [← hkl, List.cons_append, set_mid] at h
              simpa using h)
          have HL : Hid (i < (kept ++ (mid ++ x :: l.drop (j + 1))).length) := Lib.hid (by rw [hlen]; omega)
          have z1 : (0 : Int) ≤ i := by omega
          have z2 : (i : Int) < n := by omega
          clear hc hq hR hut ed hget hlen hk hkl hml HU hx
          go_upto_region 8 with (first
            | refine ld_at rfl 49 (.tmp 24) rfl _ rfl x.cells.toList _ LX.out Try.underlying49 rfl (by kernel_rfl) ?_
            | refine allocV rfl rfl ?_
            | (refine storeV x rfl (.tmp 7) _ rfl rfl rfl rfl ?_; intro W1 hx1 hg1; obtain ⟨gX, hgX⟩ : ∃ g, wr.heap.size = g := ⟨_, rfl⟩; rw [hgX] at hx1 ⊢; have HX1 := Lib.hid hx1; have G1 := Lib.hid hg1; clear hx1 hg1 hgX))
          go_wp2_with (first | refine wpList_load_row rfl 49 (.tmp 7) rfl gX rfl 49 x.cells (0, 0) _ HX1.out Try.underlying49 rfl (by kernel_rfl) ?_)
          refine (HC.out W1 G1.out).mono ?_
          rintro e w4 ⟨rfl, hg4⟩
          have HX4 := Lib.hid ((hg4.block _ (Array.getElem?_eq_some_iff.1 HX1.out).1).trans HX1.out)
          have HR4 := Lib.hid (HR.out.next (G1.out.tr hg4))
          clear HX1 G1 hg4 HR LX
          go_wp2_with (first
            | refine wpList_load_row rfl 49 (.tmp 7) rfl gX rfl 49 x.cells (0, 0) _ HX4.out Try.underlying49 rfl (by kernel_rfl) ?_
            | (refine storeR x ad i HAD.out rfl (.tmp 33) (.tmp 32) rfl rfl rfl rfl HR4.out.rs' HL.out ?_; intro w5 hR5 hs5; have HR5 := Lib.hid (RK.mk hR5 (HR4.out.k.sg hs5)); clear hR5 hs5))
          go_roundw
          case rel => exact ⟨i + 1, j + 1, by go_num, by go_num, by omega, by omega, Lib.hid (HF.out _ HR5.out)⟩
          case measure => simp [intOf]; omega
      · have hji : ¬ (j : Int) < n := by omega
        have hjn' : j = n := by omega
        subst hjn'
        have HF : Hid (∃ mid, (unc (allV rs) l).length = i ∧ mid.length = j - i ∧ RK w0 gl A rs g capA (unc (allV rs) l ++ mid) wr) := Lib.hid (by
          obtain ⟨kept, mid, hk, hkl, hml, hR⟩ := HU.out
          rw [List.take_of_length_le (by have := HN.out; omega)] at hk
          rw [List.drop_of_length_le (by have := HN.out; omega), List.append_nil] at hR
          exact ⟨mid, by rw [← hk]; exact hkl, hml, by rw [← hk]; exact hR⟩)
        clear HU
        have z1 : (0 : Int) ≤ i := by omega
        have z2 : (i : Int) ≤ j := by omega
        have z3 : (j : Int) ≤ cap := by omega
        have z4 : (i : Int) ≤ cap := by omega
        have hc1 : ¬ (cap - i = 0) := by omega
        have hc2 : ¬ (cap = i) := by omega
        have hh := HAD.out
        subst hh
        obtain ⟨mid, hf1, hf2, hf3⟩ := HF.out
        obtain ⟨uu, huu⟩ : ∃ u, unc (allV rs) l = u := ⟨_, rfl⟩
        rw [huu] at hf1 hf3
        have HUU := Lib.hid huu
        have HX := Lib.hid hf3
        have HLN : Hid (0 < j - i ∧ i + (j - i) = (uu ++ mid).length) := Lib.hid (by rw [List.length_append]; omega)
        have HT : Hid ((uu ++ mid).take i = uu) := Lib.hid (by rw [← hf1, List.take_left])
        have HU := Lib.hid hf1
        clear hf1 hf2 hf3 huu HF
        go_wp2_with (refine clearR i (j - i) (cap - i) rfl (.tmp 38) rfl rfl rfl HX.out.rs' HLN.out.1 HLN.out.2 ?_; intro w5 hR5 _; rw [HT.out] at hR5; have HR5 := Lib.hid hR5; clear hR5)
        go_ret
        rw [HUU.out, HU.out]
        exact ⟨rfl, HR5.out⟩
theorem fil_unc (X : List Vx) : filS X = unc X X := rfl
set_option maxRecDepth 100000 in
theorem deleNil_any (A : Option Addr) (capA : Nat) (rs : List VRow) (g : Nat) (w : World) (hV : VRows w A rs) (hgc : w.cell? ⟨g, 0, none⟩ = some (.slice A rs.length capA)) (hlr : (allV rs).length ≤ 1000000) :
    Calls Try.prog 104 #[.slice none 0 0, .func (.func 160) #[] #[.pointer (some ⟨g, 0, none⟩)]] w fun r w' => r = .returned (.slice none 0 0) ∧ Gr w w' := by
  have HI := Lib.hid (cov1Index_any none 0 [] A capA rs g w ⟨by simp, fun i hi => absurd hi (by simp)⟩ hV hgc hlr)
  go_enter Try.func104, Try.ntmps104
  go_wp2_with fail
  refine (HI.out).mono ?_
  rintro r w1 ⟨rfl, g1⟩
  go_wp2
  go_ret
  exact ⟨rfl, g1⟩
theorem VRows.two {w : World} {A B : Option Addr} {ca cb : Nat} {a b : List Vx} (ha : Vers w A a) (hb : Vers w B b) (t : TypeId) : VRows (w.alloc (.cells #[.slice A a.length ca, .slice B b.length cb] t)) (some ⟨w.heap.size, 0, none⟩) [⟨A, ca, a⟩, ⟨B, cb, b⟩] := by
  obtain ⟨k0, k1⟩ := two_ints (W := w) (.slice A a.length ca) (.slice B b.length cb) t
  have hg : Gr w (w.alloc (.cells #[.slice A a.length ca, .slice B b.length cb] t)) := (Gr.rfl' w).al _
  refine ⟨by simp, fun i hi => ⟨_, rfl, ?_⟩⟩
  rw [add_mid', Nat.zero_add]
  match i, hi with
  | 0, _ => exact ⟨k0, ha.gr hg⟩
  | 1, _ => exact ⟨k1, hb.gr hg⟩
theorem allV_two (A B : Option Addr) (ca cb : Nat) (a b : List Vx) : allV [⟨A, ca, a⟩, ⟨B, cb, b⟩] = a ++ b := by simp [allV]
end Go.Proofs.Ytfobnemocodomaa
