/- hearsayref08: May, Learn, Merge, Same. -/
import Derived.Test.YtpaogcighlfelaaMatD
set_option linter.unusedVariables false
set_option linter.unusedSimpArgs false
set_option maxHeartbeats 4000000
namespace Go.Proofs.Ytpaogcighlfelaa
open Go.RowKit

theorem refMay_any (n : Nat) (p : Int) (A : Option Addr) (c : Nat) (v : List Dot) (w : World) (hv : Dots w A v) :
    Calls Try.prog 29 #[.int .i64 n, .int .i64 p, .slice A v.length c] w fun e w' => e = .returned (.int .i64 (mayV n p v)) ∧ Gr w w' := by
  have HC := Lib.hid (refCheck_any A c v w hv)
  have HV := Lib.hid hv
  have hvm := hv.1
  clear hv
  by_cases h0 : p < 0
  · have HR : Hid (mayV n p v = 11) := Lib.hid (by unfold mayV; rw [if_neg (by rw [thereB_iff]; omega)])
    clear HC hvm
    go_enter Try.func29, Try.ntmps29
    go_wp2
    go_ret
    rw [HR.out]
    exact ⟨rfl, Gr.rfl' _⟩
  by_cases h1 : (n : Int) ≤ p
  · have HR : Hid (mayV n p v = 11) := Lib.hid (by unfold mayV; rw [if_neg (by rw [thereB_iff]; omega)])
    clear HC hvm
    go_enter Try.func29, Try.ntmps29
    go_wp2
    go_ret
    rw [HR.out]
    exact ⟨rfl, Gr.rfl' _⟩
  have ht : thereB n p = true := by rw [thereB_iff]; omega
  by_cases hc : chk v = 0
  · rw [hc] at HC
    have HE : Hid (mayV n p v = if farB n v then 11 else 0) := Lib.hid (by unfold mayV; rw [if_pos ht, if_pos hc])
    clear ht hc
    go_enter Try.func29, Try.ntmps29
    go_wp2_with fail
    refine (HC.out).mono ?_
    rintro e w1 ⟨rfl, hg⟩
    have HG := Lib.hid hg
    clear hg HC
    go_wp2
    go_loopw [8] (fun i wr => ∃ k : Nat, k ≤ v.length ∧ i = .int .i64 k ∧ Hid (∀ j (hj : j < v.length), j < k → ¬ (n : Int) ≤ v[j].1) ∧ wr = w1) (fun i _ => v.length - (intOf i).toNat)
    case atStart => exact ⟨0, Nat.zero_le _, rfl, Lib.hid (fun j _ hj => absurd hj (by omega)), rfl⟩
    case round =>
      obtain ⟨k, hk, rfl, HA, rfl⟩ := hrel
      by_cases hlt : k < v.length
      · have hki : (k : Int) < (v.length : Int) := by omega
        obtain ⟨ad, rfl, hc1, _⟩ := HV.out.2 k hlt
        replace hc1 := HG.out.cell hc1
        obtain ⟨q, hq⟩ : ∃ q, v[k].1 = q := ⟨_, rfl⟩
        rw [hq] at hc1
        by_cases hf : (n : Int) ≤ q
        · have HR : Hid (mayV n p v = 11) := Lib.hid (by rw [HE.out, farB_at n v k hlt (by rw [hq]; exact hf)]; rfl)
          clear hq HA
          go_wp2
          go_ret
          rw [HR.out]
          exact ⟨rfl, HG.out⟩
        · have HA2 : Hid (∀ j (hj : j < v.length), j < k + 1 → ¬ (n : Int) ≤ v[j].1) := Lib.hid (fun j hj hjk => by
            by_cases e : j = k
            · subst e; rw [hq]; exact hf
            · exact HA.out j hj (by omega))
          clear hq HA
          go_wp2
          go_roundw
          case rel => exact ⟨k + 1, by omega, by go_num, HA2, trivial⟩
          case measure => simp [intOf]; omega
      · have hkn : k = v.length := by omega
        subst hkn
        have hki : ¬ (v.length : Int) < (v.length : Int) := by omega
        have HR : Hid (mayV n p v = 0) := Lib.hid (by rw [HE.out, farB_upto n v (fun j hj => HA.out j hj hj)]; rfl)
        go_wp2
        go_ret
        rw [HR.out]
        exact ⟨rfl, HG.out⟩
  · have HR : Hid (mayV n p v = chk v) := Lib.hid (by unfold mayV; rw [if_pos ht, if_neg hc])
    obtain ⟨x, hx⟩ : ∃ x, chk v = x := ⟨_, rfl⟩
    rw [hx] at HC HR hc
    clear ht hx
    go_enter Try.func29, Try.ntmps29
    go_wp2_with fail
    refine (HC.out).mono ?_
    rintro e w1 ⟨rfl, hg⟩
    have HG := Lib.hid hg
    clear hg HC
    go_wp2
    go_ret
    rw [HR.out]
    exact ⟨rfl, HG.out⟩
theorem RowC.set {w : World} {B g : Nat} {v : Value} {ds : List DRow} {d : DRow} (h : RowC w B g v ds) {i : Nat} (hi : i < ds.length) (hd : d.l.length ≤ d.cap) (hdd : Dots w d.A d.l) (hoff : Off g d) :
    RowC (w.setCell ⟨g, i, none⟩ d.val) B g v (ds.set i d) := by
  have hp := h.2.1.put i [d.val] (by simp; omega)
  have hk : w.grownBy (w.setCell ⟨g, i, none⟩ d.val) (some g) := rg_grown g i [d.val] w
  refine ⟨h.1, ?_, fun x hx => ?_⟩
  · rw [List.length_set]
    have e : (ds.set i d).map DRow.val = (ds.map DRow.val).take i ++ [d.val] ++ (ds.map DRow.val).drop (i + [d.val].length) := by
      rw [List.map_set]
      rw [List.set_eq_take_append_cons_drop, if_pos (by simpa using hi)]
      simp
    rw [e]
    exact hp
  · have : x.l.length ≤ x.cap ∧ Dots w x.A x.l ∧ Off g x := by
      rcases List.mem_or_eq_of_mem_set hx with hx | rfl
      · exact h.2.2 x hx
      · exact ⟨hd, hdd, hoff⟩
    exact ⟨this.1, this.2.1.off this.2.2 hk, this.2.2⟩
theorem OwnG.fresh (w : World) (E : TypeId) (sz : Nat) : OwnG E sz (w.alloc (.cells #[] E)) w.heap.size (.slice (some ⟨w.heap.size, 0, none⟩) 0 0) 0 [] :=
  ⟨0, #[], rfl, World.alloc_heap_new _ _, by simp, by simp [maxLen], by simp, by simp, by simp⟩
theorem ls_set (ds : List DRow) (i : Nat) (d : DRow) : ls (ds.set i d) = (ls ds).set i d.l := by unfold ls; rw [List.map_set]
theorem refLearn_any (B g : Nat) (c : Nat) (ds : List DRow) (p : Int) (A : Option Addr) (cl : Nat) (l : List Dot) (w : World) (h : RowC w B g (.slice (some ⟨g, 0, none⟩) ds.length c) ds) (hl : Dots w A l) (hlc : l.length ≤ cl) (hB : B ≤ w.heap.size) (hn : ds.length ≤ 64) :
    Calls Try.prog 18 #[.slice (some ⟨g, 0, none⟩) ds.length c, .int .i64 p, .slice A l.length cl] w fun e w' => (∃ v', e = .returned (.tuple #[v', .int .i64 (mayV ds.length p l)]) ∧ ∃ g' ds', RowC w' B g' v' ds' ∧ ls ds' = learnR (ls ds) p l) ∧ Gr w w' := by
  have HMY := Lib.hid (refMay_any ds.length p A cl l w hl)
  have HRC := Lib.hid h
  by_cases hm : mayV ds.length p l = 0
  · obtain ⟨hp, hov⟩ := mayV_zero hm
    obtain ⟨i, rfl⟩ : ∃ i : Nat, p = (i : Int) := ⟨p.toNat, by omega⟩
    have hi : i < ds.length := by omega
    have hle : learnR (ls ds) i l = (ls ds).set i (joinL ds[i].l l) := by
      unfold learnR
      rw [ls_len, if_pos hm]
      have e : ((i : Int)).toNat = i := by omega
      rw [e, ls_at ds i hi]
    have HLE := Lib.hid hle
    rw [hm] at HMY ⊢
    obtain ⟨ad, ead, hc, hd⟩ := h.rows.choose_spec.2.2.2 i hi
    cases ead
    have hci : w.cell? ⟨g, i, none⟩ = some (.slice ds[i].A ds[i].l.length ds[i].cap) := by
      have e : (⟨g, 0, none⟩ : Addr).add i = ⟨g, i, none⟩ := by unfold Addr.add; split <;> simp_all
      rwa [e] at hc
    have hcapi := (h.2.2 _ (List.getElem_mem hi)).1
    have HJ := Lib.hid (fun w2 (g : Gr w w2) => refJoin_any ds[i].A A ds[i].cap cl ds[i].l l w2 (hd.gr g) (hl.gr g))
    rw [← join_eq] at HJ
    obtain ⟨i0, hi0, hz0, hz1, hz2⟩ := info_parts infoRow
    have HCI : Hid (∀ w2, Gr w w2 → w2.cell? ⟨g, i, none⟩ = some (.slice ds[i].A ds[i].l.length ds[i].cap)) := Lib.hid (fun w2 g => g.cell hci)
    have HNW : Hid (∀ w2, Gr w w2 → ∀ j u, (ds.map DRow.val)[j]? = some u → w2.cell? ((⟨g, 0, none⟩ : Addr).add j) = some u) := Lib.hid (fun w2 gw j u hj => by
      have e : (⟨g, 0, none⟩ : Addr).add j = ⟨g, j, none⟩ := by unfold Addr.add; split <;> simp_all
      rw [e]
      exact ((h.gr gw).2.1.cell j u hj).1)
    have HN1 : Hid (∀ u ∈ ds.map DRow.val, u.oneCell' = true) := Lib.hid (fun u hu => by
      rw [List.mem_map] at hu
      obtain ⟨d, _, rfl⟩ := hu; rfl)
    have HNL : Hid ((ds.map DRow.val).length = ds.length * 1) := Lib.hid (by simp)
    have HALL : Hid (∀ d ∈ ds, d.l.length ≤ d.cap ∧ Dots w d.A d.l) := Lib.hid (fun d hd => ⟨(h.2.2 d hd).1, (h.2.2 d hd).2.1⟩)
    obtain ⟨x, hx⟩ : ∃ x, ds[i] = x := ⟨_, rfl⟩
    rw [hx] at HCI HJ hle
    obtain ⟨xA, xc, xl⟩ := x
    simp only at HCI HJ
    have HX := Lib.hid hx
    clear h hl hm hp hov hle hc hd hci hcapi hx
    go_enter Try.func18, Try.ntmps18
    go_wp2_with fail
    refine (HMY.out).mono ?_
    rintro e w1 ⟨rfl, hg⟩
    have HG := Lib.hid hg
    have HA1 : Hid (Gr w1 (w1.alloc (.cells #[] 28))) := Lib.hid ((Gr.rfl' _).al _)
    have HFR := Lib.hid (OwnG.fresh w1 28 1)
    have HG1 := Lib.hid (HG.out.tr HA1.out)
    have hgw : w.heap.size ≤ w1.heap.size := HG.out.size
    clear hg HMY
    go_wp2_with (at_builtin; go_loud (refine wp_appendG rfl _ _ 31 rfl 28 i0 (.slice none 0 0) 1 24 Try.underlying31 hi0 hz0 hz1 hz2 rfl (by decide) w1.heap.size _ 0 [] rfl HFR.out ⟨g, 0, none⟩ ds.length c (ds.map DRow.val) rfl HNL.out (HNW.out _ HG1.out) HN1.out (by simp only [maxLen]; omega) (by omega) ?_); intro v' w2 g' hown' hg' hgrow; have hci2 := HCI.out w2 (HG1.out.grown hgrow HG1.out.size (fun j e => by have := Option.some.inj e; omega)))
    have hgg : w1.heap.size ≤ g' := by
      rcases hg' with rfl | hg'
      · exact Nat.le_refl _
      · simp at hg'; omega
    rw [Nat.zero_add, List.nil_append] at hown'
    have HG2 : Hid (Gr w w2) := Lib.hid (HG1.out.grown hgrow HG1.out.size (fun j e => by have := Option.some.inj e; omega))
    have HRC2 : Hid (RowC w2 B g' v' ds) := Lib.hid ⟨by omega, hown', fun d hd => ⟨(HALL.out d hd).1, (HALL.out d hd).2.gr HG2.out, Off.new (HALL.out d hd).2 (by omega)⟩⟩
    have hgl := hown'.lt
    obtain ⟨c2, rfl, _, _⟩ := hown'.shape
    have HIL := Lib.hid hi
    have hii : (i : Int) < (ds.length : Int) := by omega
    clear hown' hgrow hg' HFR HNW HN1 HALL HA1 HNL
    go_wp2_with fail
    refine (HJ.out _ HG2.out).mono ?_
    rintro e w3 ⟨v3, rfl, ho, hg3⟩
    obtain ⟨A3, c3, rfl, hlc3, hd3⟩ := ho.dots
    have HRC3 := Lib.hid (HRC2.out.gr hg3)
    have hthere : w3.cell? ⟨g', i, none⟩ = some (.slice xA xl.length xc) ∧ w3.frozen? ⟨g', i, none⟩ = false := by
      have := HRC3.out.2.1.cell i (DRow.val ⟨xA, xc, xl⟩) (by rw [List.getElem?_map, List.getElem?_eq_getElem hi, HX.out]; rfl)
      exact this
    have HOF := Lib.hid (Off.own ho (by omega))
    have HS := Lib.hid (HRC3.out.set (d := ⟨A3, c3, joinL xl l⟩) hi hlc3 hd3 HOF.out)
    have HGF : Hid (Gr w (w3.setCell ⟨g', i, none⟩ (.slice A3 (joinL xl l).length c3))) := Lib.hid ((HG2.out.tr hg3).set (p := ⟨g', i, none⟩) (by show _ ≤ g'; omega) _)
    obtain ⟨ht1, ht2⟩ := hthere
    clear ho hd3 HJ HRC2 HRC3
    go_wp2
    refine bodyPost_ret (v := .tuple #[.slice (some ⟨g', 0, none⟩) ds.length c2, .int .i64 0]) (by simp [results, Try.results18, go_sem]) rfl ?_
    refine ⟨⟨_, rfl, g', _, HS.out, ?_⟩, HGF.out⟩
    rw [ls_set, HLE.out, HX.out]
  · have HLE : Hid (ls ds = learnR (ls ds) p l) := Lib.hid (by unfold learnR; rw [ls_len, if_neg hm])
    obtain ⟨x, hx⟩ : ∃ x, mayV ds.length p l = x := ⟨_, rfl⟩
    rw [hx] at HMY hm ⊢
    clear h hl hx
    go_enter Try.func18, Try.ntmps18
    go_wp2_with fail
    refine (HMY.out).mono ?_
    rintro e w1 ⟨rfl, hg⟩
    have HG := Lib.hid hg
    clear hg HMY
    go_wp2
    refine bodyPost_ret (v := .tuple #[.slice (some ⟨g, 0, none⟩) ds.length c, .int .i64 x]) (by simp [results, Try.results18, go_sem]) rfl ?_
    exact ⟨⟨_, rfl, g, ds, HRC.out.gr HG.out, HLE.out⟩, HG.out⟩
end Go.Proofs.Ytpaogcighlfelaa
