/- hearsaylaw12.MessageBack. -/
import Derived.Test.YtfobnemocodomaaGreatZBn2
import Derived.Test.YtfobnemocodomaaGreatZBy
import Derived.Test.YtfobnemocodomaaGreatZBu
set_option linter.unusedVariables false
set_option linter.unusedSimpArgs false
set_option maxHeartbeats 4000000
namespace Go.Proofs.YtfobnemocodomaaGreat
open Go.RowKit Go.Shelf Go.Great

theorem mBytes_e {x : Mx} : (mBytes x).2 = 0 ↔ mChk x = 0 := by
  constructor
  · intro h
    exact Classical.byContradiction fun hc => by
      unfold mBytes at h
      rw [if_pos hc] at h
      exact hc h
  · intro h
    rw [bytes_ok h]
theorem mBytes_lenM (x : Mx) (hR : x.R.length = 32) (hs : MSmall x) : (⟨(mBytes x).1.toArray⟩ : ByteArray).size ≤ 1000000 := by
  have hr32 : ∀ st : List UInt8 × Int, (wput true x.R st).1.length ≤ st.1.length + 32 := fun st => wputL _ _ _ _ (fun _ => by rw [hR]; exact Nat.le_refl _)
  have hb : ∀ s : List UInt8 × Int, (bodyP x s).1.length ≤ s.1.length + 140000 := fun s => by
    unfold bodyP
    split
    · have h1 := hr32 s
      have h2 := vputQ_len x.cl (wput true x.R s)
      have h3 := wnum_len x.rs.length (vput x.cl (wput true x.R s))
      have h4 := rowsP_len x.rs (wnum x.rs.length (vput x.cl (wput true x.R s))) hs.rows x.rs.length (Nat.le_refl _)
      rw [List.take_length] at h4
      have := hs.cl; have := hs.rs
      omega
    · split
      · have h1 := hr32 s
        have h2 := wtxt_len x.Pa (wput true x.R s)
        omega
      · split
        · have h1 := wtxt_len x.Pa s
          have h2 := wtxt_len x.Tx (wtxt x.Pa s)
          omega
        · split
          · have h1 := wputL true [flagB x.Tn] s 1 (fun _ => Nat.le_refl _)
            omega
          · omega
  rw [sizeL]
  unfold mBytes
  split
  · simp
  · unfold doneV
    split
    · simp
    · unfold mPut
      have h1 := hb (numsW (mNums x) ([], 0))
      have h2 := numsW4_len (mNums x) rfl
      omega
theorem read_bytes {S : ByteArray} {y : Mx} {e : Int} (h : (mst y, e) = readM S) (he : e = 0) : mChk y = 0 ∧ mBytes y = (S.data.toList, 0) := by
  have h1 : (readM S).2 = 0 := by rw [← h]; exact he
  obtain ⟨c1, c2⟩ := read_can h1
  rw [← h] at c1 c2
  have c3 : mChk y = 0 := by rw [← mChk_mst]; exact c1
  refine ⟨c3, ?_⟩
  rw [bytes_ok c3, c2]
  show (encM y, (0 : Int)) = (encM (mst y), 0)
  rw [encM_mst]
set_option maxRecDepth 100000 in
theorem MessageBack_any (x : Mx) (S : ByteArray) (w : World) (hx : MxOk w x) (hS : S.size ≤ 9223372036854775807) (hP : Pt.Mx w) :
    Calls Tryz.prog 5 #[.agg x.cells, .string S] w fun r w' => r = .returned (.bool true) ∧ Gr w w' := by
  have HG : Hid (Gr w (w.alloc (.cells x.cells 37))) := Lib.hid ((Gr.rfl' w).al _)
  have HX := Lib.hid (World.alloc_heap_new w (.cells x.cells 37))
  have HXO := Lib.hid (hx.gr HG.out)
  have HP := Lib.hid (hP.gr HG.out)
  have HXD := Lib.hid hx.dig
  have HRS := Lib.hid (fun W (k : Pt.Mx W) => mRead_any S W hS k)
  clear hx hP
  generalize hW : w.alloc (.cells x.cells 37) = W at HG HX HXO HP
  by_cases hbig : 80000 < S.size
  · have hbi : (80000 : Int) < S.size := by omega
    go_enter Tryz.func5, Tryz.ntmps5
    go_wp2_with (first
      | refine loadM x HXO.out.dig rfl (.tmp 2) rfl w.heap.size rfl HX.out ?_)
    refine (mGreat_any x W HXO.out).mono ?_
    rintro e w1 ⟨⟨rfl, _⟩ | rfl, g1⟩
    · go_wp2_with fail
      refine (mAwake_any _).mono ?_
      rintro r wd ⟨rfl, gd⟩
      go_wp2
      go_ret
      exact ⟨rfl, HG.out.tr (g1.tr gd)⟩
    · go_wp2_with fail
      refine (mAwake_any _).mono ?_
      rintro r wd ⟨rfl, gd⟩
      go_wp2
      go_ret
      exact ⟨rfl, HG.out.tr (g1.tr gd)⟩
  have hbi : ¬ (80000 : Int) < S.size := by omega
  go_enter Tryz.func5, Tryz.ntmps5
  go_wp2_with (first
    | refine loadM x HXO.out.dig rfl (.tmp 2) rfl w.heap.size rfl HX.out ?_)
  refine (mGreat_any x W HXO.out).mono ?_
  rintro e w1 ⟨⟨rfl, hrs, hcl, htx, hps, h70⟩ | rfl, g1⟩; rotate_left
  · go_wp2_with fail
    refine (mAwake_any _).mono ?_
    rintro r wd ⟨rfl, gd⟩
    go_wp2
    go_ret
    exact ⟨rfl, HG.out.tr (g1.tr gd)⟩
  have HS : Hid (MSmall x) := Lib.hid ⟨hrs, hcl, htx, hps, h70⟩
  have HX1 := Lib.hid (mat_gr HX.out g1)
  have HXO1 := Lib.hid (HXO.out.gr g1)
  have HP1 := Lib.hid (HP.out.gr g1)
  have HG1 := Lib.hid (HG.out.tr g1)
  clear hrs hcl htx hps h70 g1 HX HXO HP HG hW
  have HBY := Lib.hid (mBytes_any x w1 HXO1.out HP1.out HS.out)
  by_cases hc : mChk x = 0; rotate_left
  · have he : ¬ (mBytes x).2 = 0 := fun h => hc (mBytes_e.1 h)
    obtain ⟨t, ht⟩ : ∃ t : ByteArray, (⟨(mBytes x).1.toArray⟩ : ByteArray) = t := ⟨_, rfl⟩
    obtain ⟨e, hee⟩ : ∃ e, (mBytes x).2 = e := ⟨_, rfl⟩
    simp only [ht, hee] at HBY
    rw [hee] at he
    have heb : (e == 0) = false := by simpa using he
    clear ht hee he
    go_wp2_with (first
      | refine loadM x HXO1.out.dig rfl (.tmp 2) rfl w.heap.size rfl HX1.out ?_)
    refine (HBY.out).mono ?_
    rintro r w2 ⟨rfl, g2⟩
    have HX2 := Lib.hid (mat_gr HX1.out g2)
    have HCK := Lib.hid (mCheck_any x w2 (HP1.out.gr g2) (by have := HS.out.pa; omega) (HXO1.out.gr g2))
    have HG2 := Lib.hid (HG1.out.tr g2)
    have HP2 := Lib.hid (HP1.out.gr g2)
    clear g2 HX1 HXO1 HP1 HG1 HBY
    go_wp2_with (first
      | refine loadM x (HXD.out) rfl (.tmp 2) rfl w.heap.size rfl HX2.out ?_)
    refine (HCK.out).mono ?_
    rintro r w3 ⟨rfl, g3⟩
    have HPW := Lib.hid (HP2.out.gr g3)
    have HGW := Lib.hid (HG2.out.tr g3)
    have hcb : (mChk x == 0) = false := by simpa using hc
    clear g3 HCK HX2 HG2 HP2 hc
    go_wp2_with fail
    refine (HRS.out _ HPW.out).mono ?_
    rintro r wa ⟨y2, e2, rfl, hm2, ho2, g2⟩
    have HM2 := Lib.hid hm2
    have HO2 := Lib.hid ho2
    have HGA := Lib.hid (HGW.out.tr g2)
    have HPA := Lib.hid (HPW.out.gr g2)
    clear hm2 ho2 g2 HPW HGW
    by_cases he2 : e2 = 0; rotate_left
    · have heb : (e2 == 0) = false := by simpa using he2
      clear he2
      go_wp2_with (first
        | refine allocM rfl rfl ?_
        | (refine storeM y2 HO2.out.dig rfl (.tmp 9) _ rfl rfl rfl rfl ?_; intro wb hx1 hg1; have HG1 := Lib.hid hg1; clear hx1 hg1))
      refine (mAwake_any _).mono ?_
      rintro r wc ⟨rfl, gc⟩
      go_wp2
      go_ret
      exact ⟨rfl, HGA.out.tr (HG1.out.tr gc)⟩
    subst he2
    obtain ⟨hc2, hb2⟩ := read_bytes HM2.out rfl
    have HB2 := Lib.hid hb2
    have HS2 := Lib.hid (small_of (mgood_of hc2))
    clear hb2 hc2
    have hne : (S.toList == S.toList) = true := by simp
    go_wp2_with (first
      | refine allocM rfl rfl ?_
      | (refine storeM y2 HO2.out.dig rfl (.tmp 9) _ rfl rfl rfl rfl ?_; intro wb hx1 hg1; have HX1 := Lib.hid hx1; have HG1 := Lib.hid hg1; clear hx1 hg1)
      | ((with_reducible refine at_ld 37 (.tmp 9) ?_); refine loadM y2 HO2.out.dig rfl (.tmp 9) rfl _ rfl HX1.out ?_))
    have HBY := Lib.hid (mBytes_any y2 wb (HO2.out.gr HG1.out) (HPA.out.gr HG1.out) HS2.out)
    rw [HB2.out, show (⟨(S.data.toList, (0 : Int)).1.toArray⟩ : ByteArray) = S from Lib.mk_data S] at HBY
    refine (HBY.out).mono ?_
    rintro r wc ⟨rfl, gc⟩
    clear HBY
    go_wp2_with fail
    refine (mAwake_any _).mono ?_
    rintro r wd ⟨rfl, gd⟩
    go_wp2
    go_ret
    exact ⟨rfl, HGA.out.tr (HG1.out.tr (gc.tr gd))⟩
  have HXB := Lib.hid (bytes_ok hc)
  obtain ⟨t, ht⟩ : ∃ t : ByteArray, (⟨(mBytes x).1.toArray⟩ : ByteArray) = t := ⟨_, rfl⟩
  have hrt : readM t = (mst x, 0) := by rw [← ht, HXB.out]; exact read_back hc HXD.out
  have htz : t.size ≤ 9223372036854775807 := by
    have := mBytes_lenM x HXD.out HS.out
    rw [← ht]; omega
  have he0 : (mBytes x).2 = 0 := by rw [HXB.out]
  simp only [ht, he0] at HBY
  have HRT := Lib.hid hrt
  have HRD := Lib.hid (fun W (k : Pt.Mx W) => mRead_any t W htz k)
  clear ht hrt htz he0 HXB
  go_wp2_with (first
    | refine loadM x HXO1.out.dig rfl (.tmp 2) rfl w.heap.size rfl HX1.out ?_)
  refine (HBY.out).mono ?_
  rintro r w2 ⟨rfl, g2⟩
  have HX2 := Lib.hid (mat_gr HX1.out g2)
  have HCK := Lib.hid (mCheck_any x w2 (HP1.out.gr g2) (by have := HS.out.pa; omega) (HXO1.out.gr g2))
  have HG2 := Lib.hid (HG1.out.tr g2)
  have HP2 := Lib.hid (HP1.out.gr g2)
  have HXO2 := Lib.hid (HXO1.out.gr g2)
  rw [hc] at HCK
  clear g2 HX1 HXO1 HP1 HG1 HBY hc
  go_wp2_with (first
    | refine loadM x (HXD.out) rfl (.tmp 2) rfl w.heap.size rfl HX2.out ?_)
  refine (HCK.out).mono ?_
  rintro r w3 ⟨rfl, g3⟩
  have HP3 := Lib.hid (HP2.out.gr g3)
  have HG3 := Lib.hid (HG2.out.tr g3)
  have HX3 := Lib.hid (mat_gr HX2.out g3)
  have HXO3 := Lib.hid (HXO2.out.gr g3)
  clear g3 HCK HX2 HG2 HP2 HXO2
  go_wp2_with fail
  refine (HRD.out _ HP3.out).mono ?_
  rintro r w4 ⟨y1, e1, rfl, hm1, ho1, g4⟩
  have hq := hm1.trans HRT.out
  have HEQ : Hid (mst y1 = mst x) := Lib.hid (congrArg Prod.fst hq)
  obtain rfl : e1 = 0 := congrArg Prod.snd hq
  have HO1 := Lib.hid ho1
  have HP4 := Lib.hid (HP3.out.gr g4)
  have HG4 := Lib.hid (HG3.out.tr g4)
  have HX4 := Lib.hid (mat_gr HX3.out g4)
  have HXO4 := Lib.hid (HXO3.out.gr g4)
  clear hq hm1 ho1 g4 HP3 HG3 HX3 HXO3 HRD HRT
  go_wp2_with (first
    | refine allocM rfl rfl ?_
    | (refine storeM y1 HO1.out.dig rfl (.tmp 7) _ rfl rfl rfl rfl ?_; intro w5 hx1 hg1; obtain ⟨b1, hb1⟩ : ∃ b1, w4.heap.size = b1 := ⟨_, rfl⟩; rw [hb1] at hx1 ⊢; have HX5 := Lib.hid hx1; have HG5 := Lib.hid hg1; have HX45 := Lib.hid (mat_gr HX4.out hg1); clear hx1 hg1 hb1)
    | ((with_reducible refine at_ld 37 (.tmp 7) ?_); refine loadMG y1 HO1.out.dig (by rfl) (.tmp 7) rfl b1 rfl HX5.out ?_)
    | ((with_reducible refine at_ld 37 (.tmp 2) ?_); refine loadMG x HXD.out (by rfl) (.tmp 2) rfl w.heap.size rfl HX45.out ?_))
  have hsm := mSame1_any y1 x w5 (HO1.out.gr HG5.out) (HXO4.out.gr HG5.out)
  rw [msame_mst HEQ.out] at hsm
  refine (hsm).mono ?_
  rintro r w6 ⟨rfl, g6⟩
  have HPW := Lib.hid ((HP4.out.gr HG5.out).gr g6)
  have HGW := Lib.hid (HG4.out.tr (HG5.out.tr g6))
  clear hsm g6 HX5 HG5 HX45 HO1 HXO4 HX4 HG4 HP4 HEQ
  go_wp2_with fail
  refine (HRS.out _ HPW.out).mono ?_
  rintro r wa ⟨y2, e2, rfl, hm2, ho2, g2⟩
  have HM2 := Lib.hid hm2
  have HO2 := Lib.hid ho2
  have HGA := Lib.hid (HGW.out.tr g2)
  have HPA := Lib.hid (HPW.out.gr g2)
  clear hm2 ho2 g2 HPW HGW
  by_cases he2 : e2 = 0; rotate_left
  · have heb : (e2 == 0) = false := by simpa using he2
    clear he2
    go_wp2_with (first
      | refine allocM rfl rfl ?_
      | (refine storeM y2 HO2.out.dig rfl (.tmp 9) _ rfl rfl rfl rfl ?_; intro wb hx1 hg1; have HG1 := Lib.hid hg1; clear hx1 hg1))
    refine (mAwake_any _).mono ?_
    rintro r wc ⟨rfl, gc⟩
    go_wp2
    go_ret
    exact ⟨rfl, HGA.out.tr (HG1.out.tr gc)⟩
  subst he2
  obtain ⟨hc2, hb2⟩ := read_bytes HM2.out rfl
  have HB2 := Lib.hid hb2
  have HS2 := Lib.hid (small_of (mgood_of hc2))
  clear hb2 hc2
  have hne : (S.toList == S.toList) = true := by simp
  go_wp2_with (first
    | refine allocM rfl rfl ?_
    | (refine storeM y2 HO2.out.dig rfl (.tmp 9) _ rfl rfl rfl rfl ?_; intro wb hx1 hg1; have HX1 := Lib.hid hx1; have HG1 := Lib.hid hg1; clear hx1 hg1)
    | ((with_reducible refine at_ld 37 (.tmp 9) ?_); refine loadM y2 HO2.out.dig rfl (.tmp 9) rfl _ rfl HX1.out ?_))
  have HBY := Lib.hid (mBytes_any y2 wb (HO2.out.gr HG1.out) (HPA.out.gr HG1.out) HS2.out)
  rw [HB2.out, show (⟨(S.data.toList, (0 : Int)).1.toArray⟩ : ByteArray) = S from Lib.mk_data S] at HBY
  refine (HBY.out).mono ?_
  rintro r wc ⟨rfl, gc⟩
  clear HBY
  go_wp2_with fail
  refine (mAwake_any _).mono ?_
  rintro r wd ⟨rfl, gd⟩
  go_wp2
  go_ret
  exact ⟨rfl, HGA.out.tr (HG1.out.tr (gc.tr gd))⟩
end Go.Proofs.YtfobnemocodomaaGreat
