/- Joined texts: VecA VecB VecC VecD. -/
import Derived.Test.YtfobnemocodomaaGreatZBa
import Derived.Laws.StructEq
set_option linter.unusedVariables false
set_option linter.unusedSimpArgs false
set_option maxHeartbeats 400000
namespace Go.Proofs.YtfobnemocodomaaGreat
open Go.RowKit

theorem dot_any (p c : Int) (w : World) : Calls Tryz.prog 141 #[.agg #[.int .i64 p, .int .i64 c]] w fun e w' => e = .returned (.int .i64 (dotChk p c)) ∧ Gr w w' := by
  go_enter Tryz.func141, Tryz.ntmps141
  go_wp2
  all_goals
    go_ret
    exact ⟨ret_int (by unfold dotChk; repeat (first | rw [if_pos (by omega)] | rw [if_neg (by omega)])), (Gr.rfl' _).al _⟩

theorem Check_any (A : Option Addr) (cap : Nat) (l : List Dot) (w : World) (h : Dots w A l) :
   Calls Tryz.prog 124 #[.slice A l.length cap] w fun e w' => e = .returned (.int .i64 (chk l)) ∧ Gr w w' := by
  have H := Lib.hid h; clear h
  have hm := H.out.1
  go_enter Tryz.func124, Tryz.ntmps124
  go_wp2
  go_loopw [3,9] (fun last i wr => ∃ k : Nat, ∃ la : Int, k ≤ l.length ∧ i = .int .i64 k ∧ last = .int .i64 la ∧ Hid (chk l = chkGo la (l.drop k)) ∧ Gr w wr) (fun _ i _ => l.length - (intOf i).toNat)
  case atStart => exact ⟨0, -1, Nat.zero_le _, rfl, rfl, Lib.hid rfl, Below.refl _ _⟩
  case round =>
    obtain ⟨k, la, hk, rfl, rfl, hch, hb⟩ := hrel
    by_cases hlt : k < l.length
    · obtain ⟨ad, rfl, hx, hy⟩ := (H.out.gr hb).2 k hlt
      have hdrop : Hid (l.drop k = l[k] :: l.drop (k+1)) := List.drop_eq_getElem_cons hlt
      generalize hd : l[k] = d at *
      obtain ⟨p, c⟩ := d
      clear hd
      dsimp only at hx hy
      have hc0 : chkGo la ((p, c) :: l.drop (k+1)) = if dotChk p c ≠ 0 then dotChk p c else if p ≤ la then 8 else chkGo p (l.drop (k+1)) := rfl
      have HC0 := Lib.hid hc0; clear hc0
      by_cases hok : dotChk p c = 0
      · have hok' : (dotChk p c != 0) = false := by simp [hok]
        have HOK := Lib.hid hok; clear hok
        by_cases hle : p ≤ la
        all_goals
          go_wp2_with (go_at_call 141; refine (dot_any _ _ _).mono ?_; rintro e w1 ⟨rfl, hg1⟩; obtain ⟨hc1, hf1⟩ := bcell hg1; have hz1 := hg1.size; simp at hz1)
        · go_ret
          refine ⟨ret_int ?_, (hb.al _).tr hg1⟩
          rw [hch.out, hdrop.out, HC0.out, if_neg (by simp [HOK.out]), if_pos (by omega)]
        · go_roundw
          case rel => exact ⟨k + 1, p, by omega, by go_num, rfl, Lib.hid (by rw [hch.out, hdrop.out, HC0.out, if_neg (by simp [HOK.out]), if_neg (by omega)]), (hb.al _).tr hg1⟩
          case measure => simp [intOf]; omega
      · have hok' : (dotChk p c != 0) = true := by simp [hok]
        have HOK := Lib.hid hok; clear hok
        go_wp2_with (go_at_call 141; refine (dot_any _ _ _).mono ?_; rintro e w1 ⟨rfl, hg1⟩)
        go_ret
        refine ⟨ret_int ?_, (hb.al _).tr hg1⟩
        rw [hch.out, hdrop.out, HC0.out, if_pos HOK.out]
    · have : k = l.length := by omega
      subst this
      go_wp2
      go_ret
      have := hch.out
      simp at this
      exact ⟨ret_int (by rw [this]; rfl), hb⟩

/-- A row of rows of dots: the slice header and what it leads to. -/
structure DRow where
  A : Option Addr
  cap : Nat
  l : List Dot
def DRows (w : World) (A : Option Addr) (rs : List DRow) : Prop :=
  rs.length ≤ 9223372036854775807 ∧ ∀ i (h : i < rs.length), ∃ ad, A = some ad ∧ w.cell? (ad.add i) = some (.slice rs[i].A rs[i].l.length rs[i].cap) ∧ Dots w rs[i].A rs[i].l
theorem DRows.gr {w w' : World} {A : Option Addr} {rs : List DRow} (h : DRows w A rs) (g : Gr w w') : DRows w' A rs :=
  ⟨h.1, fun i hi => let ⟨ad, e, a, b⟩ := h.2 i hi; ⟨ad, e, g.cell a, b.gr g⟩⟩

def idxBad : Int → List DRow → Int
  | _, [] => -1
  | k, r :: rs => if chk r.l ≠ 0 then k else idxBad (k + 1) rs
theorem idxBad_spec : ∀ (rs : List DRow) (k : Int), 0 ≤ k → (0 ≤ idxBad k rs ↔ ∃ r ∈ rs, chk r.l ≠ 0)
  | [], k, _ => by simp [idxBad]
  | r :: rs, k, h => by
    unfold idxBad
    have ih := idxBad_spec rs (k + 1) (by omega)
    by_cases c : chk r.l = 0
    · simp [c, ih]
    · simp [c, h]
def rightB (rs : List DRow) : Bool := rs.all fun r => chk r.l == 0

theorem right1_any (A : Option Addr) (cap : Nat) (l : List Dot) (w : World) (h : Dots w A l) :
   Calls Tryz.prog 149 #[.slice A l.length cap] w fun e w' => e = .returned (.bool (chk l != 0)) ∧ Gr w w' := by
  have H := Lib.hid h; clear h
  go_enter Tryz.func149, Tryz.ntmps149
  go_wp2_with (go_at_call 124; refine (Check_any _ _ _ _ H.out).mono ?_; rintro e w1 ⟨rfl, hg1⟩)
  go_ret
  exact ⟨rfl, hg1⟩

theorem IndexFunc_any (A : Option Addr) (cap : Nat) (rs : List DRow) (w : World) (h : DRows w A rs) :
   Calls Tryz.prog 152 #[.slice A rs.length cap, .func (.func 149) #[] #[]] w fun e w' => e = .returned (.int .i64 (idxBad 0 rs)) ∧ Gr w w' := by
  have H := Lib.hid h; clear h
  have hm := H.out.1
  go_enter Tryz.func152, Tryz.ntmps152
  go_wp2
  go_loopw [8] (fun i wr => ∃ k : Nat, k ≤ rs.length ∧ i = .int .i64 k ∧ Hid (idxBad 0 rs = idxBad k (rs.drop k)) ∧ Gr w wr) (fun i _ => rs.length - (intOf i).toNat)
  case atStart => exact ⟨0, Nat.zero_le _, rfl, Lib.hid rfl, Below.refl _ _⟩
  case round =>
    obtain ⟨k, hk, rfl, hch, hb⟩ := hrel
    by_cases hlt : k < rs.length
    · obtain ⟨ad, rfl, hx, hD⟩ := (H.out.gr hb).2 k hlt
      have hdrop : Hid (rs.drop k = rs[k] :: rs.drop (k+1)) := List.drop_eq_getElem_cons hlt
      generalize hd : rs[k] = d at *
      obtain ⟨Ar, capr, l⟩ := d
      clear hd
      dsimp only at hx hD
      have HD := Lib.hid hD; clear hD
      have hc0 : idxBad k (⟨Ar, capr, l⟩ :: rs.drop (k+1)) = if chk l ≠ 0 then (k : Int) else idxBad (k + 1 : Int) (rs.drop (k+1)) := rfl
      have HC0 := Lib.hid hc0; clear hc0
      by_cases hok : chk l = 0
      · have hok' : (chk l != 0) = false := by simp [hok]
        have HOK := Lib.hid hok; clear hok
        go_wp2_with (go_at_call 149; refine (right1_any _ _ _ _ HD.out).mono ?_; rintro e w1 ⟨rfl, hg1⟩)
        go_roundw
        case rel => exact ⟨k + 1, by omega, by go_num, Lib.hid (by rw [hch.out, hdrop.out, HC0.out, if_neg (by simp [HOK.out])]; rfl), hb.tr hg1⟩
        case measure => simp [intOf]; omega
      · have hok' : (chk l != 0) = true := by simp [hok]
        have HOK := Lib.hid hok; clear hok
        go_wp2_with (go_at_call 149; refine (right1_any _ _ _ _ HD.out).mono ?_; rintro e w1 ⟨rfl, hg1⟩)
        go_ret
        refine ⟨ret_int ?_, hb.tr hg1⟩
        rw [hch.out, hdrop.out, HC0.out, if_pos HOK.out]
    · have : k = rs.length := by omega
      subst this
      go_wp2
      go_ret
      have := hch.out
      simp at this
      exact ⟨ret_int (by rw [this]; rfl), hb⟩

theorem ContainsFunc_any (A : Option Addr) (cap : Nat) (rs : List DRow) (w : World) (h : DRows w A rs) :
   Calls Tryz.prog 148 #[.slice A rs.length cap, .func (.func 149) #[] #[]] w fun e w' => e = .returned (.bool (!rightB rs)) ∧ Gr w w' := by
  have H := Lib.hid h; clear h
  have hs : (!rightB rs) = decide (0 ≤ idxBad 0 rs) := by
    have := idxBad_spec rs 0 (by omega)
    rw [Bool.eq_iff_iff]
    simp only [decide_eq_true_eq, this]
    simp [rightB]
  have HS := Lib.hid hs; clear hs
  go_enter Tryz.func148, Tryz.ntmps148
  go_wp2_with (go_at_call 152; refine (IndexFunc_any _ _ _ _ H.out).mono ?_; rintro e w1 ⟨rfl, hg1⟩)
  go_ret
  exact ⟨ret_bool HS.out.symm, hg1⟩

theorem right_any (A : Option Addr) (cap : Nat) (rs : List DRow) (w : World) (h : DRows w A rs) :
   Calls Tryz.prog 146 #[.slice A rs.length cap] w fun e w' => e = .returned (.bool (rightB rs)) ∧ Gr w w' := by
  have H := Lib.hid h; clear h
  go_enter Tryz.func146, Tryz.ntmps146
  go_wp2_with (go_at_call 148; refine (ContainsFunc_any _ _ _ _ H.out).mono ?_; rintro e w1 ⟨rfl, hg1⟩)
  go_ret
  exact ⟨ret_bool (by simp), hg1⟩

end Go.Proofs.YtfobnemocodomaaGreat
set_option linter.unusedVariables false
set_option linter.unusedSimpArgs false
set_option maxHeartbeats 400000
namespace Go.Proofs.YtfobnemocodomaaGreat
open Go.RowKit

/-- strictly rising peers, within bounds -/
def Okv (l : List Dot) : Prop := (∀ d ∈ l, 0 ≤ d.1 ∧ d.1 < 64 ∧ 1 ≤ d.2 ∧ d.2 ≤ 1048576) ∧ l.Pairwise (fun a b => a.1 < b.1)
theorem chkGo_ok : ∀ (l : List Dot) (la : Int), chkGo la l = 0 ↔ (Okv l ∧ ∀ d ∈ l, la < d.1)
  | [], la => by simp [chkGo, Okv]
  | d :: r, la => by
    unfold chkGo
    have ih := chkGo_ok r d.1
    have hd : dotChk d.1 d.2 = 0 ↔ (0 ≤ d.1 ∧ d.1 < 64 ∧ 1 ≤ d.2 ∧ d.2 ≤ 1048576) := by
      unfold dotChk
      by_cases a : d.1 < 0 ∨ 64 ≤ d.1
      · rw [if_pos a]; constructor <;> intro h <;> omega
      · rw [if_neg a]
        by_cases b : d.2 < 1 ∨ 1048576 < d.2
        · rw [if_pos b]; constructor <;> intro h <;> omega
        · rw [if_neg b]; constructor <;> intro h <;> omega
    by_cases h0 : dotChk d.1 d.2 = 0
    · rw [if_neg (by simpa using h0)]
      by_cases h1 : d.1 ≤ la
      · rw [if_pos h1]
        constructor
        · intro h; omega
        · intro h; have := h.2 d (by simp); omega
      · rw [if_neg h1, ih]
        have hd' := hd.1 h0
        constructor
        · rintro ⟨⟨a, b⟩, c⟩
          refine ⟨⟨?_, ?_⟩, ?_⟩
          · intro x hx; simp at hx; rcases hx with rfl | hx
            · exact hd'
            · exact a x hx
          · exact List.pairwise_cons.2 ⟨c, b⟩
          · intro x hx; simp at hx; rcases hx with rfl | hx
            · omega
            · have := c x hx; omega
        · rintro ⟨⟨a, b⟩, c⟩
          have b' := List.pairwise_cons.1 b
          exact ⟨⟨fun x hx => a x (by simp [hx]), b'.2⟩, b'.1⟩
    · rw [if_pos (by simpa using h0)]
      constructor
      · intro h; exact absurd h h0
      · rintro ⟨⟨a, b⟩, c⟩; exact absurd (hd.2 (a d (by simp))) h0
theorem chk_ok (l : List Dot) : chk l = 0 ↔ Okv l := by
  unfold chk
  rw [chkGo_ok]
  constructor
  · exact fun h => h.1
  · intro h; exact ⟨h, fun d hd => by have := h.1 d hd; omega⟩

/-- how many changes of a peer -/
def cnt : List Dot → Int → Int
  | [], _ => 0
  | d :: r, p => if d.1 = p then d.2 else cnt r p
theorem Okv.sorted {l : List Dot} (h : Okv l) (t u : Nat) (hu : u < l.length) (htu : t < u) : (l[t]'(by omega)).1 < l[u].1 :=
  List.pairwise_iff_getElem.1 h.2 t u (by omega) hu htu
theorem Okv.at {l : List Dot} (h : Okv l) (t : Nat) (ht : t < l.length) : 0 ≤ l[t].1 ∧ l[t].1 < 64 ∧ 1 ≤ l[t].2 ∧ l[t].2 ≤ 1048576 := h.1 _ (List.getElem_mem ht)
theorem cnt_none : ∀ (l : List Dot) (p : Int), (∀ d ∈ l, d.1 ≠ p) → cnt l p = 0
  | [], _, _ => rfl
  | d :: r, p, h => by unfold cnt; rw [if_neg (h d (by simp))]; exact cnt_none r p fun x hx => h x (by simp [hx])
theorem cnt_at : ∀ (l : List Dot) (h : Okv l) (i : Nat) (hi : i < l.length), cnt l l[i].1 = l[i].2
  | d :: r, h, 0, _ => by simp [cnt]
  | d :: r, h, i + 1, hi => by
    have hs := h.sorted 0 (i + 1) hi (by omega)
    simp at hs ⊢
    unfold cnt
    rw [if_neg (by omega)]
    exact cnt_at r ⟨fun x hx => h.1 x (by simp [hx]), (List.pairwise_cons.1 h.2).2⟩ i (by simpa using hi)

theorem find1_any (p c q : Int) (w : World) (h1 : 0 ≤ p) (h2 : p < 64) (h3 : 0 ≤ q) (h4 : q < 64) : Calls Tryz.prog 151 #[.agg #[.int .i64 p, .int .i64 c], .int .i64 q] w fun e w' => e = .returned (.int .i64 (p - q)) ∧ Gr w w' := by
  go_enter Tryz.func151, Tryz.ntmps151
  go_wp2
  go_ret
  exact ⟨rfl, (Gr.rfl' _).al _⟩

theorem mid_eq (a b : Nat) (ha : a ≤ 9223372036854775807) (hb : b ≤ 9223372036854775807) : wrap64 (IntKind.u64.wrap (wrap64 ((a : Int) + (b : Int))) / 2) = (((a + b) / 2 : Nat) : Int) := by
  have h1 : IntKind.u64.wrap (wrap64 ((a : Int) + (b : Int))) = (a : Int) + b := by
    rw [IntKind.wrap_u64]; unfold wrap64; omega
  rw [h1]; unfold wrap64; omega
def BsPost (l : List Dot) (p : Int) (e : Ending) : Prop :=
  ∃ i : Nat, i ≤ l.length ∧ (∀ t (h : t < l.length), t < i → l[t].1 < p) ∧ (∀ t (h : t < l.length), i ≤ t → p ≤ l[t].1) ∧
    e = .returned (.tuple #[.int .i64 i, .bool (decide (∃ h : i < l.length, l[i].1 = p))])

theorem Bs_any (A : Option Addr) (cap : Nat) (l : List Dot) (q : Int) (w : World) (h : Dots w A l) (hv : Okv l) (h3 : 0 ≤ q) (h4 : q < 64) :
   Calls Tryz.prog 150 #[.slice A l.length cap, .int .i64 q, .func (.func 151) #[] #[]] w fun e w' => BsPost l q e ∧ Gr w w' := by
  have H := Lib.hid h; clear h
  have HV := Lib.hid hv; clear hv
  have hm := H.out.1
  go_enter Tryz.func150, Tryz.ntmps150
  go_wp2
  go_loopw [9,10] (fun i j wr => ∃ a b : Nat, a ≤ b ∧ b ≤ l.length ∧ i = .int .i64 a ∧ j = .int .i64 b ∧ Hid ((∀ t (h : t < l.length), t < a → l[t].1 < q) ∧ (∀ t (h : t < l.length), b ≤ t → q ≤ l[t].1)) ∧ Gr w wr) (fun i j _ => (intOf j - intOf i).toNat)
  case atStart => exact ⟨0, l.length, Nat.zero_le _, Nat.le_refl _, rfl, rfl, Lib.hid ⟨fun t h h' => by omega, fun t h h' => by omega⟩, Below.refl _ _⟩
  case round =>
    obtain ⟨a, b, hab, hbl, rfl, rfl, hinv, hb⟩ := hrel
    by_cases hlt : a < b
    · obtain ⟨m, hm'⟩ : ∃ m : Nat, m = (a + b) / 2 := ⟨_, rfl⟩
      have hmid : wrap64 (IntKind.u64.wrap (wrap64 ((a : Int) + (b : Int))) / 2) = (m : Int) := by rw [hm']; exact mid_eq a b (by omega) (by omega)
      have hma : a ≤ m := by omega
      have hmb : m < b := by omega
      clear hm'
      have hmi : (m : Int) < (l.length : Int) := by omega
      have HM := Lib.hid hmid; clear hmid
      have hml : m < l.length := by omega
      obtain ⟨ad, rfl, hx, hy⟩ := (H.out.gr hb).2 m hml
      have hbd := HV.out.at m hml
      have hsl : Hid ((∀ t (h : t < l.length), t < m + 1 → l[t].1 ≤ l[m].1) ∧ (∀ t (h : t < l.length), m ≤ t → l[m].1 ≤ l[t].1)) := by
        constructor
        · intro t h h'
          by_cases e : t = m
          · subst e; exact Int.le_refl _
          · have := HV.out.sorted t m hml (by omega); omega
        · intro t h h'
          by_cases e : t = m
          · subst e; exact Int.le_refl _
          · have := HV.out.sorted m t h (by omega); omega
      generalize hd : l[m] = d at *
      obtain ⟨p, c⟩ := d
      clear hd
      dsimp only at hx hy hbd hsl
      obtain ⟨hb1, hb2, _, _⟩ := hbd
      have HM2 := HM.out
      by_cases hcmp : p < q
      all_goals
        go_wp2_with (go_at_call 151; refine (find1_any p c q _ hb1 hb2 h3 h4).mono ?_; rintro e w1 ⟨rfl, hg1⟩)
      · go_roundw
        case rel => exact ⟨m + 1, b, by omega, hbl, by go_num, rfl, Lib.hid ⟨fun t h h' => by have := hsl.out.1 t h h'; omega, hinv.out.2⟩, hb.tr hg1⟩
        case measure => simp [intOf]; omega
      · go_roundw
        case rel => exact ⟨a, m, hma, by omega, rfl, rfl, Lib.hid ⟨hinv.out.1, fun t h h' => by have := hsl.out.2 t h h'; omega⟩, hb.tr hg1⟩
        case measure => simp [intOf]; omega
    · obtain rfl : a = b := by omega
      by_cases hal : a < l.length
      · obtain ⟨ad, rfl, hx, hy⟩ := (H.out.gr hb).2 a hal
        have hbd := HV.out.at a hal
        have hQ : Hid (∀ v : Bool, v = decide (l[a].1 = q) → BsPost l q (.returned (.tuple #[.int .i64 a, .bool v]))) := by
          intro v hv
          exact ⟨a, hbl, hinv.out.1, hinv.out.2, by rw [hv]; congr 5; simp [hal]⟩
        generalize hd : l[a] = d at *
        obtain ⟨p, c⟩ := d
        clear hd
        dsimp only at hx hy hbd hQ
        obtain ⟨hb1, hb2, _, _⟩ := hbd
        have hal' : decide ((a : Int) < (l.length : Int)) = true := decide_eq_true (by omega)
        go_wp2_with (go_at_call 151; refine (find1_any p c q _ hb1 hb2 h3 h4).mono ?_; rintro e w1 ⟨rfl, hg1⟩)
        go_ret2
        exact ⟨hQ.out _ (by rw [Bool.eq_iff_iff]; simp; omega), hb.tr hg1⟩
      · go_wp2
        go_ret2
        exact ⟨⟨a, hbl, hinv.out.1, hinv.out.2, by congr 5; simp [hal]⟩, hb⟩

theorem BsPost.two {l : List Dot} {q : Int} {e : Ending} (hv : Okv l) (h : BsPost l q e) :
    (∃ i : Nat, i < l.length ∧ (∃ h : i < l.length, l[i].1 = q) ∧ e = .returned (.tuple #[.int .i64 i, .bool true])) ∨
    (∃ i : Nat, Hid (cnt l q = 0) ∧ e = .returned (.tuple #[.int .i64 i, .bool false])) := by
  obtain ⟨i, hi, h1, h2, rfl⟩ := h
  by_cases c : ∃ h : i < l.length, l[i].1 = q
  · exact .inl ⟨i, c.1, c, by simp [c]⟩
  · refine .inr ⟨i, Lib.hid ?_, by simp [c]⟩
    refine cnt_none l q fun d hd e => ?_
    obtain ⟨t, ht, rfl⟩ := List.getElem_of_mem hd
    have a1 := h1 t ht
    by_cases hti : t < i
    · have := a1 hti; omega
    · by_cases hti' : t = i
      · subst hti'; exact c ⟨ht, e⟩
      · have := hv.sorted i t ht (by omega)
        have := h2 i (by omega) (by omega)
        omega

theorem find_any (A : Option Addr) (cap : Nat) (l : List Dot) (q : Int) (w : World) (h : Dots w A l) (hv : Okv l) (h3 : 0 ≤ q) (h4 : q < 64) :
   Calls Tryz.prog 147 #[.slice A l.length cap, .int .i64 q] w fun e w' => e = .returned (.int .i64 (cnt l q)) ∧ Gr w w' := by
  have H := Lib.hid h; clear h
  have HV := Lib.hid hv; clear hv
  go_enter Tryz.func147, Tryz.ntmps147
  go_wp2_with fail
  refine (Bs_any A cap l q _ H.out HV.out h3 h4).mono ?_
  rintro e w1 ⟨hp, hg1⟩
  rcases hp.two HV.out with ⟨i, hil, hiq, rfl⟩ | ⟨i, hq0, rfl⟩
  · obtain ⟨ad, rfl, hx, hy⟩ := (H.out.gr hg1).2 i hil
    have hc := cnt_at l HV.out i hil
    obtain ⟨_, hq⟩ := hiq
    rw [hq] at hc
    have HC := Lib.hid hc; clear hc hq
    generalize hd : l[i] = d at *
    obtain ⟨p, c⟩ := d
    clear hd hp
    dsimp only at hx hy HC
    go_wp2
    go_ret
    exact ⟨ret_int HC.out.symm, hg1⟩
  · clear hp
    go_wp2
    go_ret
    exact ⟨ret_int hq0.out.symm, hg1⟩

/-- a row of one -/
theorem DRows.one {w : World} {A : Option Addr} {cap : Nat} {l : List Dot} (h : Dots w A l) (t : TypeId) :
    DRows (w.alloc (.cells #[.slice A l.length cap] t)) (some ⟨w.heap.size, 0, none⟩) [⟨A, cap, l⟩] := by
  refine ⟨by simp, fun i hi => ?_⟩
  have : i = 0 := by simpa using hi
  subst this
  exact ⟨_, rfl, by simp [Addr.add], h.gr ((Gr.rfl' w).al _)⟩

def getV (l : List Dot) (q : Int) : Int := if chk l = 0 ∧ 0 ≤ q ∧ q < 64 then cnt l q else 0
theorem Get_any (A : Option Addr) (cap : Nat) (l : List Dot) (q : Int) (w : World) (h : Dots w A l) :
   Calls Tryz.prog 142 #[.slice A l.length cap, .int .i64 q] w fun e w' => e = .returned (.int .i64 (getV l q)) ∧ Gr w w' := by
  have H := Lib.hid h; clear h
  have H1 := Lib.hid (DRows.one (cap := cap) H.out 34)
  by_cases hv : chk l = 0
  · have hr : rightB [⟨A, cap, l⟩] = true := by simp [rightB, hv]
    by_cases hq : 0 ≤ q ∧ q < 64
    · have HG : Hid (getV l q = cnt l q) := if_pos ⟨hv, hq⟩
      obtain ⟨hq1, hq2⟩ := hq
      have HV := Lib.hid ((chk_ok l).1 hv); clear hv
      go_enter Tryz.func142, Tryz.ntmps142
      go_wp2_with (first | (go_at_call 146; refine (right_any _ _ [⟨A, cap, l⟩] _ H1.out).mono ?_; rintro e w1 ⟨rfl, hg1⟩) | (go_at_call 147; refine (find_any A cap l q _ (H.out.gr (((Gr.rfl' _).al _).tr (by assumption))) HV.out hq1 hq2).mono ?_; rintro e w2 ⟨rfl, hg2⟩))
      go_ret
      exact ⟨ret_int HG.out.symm, (((Gr.rfl' _).al _).tr hg1).tr hg2⟩
    · have HG : Hid (getV l q = 0) := if_neg (fun h => hq h.2)
      clear hv
      by_cases hq1 : 0 ≤ q
      · have hq2 : 64 ≤ q := by omega
        clear hq
        go_enter Tryz.func142, Tryz.ntmps142
        go_wp2_with (first | (go_at_call 146; refine (right_any _ _ [⟨A, cap, l⟩] _ H1.out).mono ?_; rintro e w1 ⟨rfl, hg1⟩))
        go_ret
        exact ⟨ret_int HG.out.symm, (((Gr.rfl' _).al _).tr hg1)⟩
      · have hq2 : q < 0 := by omega
        clear hq hq1
        go_enter Tryz.func142, Tryz.ntmps142
        go_wp2_with (first | (go_at_call 146; refine (right_any _ _ [⟨A, cap, l⟩] _ H1.out).mono ?_; rintro e w1 ⟨rfl, hg1⟩))
        go_ret
        exact ⟨ret_int HG.out.symm, (((Gr.rfl' _).al _).tr hg1)⟩
  · have hr : rightB [⟨A, cap, l⟩] = false := by simp [rightB, hv]
    have HG : Hid (getV l q = 0) := if_neg (fun h => hv h.1)
    clear hv
    go_enter Tryz.func142, Tryz.ntmps142
    go_wp2_with (first | (go_at_call 146; refine (right_any _ _ [⟨A, cap, l⟩] _ H1.out).mono ?_; rintro e w1 ⟨rfl, hg1⟩))
    go_ret
    exact ⟨ret_int HG.out.symm, (((Gr.rfl' _).al _).tr hg1)⟩

end Go.Proofs.YtfobnemocodomaaGreat
set_option linter.unusedVariables false
set_option linter.unusedSimpArgs false
set_option maxHeartbeats 400000
namespace Go.Proofs.YtfobnemocodomaaGreat
open Go.RowKit

section
variable {P : Program} {d : Nat} {xs ys : Array Value} {f : Field} {fs : List Field} {a b : Value} {r s : Bool} {w : World}
theorem eqf_last (hn : (f.name == "_") = false) (ha : (part f.type xs f.offset).run P w = .ok a w) (hb : (part f.type ys f.offset).run P w = .ok b w) (he : (Op.equalIn d f.type a b).run P w = .ok r w) : (Op.eqFields d xs ys [f]).run P w = .ok r w := by
  have hn' : f.name ≠ "_" := by simpa using hn
  simp only [Op.eqFields, if_pos hn', Sem.run_bind, ha, hb, he, Result.andThen_ok]
  cases r <;> simp
theorem eqf_cons (hn : (f.name == "_") = false) (ha : (part f.type xs f.offset).run P w = .ok a w) (hb : (part f.type ys f.offset).run P w = .ok b w) (he : (Op.equalIn d f.type a b).run P w = .ok r w) (hr : (Op.eqFields d xs ys fs).run P w = .ok s w) : (Op.eqFields d xs ys (f :: fs)).run P w = .ok (r && s) w := by
  have hn' : f.name ≠ "_" := by simpa using hn
  rw [Op.eqFields]
  simp only [if_pos hn', Sem.run_bind, ha, hb, he, Result.andThen_ok]
  cases r
  · simp
  · simpa using hr
theorem eqA_of {t : TypeId} {fs : Array Field} (hu : P.underlying t = some (.struct fs)) (hp : P.stoodInHeld t = false) (h : (Op.eqFields d xs ys fs.toList).run P w = .ok r w) : (Op.equalIn (d + 1) t (.agg xs) (.agg ys)).run P w = .ok r w := by
  have hf : P.fieldsOf t = fs := by simp [Program.fieldsOf, hu]
  rw [run_equalIn_struct (P := P) w d t xs ys (by rw [hf]; exact hu) hp, hf]
  exact h
end
theorem eqDot (d : Nat) (w : World) (x0 y0 : Int) (x1 y1 : Int) :
    (Op.equalIn (d + 2) 112 (.agg #[.int .i64 x0, .int .i64 x1]) (.agg #[.int .i64 y0, .int .i64 y1])).run Tryz.prog w = .ok (x0 == y0 && (x1 == y1)) w := by
  refine eqA_of Tryz.underlying112 (by kernel_rfl) ?_
  refine eqf_cons (by rfl) (by go_simp; rfl) (by go_simp; rfl) (by go_simp) ?_
  exact eqf_last (by rfl) (by go_simp; rfl) (by go_simp; rfl) (by go_simp)
attribute [local go_sem high] eqDot

theorem drop_ne {l m : List Dot} {k : Nat} (hl : k < l.length) (hm : k < m.length) (he : l.take k = m.take k) (h : l[k] ≠ m[k]) : l ≠ m := by
  rintro rfl; exact h rfl
theorem take_succ_eq {l m : List Dot} {k : Nat} (hl : k < l.length) (hm : k < m.length) (he : l.take k = m.take k) (h : l[k] = m[k]) : l.take (k + 1) = m.take (k + 1) := by
  rw [List.take_succ_eq_append_getElem hl, List.take_succ_eq_append_getElem hm, he, h]

theorem Equal_any (A1 A2 : Option Addr) (c1 c2 : Nat) (a b : List Dot) (w : World) (h1 : Dots w A1 a) (h2 : Dots w A2 b) :
    Calls Tryz.prog 86 #[.slice A1 a.length c1, .slice A2 b.length c2] w fun e w' => e = .returned (.bool (decide (a = b))) ∧ Gr w w' := by
  have hu31 := Tryz.underlying112
  have H1 := Lib.hid h1; clear h1
  have H2 := Lib.hid h2; clear h2
  have hm := H1.out.1
  by_cases hlen : a.length = b.length
  · have hlb : ((a.length : Int) != (b.length : Int)) = false := by simp [hlen]
    have HL := Lib.hid hlen; clear hlen
    go_enter Tryz.func86, Tryz.ntmps86
    go_wp2
    go_loopw [13] (fun i wr => ∃ k : Nat, k ≤ a.length ∧ i = .int .i64 k ∧ Hid (a.take k = b.take k) ∧ Gr w wr) (fun i _ => a.length - (intOf i).toNat)
    case atStart => exact ⟨0, Nat.zero_le _, rfl, Lib.hid rfl, Below.refl _ _⟩
    case round =>
      obtain ⟨k, hk, rfl, hch, hb⟩ := hrel
      by_cases hlt : k < a.length
      · have hlt2 : k < b.length := by rw [← HL.out]; exact hlt
        obtain ⟨ad, rfl, hx, hy⟩ := (H1.out.gr hb).2 k hlt
        obtain ⟨bd, rfl, hx2, hy2⟩ := (H2.out.gr hb).2 k hlt2
        have hne : Hid (a[k] ≠ b[k] → a ≠ b) := fun h => drop_ne hlt hlt2 hch.out h
        have heq : Hid (a[k] = b[k] → a.take (k + 1) = b.take (k + 1)) := fun h => take_succ_eq hlt hlt2 hch.out h
        have hi1 : (k : Int) < (a.length : Int) := by omega
        have hi2 : (k : Int) < (b.length : Int) := by omega
        generalize a[k] = x at *
        generalize b[k] = y at *
        obtain ⟨p, c⟩ := x
        obtain ⟨q, d⟩ := y
        dsimp only at hx hy hx2 hy2 hne heq
        by_cases hpq : p = q ∧ c = d
        · have hpb : (p == q && (c == d)) = true := by simp [hpq.1, hpq.2]
          have hEQ := heq.out (by rw [hpq.1, hpq.2])
          have HEQ := Lib.hid hEQ; clear hEQ hpq heq hne
          go_wp2
          refine wp_region_quiet_lit (by kernel_rfl) (by kernel_rfl) ?_
          repeat (first | go_big_quiet_step (fail) | quiet_step (fail))
          refine wpQuiet_nil ?_
          intro _ hw'
          obtain ⟨nq, hw''⟩ := hw'
          subst hw''
          go_wp2
          go_roundw
          case rel => exact ⟨k + 1, by omega, by go_num, HEQ, hb.drN _⟩
          case measure => simp [intOf]; omega
        · have hpb : (p == q && (c == d)) = false := by
            rw [Bool.eq_false_iff]; intro h; simp at h; exact hpq h
          have hNE := hne.out (fun h => hpq ⟨congrArg Prod.fst h, congrArg Prod.snd h⟩)
          have HNE := Lib.hid hNE; clear hNE hpq heq hne
          go_wp2
          refine wp_region_quiet_lit (by kernel_rfl) (by kernel_rfl) ?_
          repeat (first | go_big_quiet_step (fail) | quiet_step (fail))
          refine wpQuiet_nil ?_
          intro _ hw'
          obtain ⟨nq, hw''⟩ := hw'
          subst hw''
          go_wp2
          go_ret
          exact ⟨ret_bool (by simp [HNE.out]), hb.drN _⟩
      · have hk' : k = a.length := by omega
        subst hk'
        have hEQ : a = b := by
          have := hch.out
          rw [List.take_length] at this
          rw [this, List.take_of_length_le (by have := HL.out; omega)]
        have HEQ := Lib.hid hEQ; clear hEQ
        go_wp2
        go_ret
        exact ⟨ret_bool (by simp [← HEQ.out]), hb⟩
  · have hlb : ((a.length : Int) != (b.length : Int)) = true := by simp; omega
    have hNE : a ≠ b := fun h => hlen (by rw [h])
    have HNE := Lib.hid hNE; clear hNE hlen
    go_enter Tryz.func86, Tryz.ntmps86
    go_wp2
    go_ret
    exact ⟨ret_bool (by simp [HNE.out]), Gr.rfl' _⟩

theorem Same_any (A1 A2 : Option Addr) (c1 c2 : Nat) (a b : List Dot) (w : World) (h1 : Dots w A1 a) (h2 : Dots w A2 b) :
    Calls Tryz.prog 56 #[.slice A1 a.length c1, .slice A2 b.length c2] w fun e w' => e = .returned (.bool (decide (a = b))) ∧ Gr w w' := by
  have H1 := Lib.hid h1; clear h1
  have H2 := Lib.hid h2; clear h2
  go_enter Tryz.func56, Tryz.ntmps56
  go_wp2_with (go_at_call 86; refine (Equal_any A1 A2 c1 c2 a b _ H1.out H2.out).mono ?_; rintro e w1 ⟨rfl, hg⟩)
  go_ret
  exact ⟨rfl, hg⟩

theorem refSame_any (A1 A2 : Option Addr) (c1 c2 : Nat) (a b : List Dot) (w : World) (h1 : Dots w A1 a) (h2 : Dots w A2 b) :
    Calls Tryz.prog 50 #[.slice A1 a.length c1, .slice A2 b.length c2] w fun e w' => e = .returned (.bool (decide (a = b))) ∧ Gr w w' := by
  have hu31 := Tryz.underlying112
  have H1 := Lib.hid h1; clear h1
  have H2 := Lib.hid h2; clear h2
  have hm := H1.out.1
  by_cases hlen : a.length = b.length
  · have hlb : ((a.length : Int) != (b.length : Int)) = false := by simp [hlen]
    have HL := Lib.hid hlen; clear hlen
    go_enter Tryz.func50, Tryz.ntmps50
    go_wp2
    go_loopw [5] (fun i wr => ∃ k : Nat, k ≤ a.length ∧ i = .int .i64 k ∧ Hid (a.take k = b.take k) ∧ Gr w wr) (fun i _ => a.length - (intOf i).toNat)
    case atStart => exact ⟨0, Nat.zero_le _, rfl, Lib.hid rfl, Below.refl _ _⟩
    case round =>
      obtain ⟨k, hk, rfl, hch, hb⟩ := hrel
      by_cases hlt : k < a.length
      · have hlt2 : k < b.length := by rw [← HL.out]; exact hlt
        obtain ⟨ad, rfl, hx, hy⟩ := (H1.out.gr hb).2 k hlt
        obtain ⟨bd, rfl, hx2, hy2⟩ := (H2.out.gr hb).2 k hlt2
        have hne : Hid (a[k] ≠ b[k] → a ≠ b) := fun h => drop_ne hlt hlt2 hch.out h
        have heq : Hid (a[k] = b[k] → a.take (k + 1) = b.take (k + 1)) := fun h => take_succ_eq hlt hlt2 hch.out h
        have hi1 : (k : Int) < (a.length : Int) := by omega
        have hi2 : (k : Int) < (b.length : Int) := by omega
        generalize a[k] = x at *
        generalize b[k] = y at *
        obtain ⟨p, c⟩ := x
        obtain ⟨q, d⟩ := y
        dsimp only at hx hy hx2 hy2 hne heq
        by_cases hpq : p = q ∧ c = d
        · have hpb : (p == q && (c == d)) = true := by simp [hpq.1, hpq.2]
          have hEQ := heq.out (by rw [hpq.1, hpq.2])
          have HEQ := Lib.hid hEQ; clear hEQ hpq heq hne
          go_wp2
          refine wp_region_quiet_lit (by kernel_rfl) (by kernel_rfl) ?_
          repeat (first | go_big_quiet_step (fail) | quiet_step (fail))
          refine wpQuiet_nil ?_
          intro _ hw'
          obtain ⟨nq, hw''⟩ := hw'
          subst hw''
          go_wp2
          go_roundw
          case rel => exact ⟨k + 1, by omega, by go_num, HEQ, hb.drN _⟩
          case measure => simp [intOf]; omega
        · have hpb : (p == q && (c == d)) = false := by
            rw [Bool.eq_false_iff]; intro h; simp at h; exact hpq h
          have hNE := hne.out (fun h => hpq ⟨congrArg Prod.fst h, congrArg Prod.snd h⟩)
          have HNE := Lib.hid hNE; clear hNE hpq heq hne
          go_wp2
          refine wp_region_quiet_lit (by kernel_rfl) (by kernel_rfl) ?_
          repeat (first | go_big_quiet_step (fail) | quiet_step (fail))
          refine wpQuiet_nil ?_
          intro _ hw'
          obtain ⟨nq, hw''⟩ := hw'
          subst hw''
          go_wp2
          go_ret
          exact ⟨ret_bool (by simp [HNE.out]), hb.drN _⟩
      · have hk' : k = a.length := by omega
        subst hk'
        have hEQ : a = b := by
          have := hch.out
          rw [List.take_length] at this
          rw [this, List.take_of_length_le (by have := HL.out; omega)]
        have HEQ := Lib.hid hEQ; clear hEQ
        go_wp2
        go_ret
        exact ⟨ret_bool (by simp [← HEQ.out]), hb⟩
  · have hlb : ((a.length : Int) != (b.length : Int)) = true := by simp; omega
    have hNE : a ≠ b := fun h => hlen (by rw [h])
    have HNE := Lib.hid hNE; clear hNE hlen
    go_enter Tryz.func50, Tryz.ntmps50
    go_wp2
    go_ret
    exact ⟨ret_bool (by simp [HNE.out]), Gr.rfl' _⟩

theorem refDot_any (p c : Int) (w : World) : Calls Tryz.prog 111 #[.agg #[.int .i64 p, .int .i64 c]] w fun e w' => e = .returned (.int .i64 (dotChk p c)) ∧ Gr w w' := by
  go_enter Tryz.func111, Tryz.ntmps111
  go_wp2
  all_goals
    go_ret
    exact ⟨ret_int (by unfold dotChk; repeat (first | rw [if_pos (by omega)] | rw [if_neg (by omega)])), (Gr.rfl' _).al _⟩

def lastOf (l : List Dot) (k : Nat) : Int := if h : 0 < k ∧ k - 1 < l.length then (l[k - 1]'h.2).1 else -1
theorem refCheck_any (A : Option Addr) (cap : Nat) (l : List Dot) (w : World) (h : Dots w A l) :
   Calls Tryz.prog 81 #[.slice A l.length cap] w fun e w' => e = .returned (.int .i64 (chk l)) ∧ Gr w w' := by
  have H := Lib.hid h; clear h
  have hm := H.out.1
  go_enter Tryz.func81, Tryz.ntmps81
  go_wp2
  go_loopw [3] (fun i wr => ∃ k : Nat, k ≤ l.length ∧ i = .int .i64 k ∧ Hid (chk l = chkGo (lastOf l k) (l.drop k)) ∧ Gr w wr) (fun i _ => l.length - (intOf i).toNat)
  case atStart => exact ⟨0, Nat.zero_le _, rfl, Lib.hid rfl, Below.refl _ _⟩
  case round =>
    obtain ⟨k, hk, rfl, hch, hb⟩ := hrel
    by_cases hlt : k < l.length
    · obtain ⟨ad, rfl, hx, hy⟩ := (H.out.gr hb).2 k hlt
      have hdrop : Hid (l.drop k = l[k] :: l.drop (k+1)) := List.drop_eq_getElem_cons hlt
      have hlast : Hid (lastOf l (k + 1) = l[k].1) := by show _ = _; unfold lastOf; rw [dif_pos ⟨by omega, by omega⟩]; rfl
      have hi1 : (k : Int) < (l.length : Int) := by omega
      have hdp : Hid (∀ p c, l[k] = (p, c) → dotChk p c = 0 → 0 ≤ p) := by
        intro p c _ h; unfold dotChk at h; split at h <;> omega
      rcases k with _ | j
      · generalize hd : l[0] = d at *
        obtain ⟨p, c⟩ := d
        have hdp' := hdp.out p c rfl
        clear hd hdp
        simp only [Nat.zero_mul, Addr.add_zero'] at hx hy
        have hl0 : Hid (lastOf l 0 = -1) := rfl
        have hc0 : chkGo (lastOf l 0) ((p, c) :: l.drop (0+1)) = if dotChk p c ≠ 0 then dotChk p c else if p ≤ lastOf l 0 then 8 else chkGo p (l.drop (0+1)) := rfl
        have HC0 := Lib.hid hc0; clear hc0
        by_cases hok : dotChk p c = 0
        · have hok' : (dotChk p c != 0) = false := by simp [hok]
          have hp0 := hdp' hok
          have HOK := Lib.hid hok; clear hok hdp'
          go_wp2_with (go_at_call 111; refine (refDot_any _ _ _).mono ?_; rintro e w1 ⟨rfl, hg1⟩)
          refine wp_region_quiet_lit (by kernel_rfl) (by kernel_rfl) ?_
          repeat (first | go_big_quiet_step (fail) | quiet_step (fail))
          refine wpQuiet_nil ?_
          intro _ hw'
          obtain ⟨nq, hw''⟩ := hw'
          subst hw''
          go_wp2
          go_roundw
          case rel => exact ⟨1, by omega, by go_num, Lib.hid (by rw [hch.out, hdrop.out, HC0.out, if_neg (by simp [HOK.out]), if_neg (by rw [hl0.out]; omega), hlast.out]), (hb.tr hg1).drN _⟩
          case measure => simp [intOf]; omega
        · have hok' : (dotChk p c != 0) = true := by simp [hok]
          have HOK := Lib.hid hok; clear hok hdp'
          go_wp2_with (go_at_call 111; refine (refDot_any _ _ _).mono ?_; rintro e w1 ⟨rfl, hg1⟩)
          go_ret
          exact ⟨ret_int (by rw [hch.out, hdrop.out, HC0.out, if_pos HOK.out]), hb.tr hg1⟩
      · obtain ⟨ad', e', hx2, hy2⟩ := (H.out.gr hb).2 j (by omega)
        cases e'
        have hpl : Hid (lastOf l (j + 1) = l[j].1) := by show _ = _; unfold lastOf; rw [dif_pos ⟨by omega, by omega⟩]; rfl
        have hi2 : (j : Int) < (l.length : Int) := by omega
        generalize hd : l[j + 1] = d at *
        obtain ⟨p, c⟩ := d
        generalize l[j] = d2 at *
        obtain ⟨q, c2⟩ := d2
        clear hd hdp
        dsimp only at hx hy hlast hx2 hy2 hpl
        have hc0 : chkGo (lastOf l (j+1)) ((p, c) :: l.drop (j+1+1)) = if dotChk p c ≠ 0 then dotChk p c else if p ≤ lastOf l (j+1) then 8 else chkGo p (l.drop (j+1+1)) := rfl
        have HC0 := Lib.hid hc0; clear hc0
        by_cases hok : dotChk p c = 0
        · have hok' : (dotChk p c != 0) = false := by simp [hok]
          have HOK := Lib.hid hok; clear hok
          by_cases hle : p ≤ q
          all_goals
            go_wp2_with (go_at_call 111; refine (refDot_any _ _ _).mono ?_; rintro e w1 ⟨rfl, hg1⟩; replace hx := hg1.cell hx; replace hx2 := hg1.cell hx2)
            refine wp_region_quiet_lit (by kernel_rfl) (by kernel_rfl) ?_
            repeat (first | go_big_quiet_step (fail) | quiet_step (fail))
            refine wpQuiet_nil ?_
            intro _ hw'
            obtain ⟨nq, hw''⟩ := hw'
            subst hw''
            go_wp2
          · go_ret
            exact ⟨ret_int (by rw [hch.out, hdrop.out, HC0.out, if_neg (by simp [HOK.out]), if_pos (by rw [hpl.out]; omega)]), (hb.tr hg1).drN _⟩
          · go_roundw
            case rel => exact ⟨j + 1 + 1, by omega, by go_num, Lib.hid (by rw [hch.out, hdrop.out, HC0.out, if_neg (by simp [HOK.out]), if_neg (by rw [hpl.out]; omega), hlast.out]), (hb.tr hg1).drN _⟩
            case measure => simp [intOf]; omega
        · have hok' : (dotChk p c != 0) = true := by simp [hok]
          have HOK := Lib.hid hok; clear hok
          go_wp2_with (go_at_call 111; refine (refDot_any _ _ _).mono ?_; rintro e w1 ⟨rfl, hg1⟩)
          go_ret
          exact ⟨ret_int (by rw [hch.out, hdrop.out, HC0.out, if_pos HOK.out]), hb.tr hg1⟩
    · have : k = l.length := by omega
      subst this
      go_wp2
      go_ret
      have := hch.out
      simp at this
      exact ⟨ret_int (by rw [this]; rfl), hb⟩
end Go.Proofs.YtfobnemocodomaaGreat
set_option linter.unusedVariables false
set_option linter.unusedSimpArgs false
set_option maxHeartbeats 400000
namespace Go.Proofs.YtfobnemocodomaaGreat
open Go.RowKit

theorem cnt_out {l : List Dot} (h : Okv l) (q : Int) (hq : ¬ (0 ≤ q ∧ q < 64)) : cnt l q = 0 := cnt_none l q fun d hd e => by have := h.1 d hd; omega
theorem getV_eq (l : List Dot) (q : Int) : getV l q = if chk l = 0 then cnt l q else 0 := by
  unfold getV
  by_cases h : chk l = 0
  · by_cases hq : 0 ≤ q ∧ q < 64
    · rw [if_pos ⟨h, hq⟩, if_pos h]
    · rw [if_neg (fun c => hq c.2), if_pos h, cnt_out ((chk_ok l).1 h) q hq]
  · rw [if_neg (fun c => h c.1), if_neg h]

theorem refGet_any (A : Option Addr) (cap : Nat) (l : List Dot) (q : Int) (w : World) (h : Dots w A l) :
   Calls Tryz.prog 144 #[.slice A l.length cap, .int .i64 q] w fun e w' => e = .returned (.int .i64 (getV l q)) ∧ Gr w w' := by
  have H := Lib.hid h; clear h
  have hm := H.out.1
  by_cases hv : chk l = 0
  · have HG : Hid (getV l q = cnt l q) := by show _ = _; rw [getV_eq, if_pos hv]
    have hok : (chk l != 0) = false := by simp [hv]
    clear hv
    go_enter Tryz.func144, Tryz.ntmps144
    go_wp2_with (go_at_call 81; refine (refCheck_any _ _ _ _ H.out).mono ?_; rintro e w1 ⟨rfl, hg1⟩)
    go_loopw [5] (fun i wr => ∃ k : Nat, k ≤ l.length ∧ i = .int .i64 k ∧ Hid (cnt l q = cnt (l.drop k) q) ∧ Gr w wr) (fun i _ => l.length - (intOf i).toNat)
    case atStart => exact ⟨0, Nat.zero_le _, rfl, Lib.hid rfl, hg1⟩
    case round =>
      obtain ⟨k, hk, rfl, hch, hb⟩ := hrel
      by_cases hlt : k < l.length
      · obtain ⟨ad, rfl, hx, hy⟩ := (H.out.gr hb).2 k hlt
        have hdrop : Hid (l.drop k = l[k] :: l.drop (k+1)) := List.drop_eq_getElem_cons hlt
        have hi1 : (k : Int) < (l.length : Int) := by omega
        generalize hd : l[k] = d at *
        obtain ⟨p, c⟩ := d
        clear hd
        dsimp only at hx hy
        have hc0 : cnt ((p, c) :: l.drop (k+1)) q = if p = q then c else cnt (l.drop (k+1)) q := rfl
        have HC0 := Lib.hid hc0; clear hc0
        by_cases hpq : p = q
        · have hpb : (p == q) = true := by simp [hpq]
          have HPQ := Lib.hid hpq; clear hpq
          go_wp2
          go_ret
          exact ⟨ret_int (by rw [HG.out, hch.out, hdrop.out, HC0.out, if_pos HPQ.out]), hb⟩
        · have hpb : (p == q) = false := by simp [hpq]
          have HPQ := Lib.hid hpq; clear hpq
          go_wp2
          go_roundw
          case rel => exact ⟨k + 1, by omega, by go_num, Lib.hid (by rw [hch.out, hdrop.out, HC0.out, if_neg HPQ.out]), hb⟩
          case measure => simp [intOf]; omega
      · have : k = l.length := by omega
        subst this
        go_wp2
        go_ret
        have := hch.out
        simp at this
        exact ⟨ret_int (by rw [HG.out, this]; rfl), hb⟩
  · have HG : Hid (getV l q = 0) := by show _ = _; rw [getV_eq, if_neg hv]
    have hok : (chk l != 0) = true := by simp [hv]
    clear hv
    go_enter Tryz.func144, Tryz.ntmps144
    go_wp2_with (go_at_call 81; refine (refCheck_any _ _ _ _ H.out).mono ?_; rintro e w1 ⟨rfl, hg1⟩)
    go_ret
    exact ⟨ret_int HG.out.symm, hg1⟩

def hasV (l : List Dot) (p c : Int) : Bool := decide (1 ≤ c) && decide (c ≤ getV l p)

theorem refHas_any (A : Option Addr) (cap : Nat) (l : List Dot) (p c : Int) (w : World) (h : Dots w A l) :
   Calls Tryz.prog 135 #[.slice A l.length cap, .agg #[.int .i64 p, .int .i64 c]] w fun e w' => e = .returned (.bool (hasV l p c)) ∧ Gr w w' := by
  have H := Lib.hid h; clear h
  have hg0 : Gr w (w.alloc (.cells #[.int .i64 p, .int .i64 c] 112)) := (Gr.rfl' w).al _
  have hn := World.alloc_heap_new w (.cells #[.int .i64 p, .int .i64 c] 112)
  have hf0 : (w.alloc (.cells #[.int .i64 p, .int .i64 c] 112)).cell? ⟨w.heap.size, 0, none⟩ = some (.int .i64 p) := by simp only [World.cell?, hn]; rfl
  have hf1 : (w.alloc (.cells #[.int .i64 p, .int .i64 c] 112)).cell? ⟨w.heap.size, 1, none⟩ = some (.int .i64 c) := by simp only [World.cell?, hn]; rfl
  generalize hw0 : w.alloc (.cells #[.int .i64 p, .int .i64 c] 112) = w0 at *
  have HN := Lib.hid hn; clear hn
  have HW0 := Lib.hid hw0; clear hw0
  by_cases h1 : 1 ≤ c
  · have hb1 : decide (1 ≤ c) = true := decide_eq_true h1
    have HV : Hid (hasV l p c = decide (c ≤ getV l p)) := by show _ = _; simp [hasV, h1]
    clear h1
    go_enter Tryz.func135, Tryz.ntmps135
    go_upto_region 1 with (fail)
    rw [show w.alloc (.cells #[.int .i64 p, .int .i64 c] 112) = w0 from HW0.out]
    go_region_held3 (fun w' => w'.cell? ⟨w.heap.size, 0, none⟩ = some (.int .i64 p) ∧ w'.cell? ⟨w.heap.size, 1, none⟩ = some (.int .i64 c)) (first | exact ⟨hf0, hf1⟩ | exact ⟨hg1.cell hf0, hg1.cell hf1⟩) (first | (go_at_call 144; refine (refGet_any A cap l p _ (H.out.gr hg0.dr)).mono ?_; rintro e w1 ⟨rfl, hg1⟩))
    go_wp2
    go_ret
    exact ⟨ret_bool HV.out.symm, hg0.tr ((Gr.rfl' _).dr.tr hg1)⟩
  · have hb1 : decide (1 ≤ c) = false := decide_eq_false h1
    have HV : Hid (hasV l p c = false) := by show _ = _; simp [hasV, h1]
    clear h1
    go_enter Tryz.func135, Tryz.ntmps135
    go_upto_region 1 with (fail)
    rw [show w.alloc (.cells #[.int .i64 p, .int .i64 c] 112) = w0 from HW0.out]
    refine wp_region_quiet_lit (by kernel_rfl) (by kernel_rfl) ?_
    repeat (first | go_big_quiet_step (fail) | quiet_step (fail))
    refine wpQuiet_nil ?_
    intro _ hw'
    obtain ⟨nq, hw''⟩ := hw'
    subst hw''
    go_wp2
    go_ret
    exact ⟨ret_bool HV.out.symm, hg0.drN _⟩
theorem Has_any (A : Option Addr) (cap : Nat) (l : List Dot) (p c : Int) (w : World) (h : Dots w A l) :
   Calls Tryz.prog 127 #[.slice A l.length cap, .agg #[.int .i64 p, .int .i64 c]] w fun e w' => e = .returned (.bool (hasV l p c)) ∧ Gr w w' := by
  have H := Lib.hid h; clear h
  have hg0 : Gr w (w.alloc (.cells #[.int .i64 p, .int .i64 c] 112)) := (Gr.rfl' w).al _
  have hn := World.alloc_heap_new w (.cells #[.int .i64 p, .int .i64 c] 112)
  have hf0 : (w.alloc (.cells #[.int .i64 p, .int .i64 c] 112)).cell? ⟨w.heap.size, 0, none⟩ = some (.int .i64 p) := by simp only [World.cell?, hn]; rfl
  have hf1 : (w.alloc (.cells #[.int .i64 p, .int .i64 c] 112)).cell? ⟨w.heap.size, 1, none⟩ = some (.int .i64 c) := by simp only [World.cell?, hn]; rfl
  generalize hw0 : w.alloc (.cells #[.int .i64 p, .int .i64 c] 112) = w0 at *
  have HN := Lib.hid hn; clear hn
  have HW0 := Lib.hid hw0; clear hw0
  by_cases h1 : 1 ≤ c
  · have hb1 : decide (1 ≤ c) = true := decide_eq_true h1
    have HV : Hid (hasV l p c = decide (c ≤ getV l p)) := by show _ = _; simp [hasV, h1]
    clear h1
    go_enter Tryz.func127, Tryz.ntmps127
    go_upto_region 1 with (fail)
    rw [show w.alloc (.cells #[.int .i64 p, .int .i64 c] 112) = w0 from HW0.out]
    go_region_held3 (fun w' => w'.cell? ⟨w.heap.size, 0, none⟩ = some (.int .i64 p) ∧ w'.cell? ⟨w.heap.size, 1, none⟩ = some (.int .i64 c)) (first | exact ⟨hf0, hf1⟩ | exact ⟨hg1.cell hf0, hg1.cell hf1⟩) (first | (go_at_call 142; refine (Get_any A cap l p _ (H.out.gr hg0.dr)).mono ?_; rintro e w1 ⟨rfl, hg1⟩))
    go_wp2
    go_ret
    exact ⟨ret_bool HV.out.symm, hg0.tr ((Gr.rfl' _).dr.tr hg1)⟩
  · have hb1 : decide (1 ≤ c) = false := decide_eq_false h1
    have HV : Hid (hasV l p c = false) := by show _ = _; simp [hasV, h1]
    clear h1
    go_enter Tryz.func127, Tryz.ntmps127
    go_upto_region 1 with (fail)
    rw [show w.alloc (.cells #[.int .i64 p, .int .i64 c] 112) = w0 from HW0.out]
    refine wp_region_quiet_lit (by kernel_rfl) (by kernel_rfl) ?_
    repeat (first | go_big_quiet_step (fail) | quiet_step (fail))
    refine wpQuiet_nil ?_
    intro _ hw'
    obtain ⟨nq, hw''⟩ := hw'
    subst hw''
    go_wp2
    go_ret
    exact ⟨ret_bool HV.out.symm, hg0.drN _⟩

/-- all of a's dots are had by b -/
def inB (a b : List Dot) : Bool := a.all fun d => hasV b d.1 d.2
def refWithinB (a b : List Dot) : Bool := decide (chk a = 0) && decide (chk b = 0) && inB a b
theorem inB_succ {a b : List Dot} {k : Nat} (h : k < a.length) : inB (a.take (k + 1)) b = (inB (a.take k) b && hasV b a[k].1 a[k].2) := by
  rw [List.take_succ_eq_append_getElem h]; simp only [inB, List.all_append, List.all_cons, List.all_nil, Bool.and_true]
theorem inB_pre {a b : List Dot} {k : Nat} (h : inB (a.take k) b = false) : inB a b = false := by
  rw [← List.take_append_drop k a]
  simp only [inB, List.all_append] at h ⊢
  simp [h]

def refCmpI (a b : List Dot) : Int := if refWithinB a b = true then (if refWithinB b a = true then 0 else 1) else (if refWithinB b a = true then 2 else 3)
def manyB (rs : List DRow) : Bool := rs.any fun r => decide (80 < r.l.length)
theorem manyB_pre {rs : List DRow} {k : Nat} (h : k < rs.length) (hr : 80 < rs[k].l.length) : manyB rs = true := by
  unfold manyB; rw [List.any_eq_true]; exact ⟨rs[k], List.getElem_mem h, by simpa using hr⟩
end Go.Proofs.YtfobnemocodomaaGreat
