/- vec's search: find$1, BinarySearchFunc, find, Get, Has. -/
import Derived.Test.YtfobnemocodomaaVecA
set_option linter.unusedVariables false
set_option linter.unusedSimpArgs false
set_option maxHeartbeats 400000
namespace Go.Proofs.Ytfobnemocodomaa
open Go.RowKit

/-- strictly rising peers, within bounds -/
def Okv (l : List Dot) : Prop := (∀ d ∈ l, 0 ≤ d.1 ∧ d.1 < 64 ∧ 1 ≤ d.2 ∧ d.2 ≤ 1048576) ∧ l.Pairwise (fun a b => a.1 < b.1)
theorem chkGo_ok : ∀ (l : List Dot) (la : Int), chkGo la l = 0 ↔ (Okv l ∧ ∀ d ∈ l, la < d.1)
  | [], la => by simp [chkGo, Okv]
  | d :: r, la => by
    unfold chkGo
    have ih := chkGo_ok r d.1
    have hd : dotChk d.1 d.2 = 0 ↔ (0 ≤ d.1 ∧ d.1 < 64 ∧ 1 ≤ d.2 ∧ d.2 ≤ 1048576) := by
      unfold dotChk
      by_cases a : d.1 < 0 ∨ 64 ≤ d.1
      · rw [if_pos a]; constructor <;> intro h <;> omega
      · rw [if_neg a]
        by_cases b : d.2 < 1 ∨ 1048576 < d.2
        · rw [if_pos b]; constructor <;> intro h <;> omega
        · rw [if_neg b]; constructor <;> intro h <;> omega
    by_cases h0 : dotChk d.1 d.2 = 0
    · rw [if_neg (by simpa using h0)]
      by_cases h1 : d.1 ≤ la
      · rw [if_pos h1]
        constructor
        · intro h; omega
        · intro h; have := h.2 d (by simp); omega
      · rw [if_neg h1, ih]
        have hd' := hd.1 h0
        constructor
        · rintro ⟨⟨a, b⟩, c⟩
          refine ⟨⟨?_, ?_⟩, ?_⟩
          · intro x hx; simp at hx; rcases hx with rfl | hx
            · exact hd'
            · exact a x hx
          · exact List.pairwise_cons.2 ⟨c, b⟩
          · intro x hx; simp at hx; rcases hx with rfl | hx
            · omega
            · have := c x hx; omega
        · rintro ⟨⟨a, b⟩, c⟩
          have b' := List.pairwise_cons.1 b
          exact ⟨⟨fun x hx => a x (by simp [hx]), b'.2⟩, b'.1⟩
    · rw [if_pos (by simpa using h0)]
      constructor
      · intro h; exact absurd h h0
      · rintro ⟨⟨a, b⟩, c⟩; exact absurd (hd.2 (a d (by simp))) h0
theorem chk_ok (l : List Dot) : chk l = 0 ↔ Okv l := by
  unfold chk
  rw [chkGo_ok]
  constructor
  · exact fun h => h.1
  · intro h; exact ⟨h, fun d hd => by have := h.1 d hd; omega⟩

/-- how many changes of a peer -/
def cnt : List Dot → Int → Int
  | [], _ => 0
  | d :: r, p => if d.1 = p then d.2 else cnt r p
theorem Okv.sorted {l : List Dot} (h : Okv l) (t u : Nat) (hu : u < l.length) (htu : t < u) : (l[t]'(by omega)).1 < l[u].1 :=
  List.pairwise_iff_getElem.1 h.2 t u (by omega) hu htu
theorem Okv.at {l : List Dot} (h : Okv l) (t : Nat) (ht : t < l.length) : 0 ≤ l[t].1 ∧ l[t].1 < 64 ∧ 1 ≤ l[t].2 ∧ l[t].2 ≤ 1048576 := h.1 _ (List.getElem_mem ht)
theorem cnt_none : ∀ (l : List Dot) (p : Int), (∀ d ∈ l, d.1 ≠ p) → cnt l p = 0
  | [], _, _ => rfl
  | d :: r, p, h => by unfold cnt; rw [if_neg (h d (by simp))]; exact cnt_none r p fun x hx => h x (by simp [hx])
theorem cnt_at : ∀ (l : List Dot) (h : Okv l) (i : Nat) (hi : i < l.length), cnt l l[i].1 = l[i].2
  | d :: r, h, 0, _ => by simp [cnt]
  | d :: r, h, i + 1, hi => by
    have hs := h.sorted 0 (i + 1) hi (by omega)
    simp at hs ⊢
    unfold cnt
    rw [if_neg (by omega)]
    exact cnt_at r ⟨fun x hx => h.1 x (by simp [hx]), (List.pairwise_cons.1 h.2).2⟩ i (by simpa using hi)

theorem find1_any (p c q : Int) (w : World) (h1 : 0 ≤ p) (h2 : p < 64) (h3 : 0 ≤ q) (h4 : q < 64) : Calls Try.prog 212 #[.agg #[.int .i64 p, .int .i64 c], .int .i64 q] w fun e w' => e = .returned (.int .i64 (p - q)) ∧ Gr w w' := by
  go_enter Try.func212, Try.ntmps212
  go_wp2
  go_ret
  exact ⟨rfl, (Gr.rfl' _).al _⟩

theorem mid_eq (a b : Nat) (ha : a ≤ 9223372036854775807) (hb : b ≤ 9223372036854775807) : wrap64 (IntKind.u64.wrap (wrap64 ((a : Int) + (b : Int))) / 2) = (((a + b) / 2 : Nat) : Int) := by
  have h1 : IntKind.u64.wrap (wrap64 ((a : Int) + (b : Int))) = (a : Int) + b := by
    rw [IntKind.wrap_u64]; unfold wrap64; omega
  rw [h1]; unfold wrap64; omega
def BsPost (l : List Dot) (p : Int) (e : Ending) : Prop :=
  ∃ i : Nat, i ≤ l.length ∧ (∀ t (h : t < l.length), t < i → l[t].1 < p) ∧ (∀ t (h : t < l.length), i ≤ t → p ≤ l[t].1) ∧
    e = .returned (.tuple #[.int .i64 i, .bool (decide (∃ h : i < l.length, l[i].1 = p))])

theorem Bs_any (A : Option Addr) (cap : Nat) (l : List Dot) (q : Int) (w : World) (h : Dots w A l) (hv : Okv l) (h3 : 0 ≤ q) (h4 : q < 64) :
   Calls Try.prog 211 #[.slice A l.length cap, .int .i64 q, .func (.func 212) #[] #[]] w fun e w' => BsPost l q e ∧ Gr w w' := by
  have H := Lib.hid h; clear h
  have HV := Lib.hid hv; clear hv
  have hm := H.out.1
  go_enter Try.func211, Try.ntmps211
  go_wp2
  go_loopw [9,10] (fun i j wr => ∃ a b : Nat, a ≤ b ∧ b ≤ l.length ∧ i = .int .i64 a ∧ j = .int .i64 b ∧ Hid ((∀ t (h : t < l.length), t < a → l[t].1 < q) ∧ (∀ t (h : t < l.length), b ≤ t → q ≤ l[t].1)) ∧ Gr w wr) (fun i j _ => (intOf j - intOf i).toNat)
  case atStart => exact ⟨0, l.length, Nat.zero_le _, Nat.le_refl _, rfl, rfl, Lib.hid ⟨fun t h h' => by omega, fun t h h' => by omega⟩, Below.refl _ _⟩
  case round =>
    obtain ⟨a, b, hab, hbl, rfl, rfl, hinv, hb⟩ := hrel
    by_cases hlt : a < b
    · obtain ⟨m, hm'⟩ : ∃ m : Nat, m = (a + b) / 2 := ⟨_, rfl⟩
      have hmid : wrap64 (IntKind.u64.wrap (wrap64 ((a : Int) + (b : Int))) / 2) = (m : Int) := by rw [hm']; exact mid_eq a b (by omega) (by omega)
      have hma : a ≤ m := by omega
      have hmb : m < b := by omega
      clear hm'
      have hmi : (m : Int) < (l.length : Int) := by omega
      have HM := Lib.hid hmid; clear hmid
      have hml : m < l.length := by omega
      obtain ⟨ad, rfl, hx, hy⟩ := (H.out.gr hb).2 m hml
      have hbd := HV.out.at m hml
      have hsl : Hid ((∀ t (h : t < l.length), t < m + 1 → l[t].1 ≤ l[m].1) ∧ (∀ t (h : t < l.length), m ≤ t → l[m].1 ≤ l[t].1)) := by
        constructor
        · intro t h h'
          by_cases e : t = m
          · subst e; exact Int.le_refl _
          · have := HV.out.sorted t m hml (by omega); omega
        · intro t h h'
          by_cases e : t = m
          · subst e; exact Int.le_refl _
          · have := HV.out.sorted m t h (by omega); omega
      generalize hd : l[m] = d at *
      obtain ⟨p, c⟩ := d
      clear hd
      dsimp only at hx hy hbd hsl
      obtain ⟨hb1, hb2, _, _⟩ := hbd
      have HM2 := HM.out
      by_cases hcmp : p < q
      all_goals
        go_wp2_with (go_at_call 212; refine (find1_any p c q _ hb1 hb2 h3 h4).mono ?_; rintro e w1 ⟨rfl, hg1⟩)
      · go_roundw
        case rel => exact ⟨m + 1, b, by omega, hbl, by go_num, rfl, Lib.hid ⟨fun t h h' => by have := hsl.out.1 t h h'; omega, hinv.out.2⟩, hb.tr hg1⟩
        case measure => simp [intOf]; omega
      · go_roundw
        case rel => exact ⟨a, m, hma, by omega, rfl, rfl, Lib.hid ⟨hinv.out.1, fun t h h' => by have := hsl.out.2 t h h'; omega⟩, hb.tr hg1⟩
        case measure => simp [intOf]; omega
    · obtain rfl : a = b := by omega
      by_cases hal : a < l.length
      · obtain ⟨ad, rfl, hx, hy⟩ := (H.out.gr hb).2 a hal
        have hbd := HV.out.at a hal
        have hQ : Hid (∀ v : Bool, v = decide (l[a].1 = q) → BsPost l q (.returned (.tuple #[.int .i64 a, .bool v]))) := by
          intro v hv
          exact ⟨a, hbl, hinv.out.1, hinv.out.2, by rw [hv]; congr 5; simp [hal]⟩
        generalize hd : l[a] = d at *
        obtain ⟨p, c⟩ := d
        clear hd
        dsimp only at hx hy hbd hQ
        obtain ⟨hb1, hb2, _, _⟩ := hbd
        have hal' : decide ((a : Int) < (l.length : Int)) = true := decide_eq_true (by omega)
        go_wp2_with (go_at_call 212; refine (find1_any p c q _ hb1 hb2 h3 h4).mono ?_; rintro e w1 ⟨rfl, hg1⟩)
        go_ret2
        exact ⟨hQ.out _ (by rw [Bool.eq_iff_iff]; simp; omega), hb.tr hg1⟩
      · go_wp2
        go_ret2
        exact ⟨⟨a, hbl, hinv.out.1, hinv.out.2, by congr 5; simp [hal]⟩, hb⟩

theorem BsPost.two {l : List Dot} {q : Int} {e : Ending} (hv : Okv l) (h : BsPost l q e) :
    (∃ i : Nat, i < l.length ∧ (∃ h : i < l.length, l[i].1 = q) ∧ e = .returned (.tuple #[.int .i64 i, .bool true])) ∨
    (∃ i : Nat, Hid (cnt l q = 0) ∧ e = .returned (.tuple #[.int .i64 i, .bool false])) := by
  obtain ⟨i, hi, h1, h2, rfl⟩ := h
  by_cases c : ∃ h : i < l.length, l[i].1 = q
  · exact .inl ⟨i, c.1, c, by simp [c]⟩
  · refine .inr ⟨i, Lib.hid ?_, by simp [c]⟩
    refine cnt_none l q fun d hd e => ?_
    obtain ⟨t, ht, rfl⟩ := List.getElem_of_mem hd
    have a1 := h1 t ht
    by_cases hti : t < i
    · have := a1 hti; omega
    · by_cases hti' : t = i
      · subst hti'; exact c ⟨ht, e⟩
      · have := hv.sorted i t ht (by omega)
        have := h2 i (by omega) (by omega)
        omega

theorem find_any (A : Option Addr) (cap : Nat) (l : List Dot) (q : Int) (w : World) (h : Dots w A l) (hv : Okv l) (h3 : 0 ≤ q) (h4 : q < 64) :
   Calls Try.prog 196 #[.slice A l.length cap, .int .i64 q] w fun e w' => e = .returned (.int .i64 (cnt l q)) ∧ Gr w w' := by
  have H := Lib.hid h; clear h
  have HV := Lib.hid hv; clear hv
  go_enter Try.func196, Try.ntmps196
  go_wp2_with fail
  refine (Bs_any A cap l q _ H.out HV.out h3 h4).mono ?_
  rintro e w1 ⟨hp, hg1⟩
  rcases hp.two HV.out with ⟨i, hil, hiq, rfl⟩ | ⟨i, hq0, rfl⟩
  · obtain ⟨ad, rfl, hx, hy⟩ := (H.out.gr hg1).2 i hil
    have hc := cnt_at l HV.out i hil
    obtain ⟨_, hq⟩ := hiq
    rw [hq] at hc
    have HC := Lib.hid hc; clear hc hq
    generalize hd : l[i] = d at *
    obtain ⟨p, c⟩ := d
    clear hd hp
    dsimp only at hx hy HC
    go_wp2
    go_ret
    exact ⟨ret_int HC.out.symm, hg1⟩
  · clear hp
    go_wp2
    go_ret
    exact ⟨ret_int hq0.out.symm, hg1⟩

/-- a row of one -/
theorem DRows.one {w : World} {A : Option Addr} {cap : Nat} {l : List Dot} (h : Dots w A l) (t : TypeId) :
    DRows (w.alloc (.cells #[.slice A l.length cap] t)) (some ⟨w.heap.size, 0, none⟩) [⟨A, cap, l⟩] := by
  refine ⟨by simp, fun i hi => ?_⟩
  have : i = 0 := by simpa using hi
  subst this
  exact ⟨_, rfl, by simp [Addr.add], h.gr ((Gr.rfl' w).al _)⟩

def getV (l : List Dot) (q : Int) : Int := if chk l = 0 ∧ 0 ≤ q ∧ q < 64 then cnt l q else 0
theorem Get_any (A : Option Addr) (cap : Nat) (l : List Dot) (q : Int) (w : World) (h : Dots w A l) :
   Calls Try.prog 163 #[.slice A l.length cap, .int .i64 q] w fun e w' => e = .returned (.int .i64 (getV l q)) ∧ Gr w w' := by
  have H := Lib.hid h; clear h
  have H1 := Lib.hid (DRows.one (cap := cap) H.out 36)
  by_cases hv : chk l = 0
  · have hr : rightB [⟨A, cap, l⟩] = true := by simp [rightB, hv]
    by_cases hq : 0 ≤ q ∧ q < 64
    · have HG : Hid (getV l q = cnt l q) := if_pos ⟨hv, hq⟩
      obtain ⟨hq1, hq2⟩ := hq
      have HV := Lib.hid ((chk_ok l).1 hv); clear hv
      go_enter Try.func163, Try.ntmps163
      go_wp2_with (first | (go_at_call 195; refine (right_any _ _ [⟨A, cap, l⟩] _ H1.out).mono ?_; rintro e w1 ⟨rfl, hg1⟩) | (go_at_call 196; refine (find_any A cap l q _ (H.out.gr (((Gr.rfl' _).al _).tr (by assumption))) HV.out hq1 hq2).mono ?_; rintro e w2 ⟨rfl, hg2⟩))
      go_ret
      exact ⟨ret_int HG.out.symm, (((Gr.rfl' _).al _).tr hg1).tr hg2⟩
    · have HG : Hid (getV l q = 0) := if_neg (fun h => hq h.2)
      clear hv
      by_cases hq1 : 0 ≤ q
      · have hq2 : 64 ≤ q := by omega
        clear hq
        go_enter Try.func163, Try.ntmps163
        go_wp2_with (first | (go_at_call 195; refine (right_any _ _ [⟨A, cap, l⟩] _ H1.out).mono ?_; rintro e w1 ⟨rfl, hg1⟩))
        go_ret
        exact ⟨ret_int HG.out.symm, (((Gr.rfl' _).al _).tr hg1)⟩
      · have hq2 : q < 0 := by omega
        clear hq hq1
        go_enter Try.func163, Try.ntmps163
        go_wp2_with (first | (go_at_call 195; refine (right_any _ _ [⟨A, cap, l⟩] _ H1.out).mono ?_; rintro e w1 ⟨rfl, hg1⟩))
        go_ret
        exact ⟨ret_int HG.out.symm, (((Gr.rfl' _).al _).tr hg1)⟩
  · have hr : rightB [⟨A, cap, l⟩] = false := by simp [rightB, hv]
    have HG : Hid (getV l q = 0) := if_neg (fun h => hv h.1)
    clear hv
    go_enter Try.func163, Try.ntmps163
    go_wp2_with (first | (go_at_call 195; refine (right_any _ _ [⟨A, cap, l⟩] _ H1.out).mono ?_; rintro e w1 ⟨rfl, hg1⟩))
    go_ret
    exact ⟨ret_int HG.out.symm, (((Gr.rfl' _).al _).tr hg1)⟩

end Go.Proofs.Ytfobnemocodomaa
