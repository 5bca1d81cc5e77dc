/- A region of any order, some of whose operations turn what others read, if they wait for these. -/
import Derived.Test.YtfobnemocodomaaRegU
set_option linter.unusedVariables false
set_option linter.unusedSimpArgs false
namespace Go.Proofs.Ytfobnemocodomaa
section
variable {P : Program} {ops : Array Oper} {Q : Exit → Act → World → Prop} {md : Region.Mode} {S : World → Prop} {fin : List Nat}

/-- none of fin is listed -/
def nf (fin : List Nat) (listed : Array Bool) : Bool := fin.all fun f => !listed.getD f true
theorem nf_set {listed : Array Bool} {j : Nat} (hj : fin.contains j = false) : nf fin (listed.setIfInBounds j true) = nf fin listed := by
  have key : ∀ f ∈ fin, (listed.setIfInBounds j true).getD f true = listed.getD f true := fun f hf => by
    have hne : j ≠ f := fun e => by subst e; have : fin.contains j = true := by simpa using hf
                                    rw [hj] at this; cases this
    exact getD_set_ne true hne
  rw [Bool.eq_iff_iff]
  simp only [nf, List.all_eq_true]
  constructor
  · intro h f hf; have := h f hf; rw [key f hf] at this; exact this
  · intro h f hf; have := h f hf; rw [key f hf]; exact this
/-- Whatever order is picked, and S holds as long as none of fin has come. -/
def anyF (P : Program) (md : Region.Mode) (ops : Array Oper) (Q : Exit → Act → World → Prop) (fin : List Nat) (S : World → Prop) : Nat → Array Bool → Act → World → Prop
  | 0, listed, a, w => Region.ready md ops listed = [] ∧ Q .normal a w
  | f + 1, listed, a, w => (Region.ready md ops listed = [] → Q .normal a w) ∧
    ∀ i ∈ Region.ready md ops listed, wpOp P ops Q i (fun a' w' => (nf fin (listed.setIfInBounds i true) = true → S w') ∧ anyF P md ops Q fin S f (listed.setIfInBounds i true) a' w') a w
theorem any_of_F : ∀ (f : Nat) (listed : Array Bool) (a : Act) (w : World), anyF P md ops Q fin S f listed a w → wpAny P md ops Q f listed a w
  | 0, _, _, _, h => h
  | f + 1, _, _, _, h => ⟨h.1, fun i hi => wpOp_mono (fun a' w' h' => any_of_F f _ a' w' h'.2) (h.2 i hi)⟩
theorem region_F {id : Nat} {a : Act} {w : World} (fin : List Nat) (S : World → Prop) (hm : P.follows .mixedOrders = true)
    (h : anyF P .any ops Q fin S ops.size (Array.replicate ops.size false) a w.drew) : (Code.region id ops true).wp P Q a w :=
  wp_region_any hm (any_of_F _ _ _ _ h)
theorem anyF_first {i : Nat} {oi : Oper} {v : Value} {S' : World → Prop} (hi : ops[i]? = some oi) (hsel : ∀ (j : Nat) (o : Oper) cs b, ops[j]? = some o → o.op ≠ .select cs b)
    (hif : fin.contains i = false) (hQ : ∀ c a w, Q (.panic c) (a.put oi.dst v) w → Q (.panic c) a w) :
    ∀ (f : Nat) (listed : Array Bool) (a : Act) (w : World),
      ((∀ w, S' w) ∨ ((∀ w, S w → S' w) ∧ nf fin listed = true ∧ ∀ f ∈ fin, Region.waitsFor md ops f i = true)) →
      (∀ j oj, ops[j]? = some oj → j ≠ i → listed.getD j true = false → (∀ e ∈ oj.after, Region.binds md e = true → e.on ≠ i) → oi.apart ops oj = true) →
      i ∈ Region.ready md ops listed → YieldsIf P ops S' oi v a → S' w → (nf fin listed = true → S w) →
      anyF P md ops Q fin S f (listed.setIfInBounds i true) (a.put oi.dst v) w → anyF P md ops Q fin S (f + 1) listed a w := by
  intro f
  induction f with
  | zero =>
    intro listed a w _ _ hr hy hS hSi H
    refine ⟨fun h => (by rw [h] at hr; cases hr), fun j hj => ?_⟩
    by_cases hji : j = i
    · subst hji; exact hy.wpOp hi hS ⟨fun hn => hSi (by rw [nf_set hif] at hn; exact hn), H⟩
    · have := ready_mono hj hji
      rw [H.1] at this
      cases this
  | succ f ih =>
    intro listed a w hmode hfree hr hy hS hSi H
    refine ⟨fun h => (by rw [h] at hr; cases hr), fun j hj => ?_⟩
    have hun := (mem_ready.1 hr).1
    by_cases hji : j = i
    · subst hji; exact hy.wpOp hi hS ⟨fun hn => hSi (by rw [nf_set hif] at hn; exact hn), H⟩
    · have h1 := H.2 j (ready_mono hj hji)
      obtain ⟨hjun, oj, hoj, hall⟩ := mem_ready.1 hj
      have hnot : ∀ e ∈ oj.after, Region.binds md e = true → e.on ≠ i := fun e he hb heq => by
        have h1 := hall e he hb
        rw [heq, getD_both hun] at h1
        cases h1
      have h2 := wpOp_putIf hoj (hfree j oj hoj hji hjun hnot) (fun cs b => hsel i oi cs b hi) (fun cs b => hsel j oj cs b hoj) hQ hy h1
      have hfree' : ∀ k ok, ops[k]? = some ok → k ≠ i → (listed.setIfInBounds j true).getD k true = false →
          (∀ e ∈ ok.after, Region.binds md e = true → e.on ≠ i) → oi.apart ops ok = true := fun k ok hk hki hun hno => by
        refine hfree k ok hk hki ?_ hno
        by_cases hjk : j = k
        · subst hjk; exact hjun
        · rw [getD_set_ne true hjk] at hun; exact hun
      refine wpOp_mono (fun a' w' h3 => ?_) h2
      have hs1 : nf fin (listed.setIfInBounds j true) = true → S w' := fun hn => h3.2.1 (by rw [Array.setIfInBounds_comm _ _ (Ne.symm hji), nf_set hif]; exact hn)
      have hm2 : (∀ w, S' w) ∨ ((∀ w, S w → S' w) ∧ nf fin (listed.setIfInBounds j true) = true ∧ ∀ f ∈ fin, Region.waitsFor md ops f i = true) := by
        rcases hmode with h | ⟨h0, h1, h2⟩
        · exact Or.inl h
        · right
          refine ⟨h0, ?_, h2⟩
          have hjf : fin.contains j = false := by
            cases e : fin.contains j with
            | false => rfl
            | true =>
              obtain ⟨oj', hoj', e', he', hb', heq⟩ := Region.waitsFor_spec (h2 j (by simpa using e))
              rw [hoj] at hoj'
              cases hoj'
              exact absurd heq (hnot e' he' hb')
          rw [nf_set hjf]; exact h1
      have hS2 : S' w' := by
        rcases hm2 with h | ⟨h0, h1, _⟩
        · exact h w'
        · exact h0 _ (hs1 h1)
      refine ⟨hs1, ih (listed.setIfInBounds j true) a' w' hm2 hfree' (ready_mono hr (Ne.symm hji)) h3.1 hS2 hs1 ?_⟩
      rw [Array.setIfInBounds_comm _ _ hji]
      exact h3.2.2
/-- number i may be taken first, whatever lies: all that is asked of the region's text -/
def takeF (md : Region.Mode) (ops : Array Oper) (fin : List Nat) (listed : Array Bool) (i : Nat) : Bool :=
  Region.noSelect ops && Region.free md ops listed i && (Region.ready md ops listed).contains i && !fin.contains i
/-- .. what it reads is turned by none that may come before -/
def readF (md : Region.Mode) (ops : Array Oper) (fin : List Nat) (listed : Array Bool) (i : Nat) : Bool :=
  nf fin listed && fin.all fun f => Region.waitsFor md ops f i
theorem anyF_take {i : Nat} {oi : Oper} {v : Value} {f : Nat} {listed : Array Bool} {a : Act} {w : World} (d : Option Tmp) (hi : ops[i]? = some oi) (hd : oi.dst = d) (ht : takeF md ops fin listed i = true)
    (hQ : ∀ c a w, Q (.panic c) (a.put d v) w → Q (.panic c) a w) (hy : YieldsIf P ops (fun _ => True) oi v a) (hS : nf fin listed = true → S w)
    (h : anyF P md ops Q fin S f (listed.setIfInBounds i true) (a.put d v) w) : anyF P md ops Q fin S (f + 1) listed a w := by
  subst hd
  unfold takeF at ht
  simp only [Bool.and_eq_true, Bool.not_eq_true'] at ht
  obtain ⟨⟨⟨h1, h2⟩, h3⟩, h4⟩ := ht
  exact anyF_first (S' := fun _ => True) hi (Region.noSelect_spec h1) h4 hQ f listed a w (Or.inl fun _ => trivial) (Region.free_spec hi h2) (by simpa using h3) hy trivial hS h
theorem anyF_read {i : Nat} {oi : Oper} {v : Value} {f : Nat} {listed : Array Bool} {a : Act} {w : World} (d : Option Tmp) (hi : ops[i]? = some oi) (hd : oi.dst = d) (ht : takeF md ops fin listed i = true) (hr : readF md ops fin listed i = true)
    (hQ : ∀ c a w, Q (.panic c) (a.put d v) w → Q (.panic c) a w) (hy : YieldsIf P ops S oi v a) (hS : S w)
    (h : anyF P md ops Q fin S f (listed.setIfInBounds i true) (a.put d v) w) : anyF P md ops Q fin S (f + 1) listed a w := by
  subst hd
  unfold takeF at ht
  simp only [Bool.and_eq_true, Bool.not_eq_true'] at ht
  obtain ⟨⟨⟨h1, h2⟩, h3⟩, h4⟩ := ht
  unfold readF at hr
  simp only [Bool.and_eq_true, List.all_eq_true] at hr
  exact anyF_first (S' := S) hi (Region.noSelect_spec h1) h4 hQ f listed a w (Or.inr ⟨fun _ h => h, hr.1, hr.2⟩) (Region.free_spec hi h2) (by simpa using h3) hy hS (fun _ => hS) h
theorem anyF_its {i f : Nat} {listed : Array Bool} {a : Act} {w : World} (hr : Region.ready md ops listed = [i])
    (h : wpOp P ops Q i (fun a' w' => (nf fin (listed.setIfInBounds i true) = true → S w') ∧ anyF P md ops Q fin S f (listed.setIfInBounds i true) a' w') a w) : anyF P md ops Q fin S (f + 1) listed a w := by
  refine ⟨fun h0 => (by rw [hr] at h0; cases h0), fun k hk => ?_⟩
  rw [hr] at hk
  obtain rfl : k = i := by simpa using hk
  exact h
theorem anyF_done {listed : Array Bool} {a : Act} {w : World} (hr : Region.ready md ops listed = []) (h : Q .normal a w) : ∀ f, anyF P md ops Q fin S f listed a w
  | 0 => ⟨hr, h⟩
  | _ + 1 => ⟨fun _ => h, by rw [hr]; simp⟩
end
end Go.Proofs.Ytfobnemocodomaa
