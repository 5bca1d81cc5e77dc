/- A sum of thirty-two bits sees whatever is turned within four bytes that stand together: the plain law. -/

set_option linter.unusedVariables false
set_option linter.unusedSimpArgs false
namespace Go.Proofs.Ytfobnemocodomaa

abbrev cPoly : Nat := 3988292384
/-- one bit -/
def cT (v : Nat) : Nat := if v % 2 = 1 then (v / 2) ^^^ cPoly else v / 2
def cTn : Nat → Nat → Nat
  | 0, v => v
  | n + 1, v => cTn n (cT v)
def cB (v b : Nat) : Nat := cTn 8 (v ^^^ b)
def cL (v : Nat) (l : List Nat) : Nat := l.foldl cB v
theorem cTn_add : ∀ (m n v : Nat), cTn (m + n) v = cTn n (cTn m v)
  | 0, n, v => by rw [Nat.zero_add]; rfl
  | m + 1, n, v => by
    rw [show m + 1 + n = (m + n) + 1 by omega]
    show cTn (m + n) (cT v) = cTn n (cTn m (cT v))
    exact cTn_add m n (cT v)
theorem xor_mod2 (x y : Nat) : (x ^^^ y) % 2 = (x % 2 + y % 2) % 2 := by
  have := Nat.testBit_xor x y 0
  simp only [Nat.testBit_zero] at this
  rcases Nat.mod_two_eq_zero_or_one x with hx | hx <;> rcases Nat.mod_two_eq_zero_or_one y with hy | hy <;> rcases Nat.mod_two_eq_zero_or_one (x ^^^ y) with hz | hz <;> simp_all
theorem xor_div2 (x y : Nat) : (x ^^^ y) / 2 = (x / 2) ^^^ (y / 2) := by
  apply Nat.eq_of_testBit_eq
  intro i
  rw [Nat.testBit_xor, Nat.testBit_div_two, Nat.testBit_div_two, Nat.testBit_div_two, Nat.testBit_xor]
theorem cT_xor (x y : Nat) : cT (x ^^^ y) = cT x ^^^ cT y := by
  unfold cT
  rw [xor_mod2, xor_div2]
  rcases Nat.mod_two_eq_zero_or_one x with hx | hx <;> rcases Nat.mod_two_eq_zero_or_one y with hy | hy <;> rw [hx, hy]
  · simp
  · simp [Nat.xor_assoc]
  · simp only [Nat.zero_add, Nat.add_zero, Nat.one_mod, if_true, if_false, Nat.zero_ne_one]
    rw [Nat.xor_assoc, Nat.xor_assoc, Nat.xor_comm cPoly]
  · simp only [show (1 + 1) % 2 = 0 from rfl, Nat.zero_ne_one, if_true, if_false]
    rw [show (x / 2 ^^^ cPoly) ^^^ (y / 2 ^^^ cPoly) = (x / 2 ^^^ y / 2) ^^^ (cPoly ^^^ cPoly) by
      rw [Nat.xor_assoc, Nat.xor_assoc, ← Nat.xor_assoc cPoly, Nat.xor_comm cPoly (y / 2), Nat.xor_assoc (y / 2)], Nat.xor_self, Nat.xor_zero]
theorem cTn_xor : ∀ (n x y : Nat), cTn n (x ^^^ y) = cTn n x ^^^ cTn n y
  | 0, _, _ => rfl
  | n + 1, x, y => by
    show cTn n (cT (x ^^^ y)) = _
    rw [cT_xor]; exact cTn_xor n _ _
theorem xor4 (a b c d : Nat) : (a ^^^ b) ^^^ (c ^^^ d) = (a ^^^ c) ^^^ (b ^^^ d) := by
  rw [Nat.xor_assoc, Nat.xor_assoc, ← Nat.xor_assoc b, Nat.xor_comm b c, Nat.xor_assoc c]
theorem cB_xor (v w a b : Nat) : cB (v ^^^ w) (a ^^^ b) = cB v a ^^^ cB w b := by
  unfold cB; rw [xor4, cTn_xor]
/-- two rows put together bit by bit -/
def zipX : List Nat → List Nat → List Nat
  | a :: l, b :: m => (a ^^^ b) :: zipX l m
  | l, [] => l
  | [], m => m
theorem cL_xor : ∀ (l m : List Nat) (v w : Nat), l.length = m.length → cL (v ^^^ w) (zipX l m) = cL v l ^^^ cL w m
  | [], [], v, w, _ => rfl
  | [], b :: m, v, w, h => by simp at h
  | a :: l, [], v, w, h => by simp at h
  | a :: l, b :: m, v, w, h => by
    show cL (cB (v ^^^ w) (a ^^^ b)) (zipX l m) = cL (cB v a) l ^^^ cL (cB w b) m
    rw [cB_xor]; exact cL_xor l m _ _ (by simpa using h)
theorem cT_lt {x : Nat} (h : x < 4294967296) : cT x < 4294967296 := by
  unfold cT
  split
  · exact Nat.xor_lt_two_pow (n := 32) (by omega) (by decide)
  · omega
theorem cT_zero {x : Nat} (h : x < 4294967296) (k : cT x = 0) : x = 0 := by
  unfold cT at k
  split at k
  · have e : x / 2 = cPoly := by
      have : (x / 2 ^^^ cPoly) ^^^ cPoly = 0 ^^^ cPoly := by rw [k]
      rwa [Nat.xor_assoc, Nat.xor_self, Nat.xor_zero, Nat.zero_xor] at this
    have : x / 2 < 2147483648 := by omega
    rw [e] at this
    exact absurd this (by decide)
  · omega
theorem cTn_lt : ∀ (n : Nat) {x : Nat}, x < 4294967296 → cTn n x < 4294967296
  | 0, _, h => h
  | n + 1, _, h => cTn_lt n (cT_lt h)
theorem cTn_zero : ∀ (n : Nat) {x : Nat}, x < 4294967296 → cTn n x = 0 → x = 0
  | 0, _, _, k => k
  | n + 1, _, h, k => cT_zero h (cTn_zero n (cT_lt h) k)
theorem cTn_z : ∀ n, cTn n 0 = 0
  | 0 => rfl
  | n + 1 => cTn_z n
theorem cL_zeros : ∀ (n v : Nat), cL v (List.replicate n 0) = cTn (8 * n) v
  | 0, v => rfl
  | n + 1, v => by
    rw [List.replicate_succ]
    show cL (cB v 0) _ = _
    rw [cL_zeros n, show 8 * (n + 1) = 8 + 8 * n by omega, cTn_add]
    unfold cB; rw [Nat.xor_zero]
theorem cT_dbl (u : Nat) : cT (2 * u) = u := by
  unfold cT; rw [if_neg (by omega)]; omega
theorem cTn_dbl : ∀ (n u : Nat), cTn n (2 ^ n * u) = u
  | 0, u => by simp [cTn]
  | n + 1, u => by
    show cTn n (cT (2 ^ (n + 1) * u)) = u
    rw [show 2 ^ (n + 1) * u = 2 * (2 ^ n * u) by rw [Nat.pow_succ]; simp only [Nat.mul_assoc, Nat.mul_comm, Nat.mul_left_comm], cT_dbl]
    exact cTn_dbl n u
/-- the four bytes of a word, the low one first -/
def wrd : List Nat → Nat
  | [] => 0
  | b :: r => b ^^^ (256 * wrd r)
theorem cL_wrd : ∀ (l : List Nat) (v : Nat), cL v l = cTn (8 * l.length) (v ^^^ wrd l)
  | [], v => by simp [cL, wrd, cTn]
  | b :: r, v => by
    show cL (cB v b) r = _
    rw [cL_wrd r, List.length_cons, show 8 * (r.length + 1) = 8 + 8 * r.length by omega, cTn_add]
    congr 1
    unfold cB
    rw [show wrd (b :: r) = b ^^^ (2 ^ 8 * wrd r) from rfl, ← Nat.xor_assoc, cTn_xor 8 (v ^^^ b), cTn_dbl]
theorem wrd_lt (l : List Nat) (h : ∀ b ∈ l, b < 256) : ∀ n, l.length ≤ n → wrd l < 2 ^ (8 * n) := by
  induction l with
  | nil => intro n _; exact Nat.pow_pos (by decide)
  | cons b r ih =>
    intro n hn
    cases n with
    | zero => simp at hn
    | succ n =>
      have h1 := ih (fun x hx => h x (List.mem_cons_of_mem _ hx)) n (by simpa using hn)
      have h2 := h b (by simp)
      have e : 2 ^ (8 * (n + 1)) = 256 * 2 ^ (8 * n) := by rw [show 8 * (n + 1) = 8 * n + 8 by omega, Nat.pow_add, Nat.mul_comm]
      unfold wrd
      refine Nat.xor_lt_two_pow ?_ ?_
      · rw [e]; have : 0 < 2 ^ (8 * n) := Nat.pow_pos (by decide); omega
      · rw [e]; omega
theorem wrd_zero : ∀ (l : List Nat), (∀ b ∈ l, b < 256) → wrd l = 0 → ∀ b ∈ l, b = 0
  | [], _, _, b, hb => by simp at hb
  | a :: r, h, k, b, hb => by
    unfold wrd at k
    have e : a = 256 * wrd r := by
      have : (a ^^^ 256 * wrd r) ^^^ (256 * wrd r) = 0 ^^^ (256 * wrd r) := by rw [k]
      rwa [Nat.xor_assoc, Nat.xor_self, Nat.xor_zero, Nat.zero_xor] at this
    have ha := h a (by simp)
    have hr : wrd r = 0 := by omega
    have ha0 : a = 0 := by omega
    rcases List.mem_cons.1 hb with rfl | hb
    · exact ha0
    · exact wrd_zero r (fun x hx => h x (List.mem_cons_of_mem _ hx)) hr b hb
/-- four bytes within zeros never come to nothing -/
theorem cL_burst (k m : Nat) (d : List Nat) (h4 : d.length = 4) (hd : ∀ b ∈ d, b < 256) (h : cL 0 (List.replicate k 0 ++ d ++ List.replicate m 0) = 0) : ∀ b ∈ d, b = 0 := by
  have e : cL 0 (List.replicate k 0 ++ d ++ List.replicate m 0) = cL (cL (cL 0 (List.replicate k 0)) d) (List.replicate m 0) := by
    unfold cL; rw [List.foldl_append, List.foldl_append]
  rw [e, cL_zeros k, cTn_z, cL_zeros, cL_wrd, Nat.zero_xor, h4] at h
  have hw : wrd d < 4294967296 := wrd_lt d hd 4 (by omega)
  have h1 := cTn_zero _ (cTn_lt 32 hw) h
  exact wrd_zero d hd (cTn_zero 32 hw h1)
/-- a row and its own sum come to nothing, in plain words: if what was turned comes to the sum's turned bits, all that was turned comes to nothing -/
theorem cL_own (l s : List Nat) (h4 : s.length = 4) (h : cL 0 l = wrd s) : cL 0 (l ++ s) = 0 := by
  have e : cL 0 (l ++ s) = cL (cL 0 l) s := by unfold cL; rw [List.foldl_append]
  rw [e, cL_wrd, h, Nat.xor_self, cTn_z]
end Go.Proofs.Ytfobnemocodomaa
