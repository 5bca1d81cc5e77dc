/- sha: a digest in signs is read as it was; plain. -/
import Derived.Test.YtkbomgjeoaophaaDoorShaR
set_option linter.unusedVariables false
set_option linter.unusedSimpArgs false
set_option maxHeartbeats 400000
namespace Go.Proofs.YtkbomgjeoaophaaDoor

theorem hex_at : ∀ (d : List UInt8) (i : Nat), i < d.length → gb (hexS d) (2 * i) = hx ((gb d i).toNat / 16) ∧ gb (hexS d) (2 * i + 1) = hx ((gb d i).toNat % 16)
  | a :: r, 0, _ => ⟨rfl, rfl⟩
  | a :: r, i + 1, h => by
    have ih := hex_at r i (by simpa using h)
    have e1 : gb (hexS (a :: r)) (2 * (i + 1)) = gb (hexS r) (2 * i) := rfl
    have e2 : gb (hexS (a :: r)) (2 * (i + 1) + 1) = gb (hexS r) (2 * i + 1) := rfl
    have e3 : gb (a :: r) (i + 1) = gb r i := rfl
    rw [e1, e2, e3]
    exact ih
theorem hexV_hxF : ∀ n : Fin 16, hexV (hx n.val) = some n.val := by decide +kernel
theorem hexV_hx (n : Nat) (h : n < 16) : hexV (hx n) = some n := hexV_hxF ⟨n, h⟩
theorem hx_hexVF : ∀ c : Fin 256, (match hexV (UInt8.ofNat c.val) with | some v => decide (hx v = UInt8.ofNat c.val) | none => true) = true := by decide +kernel
theorem hx_hexV (c : UInt8) (v : Nat) (h : hexV c = some v) : hx v = c := by
  have h1 := hx_hexVF ⟨c.toNat, c.toNat_lt⟩
  simp only [UInt8.ofNat_toNat, h] at h1
  simpa using h1
def nb (l : List UInt8) (j : Nat) : Nat := (hexV (gb l j)).getD 0
theorem nb_lt (l : List UInt8) (j : Nat) : nb l j < 16 := by
  unfold nb
  cases h : hexV (gb l j) with
  | none => simp
  | some v => exact hexV_lt h
theorem unD_at (l : List UInt8) : ∀ k, k ≤ 64 → ∀ i, i < 32 → (gb (unD l k) i).toNat = if 2 * i + 1 < k then nb l (2 * i) * 16 + nb l (2 * i + 1) else if 2 * i < k then nb l (2 * i) else 0
  | 0, _, i, hi => by
    rw [if_neg (by omega), if_neg (by omega)]
    have : gb Zb i = 0 := by
      show (List.replicate 32 (0 : UInt8)).getD i 0 = 0
      rw [List.getD_eq_getElem?_getD, List.getElem?_replicate]
      split <;> rfl
    show (gb Zb i).toNat = 0
    rw [this]; rfl
  | k + 1, hk, i, hi => by
    have ih := unD_at l k (by omega)
    have hl := unD_len l k
    have hs : unD l (k + 1) = (unD l k).set (k / 2) (UInt8.ofNat ((gb (unD l k) (k / 2)).toNat * 16 + nb l k)) := rfl
    rw [hs]
    by_cases hik : i = k / 2
    · subst hik
      have e : gb ((unD l k).set (k / 2) (UInt8.ofNat ((gb (unD l k) (k / 2)).toNat * 16 + nb l k))) (k / 2) = UInt8.ofNat ((gb (unD l k) (k / 2)).toNat * 16 + nb l k) := by
        simp [gb, hl, hi]
      rw [e, UInt8.toNat_ofNat', ih (k / 2) hi]
      have n0 := nb_lt l (2 * (k / 2))
      have n1 := nb_lt l k
      by_cases hodd : k % 2 = 1
      · have e1 : 2 * (k / 2) + 1 = k := by omega
        rw [if_neg (by omega), if_pos (by omega), if_pos (by omega), e1]
        omega
      · have e1 : 2 * (k / 2) = k := by omega
        rw [if_neg (by omega), if_neg (by omega), if_neg (by omega), if_pos (by omega), e1]
        omega
    · have e : gb ((unD l k).set (k / 2) (UInt8.ofNat ((gb (unD l k) (k / 2)).toNat * 16 + nb l k))) i = gb (unD l k) i := by
        simp only [gb, List.getD_eq_getElem?_getD]
        rw [List.getElem?_set_ne (by omega)]
      rw [e, ih i hi]
      by_cases h1 : 2 * i + 1 < k
      · rw [if_pos h1, if_pos (by omega)]
      · rw [if_neg h1]
        by_cases h2 : 2 * i < k
        · omega
        · rw [if_neg h2, if_neg (by omega), if_neg (by omega)]
theorem ext_gb {a b : List UInt8} (h : a.length = b.length) (he : ∀ i, i < a.length → gb a i = gb b i) : a = b := by
  apply List.ext_getElem h
  intro i h1 h2
  rw [gb_at h1, gb_at h2]
  exact he i h1
theorem unD_full (l : List UInt8) (i : Nat) (hi : i < 32) : (gb (unD l 64) i).toNat = nb l (2 * i) * 16 + nb l (2 * i + 1) := by
  have := unD_at l 64 (Nat.le_refl _) i hi
  rw [if_pos (by omega)] at this
  exact this
theorem unhex_hex (d : List UInt8) (hd : d.length = 32) : unhexV (hexS d) = (d, 0) := by
  have hl : (hexS d).length = 64 := by rw [hexS_len, hd]
  have hsig : signsB (hexS d) = true := by
    refine signs_all _ 64 (by rw [hl]; rfl) (fun j hj => ?_)
    have h1 := hex_at d (j / 2) (by omega)
    by_cases hodd : j % 2 = 1
    · rw [show j = 2 * (j / 2) + 1 by omega, h1.2, hexV_hx _ (by omega)]; rfl
    · have h0 := (gb d (j / 2)).toNat_lt
      have ej : j = 2 * (j / 2) := by omega
      have : (hexV (gb (hexS d) (2 * (j / 2)))).isSome = true := by rw [h1.1, hexV_hx _ (by omega)]; rfl
      rw [ej]; exact this
  have hD : unD (hexS d) 64 = d := by
    refine ext_gb (by rw [unD_len, hd]) (fun i hi => ?_)
    rw [unD_len] at hi
    have h0 := (gb d i).toNat_lt
    have h1 := hex_at d i (by omega)
    have h2 := unD_full (hexS d) i hi
    unfold nb at h2
    rw [h1.1, h1.2, hexV_hx _ (by omega), hexV_hx _ (by omega)] at h2
    apply UInt8.toNat_inj.1
    rw [h2]
    show (gb d i).toNat / 16 * 16 + (gb d i).toNat % 16 = _
    omega
  unfold unhexV
  rw [if_neg (by rw [hsig]; decide), if_neg (by omega), if_neg (by omega), hD]
theorem hex_unhex (l : List UInt8) (h : (unhexV l).2 = 0) : hexS (unhexV l).1 = l := by
  have hD := unD_full l
  have hDl := unD_len l 64
  unfold unhexV at h ⊢
  generalize unD l 64 = D at h hD hDl ⊢
  by_cases hs : signsB l = false
  · rw [if_pos hs] at h; exact absurd h (by decide)
  · rw [if_neg hs] at h ⊢
    by_cases h1 : l.length < 64
    · rw [if_pos h1] at h; exact absurd h (by decide)
    · rw [if_neg h1] at h ⊢
      by_cases h2 : 64 < l.length
      · rw [if_pos h2] at h; exact absurd h (by decide)
      · rw [if_neg h2] at h ⊢
        have hs' : signsB l = true := by simpa using hs
        show hexS D = l
        refine ext_gb (by rw [hexS_len, hDl]; omega) (fun j hj => ?_)
        rw [hexS_len, hDl] at hj
        have e1 := hex_at D (j / 2) (by omega)
        have e2 := hD (j / 2) (by omega)
        have n0 := nb_lt l (2 * (j / 2))
        have n1 := nb_lt l (2 * (j / 2) + 1)
        have hval : ∀ i, i < 64 → hx (nb l i) = gb l i := fun i hi => by
          obtain ⟨v, hv⟩ := signs_upto l i hs' (by omega) hi
          unfold nb
          rw [hv]
          exact hx_hexV _ _ hv
        by_cases hodd : j % 2 = 1
        · have ej : j = 2 * (j / 2) + 1 := by omega
          rw [ej, e1.2, e2, show (nb l (2 * (j / 2)) * 16 + nb l (2 * (j / 2) + 1)) % 16 = nb l (2 * (j / 2) + 1) by omega]
          exact hval _ (by omega)
        · have ej : j = 2 * (j / 2) := by omega
          have : gb (hexS D) (2 * (j / 2)) = gb l (2 * (j / 2)) := by
            rw [e1.1, e2, show (nb l (2 * (j / 2)) * 16 + nb l (2 * (j / 2) + 1)) / 16 = nb l (2 * (j / 2)) by omega]
            exact hval _ (by omega)
          rw [ej]; exact this
end Go.Proofs.YtkbomgjeoaophaaDoor
