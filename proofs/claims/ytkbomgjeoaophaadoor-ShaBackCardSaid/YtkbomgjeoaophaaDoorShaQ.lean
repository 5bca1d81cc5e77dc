/- sha: sign, Unhex, both. -/
import Derived.Test.YtkbomgjeoaophaaDoorShaM
set_option linter.unusedVariables false
set_option linter.unusedSimpArgs false
set_option maxHeartbeats 4000000
namespace Go.Proofs.YtkbomgjeoaophaaDoor
open Go.RowKit Go.Great

/-- what a sign is worth -/
def hexV (c : UInt8) : Option Nat := if 48 ≤ c.toNat ∧ c.toNat ≤ 57 then some (c.toNat - 48) else if 97 ≤ c.toNat ∧ c.toNat ≤ 102 then some (c.toNat - 87) else none
theorem hexV_lt {c : UInt8} {v : Nat} (h : hexV c = some v) : v < 16 := by
  unfold hexV at h
  split at h
  · simp only [Option.some.injEq] at h; omega
  · split at h
    · simp only [Option.some.injEq] at h; omega
    · cases h
def unS (d : List UInt8) (i v : Nat) : List UInt8 := d.set (i / 2) (UInt8.ofNat ((gb d (i / 2)).toNat * 16 + v))
/-- the digest of k signs -/
def unD (l : List UInt8) : Nat → List UInt8
  | 0 => Zb
  | k + 1 => unS (unD l k) k ((hexV (gb l k)).getD 0)
theorem unD_len (l : List UInt8) : ∀ k, (unD l k).length = 32
  | 0 => by simp [unD, Zb]
  | k + 1 => by simp [unD, unS, unD_len l k]
def signsB (l : List UInt8) : Bool := (l.take 64).all fun c => (hexV c).isSome
def unhexV (l : List UInt8) : List UInt8 × Int :=
  if signsB l = false then (Zb, 7) else if l.length < 64 then (Zb, 5) else if 64 < l.length then (Zb, 6) else (unD l 64, 0)
theorem unhexV_len (l : List UInt8) : (unhexV l).1.length = 32 := by
  have h := unD_len l 64
  unfold unhexV
  generalize unD l 64 = D at h ⊢
  split
  · rfl
  · split
    · rfl
    · split
      · rfl
      · exact h

theorem sign_dig (n : Int) (a1 : (48 : Int) ≤ n) (a2 : n ≤ 57) (w : World) : Calls Tryd.prog 23 #[.int .u8 n] w fun r w' => r = .returned (.tuple #[.int .u8 (n - 48), .bool true]) ∧ w' = w := by
  go_enter Tryd.func23, Tryd.ntmps23
  go_wp2
  go_ret2
  exact ⟨rfl, rfl⟩
theorem sign_let (n : Int) (a1 : (97 : Int) ≤ n) (a2 : n ≤ 102) (w : World) : Calls Tryd.prog 23 #[.int .u8 n] w fun r w' => r = .returned (.tuple #[.int .u8 (n - 97 + 10), .bool true]) ∧ w' = w := by
  have a3 : ¬ n ≤ 57 := by omega
  have a4 : (48 : Int) ≤ n := by omega
  go_enter Tryd.func23, Tryd.ntmps23
  go_wp2
  go_ret2
  exact ⟨rfl, rfl⟩
theorem sign_none (n : Int) (h0 : 0 ≤ n) (h1 : n < 256) (hx : ¬ (48 : Int) ≤ n ∨ ((48 : Int) ≤ n ∧ ¬ n ≤ 57)) (hy : ¬ (97 : Int) ≤ n ∨ ((97 : Int) ≤ n ∧ ¬ n ≤ 102)) (w : World) : Calls Tryd.prog 23 #[.int .u8 n] w fun r w' => r = .returned (.tuple #[.int .u8 0, .bool false]) ∧ w' = w := by
  rcases hx with a1 | ⟨a1, a2⟩ <;> rcases hy with b1 | ⟨b1, b2⟩
  all_goals
    go_enter Tryd.func23, Tryd.ntmps23
    go_wp2
    go_ret2
    exact ⟨rfl, rfl⟩
theorem sign_yes (c : UInt8) (v : Nat) (hv : hexV c = some v) (w : World) : Calls Tryd.prog 23 #[.int .u8 (c.toNat : Int)] w fun r w' => r = .returned (.tuple #[.int .u8 (v : Int), .bool true]) ∧ w' = w := by
  unfold hexV at hv
  by_cases ha : 48 ≤ c.toNat ∧ c.toNat ≤ 57
  · rw [if_pos ha] at hv
    simp only [Option.some.injEq] at hv
    have e : (v : Int) = (c.toNat : Int) - 48 := by omega
    rw [e]
    exact sign_dig _ (by omega) (by omega) w
  · rw [if_neg ha] at hv
    by_cases hb : 97 ≤ c.toNat ∧ c.toNat ≤ 102
    · rw [if_pos hb] at hv
      simp only [Option.some.injEq] at hv
      have e : (v : Int) = (c.toNat : Int) - 97 + 10 := by omega
      rw [e]
      exact sign_let _ (by omega) (by omega) w
    · rw [if_neg hb] at hv; cases hv
theorem sign_no (c : UInt8) (hv : hexV c = none) (w : World) : Calls Tryd.prog 23 #[.int .u8 (c.toNat : Int)] w fun r w' => r = .returned (.tuple #[.int .u8 0, .bool false]) ∧ w' = w := by
  have hc := c.toNat_lt
  unfold hexV at hv
  split at hv
  · cases hv
  · split at hv
    · cases hv
    · exact sign_none _ (by omega) (by omega) (by omega) (by omega) w

theorem or16 : ∀ x : Fin 256, ∀ v : Fin 16, bits .or .u8 ((x.val : Int) * 16 % 256) (v.val : Int) = (((x.val * 16 + v.val) % 256 : Nat) : Int) := by decide +kernel
theorem or16' (x : UInt8) (v : Nat) (hv : v < 16) : bits .or .u8 ((x.toNat : Int) * (16 : Int) % (256 : Int)) (v : Int) = ((UInt8.ofNat (x.toNat * 16 + v)).toNat : Int) := by
  rw [UInt8.toNat_ofNat']
  exact or16 ⟨x.toNat, x.toNat_lt⟩ ⟨v, hv⟩
theorem signs_upto (l : List UInt8) (k : Nat) (h : signsB l = true) (hk : k < l.length) (hk2 : k < 64) : ∃ v, hexV (gb l k) = some v := by
  have h1 := List.all_eq_true.1 h (l[k]) (by
    rw [List.mem_take_iff_getElem]
    exact ⟨k, by omega, rfl⟩)
  rw [gb_at hk] at h1
  exact Option.isSome_iff_exists.1 h1
theorem signs_not (l : List UInt8) (k : Nat) (h : hexV (gb l k) = none) (hk : k < l.length) (hk2 : k < 64) : signsB l = false := by
  cases hs : signsB l with
  | false => rfl
  | true =>
    obtain ⟨v, hv⟩ := signs_upto l k hs hk hk2
    rw [h] at hv; cases hv
theorem signs_all (l : List UInt8) (n : Nat) (hn : n = min l.length 64) (h : ∀ j, j < n → (hexV (gb l j)).isSome = true) : signsB l = true := by
  unfold signsB
  rw [List.all_eq_true]
  intro c hc
  rw [List.mem_take_iff_getElem] at hc
  obtain ⟨j, hj, rfl⟩ := hc
  have := h j (by omega)
  rw [← gb_at (by omega)] at this
  exact this

theorem res2 {P : Program} {a : Addr} {t : TypeId} {W : World} {v u : Value} (h : (loadVar t a).run P W = .ok v W) :
    ((Sem.run P (asAddr (.pointer (some a))) W).andThen fun b w' => (Sem.run P (loadVar t b) w').andThen fun c w' => Result.ok (Value.tuple #[c, u]) w') = Result.ok (Value.tuple #[v, u]) W := by
  have h1 : (asAddr (.pointer (some a))).run P W = .ok a W := rfl
  rw [h1]
  simp only [Result.andThen_ok, h]
set_option maxRecDepth 100000 in
theorem Unhex_any (s : ByteArray) (w : World) (hs : s.size ≤ maxLen) : Calls Tryd.prog 15 #[.string s] w fun r w' => r = .returned (.tuple #[.agg (bC (unhexV s.data.toList).1), .int .i64 (unhexV s.data.toList).2]) ∧ Gr w w' := by
  unfold maxLen at hs
  obtain ⟨l, hl⟩ : ∃ l, s.data.toList = l := ⟨_, rfl⟩
  have hsz : s.size = l.length := by rw [← hl, ← Lib.size_eq]
  have hat : ∀ k (h : k < s.size), s[k] = gb l k := fun k h => by
    have h2 : k < l.length := by omega
    rw [← gb_at h2]
    subst hl
    rfl
  have HAT := Lib.hid hat
  have HSZ := Lib.hid hsz
  rw [hl]
  obtain ⟨w1, e1⟩ : ∃ w1, w.alloc (.cells (bC Zb) 24) = w1 := ⟨_, rfl⟩
  obtain ⟨w2, e2⟩ : ∃ w2, w1.alloc (.cells (bC Zb) 24) = w2 := ⟨_, rfl⟩
  have g1 : Gr w w1 := by rw [← e1]; exact (Gr.rfl' _).al _
  have g2 : Gr w1 w2 := by rw [← e2]; exact (Gr.rfl' _).al _
  have HR : Hid (Bs w2 w.heap.size 24 Zb) := by
    have : Bs w1 w.heap.size 24 Zb := by rw [← e1]; exact Bs.new _ _ _
    exact Lib.hid (this.gr g2)
  have HD : Hid (Bs w2 w1.heap.size 24 (unD l 0)) := by rw [← e2]; exact Lib.hid (Bs.new _ _ _)
  have HG := Lib.hid (g1.tr g2)
  have HZ : Hid (w1.heap.size = w.heap.size + 1) := by rw [← e1, World.size_alloc]; exact Lib.hid rfl
  clear g1 g2 hat hsz hl
  obtain ⟨n, hn⟩ : ∃ n, min s.size 64 = n := ⟨_, rfl⟩
  have hn1 : n ≤ s.size := by omega
  have hn2 : n ≤ 64 := by omega
  have hmin : min (s.size : Int) 64 = (n : Int) := by omega
  have HN := Lib.hid hn
  clear hn
  go_enter Tryd.func15, Tryd.ntmps15
  go_upto_block 0 with (first | rw [e1] | rw [e2] | refine allocD rfl rfl ?_)
  clear e1 e2
  go_wp2
  go_loopw [11] (fun i wr => ∃ k : Nat, k ≤ n ∧ i = .int .i64 k ∧ Hid (∀ j, j < k → (hexV (gb l j)).isSome = true) ∧ Hid (Bs wr w1.heap.size 24 (unD l k)) ∧ Hid (Bs wr w.heap.size 24 Zb) ∧ Hid (Gr w wr)) (fun i _ => n - (intOf i).toNat)
  case atStart => exact ⟨0, Nat.zero_le _, rfl, Lib.hid (fun j hj => absurd hj (by omega)), HD, HR, HG⟩
  case round =>
    clear HD HR HG
    obtain ⟨k, hk, rfl, HA, HD, HR, HG⟩ := hrel
    have hl32 := unD_len l k
    by_cases hlt : k < n
    · have hki : (k : Int) < (n : Int) := by omega
      have hks : k < s.size := by omega
      have hksi : (k : Int) < (s.size : Int) := by omega
      obtain ⟨c, hc⟩ : ∃ c, s[k] = c := ⟨_, rfl⟩
      have hcl : gb l k = c := by rw [← HAT.out k hks]; exact hc
      have hcb : (c.toNat : Int) < 256 := by have := c.toNat_lt; omega
      cases hv : hexV c with
      | none =>
        have hno : signsB l = false := signs_not l k (by rw [hcl]; exact hv) (by have := HSZ.out; omega) (by omega)
        have hval : unhexV l = (Zb, 7) := by unfold unhexV; rw [if_pos hno]
        have HV := Lib.hid hval
        have HNO := Lib.hid hv
        clear hno hval hcl hv
        go_wp2_with fail
        refine (sign_no c HNO.out _).mono ?_
        rintro r w3 ⟨rfl, rfl⟩
        go_wp2_with (first | (with_reducible refine at_st 24 (.tmp 2) (.tmp 23) ?_; refine storeD w.heap.size Zb Zb rfl _ _ rfl rfl rfl rfl HR.out rfl (show Zb.length = 32 from rfl) ?_) | refine buildD rfl rfl ?_)
        have hlv := run_loadVar_row (P := Tryd.prog) _ _ 24 24 _ (0, 0) _ (HR.out.row Zb) Tryd.underlying24 rfl (by rw [bC_size, (show Zb.length = 32 from rfl), sz32])
        refine bodyPost_ret (v := .tuple #[.agg (bC Zb), .int .i64 7]) (by simp [results, Tryd.results15, Act.put]; exact res2 hlv) rfl ?_
        rw [HV.out]
        exact ⟨rfl, HG.out.row (g := w.heap.size) (Nat.le_refl _) _⟩
      | some v =>
        have hv16 := hexV_lt hv
        have hun : unD l (k + 1) = (unD l k).set (k / 2) (UInt8.ofNat ((gb (unD l k) (k / 2)).toNat * 16 + v)) := by
          show unS (unD l k) k ((hexV (gb l k)).getD 0) = _
          rw [hcl, hv]; rfl
        have HUN := Lib.hid hun
        have HA2 : Hid (∀ j, j < k + 1 → (hexV (gb l j)).isSome = true) := Lib.hid (fun j hj => by
          by_cases hjk : j = k
          · subst hjk; rw [hcl, hv]; rfl
          · exact HA.out j (by omega))
        have HSY := Lib.hid hv
        clear hun hcl hv HA
        go_wp2_with fail
        refine (sign_yes c v HSY.out _).mono ?_
        rintro r w3 ⟨rfl, rfl⟩
        have q0 : w3.cell? ⟨w1.heap.size, k / 2, none⟩ = some (.int .u8 ((gb (unD l k) (k / 2)).toNat : Int)) := HD.out.cg (by omega)
        have f0 := HD.out.frz (k / 2)
        have b4 : (0 : Int) ≤ (k : Int) / 2 ∧ (k : Int) / 2 < 32 := by omega
        have HD2 := Lib.hid (HD.out.set (k / 2) (UInt8.ofNat ((gb (unD l k) (k / 2)).toNat * 16 + v)))
        rw [← HUN.out] at HD2
        obtain ⟨x, hx⟩ : ∃ x, gb (unD l k) (k / 2) = x := ⟨_, rfl⟩
        rw [hx] at q0 HD2
        have hx0 : (0 : Int) ≤ (x.toNat : Int) := by omega
        have hx1 : (x.toNat : Int) < 256 := by have := x.toNat_lt; omega
        have HXX := Lib.hid hx
        clear hx
        go_upto_region 9 with fail
        rw [or16' x v hv16]
        have HR2 : Hid (Bs (w3.setCell ⟨w1.heap.size, k / 2, none⟩ (.int .u8 ((UInt8.ofNat (x.toNat * 16 + v)).toNat : Int))) w.heap.size 24 Zb) := Lib.hid ((heap_set_other (by have := HZ.out; omega) _).trans HR.out)
        have HG2 := Lib.hid (HG.out.set (p := ⟨w1.heap.size, k / 2, none⟩) (by have := HZ.out; show w.heap.size ≤ w1.heap.size; omega) (.int .u8 ((UInt8.ofNat (x.toNat * 16 + v)).toNat : Int)))
        clear q0 f0 b4 HD HR HG HSY hx0 hx1
        go_wp2
        go_roundw
        case rel => exact ⟨k + 1, by omega, by go_num, HA2, HD2, HR2, HG2⟩
        case measure => simp [intOf]; omega
    · have hkn : k = n := by omega
      subst hkn
      have hki : ¬ (k : Int) < (k : Int) := by omega
      have hsig : signsB l = true := signs_all l k (by have := HSZ.out; have := HN.out; omega) HA.out
      by_cases h1 : s.size < 64
      · have hval : unhexV l = (Zb, 5) := by unfold unhexV; rw [if_neg (by rw [hsig]; decide), if_pos (by have := HSZ.out; omega)]
        have HV := Lib.hid hval
        have h1i : (s.size : Int) < 64 := by omega
        clear hval hsig
        go_wp2_with (first | (with_reducible refine at_st 24 (.tmp 2) (.tmp 39) ?_; refine storeD w.heap.size Zb Zb rfl _ _ rfl rfl rfl rfl HR.out rfl (show Zb.length = 32 from rfl) ?_) | refine buildD rfl rfl ?_)
        have hlv := run_loadVar_row (P := Tryd.prog) _ _ 24 24 _ (0, 0) _ (HR.out.row Zb) Tryd.underlying24 rfl (by rw [bC_size, (show Zb.length = 32 from rfl), sz32])
        refine bodyPost_ret (v := .tuple #[.agg (bC Zb), .int .i64 5]) (by simp [results, Tryd.results15, Act.put]; exact res2 hlv) rfl ?_
        rw [HV.out]
        exact ⟨rfl, HG.out.row (g := w.heap.size) (Nat.le_refl _) _⟩
      · by_cases h2 : 64 < s.size
        · have hval : unhexV l = (Zb, 6) := by unfold unhexV; rw [if_neg (by rw [hsig]; decide), if_neg (by have := HSZ.out; omega), if_pos (by have := HSZ.out; omega)]
          have HV := Lib.hid hval
          have h1i : ¬ (s.size : Int) < 64 := by omega
          have h2i : (64 : Int) < (s.size : Int) := by omega
          clear hval hsig
          go_wp2_with (first | (with_reducible refine at_st 24 (.tmp 2) (.tmp 44) ?_; refine storeD w.heap.size Zb Zb rfl _ _ rfl rfl rfl rfl HR.out rfl (show Zb.length = 32 from rfl) ?_) | refine buildD rfl rfl ?_)
          have hlv := run_loadVar_row (P := Tryd.prog) _ _ 24 24 _ (0, 0) _ (HR.out.row Zb) Tryd.underlying24 rfl (by rw [bC_size, (show Zb.length = 32 from rfl), sz32])
          refine bodyPost_ret (v := .tuple #[.agg (bC Zb), .int .i64 6]) (by simp [results, Tryd.results15, Act.put]; exact res2 hlv) rfl ?_
          rw [HV.out]
          exact ⟨rfl, HG.out.row (g := w.heap.size) (Nat.le_refl _) _⟩
        · have hk64 : k = 64 := by have := HN.out; omega
          have hval : unhexV l = (unD l k, 0) := by unfold unhexV; rw [if_neg (by rw [hsig]; decide), if_neg (by have := HSZ.out; omega), if_neg (by have := HSZ.out; omega), hk64]
          obtain ⟨D, hD⟩ : ∃ D, unD l k = D := ⟨_, rfl⟩
          rw [hD] at hval HD hl32
          have HV := Lib.hid hval
          have h1i : ¬ (s.size : Int) < 64 := by omega
          have h2i : ¬ (64 : Int) < (s.size : Int) := by omega
          clear hval hsig hD hk64
          go_wp2_with (first | (with_reducible refine at_st 24 (.tmp 2) (.tmp 45) ?_; refine storeD w.heap.size Zb D rfl _ _ rfl rfl rfl rfl HR.out rfl hl32 ?_) | refine buildD rfl rfl ?_ | (with_reducible refine at_ld 24 (.tmp 4) ?_; refine loadD w1.heap.size D rfl _ rfl rfl HD.out hl32 ?_))
          have hlv := run_loadVar_row (P := Tryd.prog) _ _ 24 24 _ (0, 0) _ (HR.out.row D) Tryd.underlying24 rfl (by rw [bC_size, hl32, sz32])
          refine bodyPost_ret (v := .tuple #[.agg (bC D), .int .i64 0]) (by simp [results, Tryd.results15, Act.put]; exact res2 hlv) rfl ?_
          rw [HV.out]
          exact ⟨rfl, HG.out.row (g := w.heap.size) (Nat.le_refl _) _⟩
end Go.Proofs.YtkbomgjeoaophaaDoor
