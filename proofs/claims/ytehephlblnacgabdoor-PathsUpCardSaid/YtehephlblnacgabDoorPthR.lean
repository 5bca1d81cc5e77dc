/- paths, hearsayref04: Join. -/
import Derived.Test.YtehephlblnacgabDoorPthQ
import Derived.Lib.SmallJoins
set_option linter.unusedVariables false
set_option linter.unusedSimpArgs false
set_option maxHeartbeats 4000000
namespace Go.Proofs.YtehephlblnacgabDoor
open Go.RowKit

/-- which path some names come to -/
def joinV (ps : List (List UInt8)) : List UInt8 := if partsOk ps then joinP ps else []
def joinE (ps : List (List UInt8)) : Int := if partsOk ps then 0 else 1
def joinR (ps : List (List UInt8)) : Ending := .returned (.tuple #[.string (bs (joinV ps)), .int .i64 (joinE ps)])
theorem joinR_no {ps : List (List UInt8)} (h : partsOk ps = false) : joinR ps = .returned (.tuple #[.string ⟨#[]⟩, .int .i64 1]) := by unfold joinR joinV joinE; rw [h]; rfl
theorem joinR_yes {ps : List (List UInt8)} (h : partsOk ps = true) : joinR ps = .returned (.tuple #[.string (bs (joinP ps)), .int .i64 0]) := by unfold joinR joinV joinE; rw [h]; rfl
theorem Tx.spot {w : World} {ad : Addr} {xs : List (List UInt8)} (h : Tx w (some ad) xs) (hn : 0 < xs.length) : ad.spot = none := by
  obtain ⟨ad', e, hc⟩ := h 0 hn
  cases e
  have e0 : ad.add 0 = ad := by unfold Addr.add; simp
  rw [e0] at hc
  unfold World.cell? at hc
  cases hs : ad.spot with
  | none => rfl
  | some x => rw [hs] at hc; revert hc; split <;> simp
theorem joinP_len : ∀ (ps : List (List UInt8)) (n : Nat), (∀ p ∈ ps, p.length ≤ n) → (joinP ps).length ≤ ps.length * (n + 1)
  | [], _, _ => by simp [joinP]
  | [p], n, h => by have := h p (by simp); simp [joinP]; omega
  | p :: q :: r, n, h => by
    have h1 := h p (by simp)
    have h2 := joinP_len (q :: r) n (fun x hx => h x (by simp [hx]))
    show (p ++ 47 :: joinP (q :: r)).length ≤ _
    rw [List.length_append, List.length_cons]
    have e : (p :: q :: r).length * (n + 1) = (q :: r).length * (n + 1) + (n + 1) := by rw [List.length_cons, Nat.add_mul]; omega
    rw [e]; omega
theorem strJoin_any (A : Option Addr) (c : Nat) (ps : List (List UInt8)) (w : World) (h : Tx w A ps) (hc : ps.length ≤ c) (hn : ps.length ≤ 64) (hl : ∀ p ∈ ps, p.length ≤ 4096) :
    Calls Tryd.prog 16 #[.slice A ps.length c, .string ⟨#[47]⟩] w fun r w' => r = .returned (.string (bs (joinP ps))) ∧ Gr w w' := by
  cases hps : ps.length with
  | zero =>
    have : ps = [] := by simpa using hps
    subst this
    refine (Tryd.strings_Join_none A c ⟨#[47]⟩ w).mono ?_
    rintro r w' ⟨rfl, rfl⟩
    exact ⟨rfl, Gr.rfl' _⟩
  | succ m =>
    obtain ⟨ad, rfl, hc0⟩ := h 0 (by omega)
    have hsp := h.spot (by omega)
    obtain ⟨b, o, sp⟩ := ad
    simp only at hsp
    subst hsp
    have hbk : b < w.heap.size := World.block_lt_of_cell? w _ (by simpa [Addr.add] using hc0)
    have hmap : (ps.map bs).map (fun x : ByteArray => x.data.toList) = ps := by
      rw [List.map_map]
      have : ((fun x : ByteArray => x.data.toList) ∘ bs) = id := by funext s; rfl
      rw [this, List.map_id]
    have hj := Tryd.strings_Join b o c (ps.map bs) ⟨#[47]⟩ w (fun j x hx => by
      have hlt : j < ps.length := by
        have := (List.getElem?_eq_some_iff.1 hx).1
        simpa using this
      obtain ⟨ad2, e, hcj⟩ := h j hlt
      cases e
      have e2 : (⟨b, o, none⟩ : Addr).add j = ⟨b, o + j, none⟩ := by unfold Addr.add; split <;> simp_all
      rw [e2] at hcj
      rw [hcj]
      simp only [List.getElem?_map, List.getElem?_eq_getElem hlt, Option.map_some, Option.some.injEq] at hx
      rw [hx]) hbk (by simp; omega) (by simpa using hc) (by
        rw [hmap]
        show (Lib.join ps [47]).length ≤ _
        rw [lib_join]
        have h1 := joinP_len ps 4096 hl
        have h2 : ps.length * (4096 + 1) ≤ 64 * 4097 := Nat.mul_le_mul hn (Nat.le_refl _)
        omega)
    rw [hmap, List.length_map] at hj
    rw [← hps]
    refine hj.mono ?_
    rintro r w' ⟨rfl, hb⟩
    refine ⟨?_, hb⟩
    show Ending.returned (.string ⟨(Lib.join ps [47]).toArray⟩) = _
    rw [lib_join]; rfl
theorem joinP_snoc (l : List (List UInt8)) (p : List UInt8) (h : l ≠ []) : joinP (l ++ [p]) = joinP l ++ 47 :: p := joinP_app l [p] h (by simp)
theorem joinP_take {ps : List (List UInt8)} {k : Nat} (h : k < ps.length) (hk : 0 < k) : joinP (ps.take (k + 1)) = joinP (ps.take k) ++ 47 :: ps[k] := by
  rw [List.take_succ_eq_append_getElem h, joinP_snoc _ _ (by intro e; have := congrArg List.length e; rw [List.length_take] at this; simp only [List.length_nil] at this; omega)]
theorem joinP_one {ps : List (List UInt8)} (h : 0 < ps.length) : joinP (ps.take 1) = ps[0] := by
  rw [show (1 : Nat) = 0 + 1 from rfl, List.take_succ_eq_append_getElem h]; rfl
theorem name_ne {p : List UInt8} (h : nameV p = true) : p ≠ [] := by
  rintro rfl
  revert h; decide
theorem joinP_ne {ps : List (List UInt8)} (h : 0 < ps.length) (hn : nameV ps[0] = true) : joinP ps ≠ [] := by
  match ps, h, hn with
  | [p], _, hn => exact name_ne hn
  | p :: q :: r, _, hn =>
    show p ++ 47 :: joinP (q :: r) ≠ []
    simp
theorem bs_app (a b : List UInt8) : bs a ++ bs b = bs (a ++ b) := by
  rw [← bs_of (bs a ++ bs b), Go.Joins.data_append]; rfl
end Go.Proofs.YtehephlblnacgabDoor
