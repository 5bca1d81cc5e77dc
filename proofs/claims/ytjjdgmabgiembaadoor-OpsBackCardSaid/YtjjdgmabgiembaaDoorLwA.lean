/- hearsaylaw10: put, awake. -/
import Derived.Test.YtjjdgmabgiembaaDoorPiece
set_option linter.unusedVariables false
set_option linter.unusedSimpArgs false
set_option maxHeartbeats 400000
namespace Go.Proofs.YtjjdgmabgiembaaDoor
open Go.RowKit Go.Shelf Go.Great

/-- what a piece put comes to -/
def pput (x : Pc) (s : List UInt8 × Int) : List UInt8 × Int :=
  if x.K = 0 then wput (numOk x.N) (putS x.N).data.toList s
  else if x.K = 1 then wput (decide (x.S.size ≤ 65536)) ((putS x.S.size).data.toList ++ x.S.data.toList) s
  else if x.K = 2 then wput true [if (x.N == 1) = true then 1 else 0] s
  else if x.K = 3 then wput true x.D s
  else if x.K = 4 then wfail (bits .and .i64 x.N 15) s
  else s
theorem wput_len (is : Bool) (t : List UInt8) (s : List UInt8 × Int) (n : Nat) (h : is = true → t.length ≤ n) : (wput is t s).1.length ≤ s.1.length + n := by
  unfold wput
  split
  · omega
  · cases is with
    | true => have := h rfl; simp; omega
    | false => simp
theorem wfail_len (f : Int) (s : List UInt8 × Int) : (wfail f s).1.length = s.1.length := by unfold wfail; split <;> rfl
theorem pput_len (x : Pc) (hx : x.ok) (s : List UInt8 × Int) : (pput x s).1.length ≤ s.1.length + 65541 := by
  unfold pput
  have h0 := putS_len x.N
  have h1 := putS_len x.S.size
  split
  · exact wput_len _ _ _ _ (fun _ => by omega)
  split
  · exact wput_len _ _ _ _ (fun h => by have h := of_decide_eq_true h; rw [List.length_append, ← Lib.size_eq x.S]; omega)
  split
  · exact wput_len _ _ _ _ (fun _ => by simp)
  split
  · exact wput_len _ _ _ _ (fun _ => by rw [hx.d]; omega)
  split
  · rw [wfail_len]; omega
  · omega

theorem PcAt.dig {w : World} {b o : Nat} {x : Pc} (h : PcAt w ⟨b, o, none⟩ x) : w.rangeAt b (o + 3) (x.D.map fun c => Value.int .u8 c.toNat) := by
  intro j v hj
  have hl : j < x.D.length := by
    have := (List.getElem?_eq_some_iff.1 hj).1
    simpa using this
  have := h.at' (3 + j) _ (Pc.dig j hl)
  rw [Addr.add_mid] at this
  rw [show o + 3 + j = o + (3 + j) by omega, this]
  simp [List.getElem?_eq_getElem hl] at hj
  rw [← hj]
end Go.Proofs.YtjjdgmabgiembaaDoor
