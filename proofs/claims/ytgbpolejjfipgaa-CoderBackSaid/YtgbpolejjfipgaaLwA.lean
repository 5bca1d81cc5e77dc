/- hearsaylaw10: put, awake. -/
import Derived.Test.YtgbpolejjfipgaaPiece
set_option linter.unusedVariables false
set_option linter.unusedSimpArgs false
set_option maxHeartbeats 400000
namespace Go.Proofs.Ytgbpolejjfipgaa
open Go.RowKit Go.Shelf Go.Great

/-- what a piece put comes to -/
def pput (x : Pc) (s : List UInt8 × Int) : List UInt8 × Int :=
  if x.K = 0 then wput (numOk x.N) (putS x.N).data.toList s
  else if x.K = 1 then wput (decide (x.S.size ≤ 65536)) ((putS x.S.size).data.toList ++ x.S.data.toList) s
  else if x.K = 2 then wput true [if (x.N == 1) = true then 1 else 0] s
  else if x.K = 3 then wput true x.D s
  else if x.K = 4 then wfail (bits .and .i64 x.N 15) s
  else s
theorem wput_len (is : Bool) (t : List UInt8) (s : List UInt8 × Int) (n : Nat) (h : is = true → t.length ≤ n) : (wput is t s).1.length ≤ s.1.length + n := by
  unfold wput
  split
  · omega
  · cases is with
    | true => have := h rfl; simp; omega
    | false => simp
theorem wfail_len (f : Int) (s : List UInt8 × Int) : (wfail f s).1.length = s.1.length := by unfold wfail; split <;> rfl
theorem pput_len (x : Pc) (hx : x.ok) (s : List UInt8 × Int) : (pput x s).1.length ≤ s.1.length + 65541 := by
  unfold pput
  have h0 := putS_len x.N
  have h1 := putS_len x.S.size
  split
  · exact wput_len _ _ _ _ (fun _ => by omega)
  split
  · exact wput_len _ _ _ _ (fun h => by have h := of_decide_eq_true h; rw [List.length_append, ← Lib.size_eq x.S]; omega)
  split
  · exact wput_len _ _ _ _ (fun _ => by simp)
  split
  · exact wput_len _ _ _ _ (fun _ => by rw [hx.d]; omega)
  split
  · rw [wfail_len]; omega
  · omega

theorem arr35 (x : Pc) (hx : x.ok) (w : World) : PcAt (w.alloc (.cells x.cells.toArray 39)) ⟨w.heap.size, 0, none⟩ x :=
  ⟨hx, fun j v hj => cells_newB w x.cells _ j v hj⟩
theorem PcAt.dig {w : World} {b o : Nat} {x : Pc} (h : PcAt w ⟨b, o, none⟩ x) : w.rangeAt b (o + 3) (x.D.map fun c => Value.int .u8 c.toNat) := by
  intro j v hj
  have hl : j < x.D.length := by
    have := (List.getElem?_eq_some_iff.1 hj).1
    simpa using this
  have := h.at' (3 + j) _ (Pc.dig j hl)
  rw [Addr.add_mid] at this
  rw [show o + 3 + j = o + (3 + j) by omega, this]
  simp [List.getElem?_eq_getElem hl] at hj
  rw [← hj]
theorem sizeDig : (Try.prog.info? 37).map (·.size) = some 32 := by kernel_rfl
theorem sizePc : (Try.prog.info? 39).map (·.size) = some 35 := by kernel_rfl

set_option maxRecDepth 100000 in
theorem put_any (B b : Nat) (l : List UInt8) (e : Int) (x : Pc) (hx : x.ok) (w : World) (h : Wr B b l e w) (hlen : l.length + 65541 ≤ 140737488355328) :
    Calls Try.prog 9 #[.pointer (some ⟨b, 0, none⟩), .agg x.cells.toArray] w fun r w' => r = .returned (.tuple #[]) ∧ Wr B b (pput x (l, e)).1 (pput x (l, e)).2 w' ∧ Wm B b w w' := by
  have HH := Lib.hid h; clear h
  have HP := Lib.hid (arr35 x hx w)
  have hg0 := Lib.hid ((Gr.rfl' w).al (.cells x.cells.toArray 39))
  have k0 := HP.out.c0
  have k1 := HP.out.c1
  have k2 := HP.out.c2
  have HH1 := Lib.hid (HH.out.gr hg0.out)
  by_cases e0 : x.K = 0
  · have hk : (x.K == 0) = true := by simp [e0]
    have hX : Hid (pput x (l, e) = wput (numOk x.N) (putS x.N).data.toList (l, e)) := by show _ = _; unfold pput; rw [if_pos e0]
    clear e0
    go_enter Try.func9, Try.ntmps9
    go_wp2_with fail
    refine (wNumber_any B b l e x.N _ HH1.out (by omega)).mono ?_
    rintro r w1 ⟨rfl, h1, m1⟩
    go_wp2
    go_end0
    rw [hX.out]
    exact ⟨rfl, h1, ((Wm.refl _ _ _).gr hg0.out).trans m1⟩
  have b0 : (x.K == 0) = false := by simpa using e0
  by_cases e1 : x.K = 1
  · have hk : (x.K == 1) = true := by simp [e1]
    have hX : Hid (pput x (l, e) = wput (decide (x.S.size ≤ 65536)) ((putS x.S.size).data.toList ++ x.S.data.toList) (l, e)) := by show _ = _; unfold pput; rw [if_neg e0, if_pos e1]
    clear e0 e1
    go_enter Try.func9, Try.ntmps9
    go_wp2_with fail
    refine (wText_any B b l e x.S _ HH1.out (by omega)).mono ?_
    rintro r w1 ⟨rfl, h1, m1⟩
    go_wp2
    go_end0
    rw [hX.out]
    exact ⟨rfl, h1, ((Wm.refl _ _ _).gr hg0.out).trans m1⟩
  have b1 : (x.K == 1) = false := by simpa using e1
  by_cases e2 : x.K = 2
  · have hk : (x.K == 2) = true := by simp [e2]
    have hX : Hid (pput x (l, e) = wput true [if (x.N == 1) = true then 1 else 0] (l, e)) := by show _ = _; unfold pput; rw [if_neg e0, if_neg e1, if_pos e2]
    clear e0 e1 e2
    go_enter Try.func9, Try.ntmps9
    go_wp2_with fail
    refine (wFlag_any B b l e (x.N == 1) _ HH1.out (by omega)).mono ?_
    rintro r w1 ⟨rfl, h1, m1⟩
    go_wp2
    go_end0
    rw [hX.out]
    exact ⟨rfl, h1, ((Wm.refl _ _ _).gr hg0.out).trans m1⟩
  have b2 : (x.K == 2) = false := by simpa using e2
  by_cases e3 : x.K = 3
  · have hk : (x.K == 3) = true := by simp [e3]
    have hX : Hid (pput x (l, e) = wput true x.D (l, e)) := by show _ = _; unfold pput; rw [if_neg e0, if_neg e1, if_neg e2, if_pos e3]
    clear e0 e1 e2 e3
    go_enter Try.func9, Try.ntmps9
    go_wp2_with (refine wpList_load_mid rfl 37 _ rfl w.heap.size 3 rfl (x.D.map fun c => Value.int .u8 c.toNat) _ (by simpa using HP.out.dig) Try.underlying37 rfl (by rw [List.length_map, hx.d]; exact sizeDig) ?_)
    go_wp2_with fail
    refine (wDigest_any B b l e x.D hx.d _ HH1.out (by omega)).mono ?_
    rintro r w1 ⟨rfl, h1, m1⟩
    go_wp2
    go_end0
    rw [hX.out]
    exact ⟨rfl, h1, ((Wm.refl _ _ _).gr hg0.out).trans m1⟩
  have b3 : (x.K == 3) = false := by simpa using e3
  by_cases e4 : x.K = 4
  · have hk : (x.K == 4) = true := by simp [e4]
    have hX : Hid (pput x (l, e) = wfail (bits .and .i64 x.N 15) (l, e)) := by show _ = _; unfold pput; rw [if_neg e0, if_neg e1, if_neg e2, if_neg e3, if_pos e4]
    clear e0 e1 e2 e3 e4
    go_enter Try.func9, Try.ntmps9
    go_wp2_with fail
    refine (wFail_any B b l e (bits .and .i64 x.N 15) _ HH1.out).mono ?_
    rintro r w1 ⟨rfl, h1, m1⟩
    go_wp2
    go_end0
    rw [hX.out]
    exact ⟨rfl, h1, ((Wm.refl _ _ _).gr hg0.out).trans m1⟩
  · have b4 : (x.K == 4) = false := by simpa using e4
    have hX : Hid (pput x (l, e) = (l, e)) := by show _ = _; unfold pput; rw [if_neg e0, if_neg e1, if_neg e2, if_neg e3, if_neg e4]
    clear e0 e1 e2 e3 e4
    go_enter Try.func9, Try.ntmps9
    go_wp2
    go_end0
    rw [hX.out]
    exact ⟨rfl, HH1.out, (Wm.refl _ _ _).gr hg0.out⟩
end Go.Proofs.Ytgbpolejjfipgaa
