/- Joined texts: MsgI MsgJ MsgK MsgL MsgN MsgO MsgP0. -/
import Derived.Test.YtfobnemocodomaaGreatZBu
import Derived.Test.YtfobnemocodomaaGreatZQthB
set_option linter.unusedVariables false
set_option linter.unusedSimpArgs false
set_option maxHeartbeats 4000000
namespace Go.Proofs.YtfobnemocodomaaGreat
open Go.RowKit Go.Shelf Go.Great

/-- a method of what stands behind an interface value -/
structure Ifc (T : TypeId) (v recv : Value) (name : String) (F : FuncId) : Prop where
  n : ∀ w, (nilAhead 326 T v name).run Tryz.prog w = .ok (some false) w
  m : ∀ w, (method 326 T v name).run Tryz.prog w = .ok (F, recv) w
  c : ∀ x w, (callFunc F #[recv, x]).run Tryz.prog w = .ok (.enter F #[recv, x]) w
/-- a call that hands nothing back, behind a draw -/
def Then (F : FuncId) (args : Array Value) (w : World) (Q : World → Prop) : Prop := Calls Tryz.prog F args w.drew fun r w' => r = .returned (.tuple #[]) ∧ Q w'
set_option maxRecDepth 100000 in
theorem own2_any {T : TypeId} {v recv : Value} {F0 F1 F2 : FuncId} (h0 : Ifc T v recv "hearsay/message.root" F0) (h1 : Ifc T v recv "hearsay/message.ctx" F1) (h2 : Ifc T v recv "hearsay/message.rows" F2) (g : Nat) (w : World) (Q : World → Prop) (h : w.cell? ⟨g, 0, none⟩ = some (.int .i64 2))
    (hc : Then F0 #[recv, .pointer (some ⟨g, 6, none⟩)] w fun w1 => Then F1 #[recv, .pointer (some ⟨g, 38, none⟩)] w1 fun w2 => Then F2 #[recv, .pointer (some ⟨g, 39, none⟩)] w2 fun w3 => Q w3) :
    Calls Tryz.prog 45 #[.pointer (some ⟨g, 0, none⟩), .iface T v] w fun r w' => r = .returned (.tuple #[]) ∧ Q w' := by
  have HC0 := Lib.hid hc
  clear hc
  have N0 := Lib.hid h0
  clear h0
  have N1 := Lib.hid h1
  clear h1
  have N2 := Lib.hid h2
  clear h2
  go_enter Tryz.func45, Tryz.ntmps45
  go_upto_region 2 with (fail)
  clear h
  have n := N0.out.n
  have m := N0.out.m
  have c := N0.out.c
  have hSS : True := trivial
  refine region_T 7 (fun _ => True) (by kernel_rfl) ?_
  refine anyT_take (i := 0) (v := ?_) (some 10) rfl rfl (by kernel_rfl) (fun _ _ _ h => h) (Or.inl ⟨by rfl, ?_⟩) hSS ?_
  rotate_left
  · intro w' hSw; go_simp; (try with_reducible rfl)
  simp only [Act.put, List.setIfInBounds_toArray, List.set_cons_zero, List.set_cons_succ]
  refine anyT_take (i := 1) (v := ?_) (some 11) rfl rfl (by kernel_rfl) (fun _ _ _ h => h) (Or.inl ⟨by rfl, ?_⟩) hSS ?_
  rotate_left
  · intro w' hSw; go_simp; (try with_reducible rfl)
  simp only [Act.put, List.setIfInBounds_toArray, List.set_cons_zero, List.set_cons_succ]
  refine anyT_take (i := 2) (v := ?_) (some 12) rfl rfl (by kernel_rfl) (fun _ _ _ h => h) (Or.inl ⟨by rfl, ?_⟩) hSS ?_
  rotate_left
  · intro w' hSw; go_simp; (try with_reducible rfl)
  simp only [Act.put, List.setIfInBounds_toArray, List.set_cons_zero, List.set_cons_succ]
  refine anyT_take (i := 3) (v := ?_) (some 13) rfl rfl (by kernel_rfl) (fun _ _ _ h => h) (Or.inl ⟨by rfl, ?_⟩) hSS ?_
  rotate_left
  · intro w' hSw; go_simp; (try with_reducible rfl)
  simp only [Act.put, List.setIfInBounds_toArray, List.set_cons_zero, List.set_cons_succ]
  refine anyT_take (i := 4) (v := ?_) (some 14) rfl rfl (by kernel_rfl) (fun _ _ _ h => h) (Or.inl ⟨by rfl, ?_⟩) hSS ?_
  rotate_left
  · intro w' hSw; go_simp; (try with_reducible rfl)
  simp only [Act.put, List.setIfInBounds_toArray, List.set_cons_zero, List.set_cons_succ]
  refine anyT_take (i := 5) (v := ?_) (some 15) rfl rfl (by kernel_rfl) (fun _ _ _ h => h) (Or.inl ⟨by rfl, ?_⟩) hSS ?_
  rotate_left
  · intro w' hSw; go_simp; (try with_reducible rfl)
  simp only [Act.put, List.setIfInBounds_toArray, List.set_cons_zero, List.set_cons_succ]
  refine anyT_take (i := 6) (v := ?_) (some 16) rfl rfl (by kernel_rfl) (fun _ _ _ h => h) (Or.inl ⟨by rfl, ?_⟩) hSS ?_
  rotate_left
  · intro w' hSw; go_simp; (try with_reducible rfl)
  simp only [Act.put, List.setIfInBounds_toArray, List.set_cons_zero, List.set_cons_succ]
  refine anyT_call (i := 7) (some 17) F0 #[recv, .pointer (some ⟨g, 6, none⟩)] (by kernel_rfl) rfl rfl rfl (by go_simp) ?_
  refine (show Calls Tryz.prog F0 #[recv, .pointer (some ⟨g, 6, none⟩)] w.drew _ from HC0.out).mono ?_
  rintro r w1 ⟨rfl, hc1⟩
  refine ⟨_, rfl, fun _ => trivial, ?_⟩
  refine anyT_done (by kernel_rfl) ?_ 0
  simp only [Act.put, List.setIfInBounds_toArray, List.set_cons_zero, List.set_cons_succ]
  have HC1 := Lib.hid hc1
  clear hc1 n m c hSS N0 HC0
  go_upto_region 3 with (fail)
  have n := N1.out.n
  have m := N1.out.m
  have c := N1.out.c
  have hSS : True := trivial
  refine region_T 7 (fun _ => True) (by kernel_rfl) ?_
  refine anyT_take (i := 0) (v := ?_) (some 18) rfl rfl (by kernel_rfl) (fun _ _ _ h => h) (Or.inl ⟨by rfl, ?_⟩) hSS ?_
  rotate_left
  · intro w' hSw; go_simp; (try with_reducible rfl)
  simp only [Act.put, List.setIfInBounds_toArray, List.set_cons_zero, List.set_cons_succ]
  refine anyT_take (i := 1) (v := ?_) (some 19) rfl rfl (by kernel_rfl) (fun _ _ _ h => h) (Or.inl ⟨by rfl, ?_⟩) hSS ?_
  rotate_left
  · intro w' hSw; go_simp; (try with_reducible rfl)
  simp only [Act.put, List.setIfInBounds_toArray, List.set_cons_zero, List.set_cons_succ]
  refine anyT_take (i := 2) (v := ?_) (some 20) rfl rfl (by kernel_rfl) (fun _ _ _ h => h) (Or.inl ⟨by rfl, ?_⟩) hSS ?_
  rotate_left
  · intro w' hSw; go_simp; (try with_reducible rfl)
  simp only [Act.put, List.setIfInBounds_toArray, List.set_cons_zero, List.set_cons_succ]
  refine anyT_take (i := 3) (v := ?_) (some 21) rfl rfl (by kernel_rfl) (fun _ _ _ h => h) (Or.inl ⟨by rfl, ?_⟩) hSS ?_
  rotate_left
  · intro w' hSw; go_simp; (try with_reducible rfl)
  simp only [Act.put, List.setIfInBounds_toArray, List.set_cons_zero, List.set_cons_succ]
  refine anyT_take (i := 4) (v := ?_) (some 22) rfl rfl (by kernel_rfl) (fun _ _ _ h => h) (Or.inl ⟨by rfl, ?_⟩) hSS ?_
  rotate_left
  · intro w' hSw; go_simp; (try with_reducible rfl)
  simp only [Act.put, List.setIfInBounds_toArray, List.set_cons_zero, List.set_cons_succ]
  refine anyT_take (i := 5) (v := ?_) (some 23) rfl rfl (by kernel_rfl) (fun _ _ _ h => h) (Or.inl ⟨by rfl, ?_⟩) hSS ?_
  rotate_left
  · intro w' hSw; go_simp; (try with_reducible rfl)
  simp only [Act.put, List.setIfInBounds_toArray, List.set_cons_zero, List.set_cons_succ]
  refine anyT_take (i := 6) (v := ?_) (some 24) rfl rfl (by kernel_rfl) (fun _ _ _ h => h) (Or.inl ⟨by rfl, ?_⟩) hSS ?_
  rotate_left
  · intro w' hSw; go_simp; (try with_reducible rfl)
  simp only [Act.put, List.setIfInBounds_toArray, List.set_cons_zero, List.set_cons_succ]
  refine anyT_call (i := 7) (some 25) F1 #[recv, .pointer (some ⟨g, 38, none⟩)] (by kernel_rfl) rfl rfl rfl (by go_simp) ?_
  refine (show Calls Tryz.prog F1 #[recv, .pointer (some ⟨g, 38, none⟩)] w1.drew _ from HC1.out).mono ?_
  rintro r w2 ⟨rfl, hc2⟩
  refine ⟨_, rfl, fun _ => trivial, ?_⟩
  refine anyT_done (by kernel_rfl) ?_ 0
  simp only [Act.put, List.setIfInBounds_toArray, List.set_cons_zero, List.set_cons_succ]
  have HC2 := Lib.hid hc2
  clear hc2 n m c hSS N1 HC1
  go_upto_region 4 with (fail)
  have n := N2.out.n
  have m := N2.out.m
  have c := N2.out.c
  have hSS : True := trivial
  refine region_T 7 (fun _ => True) (by kernel_rfl) ?_
  refine anyT_take (i := 0) (v := ?_) (some 26) rfl rfl (by kernel_rfl) (fun _ _ _ h => h) (Or.inl ⟨by rfl, ?_⟩) hSS ?_
  rotate_left
  · intro w' hSw; go_simp; (try with_reducible rfl)
  simp only [Act.put, List.setIfInBounds_toArray, List.set_cons_zero, List.set_cons_succ]
  refine anyT_take (i := 1) (v := ?_) (some 27) rfl rfl (by kernel_rfl) (fun _ _ _ h => h) (Or.inl ⟨by rfl, ?_⟩) hSS ?_
  rotate_left
  · intro w' hSw; go_simp; (try with_reducible rfl)
  simp only [Act.put, List.setIfInBounds_toArray, List.set_cons_zero, List.set_cons_succ]
  refine anyT_take (i := 2) (v := ?_) (some 28) rfl rfl (by kernel_rfl) (fun _ _ _ h => h) (Or.inl ⟨by rfl, ?_⟩) hSS ?_
  rotate_left
  · intro w' hSw; go_simp; (try with_reducible rfl)
  simp only [Act.put, List.setIfInBounds_toArray, List.set_cons_zero, List.set_cons_succ]
  refine anyT_take (i := 3) (v := ?_) (some 29) rfl rfl (by kernel_rfl) (fun _ _ _ h => h) (Or.inl ⟨by rfl, ?_⟩) hSS ?_
  rotate_left
  · intro w' hSw; go_simp; (try with_reducible rfl)
  simp only [Act.put, List.setIfInBounds_toArray, List.set_cons_zero, List.set_cons_succ]
  refine anyT_take (i := 4) (v := ?_) (some 30) rfl rfl (by kernel_rfl) (fun _ _ _ h => h) (Or.inl ⟨by rfl, ?_⟩) hSS ?_
  rotate_left
  · intro w' hSw; go_simp; (try with_reducible rfl)
  simp only [Act.put, List.setIfInBounds_toArray, List.set_cons_zero, List.set_cons_succ]
  refine anyT_take (i := 5) (v := ?_) (some 31) rfl rfl (by kernel_rfl) (fun _ _ _ h => h) (Or.inl ⟨by rfl, ?_⟩) hSS ?_
  rotate_left
  · intro w' hSw; go_simp; (try with_reducible rfl)
  simp only [Act.put, List.setIfInBounds_toArray, List.set_cons_zero, List.set_cons_succ]
  refine anyT_take (i := 6) (v := ?_) (some 32) rfl rfl (by kernel_rfl) (fun _ _ _ h => h) (Or.inl ⟨by rfl, ?_⟩) hSS ?_
  rotate_left
  · intro w' hSw; go_simp; (try with_reducible rfl)
  simp only [Act.put, List.setIfInBounds_toArray, List.set_cons_zero, List.set_cons_succ]
  refine anyT_call (i := 7) (some 33) F2 #[recv, .pointer (some ⟨g, 39, none⟩)] (by kernel_rfl) rfl rfl rfl (by go_simp) ?_
  refine (show Calls Tryz.prog F2 #[recv, .pointer (some ⟨g, 39, none⟩)] w2.drew _ from HC2.out).mono ?_
  rintro r w3 ⟨rfl, hc3⟩
  refine ⟨_, rfl, fun _ => trivial, ?_⟩
  refine anyT_done (by kernel_rfl) ?_ 0
  simp only [Act.put, List.setIfInBounds_toArray, List.set_cons_zero, List.set_cons_succ]
  have HC3 := Lib.hid hc3
  clear hc3 n m c hSS N2 HC2
  go_wp2
  go_end0
  exact ⟨rfl, HC3.out⟩
set_option maxRecDepth 100000 in
theorem own3_any {T : TypeId} {v recv : Value} {F0 F1 : FuncId} (h0 : Ifc T v recv "hearsay/message.root" F0) (h1 : Ifc T v recv "hearsay/message.path" F1) (g : Nat) (w : World) (Q : World → Prop) (h : w.cell? ⟨g, 0, none⟩ = some (.int .i64 3))
    (hc : Then F0 #[recv, .pointer (some ⟨g, 6, none⟩)] w fun w1 => Then F1 #[recv, .pointer (some ⟨g, 5, none⟩)] w1 fun w2 => Q w2) :
    Calls Tryz.prog 45 #[.pointer (some ⟨g, 0, none⟩), .iface T v] w fun r w' => r = .returned (.tuple #[]) ∧ Q w' := by
  have HC0 := Lib.hid hc
  clear hc
  have N0 := Lib.hid h0
  clear h0
  have N1 := Lib.hid h1
  clear h1
  go_enter Tryz.func45, Tryz.ntmps45
  go_upto_region 6 with (fail)
  clear h
  have n := N0.out.n
  have m := N0.out.m
  have c := N0.out.c
  have hSS : True := trivial
  refine region_T 7 (fun _ => True) (by kernel_rfl) ?_
  refine anyT_take (i := 0) (v := ?_) (some 36) rfl rfl (by kernel_rfl) (fun _ _ _ h => h) (Or.inl ⟨by rfl, ?_⟩) hSS ?_
  rotate_left
  · intro w' hSw; go_simp; (try with_reducible rfl)
  simp only [Act.put, List.setIfInBounds_toArray, List.set_cons_zero, List.set_cons_succ]
  refine anyT_take (i := 1) (v := ?_) (some 37) rfl rfl (by kernel_rfl) (fun _ _ _ h => h) (Or.inl ⟨by rfl, ?_⟩) hSS ?_
  rotate_left
  · intro w' hSw; go_simp; (try with_reducible rfl)
  simp only [Act.put, List.setIfInBounds_toArray, List.set_cons_zero, List.set_cons_succ]
  refine anyT_take (i := 2) (v := ?_) (some 38) rfl rfl (by kernel_rfl) (fun _ _ _ h => h) (Or.inl ⟨by rfl, ?_⟩) hSS ?_
  rotate_left
  · intro w' hSw; go_simp; (try with_reducible rfl)
  simp only [Act.put, List.setIfInBounds_toArray, List.set_cons_zero, List.set_cons_succ]
  refine anyT_take (i := 3) (v := ?_) (some 39) rfl rfl (by kernel_rfl) (fun _ _ _ h => h) (Or.inl ⟨by rfl, ?_⟩) hSS ?_
  rotate_left
  · intro w' hSw; go_simp; (try with_reducible rfl)
  simp only [Act.put, List.setIfInBounds_toArray, List.set_cons_zero, List.set_cons_succ]
  refine anyT_take (i := 4) (v := ?_) (some 40) rfl rfl (by kernel_rfl) (fun _ _ _ h => h) (Or.inl ⟨by rfl, ?_⟩) hSS ?_
  rotate_left
  · intro w' hSw; go_simp; (try with_reducible rfl)
  simp only [Act.put, List.setIfInBounds_toArray, List.set_cons_zero, List.set_cons_succ]
  refine anyT_take (i := 5) (v := ?_) (some 41) rfl rfl (by kernel_rfl) (fun _ _ _ h => h) (Or.inl ⟨by rfl, ?_⟩) hSS ?_
  rotate_left
  · intro w' hSw; go_simp; (try with_reducible rfl)
  simp only [Act.put, List.setIfInBounds_toArray, List.set_cons_zero, List.set_cons_succ]
  refine anyT_take (i := 6) (v := ?_) (some 42) rfl rfl (by kernel_rfl) (fun _ _ _ h => h) (Or.inl ⟨by rfl, ?_⟩) hSS ?_
  rotate_left
  · intro w' hSw; go_simp; (try with_reducible rfl)
  simp only [Act.put, List.setIfInBounds_toArray, List.set_cons_zero, List.set_cons_succ]
  refine anyT_call (i := 7) (some 43) F0 #[recv, .pointer (some ⟨g, 6, none⟩)] (by kernel_rfl) rfl rfl rfl (by go_simp) ?_
  refine (show Calls Tryz.prog F0 #[recv, .pointer (some ⟨g, 6, none⟩)] w.drew _ from HC0.out).mono ?_
  rintro r w1 ⟨rfl, hc1⟩
  refine ⟨_, rfl, fun _ => trivial, ?_⟩
  refine anyT_done (by kernel_rfl) ?_ 0
  simp only [Act.put, List.setIfInBounds_toArray, List.set_cons_zero, List.set_cons_succ]
  have HC1 := Lib.hid hc1
  clear hc1 n m c hSS N0 HC0
  go_upto_region 7 with (fail)
  have n := N1.out.n
  have m := N1.out.m
  have c := N1.out.c
  have hSS : True := trivial
  refine region_T 7 (fun _ => True) (by kernel_rfl) ?_
  refine anyT_take (i := 0) (v := ?_) (some 44) rfl rfl (by kernel_rfl) (fun _ _ _ h => h) (Or.inl ⟨by rfl, ?_⟩) hSS ?_
  rotate_left
  · intro w' hSw; go_simp; (try with_reducible rfl)
  simp only [Act.put, List.setIfInBounds_toArray, List.set_cons_zero, List.set_cons_succ]
  refine anyT_take (i := 1) (v := ?_) (some 45) rfl rfl (by kernel_rfl) (fun _ _ _ h => h) (Or.inl ⟨by rfl, ?_⟩) hSS ?_
  rotate_left
  · intro w' hSw; go_simp; (try with_reducible rfl)
  simp only [Act.put, List.setIfInBounds_toArray, List.set_cons_zero, List.set_cons_succ]
  refine anyT_take (i := 2) (v := ?_) (some 46) rfl rfl (by kernel_rfl) (fun _ _ _ h => h) (Or.inl ⟨by rfl, ?_⟩) hSS ?_
  rotate_left
  · intro w' hSw; go_simp; (try with_reducible rfl)
  simp only [Act.put, List.setIfInBounds_toArray, List.set_cons_zero, List.set_cons_succ]
  refine anyT_take (i := 3) (v := ?_) (some 47) rfl rfl (by kernel_rfl) (fun _ _ _ h => h) (Or.inl ⟨by rfl, ?_⟩) hSS ?_
  rotate_left
  · intro w' hSw; go_simp; (try with_reducible rfl)
  simp only [Act.put, List.setIfInBounds_toArray, List.set_cons_zero, List.set_cons_succ]
  refine anyT_take (i := 4) (v := ?_) (some 48) rfl rfl (by kernel_rfl) (fun _ _ _ h => h) (Or.inl ⟨by rfl, ?_⟩) hSS ?_
  rotate_left
  · intro w' hSw; go_simp; (try with_reducible rfl)
  simp only [Act.put, List.setIfInBounds_toArray, List.set_cons_zero, List.set_cons_succ]
  refine anyT_take (i := 5) (v := ?_) (some 49) rfl rfl (by kernel_rfl) (fun _ _ _ h => h) (Or.inl ⟨by rfl, ?_⟩) hSS ?_
  rotate_left
  · intro w' hSw; go_simp; (try with_reducible rfl)
  simp only [Act.put, List.setIfInBounds_toArray, List.set_cons_zero, List.set_cons_succ]
  refine anyT_take (i := 6) (v := ?_) (some 50) rfl rfl (by kernel_rfl) (fun _ _ _ h => h) (Or.inl ⟨by rfl, ?_⟩) hSS ?_
  rotate_left
  · intro w' hSw; go_simp; (try with_reducible rfl)
  simp only [Act.put, List.setIfInBounds_toArray, List.set_cons_zero, List.set_cons_succ]
  refine anyT_call (i := 7) (some 51) F1 #[recv, .pointer (some ⟨g, 5, none⟩)] (by kernel_rfl) rfl rfl rfl (by go_simp) ?_
  refine (show Calls Tryz.prog F1 #[recv, .pointer (some ⟨g, 5, none⟩)] w1.drew _ from HC1.out).mono ?_
  rintro r w2 ⟨rfl, hc2⟩
  refine ⟨_, rfl, fun _ => trivial, ?_⟩
  refine anyT_done (by kernel_rfl) ?_ 0
  simp only [Act.put, List.setIfInBounds_toArray, List.set_cons_zero, List.set_cons_succ]
  have HC2 := Lib.hid hc2
  clear hc2 n m c hSS N1 HC1
  go_wp2
  go_end0
  exact ⟨rfl, HC2.out⟩
set_option maxRecDepth 100000 in
theorem own4_any {T : TypeId} {v recv : Value} {F0 F1 : FuncId} (h0 : Ifc T v recv "hearsay/message.path" F0) (h1 : Ifc T v recv "hearsay/message.text" F1) (g : Nat) (w : World) (Q : World → Prop) (h : w.cell? ⟨g, 0, none⟩ = some (.int .i64 4))
    (hc : Then F0 #[recv, .pointer (some ⟨g, 5, none⟩)] w fun w1 => Then F1 #[recv, .pointer (some ⟨g, 40, none⟩)] w1 fun w2 => Q w2) :
    Calls Tryz.prog 45 #[.pointer (some ⟨g, 0, none⟩), .iface T v] w fun r w' => r = .returned (.tuple #[]) ∧ Q w' := by
  have HC0 := Lib.hid hc
  clear hc
  have N0 := Lib.hid h0
  clear h0
  have N1 := Lib.hid h1
  clear h1
  go_enter Tryz.func45, Tryz.ntmps45
  go_upto_region 9 with (fail)
  clear h
  have n := N0.out.n
  have m := N0.out.m
  have c := N0.out.c
  have hSS : True := trivial
  refine region_T 7 (fun _ => True) (by kernel_rfl) ?_
  refine anyT_take (i := 0) (v := ?_) (some 54) rfl rfl (by kernel_rfl) (fun _ _ _ h => h) (Or.inl ⟨by rfl, ?_⟩) hSS ?_
  rotate_left
  · intro w' hSw; go_simp; (try with_reducible rfl)
  simp only [Act.put, List.setIfInBounds_toArray, List.set_cons_zero, List.set_cons_succ]
  refine anyT_take (i := 1) (v := ?_) (some 55) rfl rfl (by kernel_rfl) (fun _ _ _ h => h) (Or.inl ⟨by rfl, ?_⟩) hSS ?_
  rotate_left
  · intro w' hSw; go_simp; (try with_reducible rfl)
  simp only [Act.put, List.setIfInBounds_toArray, List.set_cons_zero, List.set_cons_succ]
  refine anyT_take (i := 2) (v := ?_) (some 56) rfl rfl (by kernel_rfl) (fun _ _ _ h => h) (Or.inl ⟨by rfl, ?_⟩) hSS ?_
  rotate_left
  · intro w' hSw; go_simp; (try with_reducible rfl)
  simp only [Act.put, List.setIfInBounds_toArray, List.set_cons_zero, List.set_cons_succ]
  refine anyT_take (i := 3) (v := ?_) (some 57) rfl rfl (by kernel_rfl) (fun _ _ _ h => h) (Or.inl ⟨by rfl, ?_⟩) hSS ?_
  rotate_left
  · intro w' hSw; go_simp; (try with_reducible rfl)
  simp only [Act.put, List.setIfInBounds_toArray, List.set_cons_zero, List.set_cons_succ]
  refine anyT_take (i := 4) (v := ?_) (some 58) rfl rfl (by kernel_rfl) (fun _ _ _ h => h) (Or.inl ⟨by rfl, ?_⟩) hSS ?_
  rotate_left
  · intro w' hSw; go_simp; (try with_reducible rfl)
  simp only [Act.put, List.setIfInBounds_toArray, List.set_cons_zero, List.set_cons_succ]
  refine anyT_take (i := 5) (v := ?_) (some 59) rfl rfl (by kernel_rfl) (fun _ _ _ h => h) (Or.inl ⟨by rfl, ?_⟩) hSS ?_
  rotate_left
  · intro w' hSw; go_simp; (try with_reducible rfl)
  simp only [Act.put, List.setIfInBounds_toArray, List.set_cons_zero, List.set_cons_succ]
  refine anyT_take (i := 6) (v := ?_) (some 60) rfl rfl (by kernel_rfl) (fun _ _ _ h => h) (Or.inl ⟨by rfl, ?_⟩) hSS ?_
  rotate_left
  · intro w' hSw; go_simp; (try with_reducible rfl)
  simp only [Act.put, List.setIfInBounds_toArray, List.set_cons_zero, List.set_cons_succ]
  refine anyT_call (i := 7) (some 61) F0 #[recv, .pointer (some ⟨g, 5, none⟩)] (by kernel_rfl) rfl rfl rfl (by go_simp) ?_
  refine (show Calls Tryz.prog F0 #[recv, .pointer (some ⟨g, 5, none⟩)] w.drew _ from HC0.out).mono ?_
  rintro r w1 ⟨rfl, hc1⟩
  refine ⟨_, rfl, fun _ => trivial, ?_⟩
  refine anyT_done (by kernel_rfl) ?_ 0
  simp only [Act.put, List.setIfInBounds_toArray, List.set_cons_zero, List.set_cons_succ]
  have HC1 := Lib.hid hc1
  clear hc1 n m c hSS N0 HC0
  go_upto_region 10 with (fail)
  have n := N1.out.n
  have m := N1.out.m
  have c := N1.out.c
  have hSS : True := trivial
  refine region_T 7 (fun _ => True) (by kernel_rfl) ?_
  refine anyT_take (i := 0) (v := ?_) (some 62) rfl rfl (by kernel_rfl) (fun _ _ _ h => h) (Or.inl ⟨by rfl, ?_⟩) hSS ?_
  rotate_left
  · intro w' hSw; go_simp; (try with_reducible rfl)
  simp only [Act.put, List.setIfInBounds_toArray, List.set_cons_zero, List.set_cons_succ]
  refine anyT_take (i := 1) (v := ?_) (some 63) rfl rfl (by kernel_rfl) (fun _ _ _ h => h) (Or.inl ⟨by rfl, ?_⟩) hSS ?_
  rotate_left
  · intro w' hSw; go_simp; (try with_reducible rfl)
  simp only [Act.put, List.setIfInBounds_toArray, List.set_cons_zero, List.set_cons_succ]
  refine anyT_take (i := 2) (v := ?_) (some 64) rfl rfl (by kernel_rfl) (fun _ _ _ h => h) (Or.inl ⟨by rfl, ?_⟩) hSS ?_
  rotate_left
  · intro w' hSw; go_simp; (try with_reducible rfl)
  simp only [Act.put, List.setIfInBounds_toArray, List.set_cons_zero, List.set_cons_succ]
  refine anyT_take (i := 3) (v := ?_) (some 65) rfl rfl (by kernel_rfl) (fun _ _ _ h => h) (Or.inl ⟨by rfl, ?_⟩) hSS ?_
  rotate_left
  · intro w' hSw; go_simp; (try with_reducible rfl)
  simp only [Act.put, List.setIfInBounds_toArray, List.set_cons_zero, List.set_cons_succ]
  refine anyT_take (i := 4) (v := ?_) (some 66) rfl rfl (by kernel_rfl) (fun _ _ _ h => h) (Or.inl ⟨by rfl, ?_⟩) hSS ?_
  rotate_left
  · intro w' hSw; go_simp; (try with_reducible rfl)
  simp only [Act.put, List.setIfInBounds_toArray, List.set_cons_zero, List.set_cons_succ]
  refine anyT_take (i := 5) (v := ?_) (some 67) rfl rfl (by kernel_rfl) (fun _ _ _ h => h) (Or.inl ⟨by rfl, ?_⟩) hSS ?_
  rotate_left
  · intro w' hSw; go_simp; (try with_reducible rfl)
  simp only [Act.put, List.setIfInBounds_toArray, List.set_cons_zero, List.set_cons_succ]
  refine anyT_take (i := 6) (v := ?_) (some 68) rfl rfl (by kernel_rfl) (fun _ _ _ h => h) (Or.inl ⟨by rfl, ?_⟩) hSS ?_
  rotate_left
  · intro w' hSw; go_simp; (try with_reducible rfl)
  simp only [Act.put, List.setIfInBounds_toArray, List.set_cons_zero, List.set_cons_succ]
  refine anyT_call (i := 7) (some 69) F1 #[recv, .pointer (some ⟨g, 40, none⟩)] (by kernel_rfl) rfl rfl rfl (by go_simp) ?_
  refine (show Calls Tryz.prog F1 #[recv, .pointer (some ⟨g, 40, none⟩)] w1.drew _ from HC1.out).mono ?_
  rintro r w2 ⟨rfl, hc2⟩
  refine ⟨_, rfl, fun _ => trivial, ?_⟩
  refine anyT_done (by kernel_rfl) ?_ 0
  simp only [Act.put, List.setIfInBounds_toArray, List.set_cons_zero, List.set_cons_succ]
  have HC2 := Lib.hid hc2
  clear hc2 n m c hSS N1 HC1
  go_wp2
  go_end0
  exact ⟨rfl, HC2.out⟩
set_option maxRecDepth 100000 in
theorem own6_any {T : TypeId} {v recv : Value} {F0 : FuncId} (h0 : Ifc T v recv "hearsay/message.turn" F0) (g : Nat) (w : World) (Q : World → Prop) (h : w.cell? ⟨g, 0, none⟩ = some (.int .i64 6))
    (hc : Then F0 #[recv, .pointer (some ⟨g, 4, none⟩)] w fun w1 => Q w1) :
    Calls Tryz.prog 45 #[.pointer (some ⟨g, 0, none⟩), .iface T v] w fun r w' => r = .returned (.tuple #[]) ∧ Q w' := by
  have HC0 := Lib.hid hc
  clear hc
  have N0 := Lib.hid h0
  clear h0
  go_enter Tryz.func45, Tryz.ntmps45
  go_upto_region 12 with (fail)
  clear h
  have n := N0.out.n
  have m := N0.out.m
  have c := N0.out.c
  have hSS : True := trivial
  refine region_T 7 (fun _ => True) (by kernel_rfl) ?_
  refine anyT_take (i := 0) (v := ?_) (some 72) rfl rfl (by kernel_rfl) (fun _ _ _ h => h) (Or.inl ⟨by rfl, ?_⟩) hSS ?_
  rotate_left
  · intro w' hSw; go_simp; (try with_reducible rfl)
  simp only [Act.put, List.setIfInBounds_toArray, List.set_cons_zero, List.set_cons_succ]
  refine anyT_take (i := 1) (v := ?_) (some 73) rfl rfl (by kernel_rfl) (fun _ _ _ h => h) (Or.inl ⟨by rfl, ?_⟩) hSS ?_
  rotate_left
  · intro w' hSw; go_simp; (try with_reducible rfl)
  simp only [Act.put, List.setIfInBounds_toArray, List.set_cons_zero, List.set_cons_succ]
  refine anyT_take (i := 2) (v := ?_) (some 74) rfl rfl (by kernel_rfl) (fun _ _ _ h => h) (Or.inl ⟨by rfl, ?_⟩) hSS ?_
  rotate_left
  · intro w' hSw; go_simp; (try with_reducible rfl)
  simp only [Act.put, List.setIfInBounds_toArray, List.set_cons_zero, List.set_cons_succ]
  refine anyT_take (i := 3) (v := ?_) (some 75) rfl rfl (by kernel_rfl) (fun _ _ _ h => h) (Or.inl ⟨by rfl, ?_⟩) hSS ?_
  rotate_left
  · intro w' hSw; go_simp; (try with_reducible rfl)
  simp only [Act.put, List.setIfInBounds_toArray, List.set_cons_zero, List.set_cons_succ]
  refine anyT_take (i := 4) (v := ?_) (some 76) rfl rfl (by kernel_rfl) (fun _ _ _ h => h) (Or.inl ⟨by rfl, ?_⟩) hSS ?_
  rotate_left
  · intro w' hSw; go_simp; (try with_reducible rfl)
  simp only [Act.put, List.setIfInBounds_toArray, List.set_cons_zero, List.set_cons_succ]
  refine anyT_take (i := 5) (v := ?_) (some 77) rfl rfl (by kernel_rfl) (fun _ _ _ h => h) (Or.inl ⟨by rfl, ?_⟩) hSS ?_
  rotate_left
  · intro w' hSw; go_simp; (try with_reducible rfl)
  simp only [Act.put, List.setIfInBounds_toArray, List.set_cons_zero, List.set_cons_succ]
  refine anyT_take (i := 6) (v := ?_) (some 78) rfl rfl (by kernel_rfl) (fun _ _ _ h => h) (Or.inl ⟨by rfl, ?_⟩) hSS ?_
  rotate_left
  · intro w' hSw; go_simp; (try with_reducible rfl)
  simp only [Act.put, List.setIfInBounds_toArray, List.set_cons_zero, List.set_cons_succ]
  refine anyT_call (i := 7) (some 79) F0 #[recv, .pointer (some ⟨g, 4, none⟩)] (by kernel_rfl) rfl rfl rfl (by go_simp) ?_
  refine (show Calls Tryz.prog F0 #[recv, .pointer (some ⟨g, 4, none⟩)] w.drew _ from HC0.out).mono ?_
  rintro r w1 ⟨rfl, hc1⟩
  refine ⟨_, rfl, fun _ => trivial, ?_⟩
  refine anyT_done (by kernel_rfl) ?_ 0
  simp only [Act.put, List.setIfInBounds_toArray, List.set_cons_zero, List.set_cons_succ]
  have HC1 := Lib.hid hc1
  clear hc1 n m c hSS N0 HC0
  go_wp2
  go_end0
  exact ⟨rfl, HC1.out⟩
end Go.Proofs.YtfobnemocodomaaGreat
set_option linter.unusedVariables false
set_option linter.unusedSimpArgs false
set_option maxHeartbeats 4000000
namespace Go.Proofs.YtfobnemocodomaaGreat
open Go.RowKit Go.Shelf Go.Great

theorem zRoot : Ifc 90 (.agg #[]) (.agg #[]) "hearsay/message.root" 184 := ⟨fun _ => by kernel_rfl, fun _ => by kernel_rfl, fun _ _ => by kernel_rfl⟩
theorem zCtx : Ifc 90 (.agg #[]) (.agg #[]) "hearsay/message.ctx" 182 := ⟨fun _ => by kernel_rfl, fun _ => by kernel_rfl, fun _ _ => by kernel_rfl⟩
theorem zRows : Ifc 90 (.agg #[]) (.agg #[]) "hearsay/message.rows" 185 := ⟨fun _ => by kernel_rfl, fun _ => by kernel_rfl, fun _ _ => by kernel_rfl⟩
theorem zPath : Ifc 90 (.agg #[]) (.agg #[]) "hearsay/message.path" 183 := ⟨fun _ => by kernel_rfl, fun _ => by kernel_rfl, fun _ _ => by kernel_rfl⟩
theorem zText : Ifc 90 (.agg #[]) (.agg #[]) "hearsay/message.text" 186 := ⟨fun _ => by kernel_rfl, fun _ => by kernel_rfl, fun _ _ => by kernel_rfl⟩
theorem zTurn : Ifc 90 (.agg #[]) (.agg #[]) "hearsay/message.turn" 187 := ⟨fun _ => by kernel_rfl, fun _ => by kernel_rfl, fun _ _ => by kernel_rfl⟩
theorem cRoot (a : Addr) : Ifc 91 (.pointer (some a)) (.pointer (some a)) "hearsay/message.root" 190 := ⟨fun _ => by kernel_rfl, fun _ => by kernel_rfl, fun _ _ => by kernel_rfl⟩
theorem cCtx (a : Addr) : Ifc 91 (.pointer (some a)) (.pointer (some a)) "hearsay/message.ctx" 188 := ⟨fun _ => by kernel_rfl, fun _ => by kernel_rfl, fun _ _ => by kernel_rfl⟩
theorem cRows (a : Addr) : Ifc 91 (.pointer (some a)) (.pointer (some a)) "hearsay/message.rows" 191 := ⟨fun _ => by kernel_rfl, fun _ => by kernel_rfl, fun _ _ => by kernel_rfl⟩
theorem cPath (a : Addr) : Ifc 91 (.pointer (some a)) (.pointer (some a)) "hearsay/message.path" 189 := ⟨fun _ => by kernel_rfl, fun _ => by kernel_rfl, fun _ _ => by kernel_rfl⟩
theorem cText (a : Addr) : Ifc 91 (.pointer (some a)) (.pointer (some a)) "hearsay/message.text" 192 := ⟨fun _ => by kernel_rfl, fun _ => by kernel_rfl, fun _ _ => by kernel_rfl⟩
theorem cTurn (a : Addr) : Ifc 91 (.pointer (some a)) (.pointer (some a)) "hearsay/message.turn" 193 := ⟨fun _ => by kernel_rfl, fun _ => by kernel_rfl, fun _ _ => by kernel_rfl⟩
theorem pRoot (a : Option Addr) : Ifc 86 (.agg #[.pointer a]) (.agg #[.pointer a]) "hearsay/message.root" 178 := ⟨fun _ => by kernel_rfl, fun _ => by kernel_rfl, fun _ _ => by kernel_rfl⟩
theorem pCtx (a : Option Addr) : Ifc 86 (.agg #[.pointer a]) (.agg #[.pointer a]) "hearsay/message.ctx" 176 := ⟨fun _ => by kernel_rfl, fun _ => by kernel_rfl, fun _ _ => by kernel_rfl⟩
theorem pRows (a : Option Addr) : Ifc 86 (.agg #[.pointer a]) (.agg #[.pointer a]) "hearsay/message.rows" 179 := ⟨fun _ => by kernel_rfl, fun _ => by kernel_rfl, fun _ _ => by kernel_rfl⟩
theorem pPath (a : Option Addr) : Ifc 86 (.agg #[.pointer a]) (.agg #[.pointer a]) "hearsay/message.path" 177 := ⟨fun _ => by kernel_rfl, fun _ => by kernel_rfl, fun _ _ => by kernel_rfl⟩
theorem pText (a : Option Addr) : Ifc 86 (.agg #[.pointer a]) (.agg #[.pointer a]) "hearsay/message.text" 180 := ⟨fun _ => by kernel_rfl, fun _ => by kernel_rfl, fun _ _ => by kernel_rfl⟩
theorem pTurn (a : Option Addr) : Ifc 86 (.agg #[.pointer a]) (.agg #[.pointer a]) "hearsay/message.turn" 181 := ⟨fun _ => by kernel_rfl, fun _ => by kernel_rfl, fun _ _ => by kernel_rfl⟩

/-! ### a field turned -/
theorem set_field {W : World} {g o : Nat} {x y : Mx} {u : Value} {t : TypeId} (h : W.heap[g]? = some (.cells x.cells t (0, 0))) (e : x.cells.setIfInBounds o u = y.cells) : (W.setCell ⟨g, o, none⟩ u).heap[g]? = some (.cells y.cells t (0, 0)) := by
  rw [rg_set_same h, e]
theorem Mx.list_tail (x : Mx) (h : x.R.length = 32) (j : Nat) : x.list[38 + j]? = [Value.slice x.cA x.cl.length x.cc, .slice x.rA x.rs.length x.rc, .string x.Tx][j]? := by
  unfold Mx.list
  rw [List.getElem?_append_right (by simp; omega), List.getElem?_append_right (by simp [h]; omega)]
  congr 1
  simp [h]; omega
theorem set38 (x : Mx) (h : x.R.length = 32) (A : Option Addr) (l : List Dot) (c : Nat) : x.cells.setIfInBounds 38 (.slice A l.length c) = ({ x with cA := A, cl := l, cc := c } : Mx).cells := by
  have hz : ({ x with cA := A, cl := l, cc := c } : Mx).list = x.list.set 38 (.slice A l.length c) := by
    unfold Mx.list
    rw [List.set_append_right _ _ (by simp), List.set_append_right _ _ (by simp [h])]
    simp [h]
  unfold Mx.cells; rw [hz]; simp
theorem set39 (x : Mx) (h : x.R.length = 32) (A : Option Addr) (l : List DRow) (c : Nat) : x.cells.setIfInBounds 39 (.slice A l.length c) = ({ x with rA := A, rs := l, rc := c } : Mx).cells := by
  have hz : ({ x with rA := A, rs := l, rc := c } : Mx).list = x.list.set 39 (.slice A l.length c) := by
    unfold Mx.list
    rw [List.set_append_right _ _ (by simp), List.set_append_right _ _ (by simp [h])]
    simp [h]
  unfold Mx.cells; rw [hz]; simp
theorem set40 (x : Mx) (h : x.R.length = 32) (s : ByteArray) : x.cells.setIfInBounds 40 (.string s) = ({ x with Tx := s } : Mx).cells := by
  have hz : ({ x with Tx := s } : Mx).list = x.list.set 40 (.string s) := by
    unfold Mx.list
    rw [List.set_append_right _ _ (by simp), List.set_append_right _ _ (by simp [h])]
    simp [h]
  unfold Mx.cells; rw [hz]; simp
theorem set4 (x : Mx) (b : Bool) : x.cells.setIfInBounds 4 (.bool b) = ({ x with Tn := b } : Mx).cells := by
  have hz : ({ x with Tn := b } : Mx).list = x.list.set 4 (.bool b) := by unfold Mx.list; rfl
  unfold Mx.cells; rw [hz]; simp
theorem set5 (x : Mx) (s : ByteArray) : x.cells.setIfInBounds 5 (.string s) = ({ x with Pa := s } : Mx).cells := by
  have hz : ({ x with Pa := s } : Mx).list = x.list.set 5 (.string s) := by unfold Mx.list; rfl
  unfold Mx.cells; rw [hz]; simp
theorem set6 {W : World} {g : Nat} {x : Mx} {t : TypeId} (h : W.heap[g]? = some (.cells x.cells t (0, 0))) (hx : x.R.length = 32) (D : List UInt8) (hD : D.length = 32) :
    (W.setCells g 6 (digC D).toList).heap[g]? = some (.cells ({ x with R := D } : Mx).cells t (0, 0)) := by
  have hl : (digC D).toList.length = 32 := by rw [Array.length_toList, digC_size, hD]
  obtain ⟨cs', k1, k2, k3, k4, k5⟩ := rg_same (digC D).toList 6 W x.cells h (by rw [hl, Mx.size x hx]; decide)
  rw [hl] at k4 k5
  have hcs : cs' = ({ x with R := D } : Mx).cells := by
   apply Array.ext_getElem?
   intro j
   have e2 : ∀ j, ({ x with R := D } : Mx).cells[j]? = ({ x with R := D } : Mx).list[j]? := fun j => by unfold Mx.cells; rw [List.getElem?_toArray]
   have e1 : ∀ j, x.cells[j]? = x.list[j]? := fun j => by unfold Mx.cells; rw [List.getElem?_toArray]
   rw [e2]
   by_cases c1 : j < 6
   · rw [k3 j c1, e1]
     unfold Mx.list
     rw [List.getElem?_append_left (by simp; omega), List.getElem?_append_left (by simp; omega)]
   · by_cases c2 : j < 38
     · have := k4 (j - 6) (by omega)
       rw [show 6 + (j - 6) = j by omega] at this
       rw [this]
       unfold Mx.list
       rw [List.getElem?_append_right (by simp; omega), List.getElem?_append_left (by simp [hD]; omega)]
       simp [digC]
     · rw [k5 j (by omega), e1]
       have a1 := Mx.list_tail x hx (j - 38)
       have a2 := Mx.list_tail { x with R := D } hD (j - 38)
       rw [show 38 + (j - 38) = j by omega] at a1 a2
       rw [a1, a2]
  rw [k1, hcs]
end Go.Proofs.YtfobnemocodomaaGreat
set_option linter.unusedVariables false
set_option linter.unusedSimpArgs false
set_option maxHeartbeats 4000000
namespace Go.Proofs.YtfobnemocodomaaGreat
open Go.RowKit Go.Shelf Go.Great

def zR (x : Mx) : Mx := { x with R := Z32L }
def zC (x : Mx) : Mx := { x with cA := none, cl := [], cc := 0 }
def zW (x : Mx) : Mx := { x with rA := none, rs := [], rc := 0 }
def zP (x : Mx) : Mx := { x with Pa := ⟨#[]⟩ }
def zX (x : Mx) : Mx := { x with Tx := ⟨#[]⟩ }
def zT (x : Mx) : Mx := { x with Tn := false }
/-- a message without the fields that it may have -/
def zOf (x : Mx) : Mx := if x.K = 2 then zW (zC (zR x)) else if x.K = 3 then zP (zR x) else if x.K = 4 then zX (zP x) else if x.K = 6 then zT x else x
abbrev MAt (W : World) (g : Nat) (x : Mx) : Prop := W.heap[g]? = some (.cells x.cells 37 (0, 0))
theorem mat_frz {W : World} {g : Nat} {x : Mx} (h : MAt W g x) (o : Nat) : W.frozen? ⟨g, o, none⟩ = false := by simp [World.frozen?, h]
theorem mat_gr {W W' : World} {g : Nat} {x : Mx} (h : MAt W g x) (k : Gr W W') : MAt W' g x := (k.block g (Array.getElem?_eq_some_iff.1 h).1).trans h
set_option maxRecDepth 100000 in
theorem zRoot_any (g : Nat) (x : Mx) (W : World) (h : MAt W g x) (hx : x.R.length = 32) :
    Calls Tryz.prog 184 #[.agg #[], .pointer (some ⟨g, 6, none⟩)] W fun r w' => r = .returned (.tuple #[]) ∧ MAt w' g (zR x) ∧ Rm g W w' := by
  have HG : Hid (Gr W (W.alloc (.cells #[] 90))) := Lib.hid ((Gr.rfl' W).al _)
  have HM := Lib.hid (mat_gr h HG.out)
  have HA := mxAt HM.out hx
  have c4 := HA.c4
  have c5 := HA.c5
  have c38 := HA.c38
  have c39 := HA.c39
  have c40 := HA.c40
  have f4 := mat_frz HM.out 4
  have f5 := mat_frz HM.out 5
  have f38 := mat_frz HM.out 38
  have f39 := mat_frz HM.out 39
  have f40 := mat_frz HM.out 40
  clear HA h
  generalize hW : W.alloc (.cells #[] 90) = W1 at HG HM c4 c5 c38 c39 c40 f4 f5 f38 f39 f40
  go_enter Tryz.func184, Tryz.ntmps184
  have HTH : Hid (W1.there g 6 Z32.size) := Lib.hid (fun q hq => by
    have hq' : q < 32 := by rw [Z32_size] at hq; exact hq
    have hsz : 6 + q < x.cells.size := by rw [Mx.size x hx]; omega
    have hb := HM.out
    refine ⟨?_, by simp [World.frozen?, hb]⟩
    simp only [World.cell?, hb]
    rw [Array.getElem?_eq_getElem hsz]; rfl)
  go_wp2_with (first
    | refine build32 rfl rfl ?_
    | ((with_reducible refine at_st 33 (.tmp 6) (.tmp 5) ?_); refine wpList_store_mid rfl 33 _ _ rfl g 6 Z32 rfl rfl HTH.out (by rw [Z32_size]; exact sizeDig) (digC_one Z32L) ?_))
  go_end0
  exact ⟨rfl, set6 HM.out hx Z32L Z32L_len, (Rm.of HG.out).trans ⟨(rg_os _ _ _).1, (rg_os _ _ _).2.1, (rg_os _ _ _).2.2, by rw [rg_size]; exact Nat.le_refl _, fun k _ hk => rg_other hk _ _ _⟩⟩
set_option maxRecDepth 100000 in
theorem zCtx_any (g : Nat) (x : Mx) (W : World) (h : MAt W g x) (hx : x.R.length = 32) :
    Calls Tryz.prog 182 #[.agg #[], .pointer (some ⟨g, 38, none⟩)] W fun r w' => r = .returned (.tuple #[]) ∧ MAt w' g (zC x) ∧ Rm g W w' := by
  have HG : Hid (Gr W (W.alloc (.cells #[] 90))) := Lib.hid ((Gr.rfl' W).al _)
  have HM := Lib.hid (mat_gr h HG.out)
  have HA := mxAt HM.out hx
  have c4 := HA.c4
  have c5 := HA.c5
  have c38 := HA.c38
  have c39 := HA.c39
  have c40 := HA.c40
  have f4 := mat_frz HM.out 4
  have f5 := mat_frz HM.out 5
  have f38 := mat_frz HM.out 38
  have f39 := mat_frz HM.out 39
  have f40 := mat_frz HM.out 40
  clear HA h
  generalize hW : W.alloc (.cells #[] 90) = W1 at HG HM c4 c5 c38 c39 c40 f4 f5 f38 f39 f40
  go_enter Tryz.func182, Tryz.ntmps182
  go_wp2
  go_end0
  exact ⟨rfl, set_field HM.out (set38 x hx none [] 0), (Rm.of HG.out).setCell _ _⟩
set_option maxRecDepth 100000 in
theorem zRows_any (g : Nat) (x : Mx) (W : World) (h : MAt W g x) (hx : x.R.length = 32) :
    Calls Tryz.prog 185 #[.agg #[], .pointer (some ⟨g, 39, none⟩)] W fun r w' => r = .returned (.tuple #[]) ∧ MAt w' g (zW x) ∧ Rm g W w' := by
  have HG : Hid (Gr W (W.alloc (.cells #[] 90))) := Lib.hid ((Gr.rfl' W).al _)
  have HM := Lib.hid (mat_gr h HG.out)
  have HA := mxAt HM.out hx
  have c4 := HA.c4
  have c5 := HA.c5
  have c38 := HA.c38
  have c39 := HA.c39
  have c40 := HA.c40
  have f4 := mat_frz HM.out 4
  have f5 := mat_frz HM.out 5
  have f38 := mat_frz HM.out 38
  have f39 := mat_frz HM.out 39
  have f40 := mat_frz HM.out 40
  clear HA h
  generalize hW : W.alloc (.cells #[] 90) = W1 at HG HM c4 c5 c38 c39 c40 f4 f5 f38 f39 f40
  go_enter Tryz.func185, Tryz.ntmps185
  go_wp2
  go_end0
  exact ⟨rfl, set_field HM.out (set39 x hx none [] 0), (Rm.of HG.out).setCell _ _⟩
set_option maxRecDepth 100000 in
theorem zPath_any (g : Nat) (x : Mx) (W : World) (h : MAt W g x) (hx : x.R.length = 32) :
    Calls Tryz.prog 183 #[.agg #[], .pointer (some ⟨g, 5, none⟩)] W fun r w' => r = .returned (.tuple #[]) ∧ MAt w' g (zP x) ∧ Rm g W w' := by
  have HG : Hid (Gr W (W.alloc (.cells #[] 90))) := Lib.hid ((Gr.rfl' W).al _)
  have HM := Lib.hid (mat_gr h HG.out)
  have HA := mxAt HM.out hx
  have c4 := HA.c4
  have c5 := HA.c5
  have c38 := HA.c38
  have c39 := HA.c39
  have c40 := HA.c40
  have f4 := mat_frz HM.out 4
  have f5 := mat_frz HM.out 5
  have f38 := mat_frz HM.out 38
  have f39 := mat_frz HM.out 39
  have f40 := mat_frz HM.out 40
  clear HA h
  generalize hW : W.alloc (.cells #[] 90) = W1 at HG HM c4 c5 c38 c39 c40 f4 f5 f38 f39 f40
  go_enter Tryz.func183, Tryz.ntmps183
  go_wp2
  go_end0
  exact ⟨rfl, set_field HM.out (set5 x ⟨#[]⟩), (Rm.of HG.out).setCell _ _⟩
set_option maxRecDepth 100000 in
theorem zText_any (g : Nat) (x : Mx) (W : World) (h : MAt W g x) (hx : x.R.length = 32) :
    Calls Tryz.prog 186 #[.agg #[], .pointer (some ⟨g, 40, none⟩)] W fun r w' => r = .returned (.tuple #[]) ∧ MAt w' g (zX x) ∧ Rm g W w' := by
  have HG : Hid (Gr W (W.alloc (.cells #[] 90))) := Lib.hid ((Gr.rfl' W).al _)
  have HM := Lib.hid (mat_gr h HG.out)
  have HA := mxAt HM.out hx
  have c4 := HA.c4
  have c5 := HA.c5
  have c38 := HA.c38
  have c39 := HA.c39
  have c40 := HA.c40
  have f4 := mat_frz HM.out 4
  have f5 := mat_frz HM.out 5
  have f38 := mat_frz HM.out 38
  have f39 := mat_frz HM.out 39
  have f40 := mat_frz HM.out 40
  clear HA h
  generalize hW : W.alloc (.cells #[] 90) = W1 at HG HM c4 c5 c38 c39 c40 f4 f5 f38 f39 f40
  go_enter Tryz.func186, Tryz.ntmps186
  go_wp2
  go_end0
  exact ⟨rfl, set_field HM.out (set40 x hx ⟨#[]⟩), (Rm.of HG.out).setCell _ _⟩
set_option maxRecDepth 100000 in
theorem zTurn_any (g : Nat) (x : Mx) (W : World) (h : MAt W g x) (hx : x.R.length = 32) :
    Calls Tryz.prog 187 #[.agg #[], .pointer (some ⟨g, 4, none⟩)] W fun r w' => r = .returned (.tuple #[]) ∧ MAt w' g (zT x) ∧ Rm g W w' := by
  have HG : Hid (Gr W (W.alloc (.cells #[] 90))) := Lib.hid ((Gr.rfl' W).al _)
  have HM := Lib.hid (mat_gr h HG.out)
  have HA := mxAt HM.out hx
  have c4 := HA.c4
  have c5 := HA.c5
  have c38 := HA.c38
  have c39 := HA.c39
  have c40 := HA.c40
  have f4 := mat_frz HM.out 4
  have f5 := mat_frz HM.out 5
  have f38 := mat_frz HM.out 38
  have f39 := mat_frz HM.out 39
  have f40 := mat_frz HM.out 40
  clear HA h
  generalize hW : W.alloc (.cells #[] 90) = W1 at HG HM c4 c5 c38 c39 c40 f4 f5 f38 f39 f40
  go_enter Tryz.func187, Tryz.ntmps187
  go_wp2
  go_end0
  exact ⟨rfl, set_field HM.out (set4 x false), (Rm.of HG.out).setCell _ _⟩
theorem drewM {W : World} {g : Nat} {x : Mx} (h : MAt W g x) : MAt W.drew g x := mat_gr h (Gr.rfl' W).dr
theorem drewR (g : Nat) (W : World) : Rm g W W.drew := Rm.of (Gr.rfl' W).dr
theorem ownZ_any (g : Nat) (x : Mx) (W : World) (h : MAt W g x) (hx : x.R.length = 32) :
    Calls Tryz.prog 45 #[.pointer (some ⟨g, 0, none⟩), .iface 90 (.agg #[])] W fun r w' => r = .returned (.tuple #[]) ∧ MAt w' g (zOf x) ∧ Rm g W w' := by
  have c0 := (mxAt h hx).c0
  by_cases h2 : x.K = 2
  · have hz : zOf x = zW (zC (zR x)) := by unfold zOf; rw [if_pos h2]
    rw [hz]
    rw [h2] at c0
    refine own2_any zRoot zCtx zRows g W (fun w' => MAt w' g (zW (zC (zR x))) ∧ Rm g W w') c0 ?_
    unfold Then
    refine (zRoot_any g x _ (drewM h) hx).mono ?_
    rintro r w1 ⟨rfl, h1, m1⟩
    refine ⟨rfl, ?_⟩
    refine (zCtx_any g (zR x) _ (drewM h1) Z32L_len).mono ?_
    rintro r w2 ⟨rfl, h2, m2⟩
    refine ⟨rfl, ?_⟩
    refine (zRows_any g (zC (zR x)) _ (drewM h2) Z32L_len).mono ?_
    rintro r w3 ⟨rfl, h3, m3⟩
    exact ⟨rfl, h3, ((((drewR g W).trans m1).trans (drewR g w1)).trans m2).trans ((drewR g w2).trans m3)⟩
  by_cases h3 : x.K = 3
  · have hz : zOf x = zP (zR x) := by unfold zOf; rw [if_neg h2, if_pos h3]
    rw [hz]
    rw [h3] at c0
    refine own3_any zRoot zPath g W (fun w' => MAt w' g (zP (zR x)) ∧ Rm g W w') c0 ?_
    unfold Then
    refine (zRoot_any g x _ (drewM h) hx).mono ?_
    rintro r w1 ⟨rfl, h1, m1⟩
    refine ⟨rfl, ?_⟩
    refine (zPath_any g (zR x) _ (drewM h1) Z32L_len).mono ?_
    rintro r w2 ⟨rfl, h2, m2⟩
    exact ⟨rfl, h2, (((drewR g W).trans m1).trans (drewR g w1)).trans m2⟩
  by_cases h4 : x.K = 4
  · have hz : zOf x = zX (zP x) := by unfold zOf; rw [if_neg h2, if_neg h3, if_pos h4]
    rw [hz]
    rw [h4] at c0
    refine own4_any zPath zText g W (fun w' => MAt w' g (zX (zP x)) ∧ Rm g W w') c0 ?_
    unfold Then
    refine (zPath_any g x _ (drewM h) hx).mono ?_
    rintro r w1 ⟨rfl, h1, m1⟩
    refine ⟨rfl, ?_⟩
    refine (zText_any g (zP x) _ (drewM h1) hx).mono ?_
    rintro r w2 ⟨rfl, h2, m2⟩
    exact ⟨rfl, h2, (((drewR g W).trans m1).trans (drewR g w1)).trans m2⟩
  by_cases h6 : x.K = 6
  · have hz : zOf x = zT x := by unfold zOf; rw [if_neg h2, if_neg h3, if_neg h4, if_pos h6]
    rw [hz]
    rw [h6] at c0
    refine own6_any zTurn g W (fun w' => MAt w' g (zT x) ∧ Rm g W w') c0 ?_
    unfold Then
    refine (zTurn_any g x _ (drewM h) hx).mono ?_
    rintro r w1 ⟨rfl, h1, m1⟩
    exact ⟨rfl, h1, (drewR g W).trans m1⟩
  have hz : zOf x = x := by unfold zOf; rw [if_neg h2, if_neg h3, if_neg h4, if_neg h6]
  rw [hz]
  refine (ownNone_any x.K g _ W c0 ⟨h2, h3, h4, h6⟩).mono ?_
  rintro r w' ⟨rfl, rfl⟩
  exact ⟨rfl, h, Rm.refl _ _⟩
end Go.Proofs.YtfobnemocodomaaGreat
set_option linter.unusedVariables false
set_option linter.unusedSimpArgs false
set_option maxHeartbeats 4000000
namespace Go.Proofs.YtfobnemocodomaaGreat
open Go.RowKit Go.Shelf Go.Great

def cw (f e : Int) : Int := if e = 0 then f else e
def pchk (s : ByteArray) : Int := Pt.chkV s.data.toList
def pathC (s : ByteArray) (e : Int) : Int := if s = ⟨#[]⟩ then e else cw (pchk s) e
def rowsF (l : List DRow) (e : Int) : Int := l.foldl (fun e d => cw (chk d.l) e) e
def rowsC (l : List DRow) (e : Int) : Int := rowsF l (if 64 < l.length then cw 2 e else e)
def textC (s : ByteArray) (e : Int) : Int := if 65536 < s.size then cw 2 e else e
/-- why the fields that a message has may not be -/
def fchk (x : Mx) : Int := if x.K = 2 then rowsC x.rs (cw (chk x.cl) 0) else if x.K = 3 then pathC x.Pa 0 else if x.K = 4 then textC x.Tx (pathC x.Pa 0) else 0
abbrev CAt (W : World) (gc : Nat) (e : Int) : Prop := W.heap[gc]? = some (.cells #[.int .i64 e] 93 (0, 0))
theorem cat_gr {W W' : World} {g : Nat} {e : Int} (h : CAt W g e) (k : Gr W W') : CAt W' g e := (k.block g (Array.getElem?_eq_some_iff.1 h).1).trans h
theorem cat_cell {W : World} {g : Nat} {e : Int} (h : CAt W g e) : W.cell? ⟨g, 0, none⟩ = some (.int .i64 e) ∧ W.frozen? ⟨g, 0, none⟩ = false := by
  refine ⟨?_, by simp [World.frozen?, h]⟩
  simp only [World.cell?, h]; rfl
theorem cat_set {W : World} {g : Nat} {e : Int} (h : CAt W g e) (f : Int) : CAt (W.setCell ⟨g, 0, none⟩ (.int .i64 f)) g f := by
  have := rg_set_same (o := 0) h (.int .i64 f)
  exact this
theorem rowsF_take {l : List DRow} {k : Nat} (h : k < l.length) (e : Int) : rowsF (l.take (k + 1)) e = cw (chk l[k].l) (rowsF (l.take k) e) := by
  rw [List.take_succ_eq_append_getElem h]
  simp only [rowsF, List.foldl_append, List.foldl_cons, List.foldl_nil]
set_option maxRecDepth 100000 in
theorem wrong_any (gc : Nat) (e f : Int) (W0 W : World) (hg : Gr W0 W) (hB : W0.heap.size ≤ gc) (h : CAt W gc e) :
    Calls Tryz.prog 194 #[.pointer (some ⟨gc, 0, none⟩), .int .i64 f] W fun r w' => r = .returned (.tuple #[]) ∧ CAt w' gc (cw f e) ∧ Gr W0 w' := by
  obtain ⟨c0, f0⟩ := cat_cell h
  have HH := Lib.hid h
  have HG := Lib.hid hg
  clear h hg
  by_cases he : e = 0
  · subst he
    have hx : cw f 0 = f := by unfold cw; rw [if_pos rfl]
    go_enter Tryz.func194, Tryz.ntmps194
    go_wp2
    go_end0
    rw [hx]
    exact ⟨rfl, cat_set HH.out f, HG.out.set hB _⟩
  · have heb : (e == 0) = false := by simpa using he
    have hx : cw f e = e := by unfold cw; rw [if_neg he]
    go_enter Tryz.func194, Tryz.ntmps194
    go_wp2
    go_end0
    rw [hx]
    exact ⟨rfl, HH.out, HG.out⟩
set_option maxRecDepth 100000 in
theorem kRoot_any (gc : Nat) (a : Addr) (W : World) : Calls Tryz.prog 190 #[.pointer (some ⟨gc, 0, none⟩), .pointer (some a)] W fun r w' => r = .returned (.tuple #[]) ∧ w' = W := by
  go_enter Tryz.func190, Tryz.ntmps190
  go_wp2
  go_end0
  exact ⟨rfl, rfl⟩
set_option maxRecDepth 100000 in
theorem kTurn_any (gc : Nat) (a : Addr) (W : World) : Calls Tryz.prog 193 #[.pointer (some ⟨gc, 0, none⟩), .pointer (some a)] W fun r w' => r = .returned (.tuple #[]) ∧ w' = W := by
  go_enter Tryz.func193, Tryz.ntmps193
  go_wp2
  go_end0
  exact ⟨rfl, rfl⟩
set_option maxRecDepth 100000 in
theorem kCtx_any (gc g : Nat) (e : Int) (x : Mx) (W0 W : World) (hM : MAt W0 g x) (hO : MxOk W0 x) (hg : Gr W0 W) (hB : W0.heap.size ≤ gc) (h : CAt W gc e) :
    Calls Tryz.prog 188 #[.pointer (some ⟨gc, 0, none⟩), .pointer (some ⟨g, 38, none⟩)] W fun r w' => r = .returned (.tuple #[]) ∧ CAt w' gc (cw (chk x.cl) e) ∧ Gr W0 w' := by
  have c38 := (mxAt (mat_gr hM hg) hO.dig).c38
  have HO := Lib.hid hO
  have HH := Lib.hid h
  have HG := Lib.hid hg
  have HK := Lib.hid (Check_any x.cA x.cc x.cl W (HO.out.ctx.gr HG.out))
  clear hM hO h hg
  go_enter Tryz.func188, Tryz.ntmps188
  go_wp2_with fail
  refine (HK.out).mono ?_
  rintro r w1 ⟨rfl, g1⟩
  go_wp2_with fail
  refine (wrong_any gc e _ W0 w1 (HG.out.tr g1) hB (cat_gr HH.out g1)).mono ?_
  rintro r w2 ⟨rfl, h2, g2⟩
  go_wp2
  go_end0
  exact ⟨rfl, h2, g2⟩
set_option maxRecDepth 100000 in
theorem kText_any (gc g : Nat) (e : Int) (x : Mx) (W0 W : World) (hM : MAt W0 g x) (hO : MxOk W0 x) (hg : Gr W0 W) (hB : W0.heap.size ≤ gc) (h : CAt W gc e) :
    Calls Tryz.prog 192 #[.pointer (some ⟨gc, 0, none⟩), .pointer (some ⟨g, 40, none⟩)] W fun r w' => r = .returned (.tuple #[]) ∧ CAt w' gc (textC x.Tx e) ∧ Gr W0 w' := by
  have c40 := (mxAt (mat_gr hM hg) hO.dig).c40
  have HH := Lib.hid h
  have HG := Lib.hid hg
  clear hM hO h hg
  by_cases h6 : 65536 < x.Tx.size
  · have h6i : (65536 : Int) < x.Tx.size := by omega
    have hx : textC x.Tx e = cw 2 e := by unfold textC; rw [if_pos h6]
    rw [hx]
    go_enter Tryz.func192, Tryz.ntmps192
    go_wp2_with fail
    refine (wrong_any gc e 2 W0 _ HG.out hB HH.out).mono ?_
    rintro r w2 ⟨rfl, h2, g2⟩
    go_wp2
    go_end0
    exact ⟨rfl, h2, g2⟩
  · have h6i : ¬ (65536 : Int) < x.Tx.size := by omega
    have hx : textC x.Tx e = e := by unfold textC; rw [if_neg h6]
    rw [hx]
    go_enter Tryz.func192, Tryz.ntmps192
    go_wp2
    go_end0
    exact ⟨rfl, HH.out, HG.out⟩
set_option maxRecDepth 100000 in
theorem kPath_any (gc g : Nat) (e : Int) (x : Mx) (W0 W : World) (hP : Pt.Mx W0) (hps : x.Pa.size < 4294967281) (hM : MAt W0 g x) (hO : MxOk W0 x) (hg : Gr W0 W) (hB : W0.heap.size ≤ gc) (h : CAt W gc e) :
    Calls Tryz.prog 189 #[.pointer (some ⟨gc, 0, none⟩), .pointer (some ⟨g, 5, none⟩)] W fun r w' => r = .returned (.tuple #[]) ∧ CAt w' gc (pathC x.Pa e) ∧ Gr W0 w' := by
  have c5 := (mxAt (mat_gr hM hg) hO.dig).c5
  have HH := Lib.hid h
  have HG := Lib.hid hg
  have HK : Hid (Calls Tryz.prog 195 #[.string x.Pa] W fun r w' => r = .returned (.int .i64 (pchk x.Pa)) ∧ Gr W w') := Lib.hid (Pt.Check_any x.Pa.data.toList W (by rw [← Lib.size_eq]; exact hps) (hP.gr hg))
  clear hM hO h hg hP
  by_cases hp : x.Pa = ⟨#[]⟩
  · rw [hp] at c5
    have hx : pathC x.Pa e = e := by unfold pathC; rw [if_pos hp]
    rw [hx]
    clear hp HK
    go_enter Tryz.func189, Tryz.ntmps189
    go_wp2
    go_end0
    exact ⟨rfl, HH.out, HG.out⟩
  · obtain ⟨n1, n2⟩ := nilList hp
    have hx : pathC x.Pa e = cw (pchk x.Pa) e := by unfold pathC; rw [if_neg hp]
    rw [hx]
    clear hp hx
    go_enter Tryz.func189, Tryz.ntmps189
    go_wp2_with fail
    refine (HK.out).mono ?_
    rintro r w1 ⟨rfl, g1⟩
    go_wp2_with fail
    refine (wrong_any gc e _ W0 w1 (HG.out.tr g1) hB (cat_gr HH.out g1)).mono ?_
    rintro r w2 ⟨rfl, h2, g2⟩
    go_wp2
    go_end0
    exact ⟨rfl, h2, g2⟩
set_option maxRecDepth 100000 in
theorem kRows_any (gc g : Nat) (e : Int) (x : Mx) (W0 W : World) (hM : MAt W0 g x) (hO : MxOk W0 x) (hg : Gr W0 W) (hB : W0.heap.size ≤ gc) (h : CAt W gc e) :
    Calls Tryz.prog 191 #[.pointer (some ⟨gc, 0, none⟩), .pointer (some ⟨g, 39, none⟩)] W fun r w' => r = .returned (.tuple #[]) ∧ CAt w' gc (rowsC x.rs e) ∧ Gr W0 w' := by
  have HH := Lib.hid h
  have HG := Lib.hid hg
  have HM := Lib.hid hM
  have HO := Lib.hid hO
  have HX : Hid (∀ W', Gr W0 W' → W'.cell? ⟨g, 39, none⟩ = some (.slice x.rA x.rs.length x.rc)) := Lib.hid (fun W' k => (mxAt (mat_gr HM.out k) HO.out.dig).c39)
  have HR := Lib.hid hO.rows
  have hma := hO.rows.1
  clear hM hO h hg HM HO
  obtain ⟨rA, hrA⟩ : ∃ r, x.rA = r := ⟨_, rfl⟩
  obtain ⟨rs, hrs⟩ : ∃ r, x.rs = r := ⟨_, rfl⟩
  obtain ⟨rc, hrc⟩ : ∃ r, x.rc = r := ⟨_, rfl⟩
  rw [hrA, hrs] at HR
  simp only [hrA, hrs, hrc] at HX
  rw [hrs] at hma ⊢
  clear hrA hrs hrc
  have c39 := HX.out _ HG.out
  by_cases h6 : 64 < rs.length
  · have h6i : (64 : Int) < rs.length := by omega
    have hx : rowsC rs e = rowsF rs (cw 2 e) := by unfold rowsC; rw [if_pos h6]
    rw [hx]
    clear hx
    go_enter Tryz.func191, Tryz.ntmps191
    go_wp2_with fail
    refine (wrong_any gc e 2 W0 _ HG.out hB HH.out).mono ?_
    rintro r w2 ⟨rfl, h2, g2⟩
    obtain ⟨e0, he0⟩ : ∃ e0, cw 2 e = e0 := ⟨_, rfl⟩
    rw [he0] at h2
    have HEQ := Lib.hid he0
    simp only [he0]
    have H2 := Lib.hid h2
    have G2 := Lib.hid g2
    replace c39 := HX.out _ g2
    clear h2 g2 he0 HH HG
    go_wp2
    go_loopw [17] (fun i wr => ∃ k : Nat, k ≤ rs.length ∧ i = .int .i64 k ∧ Hid (CAt wr gc (rowsF (rs.take k) e0)) ∧ Hid (Gr W0 wr)) (fun i _ => rs.length - (intOf i).toNat)
    case atStart => exact ⟨0, Nat.zero_le _, rfl, H2, G2⟩
    case round =>
      clear H2 G2
      obtain ⟨k, hk, rfl, H2, G2⟩ := hrel
      by_cases hlt : k < rs.length
      · have hki : (k : Int) < rs.length := by omega
        obtain ⟨ad, rfl, hc1, hd1⟩ := (HR.out.gr G2.out).2 k hlt
        have hst := rowsF_take hlt e0
        obtain ⟨d1, e1⟩ : ∃ d, rs[k] = d := ⟨_, rfl⟩
        rw [e1] at hc1 hd1 hst
        have HST := Lib.hid hst
        obtain ⟨A1, c1, l1⟩ := d1
        simp only at hc1 hd1
        have HK := Lib.hid (Check_any A1 c1 l1 _ hd1)
        clear hst hd1 e1
        go_wp2_with fail
        refine (HK.out).mono ?_
        rintro r w4 ⟨rfl, g4⟩
        go_wp2_with fail
        refine (wrong_any gc _ _ W0 w4 (G2.out.tr g4) hB (cat_gr H2.out g4)).mono ?_
        rintro r w5 ⟨rfl, h5, g5⟩
        have H5 : Hid (CAt w5 gc (rowsF (rs.take (k + 1)) e0)) := Lib.hid (by rw [HST.out]; exact h5)
        have G5 := Lib.hid g5
        clear h5 g5 g4 HK
        go_wp2
        go_roundw
        case rel => exact ⟨k + 1, by omega, by go_num, H5, G5⟩
        case measure => simp [intOf]; omega
      · have hkk : k = rs.length := by omega
        subst hkk
        have hki : ¬ (rs.length : Int) < rs.length := by omega
        rw [List.take_length] at H2
        go_wp2
        go_end0
        first
          | exact ⟨rfl, H2.out, G2.out⟩
          | exact ⟨rfl, by rw [HEQ.out]; exact H2.out, G2.out⟩
  · have h6i : ¬ (64 : Int) < rs.length := by omega
    have hx : rowsC rs e = rowsF rs e := by unfold rowsC; rw [if_neg h6]
    rw [hx]
    clear hx
    obtain ⟨e0, he0⟩ : ∃ e0, e = e0 := ⟨_, rfl⟩
    subst he0
    obtain ⟨e0, he0⟩ : ∃ e0, e = e0 := ⟨_, rfl⟩
    have H2 : Hid (CAt W gc e0) := by rw [← he0]; exact HH
    have G2 := HG
    rw [he0]
    clear he0 HH HG
    go_enter Tryz.func191, Tryz.ntmps191
    go_wp2
    go_loopw [17] (fun i wr => ∃ k : Nat, k ≤ rs.length ∧ i = .int .i64 k ∧ Hid (CAt wr gc (rowsF (rs.take k) e0)) ∧ Hid (Gr W0 wr)) (fun i _ => rs.length - (intOf i).toNat)
    case atStart => exact ⟨0, Nat.zero_le _, rfl, H2, G2⟩
    case round =>
      clear H2 G2
      obtain ⟨k, hk, rfl, H2, G2⟩ := hrel
      by_cases hlt : k < rs.length
      · have hki : (k : Int) < rs.length := by omega
        obtain ⟨ad, rfl, hc1, hd1⟩ := (HR.out.gr G2.out).2 k hlt
        have hst := rowsF_take hlt e0
        obtain ⟨d1, e1⟩ : ∃ d, rs[k] = d := ⟨_, rfl⟩
        rw [e1] at hc1 hd1 hst
        have HST := Lib.hid hst
        obtain ⟨A1, c1, l1⟩ := d1
        simp only at hc1 hd1
        have HK := Lib.hid (Check_any A1 c1 l1 _ hd1)
        clear hst hd1 e1
        go_wp2_with fail
        refine (HK.out).mono ?_
        rintro r w4 ⟨rfl, g4⟩
        go_wp2_with fail
        refine (wrong_any gc _ _ W0 w4 (G2.out.tr g4) hB (cat_gr H2.out g4)).mono ?_
        rintro r w5 ⟨rfl, h5, g5⟩
        have H5 : Hid (CAt w5 gc (rowsF (rs.take (k + 1)) e0)) := Lib.hid (by rw [HST.out]; exact h5)
        have G5 := Lib.hid g5
        clear h5 g5 g4 HK
        go_wp2
        go_roundw
        case rel => exact ⟨k + 1, by omega, by go_num, H5, G5⟩
        case measure => simp [intOf]; omega
      · have hkk : k = rs.length := by omega
        subst hkk
        have hki : ¬ (rs.length : Int) < rs.length := by omega
        rw [List.take_length] at H2
        go_wp2
        go_end0
        first
          | exact ⟨rfl, H2.out, G2.out⟩
          | exact ⟨rfl, by rw [HEQ.out]; exact H2.out, G2.out⟩
end Go.Proofs.YtfobnemocodomaaGreat
set_option linter.unusedVariables false
set_option linter.unusedSimpArgs false
set_option maxHeartbeats 8000000
namespace Go.Proofs.YtfobnemocodomaaGreat
open Go.RowKit Go.Shelf Go.Great

theorem drewC {W : World} {g : Nat} {e : Int} (h : CAt W g e) : CAt W.drew g e := cat_gr h (Gr.rfl' W).dr
theorem ownC_any (gc g : Nat) (x : Mx) (W0 W : World) (hP : Pt.Mx W0) (hps : x.Pa.size < 4294967281) (hM : MAt W0 g x) (hO : MxOk W0 x) (hg : Gr W0 W) (hB : W0.heap.size ≤ gc) (h : CAt W gc 0) :
    Calls Tryz.prog 45 #[.pointer (some ⟨g, 0, none⟩), .iface 91 (.pointer (some ⟨gc, 0, none⟩))] W fun r w' => r = .returned (.tuple #[]) ∧ CAt w' gc (fchk x) ∧ Gr W0 w' := by
  have c0 := (mxAt (mat_gr hM hg) hO.dig).c0
  by_cases h2 : x.K = 2
  · have hz : fchk x = rowsC x.rs (cw (chk x.cl) 0) := by unfold fchk; rw [if_pos h2]
    rw [hz]
    rw [h2] at c0
    refine own2_any (cRoot _) (cCtx _) (cRows _) g W (fun w' => CAt w' gc (rowsC x.rs (cw (chk x.cl) 0)) ∧ Gr W0 w') c0 ?_
    unfold Then
    refine (kRoot_any gc _ _).mono ?_
    rintro r w1 ⟨rfl, rfl⟩
    refine ⟨rfl, ?_⟩
    refine (kCtx_any gc g 0 x W0 _ hM hO hg.dr.dr hB (drewC (drewC h))).mono ?_
    rintro r w2 ⟨rfl, h2, g2⟩
    refine ⟨rfl, ?_⟩
    refine (kRows_any gc g _ x W0 _ hM hO g2.dr hB (drewC h2)).mono ?_
    rintro r w3 ⟨rfl, h3, g3⟩
    exact ⟨rfl, h3, g3⟩
  by_cases h3 : x.K = 3
  · have hz : fchk x = pathC x.Pa 0 := by unfold fchk; rw [if_neg h2, if_pos h3]
    rw [hz]
    rw [h3] at c0
    refine own3_any (cRoot _) (cPath _) g W (fun w' => CAt w' gc (pathC x.Pa 0) ∧ Gr W0 w') c0 ?_
    unfold Then
    refine (kRoot_any gc _ _).mono ?_
    rintro r w1 ⟨rfl, rfl⟩
    refine ⟨rfl, ?_⟩
    refine (kPath_any gc g 0 x W0 _ hP hps hM hO hg.dr.dr hB (drewC (drewC h))).mono ?_
    rintro r w2 ⟨rfl, h2, g2⟩
    exact ⟨rfl, h2, g2⟩
  by_cases h4 : x.K = 4
  · have hz : fchk x = textC x.Tx (pathC x.Pa 0) := by unfold fchk; rw [if_neg h2, if_neg h3, if_pos h4]
    rw [hz]
    rw [h4] at c0
    refine own4_any (cPath _) (cText _) g W (fun w' => CAt w' gc (textC x.Tx (pathC x.Pa 0)) ∧ Gr W0 w') c0 ?_
    unfold Then
    refine (kPath_any gc g 0 x W0 _ hP hps hM hO hg.dr hB (drewC h)).mono ?_
    rintro r w1 ⟨rfl, h1, g1⟩
    refine ⟨rfl, ?_⟩
    refine (kText_any gc g _ x W0 _ hM hO g1.dr hB (drewC h1)).mono ?_
    rintro r w2 ⟨rfl, h2, g2⟩
    exact ⟨rfl, h2, g2⟩
  by_cases h6 : x.K = 6
  · have hz : fchk x = 0 := by unfold fchk; rw [if_neg h2, if_neg h3, if_neg h4]
    rw [hz]
    rw [h6] at c0
    refine own6_any (cTurn _) g W (fun w' => CAt w' gc 0 ∧ Gr W0 w') c0 ?_
    unfold Then
    refine (kTurn_any gc _ _).mono ?_
    rintro r w1 ⟨rfl, rfl⟩
    exact ⟨rfl, drewC h, hg.dr⟩
  have hz : fchk x = 0 := by unfold fchk; rw [if_neg h2, if_neg h3, if_neg h4]
  rw [hz]
  refine (ownNone_any x.K g _ W c0 ⟨h2, h3, h4, h6⟩).mono ?_
  rintro r w' ⟨rfl, rfl⟩
  exact ⟨rfl, h, hg⟩
/-- why a message may not be -/
def mChk (x : Mx) : Int :=
  if x.K < 1 ∨ 6 < x.K then 15
  else if peerB x.F = false ∨ peerB x.To = false ∨ x.F = x.To then 11
  else if x.Sd < 1 ∨ 1048576 < x.Sd then 12
  else if bareB (zOf x) = false then 7 else fchk x
theorem zOf_dig (x : Mx) (h : x.R.length = 32) : (zOf x).R.length = 32 := by
  unfold zOf
  split
  · exact Z32L_len
  split
  · exact Z32L_len
  split
  · exact h
  split
  · exact h
  · exact h
set_option maxRecDepth 100000 in
theorem mCheck_any (x : Mx) (w : World) (hP : Pt.Mx w) (hps : x.Pa.size < 4294967281) (hx : MxOk w x) :
    Calls Tryz.prog 19 #[.agg x.cells] w fun r w' => r = .returned (.int .i64 (mChk x)) ∧ Gr w w' := by
  have HB := Lib.hid (World.alloc_heap_new w (.cells x.cells 37))
  have HG : Hid (Gr w (w.alloc (.cells x.cells 37))) := Lib.hid ((Gr.rfl' w).al _)
  have HA := mxAt HB.out hx.dig
  have c0 := HA.c0
  have c1 := HA.c1
  have c2 := HA.c2
  have c3 := HA.c3
  have HXO := Lib.hid (hx.gr HG.out)
  have HP := Lib.hid (hP.gr HG.out)
  clear HA hx hP
  generalize hW : w.alloc (.cells x.cells 37) = W at HB HG c0 c1 c2 c3 HXO HP
  by_cases k1 : x.K < 1
  · have hv : Hid (mChk x = 15) := Lib.hid (by unfold mChk; rw [if_pos (Or.inl k1)])
    go_enter Tryz.func19, Tryz.ntmps19
    go_wp2
    go_ret
    rw [hv.out]
    exact ⟨rfl, HG.out⟩
  by_cases k2 : 6 < x.K
  · have hv : Hid (mChk x = 15) := Lib.hid (by unfold mChk; rw [if_pos (Or.inr k2)])
    go_enter Tryz.func19, Tryz.ntmps19
    go_wp2
    go_ret
    rw [hv.out]
    exact ⟨rfl, HG.out⟩
  have K0 : Hid (¬ (x.K < 1 ∨ 6 < x.K)) := Lib.hid (by omega)
  cases hF : peerB x.F with
  | false =>
    have hv : Hid (mChk x = 11) := Lib.hid (by unfold mChk; rw [if_neg K0.out, if_pos (Or.inl hF)])
    go_enter Tryz.func19, Tryz.ntmps19
    go_wp2_with fail
    refine (peer_any x.F _).mono ?_
    rintro r w1 ⟨rfl, rfl⟩
    rw [hF]
    go_wp2
    go_ret
    rw [hv.out]
    exact ⟨rfl, HG.out⟩
  | true =>
  cases hT : peerB x.To with
  | false =>
    have hv : Hid (mChk x = 11) := Lib.hid (by unfold mChk; rw [if_neg K0.out, if_pos (Or.inr (Or.inl hT))])
    go_enter Tryz.func19, Tryz.ntmps19
    go_wp2_with fail
    refine (peer_any x.F _).mono ?_
    rintro r w1 ⟨rfl, rfl⟩
    rw [hF]
    go_wp2_with fail
    refine (peer_any x.To _).mono ?_
    rintro r w1 ⟨rfl, rfl⟩
    rw [hT]
    go_wp2
    go_ret
    rw [hv.out]
    exact ⟨rfl, HG.out⟩
  | true =>
  by_cases hFT : x.F = x.To
  · have hv : Hid (mChk x = 11) := Lib.hid (by unfold mChk; rw [if_neg K0.out, if_pos (Or.inr (Or.inr hFT))])
    rw [← hFT] at c2 hT
    clear hFT
    go_enter Tryz.func19, Tryz.ntmps19
    go_wp2_with fail
    refine (peer_any x.F _).mono ?_
    rintro r w1 ⟨rfl, rfl⟩
    rw [hF]
    go_wp2_with fail
    refine (peer_any x.F _).mono ?_
    rintro r w1 ⟨rfl, rfl⟩
    rw [hF]
    go_wp2
    go_ret
    rw [hv.out]
    exact ⟨rfl, HG.out⟩
  have P0 : Hid (¬ (peerB x.F = false ∨ peerB x.To = false ∨ x.F = x.To)) := Lib.hid (by rw [hF, hT]; simp [hFT])
  have hFTb : (x.F == x.To) = false := by simpa using hFT
  by_cases s1 : x.Sd < 1
  · have hv : Hid (mChk x = 12) := Lib.hid (by unfold mChk; rw [if_neg K0.out, if_neg P0.out, if_pos (Or.inl s1)])
    go_enter Tryz.func19, Tryz.ntmps19
    go_wp2_with fail
    refine (peer_any x.F _).mono ?_
    rintro r w1 ⟨rfl, rfl⟩
    rw [hF]
    go_wp2_with fail
    refine (peer_any x.To _).mono ?_
    rintro r w1 ⟨rfl, rfl⟩
    rw [hT]
    go_wp2
    go_ret
    rw [hv.out]
    exact ⟨rfl, HG.out⟩
  by_cases s2 : 1048576 < x.Sd
  · have hv : Hid (mChk x = 12) := Lib.hid (by unfold mChk; rw [if_neg K0.out, if_neg P0.out, if_pos (Or.inr s2)])
    go_enter Tryz.func19, Tryz.ntmps19
    go_wp2_with fail
    refine (peer_any x.F _).mono ?_
    rintro r w1 ⟨rfl, rfl⟩
    rw [hF]
    go_wp2_with fail
    refine (peer_any x.To _).mono ?_
    rintro r w1 ⟨rfl, rfl⟩
    rw [hT]
    go_wp2
    go_ret
    rw [hv.out]
    exact ⟨rfl, HG.out⟩
  have S0 : Hid (¬ (x.Sd < 1 ∨ 1048576 < x.Sd)) := Lib.hid (by omega)
  have HGW := Lib.hid hW
  go_enter Tryz.func19, Tryz.ntmps19
  go_wp2_with fail
  refine (peer_any x.F _).mono ?_
  rintro r w1 ⟨rfl, rfl⟩
  rw [hF]
  go_wp2_with fail
  refine (peer_any x.To _).mono ?_
  rintro r w1 ⟨rfl, rfl⟩
  rw [hT]
  go_upto_region 8 with (first
    | refine loadM x HXO.out.dig rfl (.tmp 1) rfl w.heap.size rfl HB.out ?_
    | refine allocM rfl rfl ?_
    | (refine storeM x HXO.out.dig rfl (.tmp 3) _ rfl rfl rfl rfl ?_; intro w2 hx1 hg1; obtain ⟨g2, hg2⟩ : ∃ g, w1.heap.size = g := ⟨_, rfl⟩; rw [hg2] at hx1 ⊢; have HB2 := Lib.hid hx1; have HG2 := Lib.hid hg1; have HS2 := Lib.hid hg2; clear hx1 hg1 hg2))
  have HZ := Lib.hid (ownZ_any g2 x w2 HB2.out HXO.out.dig)
  clear c0 c1 c2 c3 hF hT hFTb hFT k1 k2 s1 s2 hW HGW
  go_wp2_with fail
  refine (HZ.out).mono ?_
  rintro r w3 ⟨rfl, hz3, m3⟩
  have HB3 := Lib.hid hz3
  have HG3 := Lib.hid (m3.below HG2.out (by have := HS2.out; omega))
  clear hz3 m3 HZ
  go_wp2_with (first
    | refine loadM (zOf x) (zOf_dig x HXO.out.dig) rfl (.tmp 3) rfl g2 rfl HB3.out ?_)
  refine (bare_any (zOf x) _ (zOf_dig x HXO.out.dig)).mono ?_
  rintro r w4 ⟨rfl, g4⟩
  have HG4 := Lib.hid (HG3.out.tr g4)
  clear g4 HB3 HG3
  cases hb : bareB (zOf x) with
  | false =>
    have hv : Hid (mChk x = 7) := Lib.hid (by unfold mChk; rw [if_neg K0.out, if_neg P0.out, if_neg S0.out, if_pos hb])
    clear hb
    go_wp2
    go_ret
    rw [hv.out]
    exact ⟨rfl, HG.out.tr HG4.out⟩
  | true =>
    have hv : Hid (mChk x = fchk x) := Lib.hid (by unfold mChk; rw [if_neg K0.out, if_neg P0.out, if_neg S0.out, if_neg (by rw [hb]; simp)])
    clear hb
    have HC0 : Hid (CAt (w4.alloc (.cells #[.int .i64 0] 93)) w4.heap.size 0) := Lib.hid (World.alloc_heap_new w4 _)
    have HGA : Hid (Gr w4 (w4.alloc (.cells #[.int .i64 0] 93))) := Lib.hid ((Gr.rfl' w4).al _)
    have HOC := Lib.hid (ownC_any w4.heap.size w.heap.size x w1 _ HP.out hps HB.out HXO.out (HG4.out.tr HGA.out) HG4.out.size HC0.out)
    go_wp2_with fail
    refine (HOC.out).mono ?_
    rintro r w5 ⟨rfl, h5, g5⟩
    have q0 := (cat_cell h5).1
    go_wp2
    go_ret
    rw [hv.out]
    exact ⟨rfl, HG.out.tr g5⟩
end Go.Proofs.YtfobnemocodomaaGreat
set_option linter.unusedVariables false
set_option linter.unusedSimpArgs false
set_option maxHeartbeats 8000000
namespace Go.Proofs.YtfobnemocodomaaGreat
open Go.RowKit Go.Shelf Go.Great

/-- what is wrong with what all messages have -/
def hChk (x : Mx) : Int :=
  if x.K < 1 ∨ 6 < x.K then 15
  else if peerB x.F = false ∨ peerB x.To = false ∨ x.F = x.To then 11
  else if x.Sd < 1 ∨ 1048576 < x.Sd then 12 else 0
set_option maxRecDepth 100000 in
theorem head_any (x : Mx) (w : World) (hx : x.R.length = 32) :
    Calls Tryz.prog 82 #[.agg x.cells] w fun r w' => r = .returned (.int .i64 (hChk x)) ∧ Gr w w' := by
  have HG : Hid (Gr w (w.alloc (.cells x.cells 37))) := Lib.hid ((Gr.rfl' w).al _)
  have HA := mxAt (World.alloc_heap_new w (.cells x.cells 37)) hx
  have c0 := HA.c0
  have c1 := HA.c1
  have c2 := HA.c2
  have c3 := HA.c3
  clear HA hx
  generalize hW : w.alloc (.cells x.cells 37) = W at HG c0 c1 c2 c3
  by_cases k1 : x.K < 1
  · have hv : Hid (hChk x = 15) := Lib.hid (by unfold hChk; rw [if_pos (Or.inl k1)])
    go_enter Tryz.func82, Tryz.ntmps82
    go_wp2
    go_ret
    rw [hv.out]
    exact ⟨rfl, HG.out⟩
  by_cases k2 : 6 < x.K
  · have hv : Hid (hChk x = 15) := Lib.hid (by unfold hChk; rw [if_pos (Or.inr k2)])
    go_enter Tryz.func82, Tryz.ntmps82
    go_wp2
    go_ret
    rw [hv.out]
    exact ⟨rfl, HG.out⟩
  have K0 : Hid (¬ (x.K < 1 ∨ 6 < x.K)) := Lib.hid (by omega)
  by_cases f1 : x.F < 0
  · have hv : Hid (hChk x = 11) := Lib.hid (by unfold hChk; rw [if_neg K0.out, if_pos (Or.inl (by simp [peerB]; omega))])
    go_enter Tryz.func82, Tryz.ntmps82
    go_wp2
    go_ret
    rw [hv.out]
    exact ⟨rfl, HG.out⟩
  by_cases f2 : 63 < x.F
  · have hv : Hid (hChk x = 11) := Lib.hid (by unfold hChk; rw [if_neg K0.out, if_pos (Or.inl (by simp [peerB]; omega))])
    go_enter Tryz.func82, Tryz.ntmps82
    go_wp2
    go_ret
    rw [hv.out]
    exact ⟨rfl, HG.out⟩
  by_cases t1 : x.To < 0
  · have hv : Hid (hChk x = 11) := Lib.hid (by unfold hChk; rw [if_neg K0.out, if_pos (Or.inr (Or.inl (by simp [peerB]; omega)))])
    go_enter Tryz.func82, Tryz.ntmps82
    go_wp2
    go_ret
    rw [hv.out]
    exact ⟨rfl, HG.out⟩
  by_cases t2 : 63 < x.To
  · have hv : Hid (hChk x = 11) := Lib.hid (by unfold hChk; rw [if_neg K0.out, if_pos (Or.inr (Or.inl (by simp [peerB]; omega)))])
    go_enter Tryz.func82, Tryz.ntmps82
    go_wp2
    go_ret
    rw [hv.out]
    exact ⟨rfl, HG.out⟩
  by_cases hFT : x.F = x.To
  · have hv : Hid (hChk x = 11) := Lib.hid (by unfold hChk; rw [if_neg K0.out, if_pos (Or.inr (Or.inr hFT))])
    rw [← hFT] at c2
    clear hFT
    go_enter Tryz.func82, Tryz.ntmps82
    go_wp2
    go_ret
    rw [hv.out]
    exact ⟨rfl, HG.out⟩
  have P0 : Hid (¬ (peerB x.F = false ∨ peerB x.To = false ∨ x.F = x.To)) := Lib.hid (by
    rintro (h | h | h)
    · simp [peerB] at h; omega
    · simp [peerB] at h; omega
    · exact hFT h)
  have hFTb : (x.F == x.To) = false := by simpa using hFT
  by_cases s1 : x.Sd < 1
  · have hv : Hid (hChk x = 12) := Lib.hid (by unfold hChk; rw [if_neg K0.out, if_neg P0.out, if_pos (Or.inl s1)])
    go_enter Tryz.func82, Tryz.ntmps82
    go_wp2
    go_ret
    rw [hv.out]
    exact ⟨rfl, HG.out⟩
  by_cases s2 : 1048576 < x.Sd
  · have hv : Hid (hChk x = 12) := Lib.hid (by unfold hChk; rw [if_neg K0.out, if_neg P0.out, if_pos (Or.inr s2)])
    go_enter Tryz.func82, Tryz.ntmps82
    go_wp2
    go_ret
    rw [hv.out]
    exact ⟨rfl, HG.out⟩
  have S0 : Hid (¬ (x.Sd < 1 ∨ 1048576 < x.Sd)) := Lib.hid (by omega)
  have hv : Hid (hChk x = 0) := Lib.hid (by unfold hChk; rw [if_neg K0.out, if_neg P0.out, if_neg S0.out])
  go_enter Tryz.func82, Tryz.ntmps82
  go_wp2
  go_ret
  rw [hv.out]
  exact ⟨rfl, HG.out⟩
theorem hChk_zero {x : Mx} (h : hChk x = 0) : 1 ≤ x.K ∧ x.K ≤ 6 ∧ mChk x = if bareB (zOf x) = false then 7 else fchk x := by
  unfold hChk at h
  unfold mChk
  by_cases h1 : x.K < 1 ∨ 6 < x.K
  · rw [if_pos h1] at h; cases h
  · rw [if_neg h1] at h ⊢
    by_cases h2 : peerB x.F = false ∨ peerB x.To = false ∨ x.F = x.To
    · rw [if_pos h2] at h; cases h
    · rw [if_neg h2] at h ⊢
      by_cases h3 : x.Sd < 1 ∨ 1048576 < x.Sd
      · rw [if_pos h3] at h; cases h
      · rw [if_neg h3]
        exact ⟨by omega, by omega, rfl⟩
theorem hChk_ne {x : Mx} (h : hChk x ≠ 0) : mChk x = hChk x := by
  unfold hChk at h ⊢
  unfold mChk
  by_cases h1 : x.K < 1 ∨ 6 < x.K
  · rw [if_pos h1, if_pos h1]
  · rw [if_neg h1] at h ⊢
    rw [if_neg h1]
    by_cases h2 : peerB x.F = false ∨ peerB x.To = false ∨ x.F = x.To
    · rw [if_pos h2, if_pos h2]
    · rw [if_neg h2] at h ⊢
      rw [if_neg h2]
      by_cases h3 : x.Sd < 1 ∨ 1048576 < x.Sd
      · rw [if_pos h3, if_pos h3]
      · rw [if_neg h3] at h; exact absurd rfl h
end Go.Proofs.YtfobnemocodomaaGreat
set_option linter.unusedVariables false
set_option linter.unusedSimpArgs false
set_option maxHeartbeats 16000000
namespace Go.Proofs.YtfobnemocodomaaGreat
open Go.RowKit Go.Shelf Go.Great

theorem rowsF_ne (l : List DRow) : ∀ {e : Int}, e ≠ 0 → rowsF l e = e := by
  induction l with
  | nil => intro e _; rfl
  | cons d r ih =>
    intro e he
    have h1 : cw (chk d.l) e = e := by unfold cw; rw [if_neg he]
    show rowsF r (cw (chk d.l) e) = e
    rw [h1]; exact ih he
theorem rowsC_ne (l : List DRow) {e : Int} (he : e ≠ 0) : rowsC l e = e := by
  unfold rowsC
  have h1 : cw 2 e = e := by unfold cw; rw [if_neg he]
  rw [h1, ite_self]
  exact rowsF_ne l he
theorem cw0 (f : Int) : cw f 0 = f := by unfold cw; rw [if_pos rfl]
/-- the document's order behind the form -/
def restC (x : Mx) : Int :=
  if pathC x.Pa 0 ≠ 0 then pathC x.Pa 0
  else if chk x.cl ≠ 0 then chk x.cl
  else if 64 < x.rs.length then 2
  else if rowsF x.rs 0 ≠ 0 then rowsF x.rs 0
  else if 65536 < x.Tx.size then 2 else 0
theorem pathC_nil : pathC ⟨#[]⟩ 0 = 0 := by unfold pathC; rw [if_pos rfl]
theorem bareK1 {x : Mx} (h : x.K = 1) : bareB (zOf x) = (decide (x.R = Z32L) && (decide (x.Pa = ⟨#[]⟩) && (decide (x.cl.length = 0) && (decide (x.rs.length = 0) && (decide (x.Tx = ⟨#[]⟩) && (!x.Tn)))))) := by
  have hz : zOf x = x := by unfold zOf; rw [h]; rfl
  rw [hz]
  show (decide (x.R = Z32L) && (decide (x.Pa = ⟨#[]⟩) && (decide (x.cl.length = 0) && (decide (x.rs.length = 0) && (decide (x.Tx = ⟨#[]⟩) && (!x.Tn)))))) = _
  simp
theorem bareK5 {x : Mx} (h : x.K = 5) : bareB (zOf x) = (decide (x.R = Z32L) && (decide (x.Pa = ⟨#[]⟩) && (decide (x.cl.length = 0) && (decide (x.rs.length = 0) && (decide (x.Tx = ⟨#[]⟩) && (!x.Tn)))))) := by
  have hz : zOf x = x := by unfold zOf; rw [h]; rfl
  rw [hz]
  show (decide (x.R = Z32L) && (decide (x.Pa = ⟨#[]⟩) && (decide (x.cl.length = 0) && (decide (x.rs.length = 0) && (decide (x.Tx = ⟨#[]⟩) && (!x.Tn)))))) = _
  simp
theorem bareK2 {x : Mx} (h : x.K = 2) : bareB (zOf x) = (decide (x.Pa = ⟨#[]⟩) && (decide (x.Tx = ⟨#[]⟩) && (!x.Tn))) := by
  have hz : zOf x = zW (zC (zR x)) := by unfold zOf; rw [h]; rfl
  rw [hz]
  show (decide (Z32L = Z32L) && (decide (x.Pa = ⟨#[]⟩) && (decide (([] : List Dot).length = 0) && (decide (([] : List DRow).length = 0) && (decide (x.Tx = ⟨#[]⟩) && (!x.Tn)))))) = _
  simp
theorem bareK3 {x : Mx} (h : x.K = 3) : bareB (zOf x) = (decide (x.cl.length = 0) && (decide (x.rs.length = 0) && (decide (x.Tx = ⟨#[]⟩) && (!x.Tn)))) := by
  have hz : zOf x = zP (zR x) := by unfold zOf; rw [h]; rfl
  rw [hz]
  show (decide (Z32L = Z32L) && (decide ((⟨#[]⟩ : ByteArray) = ⟨#[]⟩) && (decide (x.cl.length = 0) && (decide (x.rs.length = 0) && (decide (x.Tx = ⟨#[]⟩) && (!x.Tn)))))) = _
  simp
theorem bareK4 {x : Mx} (h : x.K = 4) : bareB (zOf x) = (decide (x.R = Z32L) && (decide (x.cl.length = 0) && (decide (x.rs.length = 0) && (!x.Tn)))) := by
  have hz : zOf x = zX (zP x) := by unfold zOf; rw [h]; rfl
  rw [hz]
  show (decide (x.R = Z32L) && (decide ((⟨#[]⟩ : ByteArray) = ⟨#[]⟩) && (decide (x.cl.length = 0) && (decide (x.rs.length = 0) && (decide ((⟨#[]⟩ : ByteArray) = ⟨#[]⟩) && (!x.Tn)))))) = _
  simp
theorem bareK6 {x : Mx} (h : x.K = 6) : bareB (zOf x) = (decide (x.R = Z32L) && (decide (x.Pa = ⟨#[]⟩) && (decide (x.cl.length = 0) && (decide (x.rs.length = 0) && (decide (x.Tx = ⟨#[]⟩)))))) := by
  have hz : zOf x = zT x := by unfold zOf; rw [h]; rfl
  rw [hz]
  show (decide (x.R = Z32L) && (decide (x.Pa = ⟨#[]⟩) && (decide (x.cl.length = 0) && (decide (x.rs.length = 0) && (decide (x.Tx = ⟨#[]⟩) && (!false)))))) = _
  simp
theorem restC_eq {x : Mx} (h1 : 1 ≤ x.K) (h6 : x.K ≤ 6) (hb : bareB (zOf x) = true) : restC x = fchk x := by
  have hcl : x.cl.length = 0 → chk x.cl = 0 := fun h => by rw [List.eq_nil_of_length_eq_zero h]; rfl
  have hrs : x.rs.length = 0 → rowsF x.rs 0 = 0 ∧ ¬ 64 < x.rs.length := fun h => by rw [List.eq_nil_of_length_eq_zero h]; exact ⟨rfl, by simp⟩
  have htx : x.Tx = ⟨#[]⟩ → ¬ 65536 < x.Tx.size := fun h => by rw [h]; decide
  rcases (by omega : x.K = 1 ∨ x.K = 2 ∨ x.K = 3 ∨ x.K = 4 ∨ x.K = 5 ∨ x.K = 6) with k | k | k | k | k | k
  · rw [bareK1 k] at hb
    simp only [Bool.and_eq_true, decide_eq_true_eq] at hb
    obtain ⟨hR, hPa, hcl_, hrs_, hTx, hTn⟩ := hb
    have hf : fchk x = 0 := by unfold fchk; rw [if_neg (by omega), if_neg (by omega), if_neg (by omega)]
    rw [hf]
    unfold restC
    rw [hPa, pathC_nil, if_neg (by simp), if_neg (by simpa using hcl hcl_), if_neg (hrs hrs_).2, if_neg (by simpa using (hrs hrs_).1), if_neg (htx hTx)]
  · rw [bareK2 k] at hb
    simp only [Bool.and_eq_true, decide_eq_true_eq] at hb
    obtain ⟨hPa, hTx, hTn⟩ := hb
    have hf : fchk x = rowsC x.rs (cw (chk x.cl) 0) := by unfold fchk; rw [if_pos k]
    rw [hf]
    unfold restC
    rw [hPa, pathC_nil, if_neg (by simp), cw0]
    by_cases hc : chk x.cl = 0
    · rw [if_neg (by simpa using hc), hc]
      unfold rowsC
      by_cases h64 : 64 < x.rs.length
      · rw [if_pos h64, if_pos h64, cw0, rowsF_ne _ (by decide)]
      · rw [if_neg h64, if_neg h64]
        by_cases hr : rowsF x.rs 0 = 0
        · rw [if_neg (by simpa using hr), if_neg (htx hTx), hr]
        · rw [if_pos hr]
    · rw [if_pos hc, rowsC_ne _ hc]
  · rw [bareK3 k] at hb
    simp only [Bool.and_eq_true, decide_eq_true_eq] at hb
    obtain ⟨hcl_, hrs_, hTx, hTn⟩ := hb
    have hf : fchk x = pathC x.Pa 0 := by unfold fchk; rw [if_neg (by omega), if_pos k]
    rw [hf]
    unfold restC
    by_cases hp : pathC x.Pa 0 = 0
    · rw [if_neg (by simpa using hp), if_neg (by simpa using hcl hcl_), if_neg (hrs hrs_).2, if_neg (by simpa using (hrs hrs_).1), if_neg (htx hTx), hp]
    · rw [if_pos hp]
  · rw [bareK4 k] at hb
    simp only [Bool.and_eq_true, decide_eq_true_eq] at hb
    obtain ⟨hR, hcl_, hrs_, hTn⟩ := hb
    have hf : fchk x = textC x.Tx (pathC x.Pa 0) := by unfold fchk; rw [if_neg (by omega), if_neg (by omega), if_pos k]
    rw [hf]
    unfold restC
    unfold textC
    by_cases hp : pathC x.Pa 0 = 0
    · rw [if_neg (by simpa using hp), if_neg (by simpa using hcl hcl_), if_neg (hrs hrs_).2, if_neg (by simpa using (hrs hrs_).1), hp, cw0]
    · have hc2 : cw 2 (pathC x.Pa 0) = pathC x.Pa 0 := by unfold cw; rw [if_neg hp]
      rw [if_pos hp, hc2, ite_self]
  · rw [bareK5 k] at hb
    simp only [Bool.and_eq_true, decide_eq_true_eq] at hb
    obtain ⟨hR, hPa, hcl_, hrs_, hTx, hTn⟩ := hb
    have hf : fchk x = 0 := by unfold fchk; rw [if_neg (by omega), if_neg (by omega), if_neg (by omega)]
    rw [hf]
    unfold restC
    rw [hPa, pathC_nil, if_neg (by simp), if_neg (by simpa using hcl hcl_), if_neg (hrs hrs_).2, if_neg (by simpa using (hrs hrs_).1), if_neg (htx hTx)]
  · rw [bareK6 k] at hb
    simp only [Bool.and_eq_true, decide_eq_true_eq] at hb
    obtain ⟨hR, hPa, hcl_, hrs_, hTx⟩ := hb
    have hf : fchk x = 0 := by unfold fchk; rw [if_neg (by omega), if_neg (by omega), if_neg (by omega)]
    rw [hf]
    unfold restC
    rw [hPa, pathC_nil, if_neg (by simp), if_neg (by simpa using hcl hcl_), if_neg (hrs hrs_).2, if_neg (by simpa using (hrs hrs_).1), if_neg (htx hTx)]
end Go.Proofs.YtfobnemocodomaaGreat
