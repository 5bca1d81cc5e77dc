/- hearsaylaw10.CoderBack. -/
import Derived.Test.YtgbpolejjfipgaaLwC
import Derived.Test.YtgbpolejjfipgaaLwD
import Derived.Test.YtgbpolejjfipgaaBackP
set_option linter.unusedVariables false
set_option linter.unusedSimpArgs false
set_option maxHeartbeats 800000
namespace Go.Proofs.Ytgbpolejjfipgaa
open Go.RowKit Go.Shelf Go.Great

def enc (x : Pc) : List UInt8 :=
  if x.K = 0 then (putS x.N).data.toList
  else if x.K = 1 then (putS x.S.size).data.toList ++ x.S.data.toList
  else if x.K = 2 then [if (x.N == 1) = true then 1 else 0]
  else if x.K = 3 then x.D
  else []
def good (x : Pc) : Prop := (x.K = 0 → numOk x.N = true) ∧ (x.K = 1 → x.S.size ≤ 65536)
theorem wput_ok {is : Bool} {t : List UInt8} {s : List UInt8 × Int} (h : (wput is t s).2 = 0) : s.2 = 0 ∧ is = true ∧ (wput is t s).1 = s.1 ++ t := by
  unfold wput at h ⊢
  by_cases h0 : s.2 = 0
  · rw [if_neg (by simpa using h0)] at h ⊢
    cases is with
    | true => exact ⟨h0, rfl, by simp⟩
    | false => simp at h
  · rw [if_pos h0] at h; exact absurd h h0
theorem wfail_ok {f : Int} {s : List UInt8 × Int} (h : (wfail f s).2 = 0) : s.2 = 0 ∧ (wfail f s).1 = s.1 := by
  unfold wfail at h ⊢
  by_cases h0 : s.2 = 0
  · rw [if_neg (by simpa using h0)]
    exact ⟨h0, rfl⟩
  · rw [if_pos h0] at h; exact absurd h h0
theorem pput_ok {x : Pc} {s : List UInt8 × Int} (h : (pput x s).2 = 0) : s.2 = 0 ∧ good x ∧ (pput x s).1 = s.1 ++ enc x := by
  unfold pput at h ⊢
  unfold enc good
  by_cases e0 : x.K = 0
  · simp only [if_pos e0] at h ⊢
    obtain ⟨h1, h2, h3⟩ := wput_ok h
    exact ⟨h1, ⟨fun _ => h2, fun h => by omega⟩, h3⟩
  simp only [if_neg e0] at h ⊢
  by_cases e1 : x.K = 1
  · simp only [if_pos e1] at h ⊢
    obtain ⟨h1, h2, h3⟩ := wput_ok h
    exact ⟨h1, ⟨fun h => absurd h e0, fun _ => of_decide_eq_true h2⟩, h3⟩
  simp only [if_neg e1] at h ⊢
  have hg : (x.K = 0 → numOk x.N = true) ∧ (x.K = 1 → x.S.size ≤ 65536) := ⟨fun h => absurd h e0, fun h => absurd h e1⟩
  by_cases e2 : x.K = 2
  · simp only [if_pos e2] at h ⊢
    obtain ⟨h1, h2, h3⟩ := wput_ok h
    exact ⟨h1, hg, h3⟩
  simp only [if_neg e2] at h ⊢
  by_cases e3 : x.K = 3
  · simp only [if_pos e3] at h ⊢
    obtain ⟨h1, h2, h3⟩ := wput_ok h
    exact ⟨h1, hg, h3⟩
  simp only [if_neg e3] at h ⊢
  by_cases e4 : x.K = 4
  · simp only [if_pos e4] at h ⊢
    obtain ⟨h1, h3⟩ := wfail_ok h
    exact ⟨h1, hg, by rw [h3]; simp⟩
  · simp only [if_neg e4] at h ⊢
    exact ⟨h, hg, by simp⟩
def sts (l : List Pc) : List UInt8 × Int := l.foldl (fun s x => pput x s) ([], 0)
theorem sts_take {l : List Pc} {k : Nat} (h : k < l.length) : sts (l.take (k + 1)) = pput l[k] (sts (l.take k)) := by
  rw [List.take_succ_eq_append_getElem h]
  simp only [sts, List.foldl_append, List.foldl_cons, List.foldl_nil]
theorem sts_len (l : List Pc) (hl : ∀ i (h : i < l.length), l[i].ok) : ∀ k, k ≤ l.length → (sts (l.take k)).1.length ≤ 65541 * k
  | 0, _ => by simp [sts]
  | k + 1, h => by
    rw [sts_take (by omega)]
    have := pput_len l[k] (hl k (by omega)) (sts (l.take k))
    have := sts_len l hl k (by omega)
    omega
def encs (l : List Pc) : List UInt8 := l.flatMap enc
theorem foldl_ok : ∀ (l : List Pc) (s : List UInt8 × Int), (l.foldl (fun s x => pput x s) s).2 = 0 → s.2 = 0 ∧ (∀ x ∈ l, good x) ∧ (l.foldl (fun s x => pput x s) s).1 = s.1 ++ encs l
  | [], s, h => ⟨h, by simp, by simp [encs]⟩
  | x :: r, s, h => by
    obtain ⟨h1, h2, h3⟩ := foldl_ok r (pput x s) h
    obtain ⟨h4, h5, h6⟩ := pput_ok h1
    refine ⟨h4, fun y hy => ?_, ?_⟩
    · rcases List.mem_cons.1 hy with rfl | hy
      · exact h5
      · exact h2 y hy
    · show (r.foldl _ (pput x s)).1 = _
      rw [h3, h6]
      simp [encs]
theorem encs_drop {l : List Pc} {k : Nat} (h : k < l.length) : encs (l.drop k) = enc l[k] ++ encs (l.drop (k + 1)) := by
  rw [List.drop_eq_getElem_cons h]; rfl
theorem encs_len (l : List Pc) (k : Nat) : (encs (l.drop k)).length ≤ (encs l).length := by
  have : encs l = encs (l.take k) ++ encs (l.drop k) := by simp only [encs, ← List.flatMap_append, List.take_append_drop]
  rw [this, List.length_append]; omega
theorem enc_0 {x : Pc} (h : x.K = 0) : enc x = (putS x.N).data.toList := by unfold enc; rw [if_pos h]
theorem enc_1 {x : Pc} (h : x.K = 1) : enc x = (putS x.S.size).data.toList ++ x.S.data.toList := by unfold enc; rw [if_neg (by omega), if_pos h]
theorem enc_2 {x : Pc} (h : x.K = 2) : enc x = [if (x.N == 1) = true then 1 else 0] := by unfold enc; rw [if_neg (by omega), if_neg (by omega), if_pos h]
theorem enc_3 {x : Pc} (h : x.K = 3) : enc x = x.D := by unfold enc; rw [if_neg (by omega), if_neg (by omega), if_neg (by omega), if_pos h]
theorem enc_4 {x : Pc} (h0 : x.K ≠ 0) (h1 : x.K ≠ 1) (h2 : x.K ≠ 2) (h3 : x.K ≠ 3) : enc x = [] := by unfold enc; rw [if_neg h0, if_neg h1, if_neg h2, if_neg h3]
theorem Rm.cell {c : Nat} {w w' : World} (m : Rm c w w') {p : Addr} {v : Value} (h : w.cell? p = some v) (hp : p.block ≠ c) : w'.cell? p = some v :=
  (World.cell?_of_block (m.keep _ (World.block_lt_of_cell? w p h) hp)).trans h
theorem Rm.range {c : Nat} {w w' : World} (m : Rm c w w') {b o : Nat} {cs : List Value} (h : w.rangeAt b o cs) (hp : b ≠ c) : w'.rangeAt b o cs :=
  fun j v hj => m.cell (h j v hj) hp
theorem Pcs.oks {w : World} {A : Option Addr} {l : List Pc} (h : Pcs w A l) : ∀ i (hi : i < l.length), l[i].ok := fun i hi => by
  obtain ⟨_, _, a, _⟩ := h.2 i hi
  exact a
theorem eqDC (D : List UInt8) (hD : D.length = 32) (w : World) : (Op.equalIn 10000 37 (.agg (digC D)) (.agg (D.map fun c => Value.int .u8 c.toNat).toArray)).run Try.prog w = .ok true w := by
  have h := eqDig 9998 _ _ hD hD w
  rw [decide_eq_true rfl] at h
  exact h

set_option maxRecDepth 100000 in
set_option maxHeartbeats 4000000 in
theorem CoderBack_any (A : Option Addr) (c0 : Nat) (l : List Pc) (w : World) (h : Pcs w A l) :
    Calls Try.prog 5 #[.slice A l.length c0] w fun r w' => r = .returned (.bool true) ∧ Gr w w' := by
  have H := Lib.hid h; clear h
  have hll := H.out.1
  have HL := Lib.hid (sts_len l H.out.oks)
  rcases hm : greatGo 0 0 l with _ | _
  · have hl60 := greatGo_no l 0 0 (by omega) hm
    go_enter Try.func5, Try.ntmps5
    go_wp2_with fail
    refine (great_any A c0 l _ H.out).mono ?_
    rintro r wq ⟨rfl, rfl⟩
    rw [hm]
    clear hm
    have HWr0 := Lib.hid (Wr.new wq wq (Gr.rfl' wq))
    have hgw := Lib.hid ((Gr.rfl' wq).al (.cells #[.pointer none, .slice none 0 0, .int .i64 0] 32))
    have hwb : wq.heap.size ≤ wq.heap.size := Nat.le_refl _
    go_wp2
    go_loopw [4] (fun i wr => ∃ k : Nat, k ≤ l.length ∧ i = .int .i64 k ∧ Hid (Wr wq.heap.size wq.heap.size (sts (l.take k)).1 (sts (l.take k)).2 wr) ∧ Hid (Gr wq wr)) (fun i _ => l.length - (intOf i).toNat)
    case atStart => exact ⟨0, Nat.zero_le _, rfl, HWr0, hgw⟩
    case round =>
      obtain ⟨k, hk, rfl, HWr, HG⟩ := hrel
      clear HWr0 hgw
      by_cases hlt : k < l.length
      · have hki : (k : Int) < l.length := by omega
        have hlen1 : (sts (l.take k)).1.length + 65541 ≤ 140737488355328 := by have := HL.out k hk; omega
        obtain ⟨ad, rfl, hp⟩ := (H.out.gr HG.out).get k hlt
        have HPk := Lib.hid hp; clear hp
        go_wp2_with (first | refine wpList_load_at rfl 39 _ rfl _ rfl l[k].cells _ HPk.out.at' Try.underlying39 rfl (by rw [Pc.len HPk.out.ok]; exact sizePc) ?_)
        refine (put_any wq.heap.size wq.heap.size _ _ l[k] HPk.out.ok _ HWr.out hlen1).mono ?_
        rintro r w1 ⟨rfl, h1, m1⟩
        have HW1 : Hid (Wr wq.heap.size wq.heap.size (sts (l.take (k + 1))).1 (sts (l.take (k + 1))).2 w1) := by show Wr _ _ _ _ _; rw [sts_take hlt]; exact h1
        have HG1 := Lib.hid (m1.below HG.out hwb)
        clear h1 m1
        go_wp2
        go_roundw
        case rel => exact ⟨k + 1, by omega, by go_num, HW1, HG1⟩
        case measure => simp [intOf]; omega
      · have hkk : k = l.length := by omega
        subst hkk
        rw [List.take_length] at HWr
        go_wp2_with fail
        refine (wDone_any _ _ (sts l).1 (sts l).2 _ HWr.out).mono ?_
        rintro r w2 ⟨rfl, m2⟩
        have hg2 := m2.below HG.out hwb
        clear m2
        by_cases he : (sts l).2 = 0
        · have hD : doneV ((sts l).1, (sts l).2) = (encs l, 0) := by
            obtain ⟨_, _, h3⟩ := foldl_ok l ([], 0) he
            unfold doneV
            rw [if_neg (by simpa using he)]
            show ((sts l).1, (sts l).2) = _
            rw [he]
            have : (sts l).1 = encs l := by rw [show sts l = l.foldl (fun s x => pput x s) ([], 0) from rfl, h3]; simp
            rw [this]
          have HGD := Lib.hid (foldl_ok l ([], 0) he).2.1
          rw [hD]
          have hEL : (encs l).length ≤ 3932460 := by
            have h1 := HL.out l.length (Nat.le_refl _)
            rw [List.take_length] at h1
            have h2 : (sts l).1 = encs l := by
              have h3 := (foldl_ok l ([], 0) he).2.2
              rw [show sts l = l.foldl (fun s x => pput x s) ([], 0) from rfl, h3]; simp
            rw [h2] at h1
            omega
          clear HWr he hD HL
          go_wp2_with fail
          refine (New_any _ _).mono ?_
          rintro r w3 ⟨rfl, rfl⟩
          have HR0 : Hid (Sr 62 w2.heap.size ⟨(encs l).toArray⟩ 0 (w2.alloc (.cells #[.string ⟨(encs l).toArray⟩, .int .i64 0] 62))) := World.alloc_heap_new w2 _
          have hg3 := Lib.hid (hg2.al (.cells #[.string ⟨(encs l).toArray⟩, .int .i64 0] 62))
          have hcq : wq.heap.size ≤ w2.heap.size := hg2.size
          go_wp2
          go_loopw [8] (fun i wr => ∃ k : Nat, k ≤ l.length ∧ i = .int .i64 k ∧ Hid (Sr 62 w2.heap.size ⟨(encs (l.drop k)).toArray⟩ 0 wr) ∧ Gr wq wr) (fun i _ => l.length - (intOf i).toNat)
          case atStart => exact ⟨0, Nat.zero_le _, rfl, by simpa using HR0, hg3.out⟩
          case round =>
            clear HR0 hg3
            obtain ⟨k, hk, rfl, HR, hg⟩ := hrel
            by_cases hlt : k < l.length
            · have hki : (k : Int) < l.length := by omega
              obtain ⟨ad, rfl, hp⟩ := (H.out.gr hg).get k hlt
              have HPk := Lib.hid hp; clear hp
              have HP1 := Lib.hid (arr35 l[k] HPk.out.ok wr)
              have k0 := HP1.out.c0
              have k1 := HP1.out.c1
              have k2 := HP1.out.c2
              go_upto_block 4 with (first | refine wpList_load_at rfl 39 _ rfl _ rfl l[k].cells _ HPk.out.at' Try.underlying39 rfl (by rw [Pc.len HPk.out.ok]; exact sizePc) ?_ | refine alloc35 rfl rfl ?_ | refine store35 l[k] HPk.out.ok rfl _ _ rfl rfl rfl rfl ?_)
              have hg1 : Gr wq (wr.alloc (.cells l[k].cells.toArray 39)) := hg.al _
              have HR1 := Lib.hid (HR.out.gr ((Gr.rfl' wr).al (.cells l[k].cells.toArray 39)))
              have hnb : wr.heap.size ≠ w2.heap.size := by have := HR.out.lt; omega
              have hsz : (⟨(encs (l.drop k)).toArray⟩ : ByteArray).size ≤ 9223372036854775807 := by
                rw [sizeL]
                have := encs_len l k
                omega
              rw [encs_drop hlt] at HR1 hsz
              clear HR hg
              go_cut [10] from 56 to 84 (fun s10 wx => s10 = .bool true ∧ Hid (Sr 62 w2.heap.size ⟨(encs (l.drop (k + 1))).toArray⟩ 0 wx) ∧ Gr wq wx)
              case first =>
                by_cases e0 : l[k].K = 0
                · have hk0 : (l[k].K == 0) = true := by simp [e0]
                  have hok := (HGD.out l[k] (List.getElem_mem hlt)).1 e0
                  rw [enc_0 e0] at HR1 hsz
                  have HB := Lib.hid (num_back l[k].N hok (encs (l.drop (k + 1))))
                  skip
                  clear e0
                  go_wp2
                  replace HR1 := Lib.hid (HR1.out.gr ((Gr.rfl' _).dr))
                  replace hg1 := hg1.dr
                  go_region_held3 (fun w' => w'.cell? ⟨wr.heap.size, 1, none⟩ = some (.int .i64 l[k].N)) (exact k1) (first
                    | (go_at_call 18; refine (dNumber_any w2.heap.size _ 0 1073741824 _ HR1.out hsz).mono ?_; rintro r wc ⟨rfl, h1, m1⟩; rw [HB.out] at h1 ⊢; replace HR1 := Lib.hid h1; replace hg1 := m1.below hg1 hcq; replace k1 := m1.cell k1 hnb; clear h1 m1))
                  all_goals (go_wp2; go_meet; exact ⟨rfl, HR1, hg1⟩)
                have b0 : (l[k].K == 0) = false := by simpa using e0
                by_cases e1 : l[k].K = 1
                · have hk1 : (l[k].K == 1) = true := by simp [e1]
                  have hok := (HGD.out l[k] (List.getElem_mem hlt)).2 e1
                  rw [enc_1 e1] at HR1 hsz
                  have HB := Lib.hid (txt_back l[k].S hok (encs (l.drop (k + 1))))
                  skip
                  clear e0 e1
                  go_wp2
                  replace HR1 := Lib.hid (HR1.out.gr ((Gr.rfl' _).dr))
                  replace hg1 := hg1.dr
                  go_region_held3 (fun w' => w'.cell? ⟨wr.heap.size, 2, none⟩ = some (.string l[k].S)) (exact k2) (first
                    | (go_at_call 20; refine (dText_any w2.heap.size 65536 _ 0 _ HR1.out hsz).mono ?_; rintro r wc ⟨rfl, h1, m1⟩; rw [HB.out] at h1 ⊢; replace HR1 := Lib.hid h1; replace hg1 := m1.below hg1 hcq; replace k2 := m1.cell k2 hnb; clear h1 m1))
                  all_goals (go_wp2; go_meet; exact ⟨rfl, HR1, hg1⟩)
                have b1 : (l[k].K == 1) = false := by simpa using e1
                by_cases e2 : l[k].K = 2
                · have hk2 : (l[k].K == 2) = true := by simp [e2]
                  skip
                  rw [enc_2 e2] at HR1 hsz
                  have HB := Lib.hid (flg_back (l[k].N == 1) (encs (l.drop (k + 1))))
                  skip
                  clear e0 e1 e2
                  go_wp2
                  replace HR1 := Lib.hid (HR1.out.gr ((Gr.rfl' _).dr))
                  replace hg1 := hg1.dr
                  go_region_held3 (fun w' => w'.cell? ⟨wr.heap.size, 1, none⟩ = some (.int .i64 l[k].N)) (exact k1) (first
                    | (go_at_call 22; refine (dFlag_any w2.heap.size _ 0 _ HR1.out hsz).mono ?_; rintro r wc ⟨rfl, h1, m1⟩; rw [HB.out] at h1 ⊢; replace HR1 := Lib.hid h1; replace hg1 := m1.below hg1 hcq; replace k1 := m1.cell k1 hnb; clear h1 m1))
                  all_goals (go_wp2; go_meet; exact ⟨rfl, HR1, hg1⟩)
                have b2 : (l[k].K == 2) = false := by simpa using e2
                by_cases e3 : l[k].K = 3
                · have hk3 : (l[k].K == 3) = true := by simp [e3]
                  have hdd := HPk.out.ok.d
                  rw [enc_3 e3] at HR1 hsz
                  have HB := Lib.hid (dg_back l[k].D hdd (encs (l.drop (k + 1))))
                  have hEq := eqDC l[k].D hdd
                  have kr := HP1.out.dig
                  have hsd : (Try.prog.info? 37).map (·.size) = some (l[k].D.map fun c => Value.int .u8 c.toNat).length := by rw [List.length_map, hdd]; exact sizeDig
                  have hud := Try.underlying37
                  clear e0 e1 e2 e3
                  go_wp2
                  replace HR1 := Lib.hid (HR1.out.gr ((Gr.rfl' _).dr))
                  replace hg1 := hg1.dr
                  go_region_held3 (fun w' => w'.rangeAt wr.heap.size (0 + 3) (l[k].D.map fun c => Value.int .u8 c.toNat)) (exact kr) (first
                    | (go_at_call 24; refine (dDigest_any w2.heap.size _ 0 _ HR1.out hsz).mono ?_; rintro r wc ⟨rfl, h1, m1⟩; rw [HB.out] at h1 ⊢; replace HR1 := Lib.hid h1; replace hg1 := m1.below hg1 hcq; replace kr := m1.range kr hnb; clear h1 m1))
                  all_goals (go_wp2; go_meet; exact ⟨rfl, HR1, hg1⟩)
                have b3 : (l[k].K == 3) = false := by simpa using e3
                rw [enc_4 e0 e1 e2 e3, List.nil_append] at HR1
                clear e0 e1 e2 e3
                go_wp2
                go_meet
                exact ⟨rfl, HR1, hg1⟩
              case rest =>
                obtain ⟨rfl, HR2, hg2'⟩ := hcut
                clear k0 k1 k2
                go_wp2
                go_roundw
                case rel => exact ⟨k + 1, by omega, by go_num, HR2, hg2'⟩
                case measure => simp [intOf]; omega
            · have hkk : k = l.length := by omega
              subst hkk
              have hS0 : Hid ((⟨(encs (l.drop l.length)).toArray⟩ : ByteArray) = ⟨#[]⟩) := by show _ = _; rw [List.drop_length]; rfl
              rw [hS0.out] at HR
              have hd0 : rdDone ⟨#[]⟩ 0 = 0 := rfl
              go_wp2_with fail
              refine (dDone_any w2.heap.size ⟨#[]⟩ 0 _ HR.out).mono ?_
              rintro r wc ⟨rfl, rfl⟩
              rw [hd0]
              go_wp2_with fail
              refine (Left_any w2.heap.size ⟨#[]⟩ 0 _ HR.out).mono ?_
              rintro r wc ⟨rfl, rfl⟩
              go_wp2_with fail
              refine (awake_any _).mono ?_
              rintro r w4 ⟨rfl, hg4⟩
              go_wp2
              go_ret
              exact ⟨rfl, hg.tr hg4⟩
        · have hneb : ((sts l).2 != 0) = true := by simpa using he
          have hD : doneV ((sts l).1, (sts l).2) = ([], (sts l).2) := by unfold doneV; rw [if_pos he]
          rw [hD]
          go_wp2_with fail
          refine (awake_any _).mono ?_
          rintro r w4 ⟨rfl, hg4⟩
          go_wp2
          go_ret
          exact ⟨rfl, hg2.tr hg4⟩
  · go_enter Try.func5, Try.ntmps5
    go_wp2_with fail
    refine (great_any A c0 l _ H.out).mono ?_
    rintro r wq ⟨rfl, rfl⟩
    rw [hm]
    go_wp2_with fail
    refine (awake_any _).mono ?_
    rintro r w2 ⟨rfl, hg⟩
    go_wp2
    go_ret
    exact ⟨rfl, hg⟩
end Go.Proofs.Ytgbpolejjfipgaa
