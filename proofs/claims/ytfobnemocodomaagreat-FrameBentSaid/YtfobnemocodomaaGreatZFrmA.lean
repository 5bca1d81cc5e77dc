/- A message's frame: the program's and the document's; FrameSeals. -/
import Derived.Test.YtfobnemocodomaaGreatZBz
import Derived.Test.YtfobnemocodomaaGreatZMsgU
set_option linter.unusedVariables false
set_option linter.unusedSimpArgs false
set_option maxHeartbeats 2000000
namespace Go.Proofs.YtfobnemocodomaaGreat
open Go.RowKit Go.Shelf Go.Great

def hsV : ByteArray := ⟨#[104, 115, 1]⟩
def frmV (t : ByteArray) (e : Int) : ByteArray := if e ≠ 0 then ⟨#[]⟩ else sealV (hsV ++ putS t.size ++ t)
theorem putS_sz (n : Int) : (putS n).size ≤ 5 := by have := putS_len n; rwa [← Lib.size_eq] at this
set_option maxRecDepth 100000 in
theorem fSeal_abs (x : Mx) (w : World) (hR : x.R.length = 32) (t : ByteArray) (e : Int) (ht : t.size ≤ 1000000)
    (HB : ∀ W', Gr w W' → Calls Tryz.prog 18 #[.agg x.cells] W' fun r w' => r = .returned (.tuple #[.string t, .int .i64 e]) ∧ Gr W' w') :
    Calls Tryz.prog 24 #[.agg x.cells] w fun r w' => r = .returned (.tuple #[.string (frmV t e), .int .i64 e]) ∧ Gr w w' := by
  have HG : Hid (Gr w (w.alloc (.cells x.cells 37))) := Lib.hid ((Gr.rfl' w).al _)
  have HX := Lib.hid (World.alloc_heap_new w (.cells x.cells 37))
  have HC := Lib.hid (HB _ HG.out)
  clear HB
  generalize hW : w.alloc (.cells x.cells 37) = W at HG HX HC
  by_cases he : e = 0; rotate_left
  · have heb : (e != 0) = true := by simpa using he
    have HV : Hid (frmV t e = ⟨#[]⟩) := Lib.hid (if_pos he)
    clear he
    go_enter Tryz.func24, Tryz.ntmps24
    go_wp2_with (first
      | refine loadM x hR rfl (.tmp 1) rfl w.heap.size rfl HX.out ?_)
    refine (HC.out).mono ?_
    rintro r w1 ⟨rfl, g1⟩
    go_wp2
    go_ret2
    rw [HV.out]
    exact ⟨rfl, HG.out.tr g1⟩
  subst he
  have HV : Hid (frmV t 0 = sealV (hsV ++ putS t.size ++ t)) := Lib.hid (if_neg (by simp))
  have h5 := putS_sz t.size
  have a1 : (⟨#[104, 115, 1]⟩ : ByteArray).size + (putS t.size).size ≤ 9223372036854775807 := by show 3 + _ ≤ _; omega
  have a2 : ((⟨#[104, 115, 1]⟩ : ByteArray) ++ putS t.size).size + t.size ≤ 9223372036854775807 := by rw [ByteArray.size_append]; show 3 + _ + _ ≤ _; omega
  have a3 : Hid ((hsV ++ putS t.size ++ t).size + 4 ≤ 9223372036854775807) := Lib.hid (by rw [ByteArray.size_append, ByteArray.size_append]; show 3 + _ + _ + 4 ≤ _; omega)
  go_enter Tryz.func24, Tryz.ntmps24
  go_wp2_with (first
    | refine loadM x hR rfl (.tmp 1) rfl w.heap.size rfl HX.out ?_)
  refine (HC.out).mono ?_
  rintro r w1 ⟨rfl, g1⟩
  go_wp2_with fail
  refine (cPut_any t.size w1).mono ?_
  rintro r w2 ⟨rfl, g2⟩
  go_wp2_with fail
  refine (cSeal_any (hsV ++ putS t.size ++ t) w2 a3.out).mono ?_
  rintro r w3 ⟨rfl, g3⟩
  go_wp2
  go_ret2
  rw [HV.out]
  exact ⟨rfl, HG.out.tr (g1.tr (g2.tr g3))⟩
theorem bodyP_len (x : Mx) (hR : x.R.length = 32) (hs : MSmall x) (s : List UInt8 × Int) : (bodyP x s).1.length ≤ s.1.length + 140000 := by
  have hr32 : ∀ st : List UInt8 × Int, (wput true x.R st).1.length ≤ st.1.length + 32 := fun st => wputL _ _ _ _ (fun _ => by rw [hR]; exact Nat.le_refl _)
  unfold bodyP
  split
  · have h1 := hr32 s
    have h2 := vputQ_len x.cl (wput true x.R s)
    have h3 := wnum_len x.rs.length (vput x.cl (wput true x.R s))
    have h4 := rowsP_len x.rs (wnum x.rs.length (vput x.cl (wput true x.R s))) hs.rows x.rs.length (Nat.le_refl _)
    rw [List.take_length] at h4
    have := hs.cl; have := hs.rs
    omega
  · split
    · have h1 := hr32 s
      have h2 := wtxt_len x.Pa (wput true x.R s)
      omega
    · split
      · have h1 := wtxt_len x.Pa s
        have h2 := wtxt_len x.Tx (wtxt x.Pa s)
        omega
      · split
        · have h1 := wputL true [flagB x.Tn] s 1 (fun _ => Nat.le_refl _)
          omega
        · omega
theorem mBytes_len (x : Mx) (hR : x.R.length = 32) (hs : MSmall x) : (⟨(mBytes x).1.toArray⟩ : ByteArray).size ≤ 1000000 := by
  rw [sizeL]
  unfold mBytes
  split
  · simp
  · unfold doneV
    split
    · simp
    · unfold mPut
      have h1 := bodyP_len x hR hs (numsW (mNums x) ([], 0))
      have h2 := numsW4_len (mNums x) rfl
      omega
def mFrame (x : Mx) : ByteArray × Int := (frmV ⟨(mBytes x).1.toArray⟩ (mBytes x).2, (mBytes x).2)
theorem fSeal_any (x : Mx) (w : World) (hx : MxOk w x) (hP : Pt.Mx w) (hs : MSmall x) :
    Calls Tryz.prog 24 #[.agg x.cells] w fun r w' => r = .returned (.tuple #[.string (mFrame x).1, .int .i64 (mFrame x).2]) ∧ Gr w w' :=
  fSeal_abs x w hx.dig _ _ (mBytes_len x hx.dig hs) (fun W g => mBytes_any x W (hx.gr g) (hP.gr g) hs)
end Go.Proofs.YtfobnemocodomaaGreat
