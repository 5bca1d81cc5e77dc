/- hearsaylaw13: the example; FrameSeals. -/
import Derived.Test.YtfobnemocodomaaGreatZFrmA
set_option linter.unusedVariables false
set_option linter.unusedSimpArgs false
set_option maxHeartbeats 2000000
namespace Go.Proofs.YtfobnemocodomaaGreat
open Go.RowKit Go.Shelf Go.Great

theorem putS4 : putS (4 : Nat) = ⟨#[4]⟩ := putD 4 (by decide)
theorem askFrame : ∃ q : List UInt8, q.length = 4 ∧ frmV ⟨#[1, 1, 2, 3]⟩ 0 = ⟨([104, 115, 1, 4, 1, 1, 2, 3] ++ q).toArray⟩ := by
  refine ⟨b4 (crcV (hsV ++ putS (4 : Nat) ++ ⟨#[1, 1, 2, 3]⟩)), rfl, ?_⟩
  unfold frmV
  rw [if_neg (by simp)]
  have h4 : ((⟨#[1, 1, 2, 3]⟩ : ByteArray).size : Int) = ((4 : Nat) : Int) := rfl
  rw [h4]
  unfold sealV
  rw [putS4]
  rfl
set_option maxRecDepth 100000 in
theorem fAwake_any (w : World) : Calls Tryz.prog 21 #[] w fun r w' => r = .returned (.bool true) ∧ Gr w w' := by
  obtain ⟨q, hq, hf⟩ := askFrame
  have HC := Lib.hid (fSeal_abs askM w Z32L_len ⟨#[1, 1, 2, 3]⟩ 0 (by decide) (fun W g => askBytes_any W))
  rw [hf] at HC
  clear hf
  obtain ⟨t, ht⟩ : ∃ t : ByteArray, (⟨([104, 115, 1, 4, 1, 1, 2, 3] ++ q).toArray⟩ : ByteArray) = t := ⟨_, rfl⟩
  have hsz : t.size = 12 := by rw [← ht, sizeL, List.length_append, hq]; rfl
  have hex : t.extract 0 8 = ⟨#[104, 115, 1, 4, 1, 1, 2, 3]⟩ := by
    rw [← ht]
    apply ByteArray.ext
    apply Array.ext'
    simp [ByteArray.data_extract]
  rw [ht] at HC
  clear ht hq
  have hs12 : (t.size : Int) = 12 := by omega
  go_enter Tryz.func21, Tryz.ntmps21
  go_wp2_with (first | refine buildAsk rfl rfl ?_)
  refine (HC.out).mono ?_
  rintro r w1 ⟨rfl, g1⟩
  clear HC
  go_wp2
  go_ret
  exact ⟨rfl, g1⟩
end Go.Proofs.YtfobnemocodomaaGreat
