/- The plain law of MurmurSums: the program's sum is the document's. -/
import Derived.Test.YtcopbkdlpfcjpaaDx1
import Derived.Test.YtcopbkdlpfcjpaaMe
import Derived.Test.YtcopbkdlpfcjpaaMf
namespace Go.Proofs.Ytcopbkdlpfcjpaa.Pure
open Go.RowKit Go.Proofs.YtcopbkdlpfcjpaaW.PrintWords Go.Proofs.YtcopbkdlpfcjpaaW.PrintLast Go.Proofs.Ytcopbkdlpfcjpaa.B Go.Proofs.Ytcopbkdlpfcjpaa.D Go.Proofs.Ytcopbkdlpfcjpaa.M Go.Proofs.Ytcopbkdlpfcjpaa.Ma
theorem sums_abs (S R : Option (Int × Int)) (L : Option Bool) (p : Int × Int) (hS : S = some p) (hR : R = some p) (hL : L = some true) :
    (S.bind fun bt106 => (R.bind fun bt108 => (if bt106.1 = bt108.1 then (if bt106.2 = bt108.2 then (L.bind fun t110 => (some t110)) else (some false)) else (some false)))) = some true := by
  rw [hS, hR, hL]
  simp
theorem MurmurSums : skerrylaw02_MurmurSums.Pure := by
  intro l0 a1 _ _ hw _
  obtain ⟨L, hL, rfl⟩ := up_of l0 hw
  by_cases h : ((up L).length : Int) > 100000
  · refine ⟨0, ?_⟩
    unfold skerrylaw02_MurmurSums.f
    rw [if_pos h, lives2]
    rfl
  · rw [up_length] at h
    obtain ⟨k, hk⟩ := (refSum_ev L hL (by omega) a1).rounds
    refine ⟨k, ?_⟩
    unfold skerrylaw02_MurmurSums.f
    rw [if_neg (by rw [up_length]; exact h)]
    exact sums_abs _ _ _ _ rfl hk lives2
end Go.Proofs.Ytcopbkdlpfcjpaa.Pure
