/- CodecFrames answers true for any bytes: their sum, their frame, and the frame that they begin with are what the references say, and the bytes that were lent stay as they were. No condition beyond the reach that every row has. -/
import Derived.Test.YtcopbkdlpfcjpaaCx5
import Derived.Test.YtcopbkdlpfcjpaaMc
import Derived.Test.YtcopbkdlpfcjpaaMd
namespace Go.Proofs.Ytcopbkdlpfcjpaa.Pure
open Go.RowKit Go.Proofs.Ytcopbkdlpfcjpaa.C Go.Proofs.YtcopbkdlpfcjpaaW.PrintWords Go.Proofs.Ytcopbkdlpfcjpaa.B Go.Proofs.Ytcopbkdlpfcjpaa.H Go.Proofs.Ytcopbkdlpfcjpaa.Ma

/-- Both frames, of whatever length. -/
theorem Frame_any (L : List Nat) (hL : ∀ x ∈ L, x < 256) : ∃ r, Ev (fun k => codec_Frame.f k (up L)) r ∧ Ev (fun k => skerryref01_Frame.f k (up L)) r := by
  by_cases h : L.length ≤ 262144
  · exact ⟨_, Frame_ev L hL h, refFrame_ev L hL h⟩
  · refine ⟨[], Ev.congr (fun k => ?_) (Ev.now _), Ev.congr (fun k => ?_) (Ev.now _)⟩
    · unfold codec_Frame.f
      rw [if_pos (by rw [up_length]; omega)]
    · unfold skerryref01_Frame.f
      rw [if_pos (by rw [up_length]; omega)]
theorem CodecFrames : skerrylaw01_CodecFrames.Pure := by
  intro l _ hl2 hl
  unfold skerrylaw01_CodecFrames.f
  by_cases h : (l.length : Int) > 300000
  · exact ⟨0, by rw [if_pos h]; rfl⟩
  · obtain ⟨L, hL, rfl⟩ := up_of l hl
    rw [up_length] at h
    have hlen : L.length ≤ 300000 := by omega
    obtain ⟨r, hr1, hr2⟩ := Frame_any L hL
    refine Ev.rounds ?_
    simp only [up_length, if_neg h]
    refine Ev.bind (Lend_ev (up L) (by rw [up_length]; omega)) ?_
    refine Ev.bind (Unframe_ev L hL (by omega)) ?_
    refine Ev.bind (refUnframe_ev L hL (by omega)) ?_
    refine Ev.bind (Sum_ev L hL (by omega)) ?_
    refine Ev.bind (refSum_ev L hL (by omega)) ?_
    simp only [if_true]
    refine Ev.bind hr1 ?_
    refine Ev.bind hr2 ?_
    refine Ev.congr (f := fun _ => some true) (fun k => ?_) (Ev.now _)
    rw [Same_self, Option.bind_some, if_pos rfl, Same_self, Option.bind_some]
    simp only [if_true]
    rw [Kept_eq (up L) (by rw [up_length]; omega)]
    rfl

end Go.Proofs.Ytcopbkdlpfcjpaa.Pure
