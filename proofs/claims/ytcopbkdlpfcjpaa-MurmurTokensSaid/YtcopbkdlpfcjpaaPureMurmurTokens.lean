/- The plain law of MurmurTokens: the program's tokens are the document's. -/
import Derived.Test.YtcopbkdlpfcjpaaEx1
import Derived.Test.YtcopbkdlpfcjpaaMe
import Derived.Test.YtcopbkdlpfcjpaaMf
namespace Go.Proofs.Ytcopbkdlpfcjpaa.Pure
open Go.RowKit Go.Proofs.YtcopbkdlpfcjpaaW.PrintWords Go.Proofs.YtcopbkdlpfcjpaaW.PrintLast Go.Proofs.Ytcopbkdlpfcjpaa.B Go.Proofs.Ytcopbkdlpfcjpaa.E Go.Proofs.Ytcopbkdlpfcjpaa.D Go.Proofs.Ytcopbkdlpfcjpaa.M Go.Proofs.Ytcopbkdlpfcjpaa.Ma
theorem bytesOf_wf (s : ByteArray) : ∀ x ∈ bytesOf s, (Lit.int .u8 x).wf = true := by
  intro x hx
  obtain ⟨b, _, rfl⟩ := List.mem_map.1 hx
  have h := b.toNat_lt
  have hmin : IntKind.u8.min = 0 := rfl
  have hmax : IntKind.u8.max = 255 := rfl
  simp only [Lit.wf, Bool.and_eq_true, decide_eq_true_eq]
  omega
theorem tokens_abs (T R F G : Option Int) (L : Option Bool) (p q : Int) (hT : T = some p) (hR : R = some p) (hF : F = some q) (hG : G = some q) (hL : L = some true) :
    (T.bind fun t102 => (R.bind fun t103 => (if t102 = t103 then (F.bind fun t104 => (G.bind fun t105 => (if t104 = t105 then (L.bind fun t106 => (some t106)) else (some false)))) else (some false)))) = some true := by
  rw [hT, hR, hF, hG, hL]
  simp
theorem token_eq (s : ByteArray) (h : s.size ≤ 140737488351232) (p : Int × Int) (S : Option (Int × Int)) (hS : S = some p) : (if s.size ≤ 140737488351232 then S.bind fun t => some (wrap64 t.1) else none) = some (wrap64 p.1) := by
  rw [if_pos h, hS]
  rfl
theorem MurmurTokens : skerrylaw02_MurmurTokens.Pure := by
  intro a0 a1 hs _
  by_cases h : (a0.size : Int) > 100000
  · refine ⟨0, ?_⟩
    unfold skerrylaw02_MurmurTokens.f
    rw [if_pos h, lives2]
    rfl
  · obtain ⟨L, hL, he⟩ := up_of (bytesOf a0) (bytesOf_wf a0)
    have hlen : L.length = a0.size := by rw [← bytesOf_length, he, up_length]
    obtain ⟨k, hk⟩ := (refSum_ev L hL (by omega) 0).rounds
    rw [← he] at hk
    refine ⟨k, ?_⟩
    unfold skerrylaw02_MurmurTokens.f
    rw [if_neg h]
    exact tokens_abs _ _ _ _ _ _ _ (token_eq a0 hs (sumS (bytesOf a0) 0) _ rfl) (token_eq a0 hs _ _ hk) rfl (refMix_ a1) lives2
end Go.Proofs.Ytcopbkdlpfcjpaa.Pure
