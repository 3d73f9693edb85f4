/- CodecNumbers answers true for any bytes, any unsigned number and any int: Put, Get, Zig and Zag answer as the references do, and the bytes that were lent stay as they were. No condition beyond the reach that every row has. -/
import Derived.Test.YtcopbkdlpfcjpaaCx3
import Derived.Test.YtcopbkdlpfcjpaaMd
namespace Go.Proofs.Ytcopbkdlpfcjpaa.Pure
open Go.RowKit Go.Proofs.Ytcopbkdlpfcjpaa.C Go.Proofs.YtcopbkdlpfcjpaaW.PrintWords Go.Proofs.Ytcopbkdlpfcjpaa.B Go.Proofs.Ytcopbkdlpfcjpaa.H Go.Proofs.Ytcopbkdlpfcjpaa.Ma

theorem refZig (n : Int) (h : -9223372036854775808 ≤ n ∧ n < 9223372036854775808) : skerryref01_Zig.f n = some (zig n) := by
  unfold skerryref01_Zig.f zig
  split
  · rw [wrap_in (n := n + 1) (by omega), wrap_in (by omega), IntKind.wrap_u64, IntKind.wrap_u64, IntKind.wrap_u64]
    congr 1
    omega
  · rw [IntKind.wrap_u64, IntKind.wrap_u64]
    congr 1
    omega
theorem refZag (u : Int) (h : 0 ≤ u ∧ u < 18446744073709551616) : skerryref01_Zag.f u = some (zag u) := by
  unfold skerryref01_Zag.f zag
  rw [Int.tmod_eq_emod_of_nonneg h.1, Int.tdiv_eq_ediv_of_nonneg h.1, IntKind.wrap_u64]
  have e : u / 2 % 18446744073709551616 = u / 2 := by omega
  rw [e, wrap_in (n := u / 2) (by omega)]
  split
  · rw [wrap_in (n := -(u / 2)) (by omega), wrap_in (by omega)]
  · rfl
theorem CodecNumbers : skerrylaw01_CodecNumbers.Pure := by
  intro l u n _ _ hl hu hn
  have bn := i64_of hn
  have bu := u64_of hu
  unfold skerrylaw01_CodecNumbers.f
  by_cases h : (l.length : Int) > 1000
  · exact ⟨0, by rw [if_pos h]; rfl⟩
  · obtain ⟨L, hL, rfl⟩ := up_of l hl
    rw [up_length] at h
    obtain ⟨m, rfl⟩ := Int.eq_ofNat_of_zero_le bu.1
    have hlen : L.length ≤ 1000 := by omega
    refine Ev.rounds ?_
    simp only [up_length, if_neg h]
    refine Ev.bind (Lend_ev (up L) (by rw [up_length]; omega)) ?_
    refine Ev.bind (Get_all L hL (by omega)) ?_
    refine Ev.bind (refGet_all L hL (by omega)) ?_
    refine Ev.bind (Put_ev L m (by omega) (by omega)) ?_
    refine Ev.bind (refPut_ev L m (by omega) (by omega)) ?_
    rw [Same_self]
    simp only [Option.bind_some, if_true]
    rw [Zig_eq n bn, refZig n bn]
    simp only [Option.bind_some, if_true]
    rw [Zag_eq _ bu, refZag _ bu]
    simp only [Option.bind_some, if_true]
    rw [Kept_eq (up L) (by rw [up_length]; omega)]
    exact Ev.now _

end Go.Proofs.Ytcopbkdlpfcjpaa.Pure
