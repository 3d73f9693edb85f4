/- CodecZigs answers true for every int and every unsigned int: Zag undoes Zig and Zig undoes Zag, and numbers near 0 stay near it. No condition beyond the kinds' own ranges. -/
import Derived.Test.YtcopbkdlpfcjpaaCx1
import Derived.Test.YtcopbkdlpfcjpaaMa
namespace Go.Proofs.Ytcopbkdlpfcjpaa.Pure
open Go.RowKit Go.Proofs.Ytcopbkdlpfcjpaa.C Go.Proofs.YtcopbkdlpfcjpaaW.PrintWords Go.Proofs.YtcopbkdlpfcjpaaW.PrintLast Go.Proofs.Ytcopbkdlpfcjpaa.B Go.Proofs.Ytcopbkdlpfcjpaa.H Go.Proofs.Ytcopbkdlpfcjpaa.Ma

theorem CodecZigs : skerrylaw01_CodecZigs.Pure := by
  intro n u hn hu
  have bn := i64_of hn
  have bu := u64_of hu
  have r1 : 0 ≤ zig n ∧ zig n < 18446744073709551616 := by unfold zig; split <;> omega
  have r2 : -9223372036854775808 ≤ zag u ∧ zag u < 9223372036854775808 := by unfold zag; split <;> omega
  have e1 : zag (zig n) = n := by unfold zag zig; split <;> split <;> omega
  have e2 : zig (zag u) = u := by unfold zag zig; split <;> split <;> omega
  unfold skerrylaw01_CodecZigs.f
  rw [Zig_eq n bn]
  simp only [Option.bind_some]
  rw [Zag_eq _ r1]
  simp only [Option.bind_some]
  rw [e1, if_pos rfl, Zag_eq u bu]
  simp only [Option.bind_some]
  rw [Zig_eq _ r2]
  simp only [Option.bind_some]
  rw [e2, if_pos rfl]
  have t1 : Int.tmod (zig n) 2 = zig n % 2 := Int.tmod_eq_emod_of_nonneg r1.1
  have t2 : Int.tdiv (zig n) 2 = zig n / 2 := Int.tdiv_eq_ediv_of_nonneg r1.1
  rw [t1, t2]
  unfold skerrylaw01_lives.f
  simp only [Option.bind_some]
  by_cases h : n < 0
  · have z : zig n = -2 * n - 1 := by unfold zig; rw [if_pos h]
    have p : ((zig n % 2 == 1) != decide (n < 0)) = false := by
      rw [decide_eq_true h, show (zig n % 2 == 1) = true from beq_iff_eq.mpr (by omega)]
      rfl
    rw [p, if_neg (by simp), if_pos h, if_neg (by omega)]
    rw [if_pos]
    rw [IntKind.wrap_u64, IntKind.wrap_u64, wrap_in (n := n + 1) (by omega), wrap_in (by omega)]
    omega
  · have z : zig n = 2 * n := by unfold zig; rw [if_neg h]
    have p : ((zig n % 2 == 1) != decide (n < 0)) = false := by
      rw [decide_eq_false h, show (zig n % 2 == 1) = false from beq_eq_false_iff_ne.mpr (by omega)]
      rfl
    rw [p, if_neg (by simp), if_neg h]
    rw [if_pos, if_pos (by omega)]
    rw [IntKind.wrap_u64, IntKind.wrap_u64]
    omega

end Go.Proofs.Ytcopbkdlpfcjpaa.Pure
