/- Plain law of murmur: numbers. -/
import Derived.Test.YtcopbkdlpfcjpaaMa
import Derived.Test.YtcopbkdlpfcjpaaDx1
namespace Go.Proofs.Ytcopbkdlpfcjpaa.Ma
open Go.RowKit Go.Proofs.YtcopbkdlpfcjpaaW.PrintWords Go.Proofs.Ytcopbkdlpfcjpaa.B Go.Proofs.Ytcopbkdlpfcjpaa.M Go.Proofs.Ytcopbkdlpfcjpaa.D
theorem lives2 : skerrylaw02_lives.f = some true := by kernel_rfl
theorem u64_in {n : Int} (h0 : 0 ≤ n) (h1 : n < 18446744073709551616) : IntKind.u64.wrap n = n := by
  rw [IntKind.wrap_u64]; exact Int.emod_eq_of_lt h0 h1
theorem xor_u64_eq (a b : Int) : Go.bits .xor .u64 a b = ((BitVec.ofInt 64 a ^^^ BitVec.ofInt 64 b).toNat : Int) := by
  have e : Go.bits .xor .u64 a b = IntKind.u64.wrap ((BitVec.ofInt 64 a ^^^ BitVec.ofInt 64 b).toNat : Int) := rfl
  rw [e, u64_in (by omega) (by have := (BitVec.ofInt 64 a ^^^ BitVec.ofInt 64 b).isLt; omega)]
theorem xor_u64_zero (a : Int) (h0 : 0 ≤ a) (h1 : a < 18446744073709551616) : Go.bits .xor .u64 a 0 = a := by
  have e : BitVec.ofInt 64 0 = 0#64 := rfl
  rw [xor_u64_eq, e, BitVec.xor_zero, BitVec.toNat_ofInt]
  omega
theorem sum_nil (a : Int) (h0 : 0 ≤ a) (h1 : a < 18446744073709551616) : sumS [] a =
    (IntKind.u64.wrap (mixS (IntKind.u64.wrap (2 * a)) + mixS (IntKind.u64.wrap (3 * a))), IntKind.u64.wrap (mixS (IntKind.u64.wrap (3 * a)) + IntKind.u64.wrap (mixS (IntKind.u64.wrap (2 * a)) + mixS (IntKind.u64.wrap (3 * a))))) := by
  have e0 : IntKind.u64.wrap (([] : List Int).length : Int) = 0 := rfl
  have e1 : IntKind.u64.wrap (a + a) = IntKind.u64.wrap (2 * a) := by rw [show a + a = 2 * a by omega]
  have e2 : IntKind.u64.wrap (a + IntKind.u64.wrap (2 * a)) = IntKind.u64.wrap (3 * a) := by
    simp only [IntKind.wrap_u64]
    omega
  show sumE (IntKind.u64.wrap (([] : List Int).length : Int)) [] a a = _
  rw [e0, sumE]
  simp only [List.length_nil, if_neg (show ¬ 8 < 0 by omega), if_neg (show ¬ 0 < 0 by omega)]
  rw [xor_u64_zero a h0 h1, e1, e2]
end Go.Proofs.Ytcopbkdlpfcjpaa.Ma
