/- The plain law of MurmurMixes: Mix has a way back. -/
import Derived.Test.YtcopbkdlpfcjpaaDx2
import Derived.Test.YtcopbkdlpfcjpaaMe
namespace Go.Proofs.Ytcopbkdlpfcjpaa.Pure
open Go.RowKit Go.Proofs.YtcopbkdlpfcjpaaW.PrintWords Go.Proofs.YtcopbkdlpfcjpaaW.PrintLast Go.Proofs.Ytcopbkdlpfcjpaa.B Go.Proofs.Ytcopbkdlpfcjpaa.D Go.Proofs.Ytcopbkdlpfcjpaa.M Go.Proofs.Ytcopbkdlpfcjpaa.Ma
def xs (n : Nat) : Nat := n ^^^ (n / 8589934592)
theorem xs_lt {n : Nat} (h : n < 18446744073709551616) : xs n < 18446744073709551616 := Nat.xor_lt_two_pow (n := 64) (by omega) (by omega)
theorem xs_xs {n : Nat} (h : n < 18446744073709551616) : xs (xs n) = n := by
  unfold xs
  have e : ∀ m : Nat, m / 8589934592 = m >>> 33 := fun m => by rw [Nat.shiftRight_eq_div_pow]
  rw [e, e, Nat.shiftRight_xor_distrib, ← Nat.shiftRight_add]
  have z : n >>> (33 + 33) = 0 := by rw [Nat.shiftRight_eq_div_pow]; exact Nat.div_eq_of_lt (by omega)
  rw [z, Nat.xor_zero, Nat.xor_assoc, Nat.xor_self, Nat.xor_zero]
theorem mul_back (a c d : Nat) (h : c * d % 18446744073709551616 = 1) (ha : a < 18446744073709551616) : (a * c % 18446744073709551616) * d % 18446744073709551616 = a := by
  rw [Nat.mul_mod, Nat.mod_mod, ← Nat.mul_mod, Nat.mul_assoc, Nat.mul_mod, h, Nat.mul_one, Nat.mod_mod]
  exact Nat.mod_eq_of_lt ha
theorem xor_code (n : Nat) (h : n < 18446744073709551616) : Go.bits .xor .u64 (n : Int) ((n : Int) / 8589934592) = ((xs n : Nat) : Int) := by
  rw [show (n : Int) / 8589934592 = ((n / 8589934592 : Nat) : Int) by omega, u64_xor_nat _ _ h (by omega)]
  rfl
theorem mul_code (n c : Nat) : IntKind.u64.wrap ((n : Int) * (c : Int)) = ((n * c % 18446744073709551616 : Nat) : Int) := by
  rw [IntKind.wrap_u64, ← Int.natCast_mul]
  generalize n * c = m
  omega
def mx1 (c d n : Nat) : Nat := xs (xs (xs n * c % 18446744073709551616) * d % 18446744073709551616)
theorem two_code (c d n : Nat) (h : n < 18446744073709551616) : (let m := IntKind.u64.wrap (Go.bits .xor .u64 (IntKind.u64.wrap (Go.bits .xor .u64 (n : Int) ((n : Int) / 8589934592) * (c : Int))) (IntKind.u64.wrap (Go.bits .xor .u64 (n : Int) ((n : Int) / 8589934592) * (c : Int)) / 8589934592) * (d : Int)); Go.bits .xor .u64 m (m / 8589934592)) = ((mx1 c d n : Nat) : Int) := by
  have hm : ∀ x : Nat, x % 18446744073709551616 < 18446744073709551616 := fun x => Nat.mod_lt _ (by omega)
  rw [xor_code n h, mul_code, xor_code _ (hm _), mul_code]
  exact xor_code _ (hm _)
theorem mx1_back (c d c' d' n : Nat) (h : n < 18446744073709551616) (hc : c * d' % 18446744073709551616 = 1) (hd : d * c' % 18446744073709551616 = 1) : mx1 c' d' (mx1 c d n) = n := by
  have hm : ∀ x : Nat, x % 18446744073709551616 < 18446744073709551616 := fun x => Nat.mod_lt _ (by omega)
  unfold mx1
  rw [xs_xs (hm _), mul_back _ _ _ hd (xs_lt (hm _)), xs_xs (hm _), mul_back _ _ _ hc (xs_lt h), xs_xs h]
theorem mx1_lt (c d n : Nat) : mx1 c d n < 18446744073709551616 := xs_lt (Nat.mod_lt _ (by omega))
theorem Mix_code (n : Nat) (h : n < 18446744073709551616) : murmur_Mix.f (n : Int) = some ((mx1 18397679294719823053 14181476777654086739 n : Nat) : Int) := congrArg some (two_code 18397679294719823053 14181476777654086739 n h)
theorem unmix_code (n : Nat) (h : n < 18446744073709551616) : skerrylaw02_unmix.f (n : Int) = some ((mx1 11291846944257947611 5725274745694666757 n : Nat) : Int) := congrArg some (two_code 11291846944257947611 5725274745694666757 n h)
theorem there (n : Nat) (h : n < 18446744073709551616) : mx1 11291846944257947611 5725274745694666757 (mx1 18397679294719823053 14181476777654086739 n) = n := mx1_back _ _ _ _ n h (by decide +kernel) (by decide +kernel)
theorem back (n : Nat) (h : n < 18446744073709551616) : mx1 18397679294719823053 14181476777654086739 (mx1 11291846944257947611 5725274745694666757 n) = n := mx1_back _ _ _ _ n h (by decide +kernel) (by decide +kernel)
theorem mixes_abs (F G : Int → Option Int) (L : Option Bool) (f g : Nat → Nat) (a b : Nat) (hF : ∀ n : Nat, n < 18446744073709551616 → F (n : Int) = some ((f n : Nat) : Int)) (hG : ∀ n : Nat, n < 18446744073709551616 → G (n : Int) = some ((g n : Nat) : Int))
    (hf : ∀ n, f n < 18446744073709551616) (hg : ∀ n, g n < 18446744073709551616) (hgf : ∀ n, n < 18446744073709551616 → g (f n) = n) (hfg : ∀ n, n < 18446744073709551616 → f (g n) = n) (ha : a < 18446744073709551616) (hb : b < 18446744073709551616) (hL : L = some true)
    (J : Bool → Option Bool) (hJ : J false = ((F (a : Int)).bind fun t115 => ((F (b : Int)).bind fun t116 => (if ((t115 == t116) == ((a : Int) == (b : Int))) = true then (L.bind fun t117 => (some t117)) else (some false))))) :
    ((F (a : Int)).bind fun t111 => ((G t111).bind fun t112 => (if t112 = (a : Int) then ((G (b : Int)).bind fun t113 => ((F t113).bind fun t114 => (J (t114 != (b : Int))))) else (J true)))) = some true := by
  rw [hF a ha, Option.bind_some, hG _ (hf _), Option.bind_some, hgf a ha, if_pos rfl, hG b hb, Option.bind_some, hF _ (hg _), Option.bind_some, hfg b hb]
  rw [show ((b : Int) != (b : Int)) = false by simp, hJ, hF a ha, Option.bind_some, hF b hb, Option.bind_some, hL]
  have e : (((f a : Nat) : Int) == ((f b : Nat) : Int)) = ((a : Int) == (b : Int)) := by
    rw [Bool.eq_iff_iff, beq_iff_eq, beq_iff_eq]
    constructor
    · intro h
      have h2 : f a = f b := by omega
      have h3 := congrArg g h2
      rw [hgf a ha, hgf b hb] at h3
      omega
    · intro h
      rw [show a = b by omega]
  rw [e, beq_self_eq_true, if_pos rfl]
  rfl
theorem MurmurMixes : skerrylaw02_MurmurMixes.Pure := by
  intro a0 a1 h0 h1
  obtain ⟨h00, h01⟩ := u64_of h0
  obtain ⟨h10, h11⟩ := u64_of h1
  obtain ⟨a, rfl⟩ := Int.eq_ofNat_of_zero_le h00
  obtain ⟨b, rfl⟩ := Int.eq_ofNat_of_zero_le h10
  refine ⟨1, ?_⟩
  unfold skerrylaw02_MurmurMixes.f
  refine mixes_abs murmur_Mix.f skerrylaw02_unmix.f skerrylaw02_lives.f _ _ a b Mix_code unmix_code (mx1_lt _ _) (mx1_lt _ _) there back (by omega) (by omega) lives2 _ ?_
  simp only [skerrylaw02_MurmurMixes.j0]
  rw [if_neg (by simp)]
end Go.Proofs.Ytcopbkdlpfcjpaa.Pure
