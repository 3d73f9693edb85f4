/- The murmur layer by hand: the contracts of Mix and Sum in the printed form. -/
import Derived.Test.YtcopbkdlpfcjpaaMurB
namespace Go.Proofs.Ytcopbkdlpfcjpaa.M
open Go.RowKit Go.Proofs.YtcopbkdlpfcjpaaW.PrintWords Go.Proofs.YtcopbkdlpfcjpaaW.PrintLast Go.Proofs.YtcopbkdlpfcjpaaW.PrintMore Go.Proofs.Ytcopbkdlpfcjpaa.B
set_option linter.unusedVariables false

def murmur_Mix.f (a0 : Int) : Option Int := some (mixS a0)
theorem murmur_Mix.calls (a0 : Int) (r : Int) (w : World) (h : murmur_Mix.f a0 = some r) :
    Calls Try.prog 60 #[.int .u64 a0] w fun e w' => e = .returned (.int .u64 r) ∧ Drawn0 w w' := by
  obtain rfl := Option.some.inj h
  exact (mix_c a0 w).mono fun e w' ⟨h1, h2⟩ => ⟨h1, by rw [h2]; exact Drawn0.refl _⟩
def murmur_Sum.f (l0 : List Int) (a1 : Int) : Option (Int × Int) := some (sumS l0 a1)
theorem murmur_Sum.calls (A0 : Option Addr) (c0 : Nat) (l0 : List Int) (a1 : Int) (r1 : Int) (r2 : Int) (w : World) (hr0 : Kd.C (Kd.int .u8) w A0 l0.length l0) (hc0 : l0.length ≤ c0) (h : murmur_Sum.f l0 a1 = some (r1, r2)) :
    Calls Try.prog 57 #[.slice A0 l0.length c0, .int .u64 a1] w fun e w' => e = .returned (.tuple #[.int .u64 r1, .int .u64 r2]) ∧ Below w.heap.size w w' := by
  have h1 : sumS l0 a1 = (r1, r2) := Option.some.inj h
  have h2 := sum_c A0 c0 l0 a1 w hr0 hc0
  rw [h1] at h2
  exact h2
end Go.Proofs.Ytcopbkdlpfcjpaa.M
