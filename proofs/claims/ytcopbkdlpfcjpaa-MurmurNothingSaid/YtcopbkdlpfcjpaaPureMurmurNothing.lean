import Derived.Test.YtcopbkdlpfcjpaaDx3
import Derived.Test.YtcopbkdlpfcjpaaMe
namespace Go.Proofs.Ytcopbkdlpfcjpaa.Pure
open Go.RowKit Go.Proofs.Ytcopbkdlpfcjpaa.D Go.Proofs.YtcopbkdlpfcjpaaW.PrintWords Go.Proofs.YtcopbkdlpfcjpaaW.PrintLast

open Go.Proofs.Ytcopbkdlpfcjpaa.M Go.Proofs.Ytcopbkdlpfcjpaa.Ma
theorem nothing_abs (F : Int → Option Int) (S : Option (Int × Int)) (L : Option Bool) (x y : Int) (m2 m3 : Int) (h2 : F x = some m2) (h3 : F y = some m3)
    (hS : S = some (IntKind.u64.wrap (m2 + m3), IntKind.u64.wrap (m3 + IntKind.u64.wrap (m2 + m3)))) (hL : L = some true) :
    ((F x).bind fun t118 => ((F y).bind fun t119 => (S.bind fun bt120 => (S.bind fun bt125 => (if bt120.1 = (IntKind.u64.wrap (t118 + t119)) then (if bt120.2 = (IntKind.u64.wrap (t119 + bt120.1)) then (if bt125.1 = bt120.1 then (if bt125.2 = bt120.2 then (L.bind fun t127 => (some t127)) else (some false)) else (some false)) else (some false)) else (some false)))))) = some true := by
  rw [h2, h3, hS, hL]
  simp
theorem MurmurNothing : skerrylaw02_MurmurNothing.Pure := by
  intro a0 h
  obtain ⟨h0, h1⟩ := u64_of h
  exact nothing_abs murmur_Mix.f (murmur_Sum.f [] a0) skerrylaw02_lives.f _ _ _ _ rfl rfl (congrArg some (sum_nil a0 h0 h1)) lives2

end Go.Proofs.Ytcopbkdlpfcjpaa.Pure
