/- The bloom layer by hand: places of the program and of the document. -/
import Derived.Test.YtcopbkdlpfcjpaaBloA
namespace Go.Proofs.Ytcopbkdlpfcjpaa.L
open Go.RowKit Go.Proofs.YtcopbkdlpfcjpaaW.PrintWords Go.Proofs.YtcopbkdlpfcjpaaW.PrintLast Go.Proofs.YtcopbkdlpfcjpaaW.PrintMore Go.Proofs.Ytcopbkdlpfcjpaa.B Go.Proofs.Ytcopbkdlpfcjpaa.M
attribute [local go_sem] max2_int min2_int max_two min_two max_three min_three max_four min_four
set_option linter.unusedVariables false
set_option linter.unusedSimpArgs false

/-- A place. -/
def plc (h g : Int) (n : Nat) (i : Int) : Int := wrap64 (Int.tmod (IntKind.u64.wrap (h + IntKind.u64.wrap (IntKind.u64.wrap i * g))) (IntKind.u64.wrap (wrap64 (8 * (n : Int)))))
def plN (h g : Int) (n : Nat) : Nat → List Int
  | 0 => []
  | i + 1 => plN h g n i ++ [plc h g n (i : Int)]
theorem plN_len (h g : Int) (n : Nat) (i : Nat) : (plN h g n i).length = i := by
  induction i with
  | zero => rfl
  | succ i ih => rw [plN, List.length_append, ih]; rfl
/-- A key's places. -/
def plS (k : Int) (n : Nat) (key : List Int) : List Int := plN (sumS key 0).1 (sumS key 0).2 n k.toNat

theorem Fil.cell0 {T : TypeId} {w : World} {lo g : Nat} {k : Int} {bs : List Int} (h : Fil T w lo g k bs) : w.cell? ⟨g, 0, none⟩ = some (.int .i64 k) := by
  obtain ⟨h1, v, h2, h3⟩ := h
  exact (blk_cell h2 0).trans rfl
theorem Fil.cell1 {T : TypeId} {w : World} {lo g : Nat} {k : Int} {bs : List Int} (h : Fil T w lo g k bs) : ∃ A c, w.cell? ⟨g, 1, none⟩ = some (.slice A bs.length c) := by
  obtain ⟨h1, v, h2, h3⟩ := h
  obtain ⟨A, c, rfl⟩ := Kd.R_slice h3
  exact ⟨A, c, (blk_cell h2 1).trans rfl⟩
set_option maxHeartbeats 8000000 in
set_option maxRecDepth 100000 in
theorem made_c {w : World} {lo g : Nat} {k : Int} {bs : List Int} (h : Fil 83 w lo g k bs) : Calls Try.prog 77 #[.pointer (some ⟨g, 0, none⟩)] w fun e w' => e = .returned (.bool (decide (0 < k))) ∧ w' = w := by
  have h0 := h.cell0
  clear h
  go_enter Try.func77, Try.ntmps77
  go_wp2
  go_ret
  exact ⟨rfl, rfl⟩
set_option maxHeartbeats 8000000 in
set_option maxRecDepth 100000 in
theorem made_nil (w : World) : Calls Try.prog 77 #[.pointer none] w fun e w' => e = .returned (.bool false) ∧ w' = w := by
  go_enter Try.func77, Try.ntmps77
  go_wp2
  go_ret
  exact ⟨rfl, rfl⟩
theorem div_ne (n : Nat) (h0 : 0 < n) (h1 : n ≤ 1000000) : ((IntKind.u64.wrap (wrap64 (8 * (n : Int)))) == 0) = false := by
  rw [IntKind.wrap_u64]
  have : wrap64 (8 * (n : Int)) = 8 * n := by unfold wrap64; omega
  rw [this]
  exact beq_eq_false_iff_ne.mpr (by omega)
set_option maxHeartbeats 8000000 in
set_option maxRecDepth 100000 in
theorem place_c (h g i : Int) (n c f : Nat) (A : Option Addr) (p5 p6 p2 : Addr) (w : World) (h5 : w.cell? p5 = some (.int .u64 h)) (h6 : w.cell? p6 = some (.int .u64 g)) (h2 : w.cell? p2 = some (.pointer (some ⟨f, 0, none⟩)))
    (hb : w.cell? ⟨f, 1, none⟩ = some (.slice A n c)) (hn : 0 < n) (hn2 : n ≤ 1000000) :
    Calls Try.prog 79 #[.int .i64 i, .pointer (some p5), .pointer (some p6), .pointer (some p2)] w fun e w' => e = .returned (.int .i64 (plc h g n i)) ∧ Drawn0 w w' := by
  have c0 := div_ne n hn hn2
  have c1 : ¬ (IntKind.u64.wrap (wrap64 (8 * (n : Int)))) = 0 := beq_eq_false_iff_ne.mp c0
  clear hn hn2
  have hpl : plc h g n i = wrap64 (Int.tmod (IntKind.u64.wrap (h + IntKind.u64.wrap (IntKind.u64.wrap i * g))) (IntKind.u64.wrap (wrap64 (8 * (n : Int))))) := rfl
  rw [hpl]
  clear hpl
  generalize hD : IntKind.u64.wrap (wrap64 (8 * (n : Int))) = D at *
  generalize hE : IntKind.u64.wrap (h + IntKind.u64.wrap (IntKind.u64.wrap i * g)) = E at *
  go_enter Try.func79, Try.ntmps79
  go_wp2
  have hi64_ := i64_w
  go_quiet (fail)
  clear hi64_
  go_wp2_with (fail)
  go_ret
  exact ⟨by first | rfl | (simp [plc, i64_w]; done), by repeat (first | exact Drawn0.refl _ | apply Drawn0.step | apply Drawn0.drewN)⟩
end Go.Proofs.Ytcopbkdlpfcjpaa.L
