/- The bloom layer by hand: filters that no call made; the document's examples. -/
import Derived.Test.YtcopbkdlpfcjpaaBloF
namespace Go.Proofs.Ytcopbkdlpfcjpaa.L
open Go.RowKit Go.Proofs.YtcopbkdlpfcjpaaW.PrintWords Go.Proofs.YtcopbkdlpfcjpaaW.PrintLast Go.Proofs.YtcopbkdlpfcjpaaW.PrintMore Go.Proofs.Ytcopbkdlpfcjpaa.B Go.Proofs.Ytcopbkdlpfcjpaa.M
attribute [local go_sem] max2_int min2_int max_two min_two max_three min_three max_four min_four
set_option linter.unusedVariables false
set_option linter.unusedSimpArgs false
theorem Places_nil (w : World) (v : Value) : Calls Try.prog 43 #[.pointer none, v] w fun e w' => e = .returned (.slice none 0 0) ∧ Below w.heap.size w w' := by
  go_enter Try.func43, Try.ntmps43
  go_wp2_with (go_at_call 77; refine (made_nil _).mono ?_; rintro e w' ⟨rfl, rfl⟩)
  go_ret
  exact ⟨rfl, below_alloc (Below.refl w.heap.size w) _⟩
theorem Places_zero {w : World} {lo f : Nat} {k : Int} {bs : List Int} (hF : Fil 83 w lo f k bs) (hk0 : ¬ 0 < k) (v : Value) : Calls Try.prog 43 #[.pointer (some ⟨f, 0, none⟩), v] w fun e w' => e = .returned (.slice none 0 0) ∧ Below w.heap.size w w' := by
  have hb0 := below_alloc (Below.refl w.heap.size w) (.cells #[.pointer (some ⟨f, 0, none⟩)] 41)
  have hmade := made_c (hF.below hb0)
  rw [decide_eq_false hk0] at hmade
  have HM := Aside0.mk hmade
  have HB := Aside0.mk hb0
  clear hmade hb0 hF hk0
  go_enter Try.func43, Try.ntmps43
  go_wp2_with (go_at_call 77; refine HM.out.mono ?_; rintro e w' ⟨rfl, rfl⟩)
  go_ret
  exact ⟨rfl, HB.out⟩
theorem Add_nil (w : World) (v : Value) : Calls Try.prog 46 #[.pointer none, v] w fun e w' => e = .returned (.tuple #[]) ∧ Below w.heap.size w w' := by
  go_enter Try.func46, Try.ntmps46
  go_wp2_with (go_at_call 43; refine (Places_nil _ _).mono ?_; rintro e w' ⟨rfl, hb⟩)
  go_loopg [10] 0 (fun kq v10 w2 => v10 = .int .i64 0 ∧ w2 = w')
  case atStart => exact ⟨rfl, rfl⟩
  case round =>
    obtain ⟨rfl, rfl⟩ := hrel
    go_wp2_with (fail)
    first | go_end0 | go_ret2 | go_ret
    exact ⟨rfl, hb⟩
theorem Add_zero {w : World} {lo f : Nat} {k : Int} {bs : List Int} (hF : Fil 83 w lo f k bs) (hk0 : ¬ 0 < k) (v : Value) : Calls Try.prog 46 #[.pointer (some ⟨f, 0, none⟩), v] w fun e w' => e = .returned (.tuple #[]) ∧ Below w.heap.size w w' := by
  have HM := Aside0.mk (Places_zero hF hk0 v)
  clear hF hk0
  go_enter Try.func46, Try.ntmps46
  go_wp2_with (go_at_call 43; refine HM.out.mono ?_; rintro e w' ⟨rfl, hb⟩)
  go_loopg [10] 0 (fun kq v10 w2 => v10 = .int .i64 0 ∧ w2 = w')
  case atStart => exact ⟨rfl, rfl⟩
  case round =>
    obtain ⟨rfl, rfl⟩ := hrel
    go_wp2_with (fail)
    first | go_end0 | go_ret2 | go_ret
    exact ⟨rfl, hb⟩
theorem Bytes_nil (w : World) : Calls Try.prog 45 #[.pointer none] w fun e w' => e = .returned (.slice none 0 0) ∧ w' = w := by
  go_enter Try.func45, Try.ntmps45
  go_wp2_with (go_at_call 77; refine (made_nil _).mono ?_; rintro e w' ⟨rfl, rfl⟩)
  go_ret
  exact ⟨rfl, rfl⟩
theorem Bytes_zero {w : World} {lo f : Nat} {k : Int} {bs : List Int} (hF : Fil 83 w lo f k bs) (hk0 : ¬ 0 < k) : Calls Try.prog 45 #[.pointer (some ⟨f, 0, none⟩)] w fun e w' => e = .returned (.slice none 0 0) ∧ w' = w := by
  have hmade := made_c hF
  rw [decide_eq_false hk0] at hmade
  have HM := Aside0.mk hmade
  clear hmade hF hk0
  go_enter Try.func45, Try.ntmps45
  go_wp2_with (go_at_call 77; refine HM.out.mono ?_; rintro e w' ⟨rfl, rfl⟩)
  go_ret
  exact ⟨rfl, rfl⟩
end Go.Proofs.Ytcopbkdlpfcjpaa.L
