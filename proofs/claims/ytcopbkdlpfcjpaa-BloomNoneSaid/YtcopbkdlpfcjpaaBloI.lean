/- The law BloomNone, walked. -/
import Derived.Test.YtcopbkdlpfcjpaaBloH
namespace Go.Proofs.Ytcopbkdlpfcjpaa.L
open Go.RowKit Go.Proofs.YtcopbkdlpfcjpaaW.PrintWords Go.Proofs.YtcopbkdlpfcjpaaW.PrintLast Go.Proofs.YtcopbkdlpfcjpaaW.PrintMore Go.Proofs.Ytcopbkdlpfcjpaa.B Go.Proofs.Ytcopbkdlpfcjpaa.M
attribute [local go_sem] max2_int min2_int max_two min_two max_three min_three max_four min_four
set_option linter.unusedVariables false
set_option linter.unusedSimpArgs false
theorem zero_Fil (w : World) : Fil 83 (w.alloc (.cells #[.int .i64 0, .slice none 0 0] 83)) w.heap.size w.heap.size 0 [] := ⟨Nat.le_refl _, .slice none 0 0, heap_alloc_new w _, Kd.R_nil _ _ _ _ _⟩
set_option maxHeartbeats 8000000 in
set_option maxRecDepth 100000 in
theorem none_c (w : World) (v : Value) : Calls Try.prog 18 #[v] w fun e w' => e = .returned (.bool true) ∧ Below w.heap.size w w' := by
  have i0 : ∀ (p : Addr) (w : World), (Instr.index 84 (.agg #[.pointer none, .pointer (some p)]) (.int .i64 0)).run Try.prog w = .ok (.pointer none) w := fun _ _ => by kernel_rfl
  have i1 : ∀ (p : Addr) (w : World), (Instr.index 84 (.agg #[.pointer none, .pointer (some p)]) (.int .i64 1)).run Try.prog w = .ok (.pointer (some p)) w := fun _ _ => by kernel_rfl
  have hal : ∀ w : World, (Instr.alloc 83 true (.tuple #[])).run Try.prog w = .ok (.pointer (some ⟨w.heap.size, 0, none⟩)) (w.alloc (.cells #[.int .i64 0, .slice none 0 0] 83)) := fun _ => by kernel_rfl
  have HF := Aside0.mk (zero_Fil w)
  have HB := Aside0.mk (below_alloc (Below.refl w.heap.size w) (.cells #[.int .i64 0, .slice none 0 0] 83))
  go_enter Try.func18, Try.ntmps18
  go_wp2_with (fail)
  go_loopg [7] 2 (fun kq v7 w' => ((v7 = .int .i64 0 ∧ kq = 2) ∨ (v7 = .int .i64 1 ∧ kq = 1) ∨ (v7 = .int .i64 2 ∧ kq = 0)) ∧ Aside0 (Fil 83 w' w.heap.size w.heap.size 0 []) ∧ Aside0 (Below w.heap.size w w'))
  case atStart => exact ⟨.inl ⟨rfl, rfl⟩, HF, HB⟩
  case round =>
    obtain ⟨h, HFr, HBr⟩ := hrel
    rcases h with ⟨rfl, hk⟩ | ⟨rfl, hk⟩ | ⟨rfl, hk⟩
    · go_wp2_with (first | (go_at_call 46; with_reducible refine (Add_nil _ _).mono ?_; rintro e w1 ⟨rfl, hb1⟩; replace hb1 := Aside0.mk hb1) | (go_at_call 40; with_reducible refine (May_nil _ _).mono ?_; rintro e w2 ⟨rfl, hb2⟩; replace hb2 := Aside0.mk hb2) | (go_at_call 43; with_reducible refine (Places_nil _ _).mono ?_; rintro e w3 ⟨rfl, hb3⟩; replace hb3 := Aside0.mk hb3) | (go_at_call 45; with_reducible refine (Bytes_nil _).mono ?_; rintro e w' ⟨rfl, h2⟩; obtain rfl := h2.symm) | (go_at_call 55; with_reducible refine (Size_nil _).mono ?_; rintro e w' ⟨rfl, h2⟩; obtain rfl := h2.symm))
      go_roundg 1
      case measure => omega
      case rel =>
        have hb := (hb1.out.trans (hb2.out.mono hb1.out.size)).trans (hb3.out.mono (Nat.le_trans hb1.out.size hb2.out.size))
        exact ⟨.inr (.inl ⟨rfl, rfl⟩), ⟨HFr.out.below hb⟩, ⟨HBr.out.trans (hb.mono HBr.out.size)⟩⟩
    · go_wp2_with (first | (go_at_call 46; with_reducible refine (Add_zero HFr.out (by decide) _).mono ?_; rintro e w1 ⟨rfl, hb1⟩; have HF1 := Aside0.mk (HFr.out.below hb1); replace hb1 := Aside0.mk hb1) | (go_at_call 40; with_reducible refine (May_zero HF1.out (by decide) _).mono ?_; rintro e w2 ⟨rfl, hb2⟩; have HF2 := Aside0.mk (HF1.out.below hb2); replace hb2 := Aside0.mk hb2) | (go_at_call 43; with_reducible refine (Places_zero HF2.out (by decide) _).mono ?_; rintro e w3 ⟨rfl, hb3⟩; have HF3 := Aside0.mk (HF2.out.below hb3); replace hb3 := Aside0.mk hb3) | (go_at_call 45; with_reducible refine (Bytes_zero HF3.out (by decide)).mono ?_; rintro e w' ⟨rfl, h2⟩; obtain rfl := h2.symm) | (go_at_call 55; with_reducible refine (Size_zero HF3.out (by decide)).mono ?_; rintro e w' ⟨rfl, h2⟩; obtain rfl := h2.symm))
      go_roundg 0
      case measure => omega
      case rel =>
        have hb := (hb1.out.trans (hb2.out.mono hb1.out.size)).trans (hb3.out.mono (Nat.le_trans hb1.out.size hb2.out.size))
        exact ⟨.inr (.inr ⟨rfl, rfl⟩), ⟨HFr.out.below hb⟩, ⟨HBr.out.trans (hb.mono HBr.out.size)⟩⟩
    · go_wp2_with (go_at_call 37; with_reducible refine (lives_c _).mono ?_; rintro e w1 ⟨rfl, hb1⟩)
      go_ret
      exact ⟨rfl, HBr.out.trans (hb1.mono HBr.out.size)⟩
theorem bloomNone_walk (a0 : Option Addr) (len0 cap0 : Nat) (w : World) : Calls Try.prog 18 #[.slice a0 len0 cap0] w fun e w' => e = .returned (.bool true) ∧ Below w.heap.size w w' := none_c w _
end Go.Proofs.Ytcopbkdlpfcjpaa.L
