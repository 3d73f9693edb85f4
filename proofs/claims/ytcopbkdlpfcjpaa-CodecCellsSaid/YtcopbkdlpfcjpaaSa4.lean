/- Joined by a program of this session (slim.py) out of: Gx4, Gx1, Gx5: what this claim uses of them. -/
import Derived.Test.YtcopbkdlpfcjpaaSa1
namespace Go.Proofs.Ytcopbkdlpfcjpaa.G
open Go.RowKit Go.Proofs.YtcopbkdlpfcjpaaW.PrintWords Go.Proofs.YtcopbkdlpfcjpaaW.PrintLast Go.Proofs.YtcopbkdlpfcjpaaW.PrintMore Go.Proofs.Ytcopbkdlpfcjpaa.B Go.Proofs.Ytcopbkdlpfcjpaa.H
attribute [local go_sem] max2_int min2_int max_two min_two max_three min_three max_four min_four
set_option linter.unusedVariables false
set_option linter.unusedSimpArgs false
def skerryref01_Cells.l0 : Nat → List Int → List (S101) → Int → Int → Option (List Int)
  | 0, _, _, _, _ => none
  | k + 1, x3, x11, x12, x13 => if x13 < x12 then (if 0 ≤ x13 then (if x13 < (x11.length : Int) then ((skerryref01_PutText.f k x3 ((rd_T101 x11 x13).f0.f0)).bind fun t162 => ((skerryref01_PutText.f k t162 ((rd_T101 x11 x13).f0.f1)).bind fun t165 => ((skerryref01_Zig.f ((rd_T101 x11 x13).f0.f2)).bind fun t168 => ((skerryref01_Put.f k t165 t168).bind fun t169 => ((skerryref01_PutText.f k t169 ((rd_T101 x11 x13).f0.f3)).bind fun t172 => ((skerryref01_Zig.f ((rd_T101 x11 x13).f1.f0)).bind fun t176 => ((skerryref01_Put.f k t172 t176).bind fun t177 => (if (rd_T101 x11 x13).f1.f1 = true then (if t177.length < 140737488355328 then ((skerryref01_Zig.f ((rd_T101 x11 x13).f1.f2)).bind fun t183 => ((skerryref01_Put.f k (t177 ++ [1]) t183).bind fun t184 => (skerryref01_Cells.l0 k t184 x11 x12 (wrap64 (x13 + 1))))) else (none)) else (if t177.length < 140737488355328 then ((skerryref01_Put.f k (t177 ++ [0]) (IntKind.u64.wrap ((rd_T101 x11 x13).f1.f3.f0))).bind fun t190 => ((skerryref01_Zig.f ((rd_T101 x11 x13).f1.f3.f1)).bind fun t193 => ((skerryref01_Put.f k t190 t193).bind fun t194 => ((skerryref01_PutText.f k t194 ((rd_T101 x11 x13).f1.f3.f2)).bind fun t197 => (skerryref01_Cells.l0 k t197 x11 x12 (wrap64 (x13 + 1))))))) else (none)))))))))) else (none)) else (none)) else (some x3)
def skerryref01_Cells.f (k : Nat) (l0 : List (S101)) : Option (List Int) := (skerryref01_Put.f k ([] : List Int) (IntKind.u64.wrap ((l0.length : Int)))).bind fun t157 => (skerryref01_Cells.l0 k t157 l0 (l0.length : Int) 0)
theorem skerryref01_Cells.mono_l : ∀ k, (∀ y0 y1 y2 y3, LeO (skerryref01_Cells.l0 k y0 y1 y2 y3) (skerryref01_Cells.l0 (k + 1) y0 y1 y2 y3))
  | 0 => fun _ _ _ _ r h => by simp [skerryref01_Cells.l0] at h
  | k + 1 => by
    have ih0 := skerryref01_Cells.mono_l k
    · intro y0 y1 y2 y3
      unfold skerryref01_Cells.l0
      repeat' first
      | (with_reducible exact ih0 _ _ _ _)
      | (with_reducible exact skerryref01_Put.mono _ _ _)
      | (with_reducible exact skerryref01_PutText.mono _ _ _)
      | (with_reducible exact LeO.refl _)
      | (with_reducible exact LeO.none _)
      | (with_reducible refine LeO.ite ?_ ?_)
      | (with_reducible refine LeO.bind ?_ (fun _ => ?_))
      | exact ih0 _ _ _ _
      | exact skerryref01_Put.mono _ _ _
      | exact skerryref01_PutText.mono _ _ _
      | exact LeO.none _
      | refine LeO.ite ?_ ?_
      | refine LeO.bind ?_ (fun _ => ?_)
theorem skerryref01_Cells.mono : ∀ a0 k, LeO (skerryref01_Cells.f k a0) (skerryref01_Cells.f (k + 1) a0) := by
  intro a0 k
  have ih0 := skerryref01_Cells.mono_l k
  unfold skerryref01_Cells.f
  repeat' first
      | (with_reducible exact ih0 _ _ _ _)
      | (with_reducible exact skerryref01_Put.mono _ _ _)
      | (with_reducible exact skerryref01_PutText.mono _ _ _)
      | (with_reducible exact LeO.refl _)
      | (with_reducible exact LeO.none _)
      | (with_reducible refine LeO.ite ?_ ?_)
      | (with_reducible refine LeO.bind ?_ (fun _ => ?_))
      | exact ih0 _ _ _ _
      | exact skerryref01_Put.mono _ _ _
      | exact skerryref01_PutText.mono _ _ _
      | exact LeO.none _
      | refine LeO.ite ?_ ?_
      | refine LeO.bind ?_ (fun _ => ?_)
def skerryref01_Cells.T5 : Bool × List (List Nat × List Nat) := (true, [([], []), ([], []), ([1], [1]), ([2], [2]), ([0, 3], [0, 3]), ([], []), ([5], [5]), ([6], [6]), ([4, 7, 4], [4, 7]), ([8, 8, 0, 1, 2, 3, 4, 5, 6, 7, 8], [0, 8])])
def skerryref01_Cells.B5 : List Nat := [0, 0, 2, 6, 15, 0, 32, 96, 255, 511]
theorem skerryref01_Cells.tab5 : rtab .any (opsOf Try.f71 5) = skerryref01_Cells.T5 := by kernel_rfl
theorem skerryref01_Cells.bits5 : waitsOk skerryref01_Cells.T5.2 skerryref01_Cells.B5 = true := by kernel_rfl
def skerryref01_Cells.T6 : Bool × List (List Nat × List Nat) := (true, [([], []), ([], []), ([1], [1]), ([2], [2]), ([3], [3]), ([0, 4, 4], [0, 4]), ([], []), ([6], [6]), ([7], [7]), ([5, 8, 5], [5, 8]), ([9, 9, 0, 1, 2, 3, 4, 5, 6, 7, 8, 9], [0, 9])])
def skerryref01_Cells.B6 : List Nat := [0, 0, 2, 6, 14, 31, 0, 64, 192, 511, 1023]
theorem skerryref01_Cells.tab6 : rtab .any (opsOf Try.f71 6) = skerryref01_Cells.T6 := by kernel_rfl
theorem skerryref01_Cells.bits6 : waitsOk skerryref01_Cells.T6.2 skerryref01_Cells.B6 = true := by kernel_rfl
def skerryref01_Cells.T10 : Bool × List (List Nat × List Nat) := (true, [([], []), ([], []), ([0, 1], [0, 1]), ([], []), ([3], [3]), ([4, 2], [4]), ([2, 5, 5], [2, 5]), ([6, 6, 0, 1, 2, 3, 4, 5, 6], [0, 6])])
def skerryref01_Cells.B10 : List Nat := [0, 0, 3, 0, 8, 31, 63, 127]
theorem skerryref01_Cells.tab10 : rtab .any (opsOf Try.f71 10) = skerryref01_Cells.T10 := by kernel_rfl
theorem skerryref01_Cells.bits10 : waitsOk skerryref01_Cells.T10.2 skerryref01_Cells.B10 = true := by kernel_rfl
def skerryref01_Cells.T11 : Bool × List (List Nat × List Nat) := (true, [([], []), ([], []), ([0, 1], [0, 1]), ([], []), ([3], [3]), ([4], [4]), ([5], [5]), ([2, 6, 2], [2, 6]), ([7, 7, 0, 1, 2, 3, 4, 5, 6, 7], [0, 7])])
def skerryref01_Cells.B11 : List Nat := [0, 0, 3, 0, 8, 24, 56, 127, 255]
theorem skerryref01_Cells.tab11 : rtab .any (opsOf Try.f71 11) = skerryref01_Cells.T11 := by kernel_rfl
theorem skerryref01_Cells.bits11 : waitsOk skerryref01_Cells.T11.2 skerryref01_Cells.B11 = true := by kernel_rfl
def skerryref01_Cells.T12 : Bool × List (List Nat × List Nat) := (true, [([], []), ([], []), ([1], [1]), ([2], [2]), ([3], [3]), ([0, 4, 4], [0, 4]), ([], []), ([6], [6]), ([7], [7]), ([5, 8, 5], [5, 8]), ([9, 9, 0, 1, 2, 3, 4, 5, 6, 7, 8, 9], [0, 9])])
def skerryref01_Cells.B12 : List Nat := [0, 0, 2, 6, 14, 31, 0, 64, 192, 511, 1023]
theorem skerryref01_Cells.tab12 : rtab .any (opsOf Try.f71 12) = skerryref01_Cells.T12 := by kernel_rfl
theorem skerryref01_Cells.bits12 : waitsOk skerryref01_Cells.T12.2 skerryref01_Cells.B12 = true := by kernel_rfl
set_option maxHeartbeats 8000000 in
set_option maxRecDepth 100000 in
theorem skerryref01_Cells.calls (k : Nat) (A0 : Option Addr) (c0 : Nat) (l0 : List (S101)) (r : List Int) (w : World) (hr0 : Kd.C k101 w A0 l0.length l0) (hc0 : l0.length ≤ c0) (h : skerryref01_Cells.f k l0 = some r) :
    Calls Try.prog 71 #[.slice A0 l0.length c0] w fun e w' => ∃ v0_ : Value, e = .returned (v0_) ∧ Kd.R (Kd.int .u8) 5 w' w.heap.size (fun _ => True) v0_ r ∧ Below w.heap.size w w' := by
  have hu101 := Try.underlying101
  have hu99 := Try.underlying99
  have HR0 := Aside0.mk hr0
  have HC0 := Aside0.mk hc0
  clear hr0 hc0
  have HB := Aside0.mk (Below.refl w.heap.size w)
  have H : ((skerryref01_Put.f k ([] : List Int) (IntKind.u64.wrap ((l0.length : Int)))).bind fun t157 => (skerryref01_Cells.l0 k t157 l0 (l0.length : Int) 0)) = some r := h
  clear h
  replace H := Option.bind_eq_some_iff.mp H
  obtain ⟨t157, A20, H⟩ := H
  replace H : (skerryref01_Cells.l0 k t157 l0 (l0.length : Int) 0) = some r := H
  have A2 := Aside0.mk A20
  clear A20
  have H' := Aside0.mk H
  clear H
  go_enter Try.func71, Try.ntmps71
  go_wp2_with (first | ((with_reducible refine gate_callee (f := 29) rfl ?_); refine goesL_ (some 10) rfl rfl Try.func29 (by kernel_rfl) rfl #[.slice none 0 0, .int .u64 (IntKind.u64.wrap ((l0.length : Int)))] rfl (by (try simp only [List.map_toArray, List.map_cons, List.map_nil]); first | done | rfl | (simp only [List.length_drop, List.length_take]; rfl)) ?_; (refine (skerryref01_Put.calls k _ _ ([] : List Int) (IntKind.u64.wrap ((l0.length : Int))) t157 _ ?side1 ?side2 A2.out).mono ?_); (case side1 => exact Kd.C_nil _ _); (case side2 => exact Nat.le_refl _); rintro e w3 ⟨v158, rfl, ho0, hb⟩; refine ⟨_, rfl, ?_⟩; have n0_ := Aside0.mk (Kd.R_lower ho0 (below_size (by repeat (first | (with_reducible first | exact HB.out | apply below_alloc | apply pw_below_drewN | apply below_drew1) | exact HB.out)))); have n1_ := Aside0.mk (below_step (by repeat (first | (with_reducible first | exact HB.out | apply below_alloc | apply pw_below_drewN | apply below_drew1) | exact HB.out)) hb); clear HB; have HO159 := n0_; have HB := n1_; clear n0_ n1_; (try clear hb); (try clear hb2); (try clear hk); (try clear hi); (try clear ho0)))
  go_loopg [3, 13] k (fun kq v3 v13 w' => ∃ (x3_1 : List Int) (x13_1 : Int), v13 = .int .i64 x13_1 ∧ Aside0 (skerryref01_Cells.l0 kq x3_1 l0 (l0.length : Int) x13_1 = some r) ∧ Aside0 (kq ≤ k) ∧ Aside0 (Kd.R (Kd.int .u8) 5 w' w.heap.size (fun _ => True) v3 x3_1) ∧ Aside0 (Below w.heap.size w w'))
  case atStart => exact ⟨(t157), (0), (by first | rfl | (simp; done) | (simp [*]; done)), H', ⟨Nat.le_refl _⟩, ⟨by (with_reducible repeat (first | apply Kd.R_alloc | apply Kd.R_drewN | apply Kd.R_drew)); exact HO159.out⟩, ⟨by repeat (first | (with_reducible first | exact HB.out | apply below_alloc | apply pw_below_drewN | apply below_drew1) | exact HB.out)⟩⟩
  case round =>
    clear H'
    try clear c2
    try clear p2
    obtain ⟨x3_1, x13_1, rfl, HA, HK1, HO_3, HB⟩ := hrel
    cases gk with
    | zero => exact absurd HA.out (by simp [skerryref01_Cells.l0])
    | succ k1 =>
      have H := HA.out
      clear HA
      simp only [skerryref01_Cells.l0] at H
      by_cases c4 : x13_1 < (l0.length : Int)
      · rw [if_pos c4] at H
        have c4b0 : decide (x13_1 < (l0.length : Int)) = true := decide_eq_true c4
        clear c4
        by_cases c5 : 0 ≤ x13_1
        · rw [if_pos c5] at H
          have c5b0 : decide (0 ≤ x13_1) = true := decide_eq_true c5
          clear c5
          by_cases c6 : x13_1 < (l0.length : Int)
          · rw [if_pos c6] at H
            have c6b0 : decide (x13_1 < (l0.length : Int)) = true := decide_eq_true c6
            clear c6
            replace H := Option.bind_eq_some_iff.mp H
            obtain ⟨t162, A70, H⟩ := H
            replace H : ((skerryref01_PutText.f k1 t162 ((rd_T101 l0 x13_1).f0.f1)).bind fun t165 => ((skerryref01_Zig.f ((rd_T101 l0 x13_1).f0.f2)).bind fun t168 => ((skerryref01_Put.f k1 t165 t168).bind fun t169 => ((skerryref01_PutText.f k1 t169 ((rd_T101 l0 x13_1).f0.f3)).bind fun t172 => ((skerryref01_Zig.f ((rd_T101 l0 x13_1).f1.f0)).bind fun t176 => ((skerryref01_Put.f k1 t172 t176).bind fun t177 => (if (rd_T101 l0 x13_1).f1.f1 = true then (if t177.length < 140737488355328 then ((skerryref01_Zig.f ((rd_T101 l0 x13_1).f1.f2)).bind fun t183 => ((skerryref01_Put.f k1 (t177 ++ [1]) t183).bind fun t184 => (skerryref01_Cells.l0 k1 t184 l0 (l0.length : Int) (wrap64 (x13_1 + 1))))) else (none)) else (if t177.length < 140737488355328 then ((skerryref01_Put.f k1 (t177 ++ [0]) (IntKind.u64.wrap ((rd_T101 l0 x13_1).f1.f3.f0))).bind fun t190 => ((skerryref01_Zig.f ((rd_T101 l0 x13_1).f1.f3.f1)).bind fun t193 => ((skerryref01_Put.f k1 t190 t193).bind fun t194 => ((skerryref01_PutText.f k1 t194 ((rd_T101 l0 x13_1).f1.f3.f2)).bind fun t197 => (skerryref01_Cells.l0 k1 t197 l0 (l0.length : Int) (wrap64 (x13_1 + 1))))))) else (none))))))))) = some r := H
            have A7 := Aside0.mk A70
            clear A70
            replace H := Option.bind_eq_some_iff.mp H
            obtain ⟨t165, A80, H⟩ := H
            replace H : ((skerryref01_Zig.f ((rd_T101 l0 x13_1).f0.f2)).bind fun t168 => ((skerryref01_Put.f k1 t165 t168).bind fun t169 => ((skerryref01_PutText.f k1 t169 ((rd_T101 l0 x13_1).f0.f3)).bind fun t172 => ((skerryref01_Zig.f ((rd_T101 l0 x13_1).f1.f0)).bind fun t176 => ((skerryref01_Put.f k1 t172 t176).bind fun t177 => (if (rd_T101 l0 x13_1).f1.f1 = true then (if t177.length < 140737488355328 then ((skerryref01_Zig.f ((rd_T101 l0 x13_1).f1.f2)).bind fun t183 => ((skerryref01_Put.f k1 (t177 ++ [1]) t183).bind fun t184 => (skerryref01_Cells.l0 k1 t184 l0 (l0.length : Int) (wrap64 (x13_1 + 1))))) else (none)) else (if t177.length < 140737488355328 then ((skerryref01_Put.f k1 (t177 ++ [0]) (IntKind.u64.wrap ((rd_T101 l0 x13_1).f1.f3.f0))).bind fun t190 => ((skerryref01_Zig.f ((rd_T101 l0 x13_1).f1.f3.f1)).bind fun t193 => ((skerryref01_Put.f k1 t190 t193).bind fun t194 => ((skerryref01_PutText.f k1 t194 ((rd_T101 l0 x13_1).f1.f3.f2)).bind fun t197 => (skerryref01_Cells.l0 k1 t197 l0 (l0.length : Int) (wrap64 (x13_1 + 1))))))) else (none)))))))) = some r := H
            have A8 := Aside0.mk A80
            clear A80
            replace H := Option.bind_eq_some_iff.mp H
            obtain ⟨t168, A90, H⟩ := H
            replace H : ((skerryref01_Put.f k1 t165 t168).bind fun t169 => ((skerryref01_PutText.f k1 t169 ((rd_T101 l0 x13_1).f0.f3)).bind fun t172 => ((skerryref01_Zig.f ((rd_T101 l0 x13_1).f1.f0)).bind fun t176 => ((skerryref01_Put.f k1 t172 t176).bind fun t177 => (if (rd_T101 l0 x13_1).f1.f1 = true then (if t177.length < 140737488355328 then ((skerryref01_Zig.f ((rd_T101 l0 x13_1).f1.f2)).bind fun t183 => ((skerryref01_Put.f k1 (t177 ++ [1]) t183).bind fun t184 => (skerryref01_Cells.l0 k1 t184 l0 (l0.length : Int) (wrap64 (x13_1 + 1))))) else (none)) else (if t177.length < 140737488355328 then ((skerryref01_Put.f k1 (t177 ++ [0]) (IntKind.u64.wrap ((rd_T101 l0 x13_1).f1.f3.f0))).bind fun t190 => ((skerryref01_Zig.f ((rd_T101 l0 x13_1).f1.f3.f1)).bind fun t193 => ((skerryref01_Put.f k1 t190 t193).bind fun t194 => ((skerryref01_PutText.f k1 t194 ((rd_T101 l0 x13_1).f1.f3.f2)).bind fun t197 => (skerryref01_Cells.l0 k1 t197 l0 (l0.length : Int) (wrap64 (x13_1 + 1))))))) else (none))))))) = some r := H
            have A9 := Aside0.mk A90
            clear A90
            replace H := Option.bind_eq_some_iff.mp H
            obtain ⟨t169, A100, H⟩ := H
            replace H : ((skerryref01_PutText.f k1 t169 ((rd_T101 l0 x13_1).f0.f3)).bind fun t172 => ((skerryref01_Zig.f ((rd_T101 l0 x13_1).f1.f0)).bind fun t176 => ((skerryref01_Put.f k1 t172 t176).bind fun t177 => (if (rd_T101 l0 x13_1).f1.f1 = true then (if t177.length < 140737488355328 then ((skerryref01_Zig.f ((rd_T101 l0 x13_1).f1.f2)).bind fun t183 => ((skerryref01_Put.f k1 (t177 ++ [1]) t183).bind fun t184 => (skerryref01_Cells.l0 k1 t184 l0 (l0.length : Int) (wrap64 (x13_1 + 1))))) else (none)) else (if t177.length < 140737488355328 then ((skerryref01_Put.f k1 (t177 ++ [0]) (IntKind.u64.wrap ((rd_T101 l0 x13_1).f1.f3.f0))).bind fun t190 => ((skerryref01_Zig.f ((rd_T101 l0 x13_1).f1.f3.f1)).bind fun t193 => ((skerryref01_Put.f k1 t190 t193).bind fun t194 => ((skerryref01_PutText.f k1 t194 ((rd_T101 l0 x13_1).f1.f3.f2)).bind fun t197 => (skerryref01_Cells.l0 k1 t197 l0 (l0.length : Int) (wrap64 (x13_1 + 1))))))) else (none)))))) = some r := H
            have A10 := Aside0.mk A100
            clear A100
            replace H := Option.bind_eq_some_iff.mp H
            obtain ⟨t172, A110, H⟩ := H
            replace H : ((skerryref01_Zig.f ((rd_T101 l0 x13_1).f1.f0)).bind fun t176 => ((skerryref01_Put.f k1 t172 t176).bind fun t177 => (if (rd_T101 l0 x13_1).f1.f1 = true then (if t177.length < 140737488355328 then ((skerryref01_Zig.f ((rd_T101 l0 x13_1).f1.f2)).bind fun t183 => ((skerryref01_Put.f k1 (t177 ++ [1]) t183).bind fun t184 => (skerryref01_Cells.l0 k1 t184 l0 (l0.length : Int) (wrap64 (x13_1 + 1))))) else (none)) else (if t177.length < 140737488355328 then ((skerryref01_Put.f k1 (t177 ++ [0]) (IntKind.u64.wrap ((rd_T101 l0 x13_1).f1.f3.f0))).bind fun t190 => ((skerryref01_Zig.f ((rd_T101 l0 x13_1).f1.f3.f1)).bind fun t193 => ((skerryref01_Put.f k1 t190 t193).bind fun t194 => ((skerryref01_PutText.f k1 t194 ((rd_T101 l0 x13_1).f1.f3.f2)).bind fun t197 => (skerryref01_Cells.l0 k1 t197 l0 (l0.length : Int) (wrap64 (x13_1 + 1))))))) else (none))))) = some r := H
            have A11 := Aside0.mk A110
            clear A110
            replace H := Option.bind_eq_some_iff.mp H
            obtain ⟨t176, A120, H⟩ := H
            replace H : ((skerryref01_Put.f k1 t172 t176).bind fun t177 => (if (rd_T101 l0 x13_1).f1.f1 = true then (if t177.length < 140737488355328 then ((skerryref01_Zig.f ((rd_T101 l0 x13_1).f1.f2)).bind fun t183 => ((skerryref01_Put.f k1 (t177 ++ [1]) t183).bind fun t184 => (skerryref01_Cells.l0 k1 t184 l0 (l0.length : Int) (wrap64 (x13_1 + 1))))) else (none)) else (if t177.length < 140737488355328 then ((skerryref01_Put.f k1 (t177 ++ [0]) (IntKind.u64.wrap ((rd_T101 l0 x13_1).f1.f3.f0))).bind fun t190 => ((skerryref01_Zig.f ((rd_T101 l0 x13_1).f1.f3.f1)).bind fun t193 => ((skerryref01_Put.f k1 t190 t193).bind fun t194 => ((skerryref01_PutText.f k1 t194 ((rd_T101 l0 x13_1).f1.f3.f2)).bind fun t197 => (skerryref01_Cells.l0 k1 t197 l0 (l0.length : Int) (wrap64 (x13_1 + 1))))))) else (none)))) = some r := H
            have A12 := Aside0.mk A120
            clear A120
            replace H := Option.bind_eq_some_iff.mp H
            obtain ⟨t177, A130, H⟩ := H
            replace H : (if (rd_T101 l0 x13_1).f1.f1 = true then (if t177.length < 140737488355328 then ((skerryref01_Zig.f ((rd_T101 l0 x13_1).f1.f2)).bind fun t183 => ((skerryref01_Put.f k1 (t177 ++ [1]) t183).bind fun t184 => (skerryref01_Cells.l0 k1 t184 l0 (l0.length : Int) (wrap64 (x13_1 + 1))))) else (none)) else (if t177.length < 140737488355328 then ((skerryref01_Put.f k1 (t177 ++ [0]) (IntKind.u64.wrap ((rd_T101 l0 x13_1).f1.f3.f0))).bind fun t190 => ((skerryref01_Zig.f ((rd_T101 l0 x13_1).f1.f3.f1)).bind fun t193 => ((skerryref01_Put.f k1 t190 t193).bind fun t194 => ((skerryref01_PutText.f k1 t194 ((rd_T101 l0 x13_1).f1.f3.f2)).bind fun t197 => (skerryref01_Cells.l0 k1 t197 l0 (l0.length : Int) (wrap64 (x13_1 + 1))))))) else (none))) = some r := H
            have A13 := Aside0.mk A130
            clear A130
            obtain ⟨bq14, hbq14⟩ : ∃ b_ : Bool, b_ = ((rd_T101 l0 x13_1).f1.f1) := ⟨_, rfl⟩
            replace H : (if bq14 = true then (if t177.length < 140737488355328 then ((skerryref01_Zig.f ((rd_T101 l0 x13_1).f1.f2)).bind fun t183 => ((skerryref01_Put.f k1 (t177 ++ [1]) t183).bind fun t184 => (skerryref01_Cells.l0 k1 t184 l0 (l0.length : Int) (wrap64 (x13_1 + 1))))) else (none)) else (if t177.length < 140737488355328 then ((skerryref01_Put.f k1 (t177 ++ [0]) (IntKind.u64.wrap ((rd_T101 l0 x13_1).f1.f3.f0))).bind fun t190 => ((skerryref01_Zig.f ((rd_T101 l0 x13_1).f1.f3.f1)).bind fun t193 => ((skerryref01_Put.f k1 t190 t193).bind fun t194 => ((skerryref01_PutText.f k1 t194 ((rd_T101 l0 x13_1).f1.f3.f2)).bind fun t197 => (skerryref01_Cells.l0 k1 t197 l0 (l0.length : Int) (wrap64 (x13_1 + 1))))))) else (none))) = some r := by rw [← hbq14] at H; exact H
            have Nbq14 := Aside0.mk hbq14
            clear hbq14
            by_cases c15 : bq14 = true
            · subst c15
              have H1 : (if t177.length < 140737488355328 then ((skerryref01_Zig.f ((rd_T101 l0 x13_1).f1.f2)).bind fun t183 => ((skerryref01_Put.f k1 (t177 ++ [1]) t183).bind fun t184 => (skerryref01_Cells.l0 k1 t184 l0 (l0.length : Int) (wrap64 (x13_1 + 1))))) else (none)) = some r := by rw [if_pos rfl] at H; exact H
              clear H
              have H := H1
              clear H1
              by_cases c16 : t177.length < 140737488355328
              · rw [if_pos c16] at H
                have LMc16 := Aside0.mk c16
                clear c16
                obtain ⟨y180, hy180⟩ : ∃ y_ : List Int, y_ = (t177 ++ [1]) := ⟨_, rfl⟩
                replace H : ((skerryref01_Zig.f ((rd_T101 l0 x13_1).f1.f2)).bind fun t183 => ((skerryref01_Put.f k1 y180 t183).bind fun t184 => (skerryref01_Cells.l0 k1 t184 l0 (l0.length : Int) (wrap64 (x13_1 + 1))))) = some r := by first | (rw [hy180]; with_reducible exact H) | (have H2_ := (Option.bind_some _ _).symm.trans H; rw [hy180]; with_reducible exact H2_) | (have H2_ := (Option.bind_some _ _).symm.trans H; with_reducible exact H2_) | with_reducible exact H | (rw [hy180]; exact H) | exact H
                have Ny180 := Aside0.mk hy180
                clear hy180
                replace H := Option.bind_eq_some_iff.mp H
                obtain ⟨t183, A170, H⟩ := H
                replace H : ((skerryref01_Put.f k1 y180 t183).bind fun t184 => (skerryref01_Cells.l0 k1 t184 l0 (l0.length : Int) (wrap64 (x13_1 + 1)))) = some r := H
                have A17 := Aside0.mk A170
                clear A170
                replace H := Option.bind_eq_some_iff.mp H
                obtain ⟨t184, A180, H⟩ := H
                replace H : (skerryref01_Cells.l0 k1 t184 l0 (l0.length : Int) (wrap64 (x13_1 + 1))) = some r := H
                have A18 := Aside0.mk A180
                clear A180
                have H' := Aside0.mk H
                clear H
                have p160 : 0 ≤ (x13_1 : Int) := of_decide_eq_true (by first | (with_reducible assumption) | assumption)
                have q160 : x13_1 < (l0.length : Int) := of_decide_eq_true (by first | (with_reducible assumption) | assumption)
                obtain ⟨ad160, e160, hx160_0, hx160_1, hx160_2, hx160_3, hx160_4, hx160_5, hx160_6, hx160_7, hx160_8, hx160_9⟩ := at_T101 HR0.out x13_1 p160 q160
                (try rw [← Nbq14.out] at hx160_5)
                cases e160
                replace hx160_0 := (HB.out.cell (World.block_lt_of_cell? w _ hx160_0)).trans hx160_0
                replace hx160_1 := (HB.out.cell (World.block_lt_of_cell? w _ hx160_1)).trans hx160_1
                replace hx160_2 := (HB.out.cell (World.block_lt_of_cell? w _ hx160_2)).trans hx160_2
                replace hx160_3 := (HB.out.cell (World.block_lt_of_cell? w _ hx160_3)).trans hx160_3
                replace hx160_4 := (HB.out.cell (World.block_lt_of_cell? w _ hx160_4)).trans hx160_4
                replace hx160_5 := (HB.out.cell (World.block_lt_of_cell? w _ hx160_5)).trans hx160_5
                replace hx160_6 := (HB.out.cell (World.block_lt_of_cell? w _ hx160_6)).trans hx160_6
                replace hx160_7 := (HB.out.cell (World.block_lt_of_cell? w _ hx160_7)).trans hx160_7
                replace hx160_8 := (HB.out.cell (World.block_lt_of_cell? w _ hx160_8)).trans hx160_8
                replace hx160_9 := (HB.out.cell (World.block_lt_of_cell? w _ hx160_9)).trans hx160_9
                replace p160 := eq_true p160
                replace q160 := eq_true q160
                try go_wp2_with (first | ((with_reducible refine gate_dst (N := 5) rfl ?_); refine box_event ?hg (N := 5) ?hd (cs := #[.string (⟨#[]⟩ : ByteArray), .string (⟨#[]⟩ : ByteArray), .int .i64 0, .string (⟨#[]⟩ : ByteArray), .int .i64 0, .bool false, .int .i64 0, .int .i64 0, .int .i64 0, .string (⟨#[]⟩ : ByteArray)]) (t := 101) ?hr ?_; (case hd => rfl); (case hg => rfl); (case hr => first | (go_simp; done) | (go_simp; rfl)); intro gb161 hg w19 hbox hb; have n0_ := Aside0.mk (Kd.R_below (by (with_reducible repeat (first | apply Kd.R_alloc | apply Kd.R_drewN | apply Kd.R_drew)); exact HO_3.out) hb); have n1_ := Aside0.mk (below_step (by repeat (first | (with_reducible first | exact HB.out | apply below_alloc | apply pw_below_drewN | apply below_drew1) | exact HB.out)) hb); have n2_ := Aside0.mk (hbox); have n3_ := Aside0.mk ((by rw [hg]; exact (below_size (by repeat (first | (with_reducible first | exact HB.out | apply below_alloc | apply pw_below_drewN | apply below_drew1) | exact HB.out))) : w.heap.size ≤ gb161)); have n4_ := Aside0.mk ((by rw [hg]; exact (below_size (by repeat (first | (with_reducible first | exact HB.out | apply below_alloc | apply pw_below_drewN | apply below_drew1) | exact HB.out))) : w.heap.size ≤ gb161)); clear HO_3; clear HB; have HO_3 := n0_; have HB := n1_; have BK161 := n2_; have GW161 := n3_; have GE161 := n4_; clear n0_ n1_ n2_ n3_ n4_; clear hb hbox hg; have hcz20_0 : w19.cell? ⟨gb161, 0, none⟩ = some (.string (⟨#[]⟩ : ByteArray)) := (blk_cell BK161.out 0).trans rfl; have hcz20_1 : w19.cell? ⟨gb161, 1, none⟩ = some (.string (⟨#[]⟩ : ByteArray)) := (blk_cell BK161.out 1).trans rfl; have hcz20_2 : w19.cell? ⟨gb161, 2, none⟩ = some (.int .i64 0) := (blk_cell BK161.out 2).trans rfl; have hcz20_3 : w19.cell? ⟨gb161, 3, none⟩ = some (.string (⟨#[]⟩ : ByteArray)) := (blk_cell BK161.out 3).trans rfl; have hcz20_4 : w19.cell? ⟨gb161, 4, none⟩ = some (.int .i64 0) := (blk_cell BK161.out 4).trans rfl; have hcz20_5 : w19.cell? ⟨gb161, 5, none⟩ = some (.bool false) := (blk_cell BK161.out 5).trans rfl; have hcz20_6 : w19.cell? ⟨gb161, 6, none⟩ = some (.int .i64 0) := (blk_cell BK161.out 6).trans rfl; have hcz20_7 : w19.cell? ⟨gb161, 7, none⟩ = some (.int .i64 0) := (blk_cell BK161.out 7).trans rfl; have hcz20_8 : w19.cell? ⟨gb161, 8, none⟩ = some (.int .i64 0) := (blk_cell BK161.out 8).trans rfl; have hcz20_9 : w19.cell? ⟨gb161, 9, none⟩ = some (.string (⟨#[]⟩ : ByteArray)) := (blk_cell BK161.out 9).trans rfl; have hfz20_0 := blk_frozen BK161.out 0; have hfz20_1 := blk_frozen BK161.out 1; have hfz20_2 := blk_frozen BK161.out 2; have hfz20_3 := blk_frozen BK161.out 3; have hfz20_4 := blk_frozen BK161.out 4; have hfz20_5 := blk_frozen BK161.out 5; have hfz20_6 := blk_frozen BK161.out 6; have hfz20_7 := blk_frozen BK161.out 7; have hfz20_8 := blk_frozen BK161.out 8; have hfz20_9 := blk_frozen BK161.out 9))
                have n0_ : Aside0 (Kd.R (Kd.int .u8) 5 ((((((((((w19.setCell ⟨gb161, 0, none⟩ (.string ((rd_T101 l0 x13_1).f0.f0))).setCell ⟨gb161, 1, none⟩ (.string ((rd_T101 l0 x13_1).f0.f1))).setCell ⟨gb161, 2, none⟩ (.int .i64 ((rd_T101 l0 x13_1).f0.f2))).setCell ⟨gb161, 3, none⟩ (.string ((rd_T101 l0 x13_1).f0.f3))).setCell ⟨gb161, 4, none⟩ (.int .i64 ((rd_T101 l0 x13_1).f1.f0))).setCell ⟨gb161, 5, none⟩ (.bool true)).setCell ⟨gb161, 6, none⟩ (.int .i64 ((rd_T101 l0 x13_1).f1.f2))).setCell ⟨gb161, 7, none⟩ (.int .i64 ((rd_T101 l0 x13_1).f1.f3.f0))).setCell ⟨gb161, 8, none⟩ (.int .i64 ((rd_T101 l0 x13_1).f1.f3.f1))).setCell ⟨gb161, 9, none⟩ (.string ((rd_T101 l0 x13_1).f1.f3.f2))) w.heap.size (fun _ => True) u3 x3_1) := ⟨by (with_reducible repeat (first | apply Kd.R_alloc | apply Kd.R_drewN | apply Kd.R_drew)); exact Kd.R_mono (Kd.R_far (p := ⟨gb161, 9, none⟩) (Kd.R_far (p := ⟨gb161, 8, none⟩) (Kd.R_far (p := ⟨gb161, 7, none⟩) (Kd.R_far (p := ⟨gb161, 6, none⟩) (Kd.R_far (p := ⟨gb161, 5, none⟩) (Kd.R_far (p := ⟨gb161, 4, none⟩) (Kd.R_far (p := ⟨gb161, 3, none⟩) (Kd.R_far (p := ⟨gb161, 2, none⟩) (Kd.R_far (p := ⟨gb161, 1, none⟩) (Kd.R_far (p := ⟨gb161, 0, none⟩) (Kd.R_types HO_3.out BK161.out (by decide)) (fun _ hk => hk.2) (.string ((rd_T101 l0 x13_1).f0.f0))) (fun _ hk => hk.2) (.string ((rd_T101 l0 x13_1).f0.f1))) (fun _ hk => hk.2) (.int .i64 ((rd_T101 l0 x13_1).f0.f2))) (fun _ hk => hk.2) (.string ((rd_T101 l0 x13_1).f0.f3))) (fun _ hk => hk.2) (.int .i64 ((rd_T101 l0 x13_1).f1.f0))) (fun _ hk => hk.2) (.bool true)) (fun _ hk => hk.2) (.int .i64 ((rd_T101 l0 x13_1).f1.f2))) (fun _ hk => hk.2) (.int .i64 ((rd_T101 l0 x13_1).f1.f3.f0))) (fun _ hk => hk.2) (.int .i64 ((rd_T101 l0 x13_1).f1.f3.f1))) (fun _ hk => hk.2) (.string ((rd_T101 l0 x13_1).f1.f3.f2))) (fun _ hk => trivial)⟩
                have n1_ : Aside0 (((((((((((w19.setCell ⟨gb161, 0, none⟩ (.string ((rd_T101 l0 x13_1).f0.f0))).setCell ⟨gb161, 1, none⟩ (.string ((rd_T101 l0 x13_1).f0.f1))).setCell ⟨gb161, 2, none⟩ (.int .i64 ((rd_T101 l0 x13_1).f0.f2))).setCell ⟨gb161, 3, none⟩ (.string ((rd_T101 l0 x13_1).f0.f3))).setCell ⟨gb161, 4, none⟩ (.int .i64 ((rd_T101 l0 x13_1).f1.f0))).setCell ⟨gb161, 5, none⟩ (.bool true)).setCell ⟨gb161, 6, none⟩ (.int .i64 ((rd_T101 l0 x13_1).f1.f2))).setCell ⟨gb161, 7, none⟩ (.int .i64 ((rd_T101 l0 x13_1).f1.f3.f0))).setCell ⟨gb161, 8, none⟩ (.int .i64 ((rd_T101 l0 x13_1).f1.f3.f1))).setCell ⟨gb161, 9, none⟩ (.string ((rd_T101 l0 x13_1).f1.f3.f2))).heap[gb161]? = some (.cells #[.string ((rd_T101 l0 x13_1).f0.f0), .string ((rd_T101 l0 x13_1).f0.f1), .int .i64 ((rd_T101 l0 x13_1).f0.f2), .string ((rd_T101 l0 x13_1).f0.f3), .int .i64 ((rd_T101 l0 x13_1).f1.f0), .bool true, .int .i64 ((rd_T101 l0 x13_1).f1.f2), .int .i64 ((rd_T101 l0 x13_1).f1.f3.f0), .int .i64 ((rd_T101 l0 x13_1).f1.f3.f1), .string ((rd_T101 l0 x13_1).f1.f3.f2)] 101 (0, 0))) := ⟨by (with_reducible repeat (first | refine blk_drewN ?_ _ | refine blk_drew ?_ | refine blk_alloc ?_ _)); refine blk_put (cs := #[.string ((rd_T101 l0 x13_1).f0.f0), .string ((rd_T101 l0 x13_1).f0.f1), .int .i64 ((rd_T101 l0 x13_1).f0.f2), .string ((rd_T101 l0 x13_1).f0.f3), .int .i64 ((rd_T101 l0 x13_1).f1.f0), .bool true, .int .i64 ((rd_T101 l0 x13_1).f1.f2), .int .i64 ((rd_T101 l0 x13_1).f1.f3.f0), .int .i64 ((rd_T101 l0 x13_1).f1.f3.f1), .string (⟨#[]⟩ : ByteArray)]) ?_ 9 _ rfl; (with_reducible repeat (first | refine blk_drewN ?_ _ | refine blk_drew ?_ | refine blk_alloc ?_ _)); refine blk_put (cs := #[.string ((rd_T101 l0 x13_1).f0.f0), .string ((rd_T101 l0 x13_1).f0.f1), .int .i64 ((rd_T101 l0 x13_1).f0.f2), .string ((rd_T101 l0 x13_1).f0.f3), .int .i64 ((rd_T101 l0 x13_1).f1.f0), .bool true, .int .i64 ((rd_T101 l0 x13_1).f1.f2), .int .i64 ((rd_T101 l0 x13_1).f1.f3.f0), .int .i64 0, .string (⟨#[]⟩ : ByteArray)]) ?_ 8 _ rfl; (with_reducible repeat (first | refine blk_drewN ?_ _ | refine blk_drew ?_ | refine blk_alloc ?_ _)); refine blk_put (cs := #[.string ((rd_T101 l0 x13_1).f0.f0), .string ((rd_T101 l0 x13_1).f0.f1), .int .i64 ((rd_T101 l0 x13_1).f0.f2), .string ((rd_T101 l0 x13_1).f0.f3), .int .i64 ((rd_T101 l0 x13_1).f1.f0), .bool true, .int .i64 ((rd_T101 l0 x13_1).f1.f2), .int .i64 0, .int .i64 0, .string (⟨#[]⟩ : ByteArray)]) ?_ 7 _ rfl; (with_reducible repeat (first | refine blk_drewN ?_ _ | refine blk_drew ?_ | refine blk_alloc ?_ _)); refine blk_put (cs := #[.string ((rd_T101 l0 x13_1).f0.f0), .string ((rd_T101 l0 x13_1).f0.f1), .int .i64 ((rd_T101 l0 x13_1).f0.f2), .string ((rd_T101 l0 x13_1).f0.f3), .int .i64 ((rd_T101 l0 x13_1).f1.f0), .bool true, .int .i64 0, .int .i64 0, .int .i64 0, .string (⟨#[]⟩ : ByteArray)]) ?_ 6 _ rfl; (with_reducible repeat (first | refine blk_drewN ?_ _ | refine blk_drew ?_ | refine blk_alloc ?_ _)); refine blk_put (cs := #[.string ((rd_T101 l0 x13_1).f0.f0), .string ((rd_T101 l0 x13_1).f0.f1), .int .i64 ((rd_T101 l0 x13_1).f0.f2), .string ((rd_T101 l0 x13_1).f0.f3), .int .i64 ((rd_T101 l0 x13_1).f1.f0), .bool false, .int .i64 0, .int .i64 0, .int .i64 0, .string (⟨#[]⟩ : ByteArray)]) ?_ 5 _ rfl; (with_reducible repeat (first | refine blk_drewN ?_ _ | refine blk_drew ?_ | refine blk_alloc ?_ _)); refine blk_put (cs := #[.string ((rd_T101 l0 x13_1).f0.f0), .string ((rd_T101 l0 x13_1).f0.f1), .int .i64 ((rd_T101 l0 x13_1).f0.f2), .string ((rd_T101 l0 x13_1).f0.f3), .int .i64 0, .bool false, .int .i64 0, .int .i64 0, .int .i64 0, .string (⟨#[]⟩ : ByteArray)]) ?_ 4 _ rfl; (with_reducible repeat (first | refine blk_drewN ?_ _ | refine blk_drew ?_ | refine blk_alloc ?_ _)); refine blk_put (cs := #[.string ((rd_T101 l0 x13_1).f0.f0), .string ((rd_T101 l0 x13_1).f0.f1), .int .i64 ((rd_T101 l0 x13_1).f0.f2), .string (⟨#[]⟩ : ByteArray), .int .i64 0, .bool false, .int .i64 0, .int .i64 0, .int .i64 0, .string (⟨#[]⟩ : ByteArray)]) ?_ 3 _ rfl; (with_reducible repeat (first | refine blk_drewN ?_ _ | refine blk_drew ?_ | refine blk_alloc ?_ _)); refine blk_put (cs := #[.string ((rd_T101 l0 x13_1).f0.f0), .string ((rd_T101 l0 x13_1).f0.f1), .int .i64 0, .string (⟨#[]⟩ : ByteArray), .int .i64 0, .bool false, .int .i64 0, .int .i64 0, .int .i64 0, .string (⟨#[]⟩ : ByteArray)]) ?_ 2 _ rfl; (with_reducible repeat (first | refine blk_drewN ?_ _ | refine blk_drew ?_ | refine blk_alloc ?_ _)); refine blk_put (cs := #[.string ((rd_T101 l0 x13_1).f0.f0), .string (⟨#[]⟩ : ByteArray), .int .i64 0, .string (⟨#[]⟩ : ByteArray), .int .i64 0, .bool false, .int .i64 0, .int .i64 0, .int .i64 0, .string (⟨#[]⟩ : ByteArray)]) ?_ 1 _ rfl; (with_reducible repeat (first | refine blk_drewN ?_ _ | refine blk_drew ?_ | refine blk_alloc ?_ _)); refine blk_put (cs := #[.string (⟨#[]⟩ : ByteArray), .string (⟨#[]⟩ : ByteArray), .int .i64 0, .string (⟨#[]⟩ : ByteArray), .int .i64 0, .bool false, .int .i64 0, .int .i64 0, .int .i64 0, .string (⟨#[]⟩ : ByteArray)]) ?_ 0 _ rfl; (with_reducible repeat (first | refine blk_drewN ?_ _ | refine blk_drew ?_ | refine blk_alloc ?_ _)); exact BK161.out⟩
                have n2_ : Aside0 (Below w.heap.size w ((((((((((w19.setCell ⟨gb161, 0, none⟩ (.string ((rd_T101 l0 x13_1).f0.f0))).setCell ⟨gb161, 1, none⟩ (.string ((rd_T101 l0 x13_1).f0.f1))).setCell ⟨gb161, 2, none⟩ (.int .i64 ((rd_T101 l0 x13_1).f0.f2))).setCell ⟨gb161, 3, none⟩ (.string ((rd_T101 l0 x13_1).f0.f3))).setCell ⟨gb161, 4, none⟩ (.int .i64 ((rd_T101 l0 x13_1).f1.f0))).setCell ⟨gb161, 5, none⟩ (.bool true)).setCell ⟨gb161, 6, none⟩ (.int .i64 ((rd_T101 l0 x13_1).f1.f2))).setCell ⟨gb161, 7, none⟩ (.int .i64 ((rd_T101 l0 x13_1).f1.f3.f0))).setCell ⟨gb161, 8, none⟩ (.int .i64 ((rd_T101 l0 x13_1).f1.f3.f1))).setCell ⟨gb161, 9, none⟩ (.string ((rd_T101 l0 x13_1).f1.f3.f2)))) := ⟨by repeat (first | (with_reducible first | exact HB.out | apply below_alloc | apply pw_below_drewN | apply below_drew1 | refine below_set ?_ GE161.out) | exact HB.out)⟩
                (try clear HO_3)
                (try clear BK161)
                (try clear HB)
                generalize ((((((((((w19.setCell ⟨gb161, 0, none⟩ (.string ((rd_T101 l0 x13_1).f0.f0))).setCell ⟨gb161, 1, none⟩ (.string ((rd_T101 l0 x13_1).f0.f1))).setCell ⟨gb161, 2, none⟩ (.int .i64 ((rd_T101 l0 x13_1).f0.f2))).setCell ⟨gb161, 3, none⟩ (.string ((rd_T101 l0 x13_1).f0.f3))).setCell ⟨gb161, 4, none⟩ (.int .i64 ((rd_T101 l0 x13_1).f1.f0))).setCell ⟨gb161, 5, none⟩ (.bool true)).setCell ⟨gb161, 6, none⟩ (.int .i64 ((rd_T101 l0 x13_1).f1.f2))).setCell ⟨gb161, 7, none⟩ (.int .i64 ((rd_T101 l0 x13_1).f1.f3.f0))).setCell ⟨gb161, 8, none⟩ (.int .i64 ((rd_T101 l0 x13_1).f1.f3.f1))).setCell ⟨gb161, 9, none⟩ (.string ((rd_T101 l0 x13_1).f1.f3.f2))) = w21 at n0_ n1_ n2_ ⊢
                have HO_3 := n0_
                have BK161 := n1_
                have HB := n2_
                clear n0_ n1_ n2_
                have n0_ := Aside0.mk (Kd.R_drew HO_3.out)
                have n1_ := Aside0.mk (blk_drew BK161.out)
                have n2_ := Aside0.mk (below_drew1 HB.out)
                clear HO_3
                clear BK161
                clear HB
                have HO_3 := n0_
                have BK161 := n1_
                have HB := n2_
                clear n0_ n1_ n2_
                obtain ⟨Ao23, co23, eo23⟩ := Kd.R_slice HO_3.out
                (first | subst eo23 | (injection eo23 with f1_ f2_ f3_; have f4_ := f1_.symm; have f5_ := f3_.symm; clear f1_ f2_ f3_; subst f4_; subst f5_))
                refine start_ (n := 10) (S := fun w' => w'.cell? ⟨gb161, 0, none⟩ = some (.string ((rd_T101 l0 x13_1).f0.f0)) ∧ w'.cell? ⟨gb161, 1, none⟩ = some (.string ((rd_T101 l0 x13_1).f0.f1)) ∧ w'.cell? ⟨gb161, 2, none⟩ = some (.int .i64 ((rd_T101 l0 x13_1).f0.f2)) ∧ w'.cell? ⟨gb161, 3, none⟩ = some (.string ((rd_T101 l0 x13_1).f0.f3)) ∧ w'.cell? ⟨gb161, 4, none⟩ = some (.int .i64 ((rd_T101 l0 x13_1).f1.f0)) ∧ w'.cell? ⟨gb161, 5, none⟩ = some (.bool true) ∧ w'.cell? ⟨gb161, 6, none⟩ = some (.int .i64 ((rd_T101 l0 x13_1).f1.f2)) ∧ w'.cell? ⟨gb161, 7, none⟩ = some (.int .i64 ((rd_T101 l0 x13_1).f1.f3.f0)) ∧ w'.cell? ⟨gb161, 8, none⟩ = some (.int .i64 ((rd_T101 l0 x13_1).f1.f3.f1)) ∧ w'.cell? ⟨gb161, 9, none⟩ = some (.string ((rd_T101 l0 x13_1).f1.f3.f2))) (ds := []) #[false, false, false, false, false, false, false, false, false, false] (by kernel_rfl) rfl rfl ⟨(blk_cell BK161.out 0).trans rfl, (blk_cell BK161.out 1).trans rfl, (blk_cell BK161.out 2).trans rfl, (blk_cell BK161.out 3).trans rfl, (blk_cell BK161.out 4).trans rfl, (blk_cell BK161.out 5).trans rfl, (blk_cell BK161.out 6).trans rfl, (blk_cell BK161.out 7).trans rfl, (blk_cell BK161.out 8).trans rfl, (blk_cell BK161.out 9).trans rfl⟩ (fun hHeld => ?_); refine with_tabW skerryref01_Cells.tab5 skerryref01_Cells.bits5 (fun HT_ HW_ => ?_)
                generalize w21.drew = w22 at HO_3 BK161 HB hHeld ⊢
                refine pure_ (i := 0) (N := some 17) (v := ?_) (a' := ?_) #[true, false, false, false, false, false, false, false, false, false] rfl rfl (any_of HT_.out (by kernel_rfl)) (fun _ _ _ h => h) (Or.inl ⟨by rfl, ?_⟩) ?_ ?_
                rotate_left
                · intro w'
                  go_simp
                  with_reducible rfl
                rotate_left
                · simp only [Act.put, List.setIfInBounds_toArray, List.set_cons_zero, List.set_cons_succ, i64_w, i32_w]
                  rfl
                refine pure_ (i := 1) (N := some 18) (v := ?_) (a' := ?_) #[true, true, false, false, false, false, false, false, false, false] rfl rfl (any_of HT_.out (by kernel_rfl)) (fun _ _ _ h => h) (Or.inl ⟨by rfl, ?_⟩) ?_ ?_
                rotate_left
                · intro w'
                  go_simp
                  with_reducible rfl
                rotate_left
                · simp only [Act.put, List.setIfInBounds_toArray, List.set_cons_zero, List.set_cons_succ, i64_w, i32_w]
                  rfl
                refine pure_ (i := 2) (N := some 19) (v := ?_) (a' := ?_) #[true, true, true, false, false, false, false, false, false, false] rfl rfl (any_of HT_.out (by kernel_rfl)) (fun _ _ _ h => h) (Or.inl ⟨by rfl, ?_⟩) ?_ ?_
                rotate_left
                · intro w'
                  go_simp
                  with_reducible rfl
                rotate_left
                · simp only [Act.put, List.setIfInBounds_toArray, List.set_cons_zero, List.set_cons_succ, i64_w, i32_w]
                  rfl
                refine pure_ (i := 5) (N := some 22) (v := ?_) (a' := ?_) #[true, true, true, false, false, true, false, false, false, false] rfl rfl (any_of HT_.out (by kernel_rfl)) (fun _ _ _ h => h) (Or.inl ⟨by rfl, ?_⟩) ?_ ?_
                rotate_left
                · intro w'
                  go_simp
                  with_reducible rfl
                rotate_left
                · simp only [Act.put, List.setIfInBounds_toArray, List.set_cons_zero, List.set_cons_succ, i64_w, i32_w]
                  rfl
                refine pure_ (i := 6) (N := some 23) (v := ?_) (a' := ?_) #[true, true, true, false, false, true, true, false, false, false] rfl rfl (any_of HT_.out (by kernel_rfl)) (fun _ _ _ h => h) (Or.inl ⟨by rfl, ?_⟩) ?_ ?_
                rotate_left
                · intro w'
                  go_simp
                  with_reducible rfl
                rotate_left
                · simp only [Act.put, List.setIfInBounds_toArray, List.set_cons_zero, List.set_cons_succ, i64_w, i32_w]
                  rfl
                refine take_ (i := 3) (N := some 20) (v := ?_) (a' := ?_) #[true, true, true, true, false, true, true, false, false, false] rfl rfl (take_ofW HT_.out HW_.out (by kernel_rfl)) (fun _ _ _ h => h) (Or.inl ⟨by rfl, ?_⟩) hHeld ?_ ?_
                rotate_left
                · rintro w' ⟨s0, s1, s2, s3, s4, s5, s6, s7, s8, s9⟩
                  go_simp
                  with_reducible rfl
                rotate_left
                · simp only [Act.put, List.setIfInBounds_toArray, List.set_cons_zero, List.set_cons_succ, i64_w, i32_w]
                  rfl
                refine take_ (i := 7) (N := some 24) (v := ?_) (a' := ?_) #[true, true, true, true, false, true, true, true, false, false] rfl rfl (take_ofW HT_.out HW_.out (by kernel_rfl)) (fun _ _ _ h => h) (Or.inl ⟨by rfl, ?_⟩) hHeld ?_ ?_
                rotate_left
                · rintro w' ⟨s0, s1, s2, s3, s4, s5, s6, s7, s8, s9⟩
                  go_simp
                  with_reducible rfl
                rotate_left
                · simp only [Act.put, List.setIfInBounds_toArray, List.set_cons_zero, List.set_cons_succ, i64_w, i32_w]
                  rfl
                refine one_ (i := 4) (N := some 21) #[true, true, true, true, true, true, true, true, false, false] rfl rfl (one_of HT_.out (by kernel_rfl)) (by decide) (fun K hK => ?_)
                refine goes_ Try.func36 (by kernel_rfl) rfl #[.slice Ao23 x3_1.length co23, .string ((rd_T101 l0 x13_1).f0.f0)] (by rfl) rfl rfl (by (try simp only [List.map_toArray, List.map_cons, List.map_nil]); first | done | rfl | (simp only [List.length_drop, List.length_take]; rfl)) ?_
                with_reducible refine (skerryref01_PutText.calls k1 _ _ x3_1 ((rd_T101 l0 x13_1).f0.f0) t162 _ ?side1 ?side2 A7.out).mono ?_
                (case side1 => repeat (first | exact (Kd.R_reads' HO_3.out).2.2 | (with_reducible refine Kd.C_alloc ?_ _) | (with_reducible refine Kd.C_drewN ?_ _) | (with_reducible refine Kd.C_drew ?_)))
                (case side2 => exact (Kd.R_reads' HO_3.out).2.1)
                rintro e w24 ⟨v163, rfl, ho0, hb⟩
                refine ⟨_, rfl, ?_⟩
                have n0_ := Aside0.mk (Kd.R_elder' (by (with_reducible repeat (first | apply Kd.R_alloc | apply Kd.R_drewN | apply Kd.R_drew)); exact HO_3.out) (Kd.R_base ho0) hb)
                have n1_ := Aside0.mk (Kd.R_lower (Kd.R_new' ho0 (Kd.R_lt (by (with_reducible repeat (first | apply Kd.R_alloc | apply Kd.R_drewN | apply Kd.R_drew)); exact HO_3.out))) (below_size (by repeat (first | (with_reducible first | exact HB.out | apply below_alloc | apply pw_below_drewN | apply below_drew1 | refine below_set ?_ GE161.out) | exact HB.out))))
                have n2_ := Aside0.mk (blk_below (g := gb161) (o := .cells #[.string ((rd_T101 l0 x13_1).f0.f0), .string ((rd_T101 l0 x13_1).f0.f1), .int .i64 ((rd_T101 l0 x13_1).f0.f2), .string ((rd_T101 l0 x13_1).f0.f3), .int .i64 ((rd_T101 l0 x13_1).f1.f0), .bool true, .int .i64 ((rd_T101 l0 x13_1).f1.f2), .int .i64 ((rd_T101 l0 x13_1).f1.f3.f0), .int .i64 ((rd_T101 l0 x13_1).f1.f3.f1), .string ((rd_T101 l0 x13_1).f1.f3.f2)] 101 (0, 0)) (by (with_reducible repeat (first | refine blk_drewN ?_ _ | refine blk_drew ?_ | refine blk_alloc ?_ _)); exact BK161.out) hb)
                have n3_ := Aside0.mk (below_step (by repeat (first | (with_reducible first | exact HB.out | apply below_alloc | apply pw_below_drewN | apply below_drew1 | refine below_set ?_ GE161.out) | exact HB.out)) hb)
                clear HO_3
                clear BK161
                clear HB
                have HO_3 := n0_
                have HO164 := n1_
                have BK161 := n2_
                have HB := n3_
                clear n0_ n1_ n2_ n3_
                (try clear hb)
                (try clear hb2)
                (try clear hk)
                (try clear hi)
                (try clear ho0)
                obtain ⟨Ao25, co25, eo25⟩ := Kd.R_slice HO164.out
                (first | subst eo25 | (injection eo25 with f1_ f2_ f3_; have f4_ := f1_.symm; have f5_ := f3_.symm; clear f1_ f2_ f3_; subst f4_; subst f5_))
                refine hK.out _ _ ⟨(blk_cell BK161.out 0).trans rfl, (blk_cell BK161.out 1).trans rfl, (blk_cell BK161.out 2).trans rfl, (blk_cell BK161.out 3).trans rfl, (blk_cell BK161.out 4).trans rfl, (blk_cell BK161.out 5).trans rfl, (blk_cell BK161.out 6).trans rfl, (blk_cell BK161.out 7).trans rfl, (blk_cell BK161.out 8).trans rfl, (blk_cell BK161.out 9).trans rfl⟩ (fun hHeld => ?_)
                clear hK K
                refine norm_ (a' := ?_) ?_ ?_
                rotate_left
                · show Act.put _ (some 21) _ = _
                  simp only [Act.put, List.setIfInBounds_toArray, List.set_cons_zero, List.set_cons_succ, i64_w, i32_w]
                  rfl
                refine one_ (i := 8) (N := some 25) #[true, true, true, true, true, true, true, true, true, false] rfl rfl (one_of HT_.out (by kernel_rfl)) (by decide) (fun K hK => ?_)
                refine goes_ Try.func36 (by kernel_rfl) rfl #[.slice Ao25 t162.length co25, .string ((rd_T101 l0 x13_1).f0.f1)] (by rfl) rfl rfl (by (try simp only [List.map_toArray, List.map_cons, List.map_nil]); first | done | rfl | (simp only [List.length_drop, List.length_take]; rfl)) ?_
                with_reducible refine (skerryref01_PutText.calls k1 _ _ t162 ((rd_T101 l0 x13_1).f0.f1) t165 _ ?side1 ?side2 A8.out).mono ?_
                (case side1 => repeat (first | exact (Kd.R_reads' HO164.out).2.2 | (with_reducible refine Kd.C_alloc ?_ _) | (with_reducible refine Kd.C_drewN ?_ _) | (with_reducible refine Kd.C_drew ?_)))
                (case side2 => exact (Kd.R_reads' HO164.out).2.1)
                rintro e w26 ⟨v166, rfl, ho0, hb⟩
                refine ⟨_, rfl, ?_⟩
                have n0_ := Aside0.mk (Kd.R_elder' (by (with_reducible repeat (first | apply Kd.R_alloc | apply Kd.R_drewN | apply Kd.R_drew)); exact HO_3.out) (Kd.R_base ho0) hb)
                have n1_ := Aside0.mk (Kd.R_elder' (by (with_reducible repeat (first | apply Kd.R_alloc | apply Kd.R_drewN | apply Kd.R_drew)); exact HO164.out) (Kd.R_base ho0) hb)
                have n2_ := Aside0.mk (Kd.R_lower (Kd.R_new' (Kd.R_new' ho0 (Kd.R_lt (by (with_reducible repeat (first | apply Kd.R_alloc | apply Kd.R_drewN | apply Kd.R_drew)); exact HO_3.out))) (Kd.R_lt (by (with_reducible repeat (first | apply Kd.R_alloc | apply Kd.R_drewN | apply Kd.R_drew)); exact HO164.out))) (below_size (by repeat (first | (with_reducible first | exact HB.out | apply below_alloc | apply pw_below_drewN | apply below_drew1 | refine below_set ?_ GE161.out) | exact HB.out))))
                have n3_ := Aside0.mk (blk_below (g := gb161) (o := .cells #[.string ((rd_T101 l0 x13_1).f0.f0), .string ((rd_T101 l0 x13_1).f0.f1), .int .i64 ((rd_T101 l0 x13_1).f0.f2), .string ((rd_T101 l0 x13_1).f0.f3), .int .i64 ((rd_T101 l0 x13_1).f1.f0), .bool true, .int .i64 ((rd_T101 l0 x13_1).f1.f2), .int .i64 ((rd_T101 l0 x13_1).f1.f3.f0), .int .i64 ((rd_T101 l0 x13_1).f1.f3.f1), .string ((rd_T101 l0 x13_1).f1.f3.f2)] 101 (0, 0)) (by (with_reducible repeat (first | refine blk_drewN ?_ _ | refine blk_drew ?_ | refine blk_alloc ?_ _)); exact BK161.out) hb)
                have n4_ := Aside0.mk (below_step (by repeat (first | (with_reducible first | exact HB.out | apply below_alloc | apply pw_below_drewN | apply below_drew1 | refine below_set ?_ GE161.out) | exact HB.out)) hb)
                clear HO_3
                clear HO164
                clear BK161
                clear HB
                have HO_3 := n0_
                have HO164 := n1_
                have HO167 := n2_
                have BK161 := n3_
                have HB := n4_
                clear n0_ n1_ n2_ n3_ n4_
                (try clear hb)
                (try clear hb2)
                (try clear hk)
                (try clear hi)
                (try clear ho0)
                refine hK.out _ _ ⟨(blk_cell BK161.out 0).trans rfl, (blk_cell BK161.out 1).trans rfl, (blk_cell BK161.out 2).trans rfl, (blk_cell BK161.out 3).trans rfl, (blk_cell BK161.out 4).trans rfl, (blk_cell BK161.out 5).trans rfl, (blk_cell BK161.out 6).trans rfl, (blk_cell BK161.out 7).trans rfl, (blk_cell BK161.out 8).trans rfl, (blk_cell BK161.out 9).trans rfl⟩ (fun hHeld => ?_)
                clear hK K
                refine norm_ (a' := ?_) ?_ ?_
                rotate_left
                · show Act.put _ (some 25) _ = _
                  simp only [Act.put, List.setIfInBounds_toArray, List.set_cons_zero, List.set_cons_succ, i64_w, i32_w]
                  rfl
                refine pure_ (i := 9) (N := some 3) (v := ?_) (a' := ?_) #[true, true, true, true, true, true, true, true, true, true] rfl rfl (any_of HT_.out (by kernel_rfl)) (fun _ _ _ h => h) (Or.inl ⟨by rfl, ?_⟩) ?_ ?_
                rotate_left
                · intro w'
                  go_simp
                  with_reducible rfl
                rotate_left
                · simp only [Act.put, List.setIfInBounds_toArray, List.set_cons_zero, List.set_cons_succ, i64_w, i32_w]
                  rfl
                refine done_ (done_of HT_.out (by kernel_rfl)) ?_
                try go_wp2
                have n0_ := Aside0.mk (Kd.R_drew HO_3.out)
                have n1_ := Aside0.mk (Kd.R_drew HO164.out)
                have n2_ := Aside0.mk (Kd.R_drew HO167.out)
                have n3_ := Aside0.mk (blk_drew BK161.out)
                have n4_ := Aside0.mk (below_drew1 HB.out)
                clear HO_3
                clear HO164
                clear HO167
                clear BK161
                clear HB
                have HO_3 := n0_
                have HO164 := n1_
                have HO167 := n2_
                have BK161 := n3_
                have HB := n4_
                clear n0_ n1_ n2_ n3_ n4_
                refine start_ (n := 11) (S := fun w' => w'.cell? ⟨gb161, 0, none⟩ = some (.string ((rd_T101 l0 x13_1).f0.f0)) ∧ w'.cell? ⟨gb161, 1, none⟩ = some (.string ((rd_T101 l0 x13_1).f0.f1)) ∧ w'.cell? ⟨gb161, 2, none⟩ = some (.int .i64 ((rd_T101 l0 x13_1).f0.f2)) ∧ w'.cell? ⟨gb161, 3, none⟩ = some (.string ((rd_T101 l0 x13_1).f0.f3)) ∧ w'.cell? ⟨gb161, 4, none⟩ = some (.int .i64 ((rd_T101 l0 x13_1).f1.f0)) ∧ w'.cell? ⟨gb161, 5, none⟩ = some (.bool true) ∧ w'.cell? ⟨gb161, 6, none⟩ = some (.int .i64 ((rd_T101 l0 x13_1).f1.f2)) ∧ w'.cell? ⟨gb161, 7, none⟩ = some (.int .i64 ((rd_T101 l0 x13_1).f1.f3.f0)) ∧ w'.cell? ⟨gb161, 8, none⟩ = some (.int .i64 ((rd_T101 l0 x13_1).f1.f3.f1)) ∧ w'.cell? ⟨gb161, 9, none⟩ = some (.string ((rd_T101 l0 x13_1).f1.f3.f2))) (ds := []) #[false, false, false, false, false, false, false, false, false, false, false] (by kernel_rfl) rfl rfl ⟨(blk_cell BK161.out 0).trans rfl, (blk_cell BK161.out 1).trans rfl, (blk_cell BK161.out 2).trans rfl, (blk_cell BK161.out 3).trans rfl, (blk_cell BK161.out 4).trans rfl, (blk_cell BK161.out 5).trans rfl, (blk_cell BK161.out 6).trans rfl, (blk_cell BK161.out 7).trans rfl, (blk_cell BK161.out 8).trans rfl, (blk_cell BK161.out 9).trans rfl⟩ (fun hHeld => ?_); refine with_tabW skerryref01_Cells.tab6 skerryref01_Cells.bits6 (fun HT_ HW_ => ?_)
                generalize w26.drew = w27 at HO_3 HO164 HO167 BK161 HB hHeld ⊢
                refine pure_ (i := 0) (N := some 26) (v := ?_) (a' := ?_) #[true, false, false, false, false, false, false, false, false, false, false] rfl rfl (any_of HT_.out (by kernel_rfl)) (fun _ _ _ h => h) (Or.inl ⟨by rfl, ?_⟩) ?_ ?_
                rotate_left
                · intro w'
                  go_simp
                  with_reducible rfl
                rotate_left
                · simp only [Act.put, List.setIfInBounds_toArray, List.set_cons_zero, List.set_cons_succ, i64_w, i32_w]
                  rfl
                refine pure_ (i := 1) (N := some 27) (v := ?_) (a' := ?_) #[true, true, false, false, false, false, false, false, false, false, false] rfl rfl (any_of HT_.out (by kernel_rfl)) (fun _ _ _ h => h) (Or.inl ⟨by rfl, ?_⟩) ?_ ?_
                rotate_left
                · intro w'
                  go_simp
                  with_reducible rfl
                rotate_left
                · simp only [Act.put, List.setIfInBounds_toArray, List.set_cons_zero, List.set_cons_succ, i64_w, i32_w]
                  rfl
                refine pure_ (i := 2) (N := some 28) (v := ?_) (a' := ?_) #[true, true, true, false, false, false, false, false, false, false, false] rfl rfl (any_of HT_.out (by kernel_rfl)) (fun _ _ _ h => h) (Or.inl ⟨by rfl, ?_⟩) ?_ ?_
                rotate_left
                · intro w'
                  go_simp
                  with_reducible rfl
                rotate_left
                · simp only [Act.put, List.setIfInBounds_toArray, List.set_cons_zero, List.set_cons_succ, i64_w, i32_w]
                  rfl
                refine pure_ (i := 6) (N := some 32) (v := ?_) (a' := ?_) #[true, true, true, false, false, false, true, false, false, false, false] rfl rfl (any_of HT_.out (by kernel_rfl)) (fun _ _ _ h => h) (Or.inl ⟨by rfl, ?_⟩) ?_ ?_
                rotate_left
                · intro w'
                  go_simp
                  with_reducible rfl
                rotate_left
                · simp only [Act.put, List.setIfInBounds_toArray, List.set_cons_zero, List.set_cons_succ, i64_w, i32_w]
                  rfl
                refine pure_ (i := 7) (N := some 33) (v := ?_) (a' := ?_) #[true, true, true, false, false, false, true, true, false, false, false] rfl rfl (any_of HT_.out (by kernel_rfl)) (fun _ _ _ h => h) (Or.inl ⟨by rfl, ?_⟩) ?_ ?_
                rotate_left
                · intro w'
                  go_simp
                  with_reducible rfl
                rotate_left
                · simp only [Act.put, List.setIfInBounds_toArray, List.set_cons_zero, List.set_cons_succ, i64_w, i32_w]
                  rfl
                refine take_ (i := 3) (N := some 29) (v := ?_) (a' := ?_) #[true, true, true, true, false, false, true, true, false, false, false] rfl rfl (take_ofW HT_.out HW_.out (by kernel_rfl)) (fun _ _ _ h => h) (Or.inl ⟨by rfl, ?_⟩) hHeld ?_ ?_
                rotate_left
                · rintro w' ⟨s0, s1, s2, s3, s4, s5, s6, s7, s8, s9⟩
                  go_simp
                  with_reducible rfl
                rotate_left
                · simp only [Act.put, List.setIfInBounds_toArray, List.set_cons_zero, List.set_cons_succ, i64_w, i32_w]
                  rfl
                refine take_ (i := 8) (N := some 34) (v := ?_) (a' := ?_) #[true, true, true, true, false, false, true, true, true, false, false] rfl rfl (take_ofW HT_.out HW_.out (by kernel_rfl)) (fun _ _ _ h => h) (Or.inl ⟨by rfl, ?_⟩) hHeld ?_ ?_
                rotate_left
                · rintro w' ⟨s0, s1, s2, s3, s4, s5, s6, s7, s8, s9⟩
                  go_simp
                  with_reducible rfl
                rotate_left
                · simp only [Act.put, List.setIfInBounds_toArray, List.set_cons_zero, List.set_cons_succ, i64_w, i32_w]
                  rfl
                refine one_ (i := 4) (N := some 30) #[true, true, true, true, true, false, true, true, true, false, false] rfl rfl (one_of HT_.out (by kernel_rfl)) (by decide) (fun K hK => ?_)
                refine goes_ Try.func30 (by kernel_rfl) rfl #[.int .i64 ((rd_T101 l0 x13_1).f0.f2)] (by rfl) rfl rfl (by (try simp only [List.map_toArray, List.map_cons, List.map_nil]); first | done | rfl | (simp only [List.length_drop, List.length_take]; rfl)) ?_
                with_reducible refine (skerryref01_Zig.calls ((rd_T101 l0 x13_1).f0.f2) t168 _ A9.out).mono ?_
                rintro e w' ⟨rfl, ⟨nd, rfl⟩⟩
                refine ⟨_, rfl, ?_⟩
                obtain ⟨Ao28, co28, eo28⟩ := Kd.R_slice HO167.out
                (first | subst eo28 | (injection eo28 with f1_ f2_ f3_; have f4_ := f1_.symm; have f5_ := f3_.symm; clear f1_ f2_ f3_; subst f4_; subst f5_))
                refine hK.out _ _ ⟨(blk_cell BK161.out 0).trans rfl, (blk_cell BK161.out 1).trans rfl, (blk_cell BK161.out 2).trans rfl, (blk_cell BK161.out 3).trans rfl, (blk_cell BK161.out 4).trans rfl, (blk_cell BK161.out 5).trans rfl, (blk_cell BK161.out 6).trans rfl, (blk_cell BK161.out 7).trans rfl, (blk_cell BK161.out 8).trans rfl, (blk_cell BK161.out 9).trans rfl⟩ (fun hHeld => ?_)
                clear hK K
                refine norm_ (a' := ?_) ?_ ?_
                rotate_left
                · show Act.put _ (some 30) _ = _
                  simp only [Act.put, List.setIfInBounds_toArray, List.set_cons_zero, List.set_cons_succ, i64_w, i32_w]
                  rfl
                refine one_ (i := 5) (N := some 31) #[true, true, true, true, true, true, true, true, true, false, false] rfl rfl (one_of HT_.out (by kernel_rfl)) (by decide) (fun K hK => ?_)
                refine goes_ Try.func29 (by kernel_rfl) rfl #[.slice Ao28 t165.length co28, .int .u64 t168] (by rfl) rfl rfl (by (try simp only [List.map_toArray, List.map_cons, List.map_nil]); first | done | rfl | (simp only [List.length_drop, List.length_take]; rfl)) ?_
                with_reducible refine (skerryref01_Put.calls k1 _ _ t165 t168 t169 _ ?side1 ?side2 A10.out).mono ?_
                (case side1 => repeat (first | exact (Kd.R_reads' HO167.out).2.2 | (with_reducible refine Kd.C_alloc ?_ _) | (with_reducible refine Kd.C_drewN ?_ _) | (with_reducible refine Kd.C_drew ?_)))
                (case side2 => exact (Kd.R_reads' HO167.out).2.1)
                rintro e w29 ⟨v170, rfl, ho0, hb⟩
                refine ⟨_, rfl, ?_⟩
                have n0_ := Aside0.mk (Kd.R_elder' (by (with_reducible repeat (first | apply Kd.R_alloc | apply Kd.R_drewN | apply Kd.R_drew)); exact HO_3.out) (Kd.R_base ho0) hb)
                have n1_ := Aside0.mk (Kd.R_elder' (by (with_reducible repeat (first | apply Kd.R_alloc | apply Kd.R_drewN | apply Kd.R_drew)); exact HO164.out) (Kd.R_base ho0) hb)
                have n2_ := Aside0.mk (Kd.R_elder' (by (with_reducible repeat (first | apply Kd.R_alloc | apply Kd.R_drewN | apply Kd.R_drew)); exact HO167.out) (Kd.R_base ho0) hb)
                have n3_ := Aside0.mk (Kd.R_lower (Kd.R_new' (Kd.R_new' (Kd.R_new' ho0 (Kd.R_lt (by (with_reducible repeat (first | apply Kd.R_alloc | apply Kd.R_drewN | apply Kd.R_drew)); exact HO_3.out))) (Kd.R_lt (by (with_reducible repeat (first | apply Kd.R_alloc | apply Kd.R_drewN | apply Kd.R_drew)); exact HO164.out))) (Kd.R_lt (by (with_reducible repeat (first | apply Kd.R_alloc | apply Kd.R_drewN | apply Kd.R_drew)); exact HO167.out))) (below_size (by repeat (first | (with_reducible first | exact HB.out | apply below_alloc | apply pw_below_drewN | apply below_drew1 | refine below_set ?_ GE161.out) | exact HB.out))))
                have n4_ := Aside0.mk (blk_below (g := gb161) (o := .cells #[.string ((rd_T101 l0 x13_1).f0.f0), .string ((rd_T101 l0 x13_1).f0.f1), .int .i64 ((rd_T101 l0 x13_1).f0.f2), .string ((rd_T101 l0 x13_1).f0.f3), .int .i64 ((rd_T101 l0 x13_1).f1.f0), .bool true, .int .i64 ((rd_T101 l0 x13_1).f1.f2), .int .i64 ((rd_T101 l0 x13_1).f1.f3.f0), .int .i64 ((rd_T101 l0 x13_1).f1.f3.f1), .string ((rd_T101 l0 x13_1).f1.f3.f2)] 101 (0, 0)) (by (with_reducible repeat (first | refine blk_drewN ?_ _ | refine blk_drew ?_ | refine blk_alloc ?_ _)); exact BK161.out) hb)
                have n5_ := Aside0.mk (below_step (by repeat (first | (with_reducible first | exact HB.out | apply below_alloc | apply pw_below_drewN | apply below_drew1 | refine below_set ?_ GE161.out) | exact HB.out)) hb)
                clear HO_3
                clear HO164
                clear HO167
                clear BK161
                clear HB
                have HO_3 := n0_
                have HO164 := n1_
                have HO167 := n2_
                have HO171 := n3_
                have BK161 := n4_
                have HB := n5_
                clear n0_ n1_ n2_ n3_ n4_ n5_
                (try clear hb)
                (try clear hb2)
                (try clear hk)
                (try clear hi)
                (try clear ho0)
                obtain ⟨Ao30, co30, eo30⟩ := Kd.R_slice HO171.out
                (first | subst eo30 | (injection eo30 with f1_ f2_ f3_; have f4_ := f1_.symm; have f5_ := f3_.symm; clear f1_ f2_ f3_; subst f4_; subst f5_))
                refine hK.out _ _ ⟨(blk_cell BK161.out 0).trans rfl, (blk_cell BK161.out 1).trans rfl, (blk_cell BK161.out 2).trans rfl, (blk_cell BK161.out 3).trans rfl, (blk_cell BK161.out 4).trans rfl, (blk_cell BK161.out 5).trans rfl, (blk_cell BK161.out 6).trans rfl, (blk_cell BK161.out 7).trans rfl, (blk_cell BK161.out 8).trans rfl, (blk_cell BK161.out 9).trans rfl⟩ (fun hHeld => ?_)
                clear hK K
                refine norm_ (a' := ?_) ?_ ?_
                rotate_left
                · show Act.put _ (some 31) _ = _
                  simp only [Act.put, List.setIfInBounds_toArray, List.set_cons_zero, List.set_cons_succ, i64_w, i32_w]
                  rfl
                refine one_ (i := 9) (N := some 35) #[true, true, true, true, true, true, true, true, true, true, false] rfl rfl (one_of HT_.out (by kernel_rfl)) (by decide) (fun K hK => ?_)
                refine goes_ Try.func36 (by kernel_rfl) rfl #[.slice Ao30 t169.length co30, .string ((rd_T101 l0 x13_1).f0.f3)] (by rfl) rfl rfl (by (try simp only [List.map_toArray, List.map_cons, List.map_nil]); first | done | rfl | (simp only [List.length_drop, List.length_take]; rfl)) ?_
                with_reducible refine (skerryref01_PutText.calls k1 _ _ t169 ((rd_T101 l0 x13_1).f0.f3) t172 _ ?side1 ?side2 A11.out).mono ?_
                (case side1 => repeat (first | exact (Kd.R_reads' HO171.out).2.2 | (with_reducible refine Kd.C_alloc ?_ _) | (with_reducible refine Kd.C_drewN ?_ _) | (with_reducible refine Kd.C_drew ?_)))
                (case side2 => exact (Kd.R_reads' HO171.out).2.1)
                rintro e w31 ⟨v173, rfl, ho0, hb⟩
                refine ⟨_, rfl, ?_⟩
                have n0_ := Aside0.mk (Kd.R_elder' (by (with_reducible repeat (first | apply Kd.R_alloc | apply Kd.R_drewN | apply Kd.R_drew)); exact HO_3.out) (Kd.R_base ho0) hb)
                have n1_ := Aside0.mk (Kd.R_elder' (by (with_reducible repeat (first | apply Kd.R_alloc | apply Kd.R_drewN | apply Kd.R_drew)); exact HO164.out) (Kd.R_base ho0) hb)
                have n2_ := Aside0.mk (Kd.R_elder' (by (with_reducible repeat (first | apply Kd.R_alloc | apply Kd.R_drewN | apply Kd.R_drew)); exact HO167.out) (Kd.R_base ho0) hb)
                have n3_ := Aside0.mk (Kd.R_elder' (by (with_reducible repeat (first | apply Kd.R_alloc | apply Kd.R_drewN | apply Kd.R_drew)); exact HO171.out) (Kd.R_base ho0) hb)
                have n4_ := Aside0.mk (Kd.R_lower (Kd.R_new' (Kd.R_new' (Kd.R_new' (Kd.R_new' ho0 (Kd.R_lt (by (with_reducible repeat (first | apply Kd.R_alloc | apply Kd.R_drewN | apply Kd.R_drew)); exact HO_3.out))) (Kd.R_lt (by (with_reducible repeat (first | apply Kd.R_alloc | apply Kd.R_drewN | apply Kd.R_drew)); exact HO164.out))) (Kd.R_lt (by (with_reducible repeat (first | apply Kd.R_alloc | apply Kd.R_drewN | apply Kd.R_drew)); exact HO167.out))) (Kd.R_lt (by (with_reducible repeat (first | apply Kd.R_alloc | apply Kd.R_drewN | apply Kd.R_drew)); exact HO171.out))) (below_size (by repeat (first | (with_reducible first | exact HB.out | apply below_alloc | apply pw_below_drewN | apply below_drew1 | refine below_set ?_ GE161.out) | exact HB.out))))
                have n5_ := Aside0.mk (blk_below (g := gb161) (o := .cells #[.string ((rd_T101 l0 x13_1).f0.f0), .string ((rd_T101 l0 x13_1).f0.f1), .int .i64 ((rd_T101 l0 x13_1).f0.f2), .string ((rd_T101 l0 x13_1).f0.f3), .int .i64 ((rd_T101 l0 x13_1).f1.f0), .bool true, .int .i64 ((rd_T101 l0 x13_1).f1.f2), .int .i64 ((rd_T101 l0 x13_1).f1.f3.f0), .int .i64 ((rd_T101 l0 x13_1).f1.f3.f1), .string ((rd_T101 l0 x13_1).f1.f3.f2)] 101 (0, 0)) (by (with_reducible repeat (first | refine blk_drewN ?_ _ | refine blk_drew ?_ | refine blk_alloc ?_ _)); exact BK161.out) hb)
                have n6_ := Aside0.mk (below_step (by repeat (first | (with_reducible first | exact HB.out | apply below_alloc | apply pw_below_drewN | apply below_drew1 | refine below_set ?_ GE161.out) | exact HB.out)) hb)
                clear HO_3
                clear HO164
                clear HO167
                clear HO171
                clear BK161
                clear HB
                have HO_3 := n0_
                have HO164 := n1_
                have HO167 := n2_
                have HO171 := n3_
                have HO174 := n4_
                have BK161 := n5_
                have HB := n6_
                clear n0_ n1_ n2_ n3_ n4_ n5_ n6_
                (try clear hb)
                (try clear hb2)
                (try clear hk)
                (try clear hi)
                (try clear ho0)
                refine hK.out _ _ ⟨(blk_cell BK161.out 0).trans rfl, (blk_cell BK161.out 1).trans rfl, (blk_cell BK161.out 2).trans rfl, (blk_cell BK161.out 3).trans rfl, (blk_cell BK161.out 4).trans rfl, (blk_cell BK161.out 5).trans rfl, (blk_cell BK161.out 6).trans rfl, (blk_cell BK161.out 7).trans rfl, (blk_cell BK161.out 8).trans rfl, (blk_cell BK161.out 9).trans rfl⟩ (fun hHeld => ?_)
                clear hK K
                refine norm_ (a' := ?_) ?_ ?_
                rotate_left
                · show Act.put _ (some 35) _ = _
                  simp only [Act.put, List.setIfInBounds_toArray, List.set_cons_zero, List.set_cons_succ, i64_w, i32_w]
                  rfl
                refine pure_ (i := 10) (N := some 3) (v := ?_) (a' := ?_) #[true, true, true, true, true, true, true, true, true, true, true] rfl rfl (any_of HT_.out (by kernel_rfl)) (fun _ _ _ h => h) (Or.inl ⟨by rfl, ?_⟩) ?_ ?_
                rotate_left
                · intro w'
                  go_simp
                  with_reducible rfl
                rotate_left
                · simp only [Act.put, List.setIfInBounds_toArray, List.set_cons_zero, List.set_cons_succ, i64_w, i32_w]
                  rfl
                refine done_ (done_of HT_.out (by kernel_rfl)) ?_
                have hcz32_0 : w31.cell? ⟨gb161, 0, none⟩ = some (.string ((rd_T101 l0 x13_1).f0.f0)) := (blk_cell BK161.out 0).trans rfl
                have hcz32_1 : w31.cell? ⟨gb161, 1, none⟩ = some (.string ((rd_T101 l0 x13_1).f0.f1)) := (blk_cell BK161.out 1).trans rfl
                have hcz32_2 : w31.cell? ⟨gb161, 2, none⟩ = some (.int .i64 ((rd_T101 l0 x13_1).f0.f2)) := (blk_cell BK161.out 2).trans rfl
                have hcz32_3 : w31.cell? ⟨gb161, 3, none⟩ = some (.string ((rd_T101 l0 x13_1).f0.f3)) := (blk_cell BK161.out 3).trans rfl
                have hcz32_4 : w31.cell? ⟨gb161, 4, none⟩ = some (.int .i64 ((rd_T101 l0 x13_1).f1.f0)) := (blk_cell BK161.out 4).trans rfl
                have hcz32_5 : w31.cell? ⟨gb161, 5, none⟩ = some (.bool true) := (blk_cell BK161.out 5).trans rfl
                have hcz32_6 : w31.cell? ⟨gb161, 6, none⟩ = some (.int .i64 ((rd_T101 l0 x13_1).f1.f2)) := (blk_cell BK161.out 6).trans rfl
                have hcz32_7 : w31.cell? ⟨gb161, 7, none⟩ = some (.int .i64 ((rd_T101 l0 x13_1).f1.f3.f0)) := (blk_cell BK161.out 7).trans rfl
                have hcz32_8 : w31.cell? ⟨gb161, 8, none⟩ = some (.int .i64 ((rd_T101 l0 x13_1).f1.f3.f1)) := (blk_cell BK161.out 8).trans rfl
                have hcz32_9 : w31.cell? ⟨gb161, 9, none⟩ = some (.string ((rd_T101 l0 x13_1).f1.f3.f2)) := (blk_cell BK161.out 9).trans rfl
                have hfz32_0 := blk_frozen BK161.out 0
                have hfz32_1 := blk_frozen BK161.out 1
                have hfz32_2 := blk_frozen BK161.out 2
                have hfz32_3 := blk_frozen BK161.out 3
                have hfz32_4 := blk_frozen BK161.out 4
                have hfz32_5 := blk_frozen BK161.out 5
                have hfz32_6 := blk_frozen BK161.out 6
                have hfz32_7 := blk_frozen BK161.out 7
                have hfz32_8 := blk_frozen BK161.out 8
                have hfz32_9 := blk_frozen BK161.out 9
                try go_wp2_with (first | ((with_reducible refine gate_dst (N := 6) rfl ?_); refine box_event ?hg (N := 6) ?hd (cs := #[.int .i64 0, .bool false, .int .i64 0, .int .i64 0, .int .i64 0, .string (⟨#[]⟩ : ByteArray)]) (t := 99) ?hr ?_; (case hd => rfl); (case hg => rfl); (case hr => first | (go_simp; done) | (go_simp; rfl)); intro gb175 hg w33 hbox hb; have n0_ := Aside0.mk (Kd.R_below (by (with_reducible repeat (first | apply Kd.R_alloc | apply Kd.R_drewN | apply Kd.R_drew)); exact HO_3.out) hb); have n1_ := Aside0.mk (Kd.R_below (by (with_reducible repeat (first | apply Kd.R_alloc | apply Kd.R_drewN | apply Kd.R_drew)); exact HO164.out) hb); have n2_ := Aside0.mk (Kd.R_below (by (with_reducible repeat (first | apply Kd.R_alloc | apply Kd.R_drewN | apply Kd.R_drew)); exact HO167.out) hb); have n3_ := Aside0.mk (Kd.R_below (by (with_reducible repeat (first | apply Kd.R_alloc | apply Kd.R_drewN | apply Kd.R_drew)); exact HO171.out) hb); have n4_ := Aside0.mk (Kd.R_below (by (with_reducible repeat (first | apply Kd.R_alloc | apply Kd.R_drewN | apply Kd.R_drew)); exact HO174.out) hb); have n5_ := Aside0.mk (blk_below (g := gb161) (o := .cells #[.string ((rd_T101 l0 x13_1).f0.f0), .string ((rd_T101 l0 x13_1).f0.f1), .int .i64 ((rd_T101 l0 x13_1).f0.f2), .string ((rd_T101 l0 x13_1).f0.f3), .int .i64 ((rd_T101 l0 x13_1).f1.f0), .bool true, .int .i64 ((rd_T101 l0 x13_1).f1.f2), .int .i64 ((rd_T101 l0 x13_1).f1.f3.f0), .int .i64 ((rd_T101 l0 x13_1).f1.f3.f1), .string ((rd_T101 l0 x13_1).f1.f3.f2)] 101 (0, 0)) (by (with_reducible repeat (first | refine blk_drewN ?_ _ | refine blk_drew ?_ | refine blk_alloc ?_ _)); exact BK161.out) hb); have n6_ := Aside0.mk (below_step (by repeat (first | (with_reducible first | exact HB.out | apply below_alloc | apply pw_below_drewN | apply below_drew1 | refine below_set ?_ GE161.out) | exact HB.out)) hb); have n7_ := Aside0.mk (hbox); have n8_ := Aside0.mk ((by rw [hg]; exact (below_size (by repeat (first | (with_reducible first | exact HB.out | apply below_alloc | apply pw_below_drewN | apply below_drew1 | refine below_set ?_ GE161.out) | exact HB.out))) : w.heap.size ≤ gb175)); have n9_ := Aside0.mk ((by rw [hg]; exact (below_size (by repeat (first | (with_reducible first | exact HB.out | apply below_alloc | apply pw_below_drewN | apply below_drew1 | refine below_set ?_ GE161.out) | exact HB.out))) : w.heap.size ≤ gb175)); have n10_ := Aside0.mk ((by rw [hg]; exact Nat.ne_of_lt (blk_lt (g := gb161) (o := .cells #[.string ((rd_T101 l0 x13_1).f0.f0), .string ((rd_T101 l0 x13_1).f0.f1), .int .i64 ((rd_T101 l0 x13_1).f0.f2), .string ((rd_T101 l0 x13_1).f0.f3), .int .i64 ((rd_T101 l0 x13_1).f1.f0), .bool true, .int .i64 ((rd_T101 l0 x13_1).f1.f2), .int .i64 ((rd_T101 l0 x13_1).f1.f3.f0), .int .i64 ((rd_T101 l0 x13_1).f1.f3.f1), .string ((rd_T101 l0 x13_1).f1.f3.f2)] 101 (0, 0)) (by (with_reducible repeat (first | refine blk_drewN ?_ _ | refine blk_drew ?_ | refine blk_alloc ?_ _)); exact BK161.out)) : gb161 ≠ gb175)); have n11_ := Aside0.mk ((by rw [hg]; exact Nat.ne_of_gt (blk_lt (g := gb161) (o := .cells #[.string ((rd_T101 l0 x13_1).f0.f0), .string ((rd_T101 l0 x13_1).f0.f1), .int .i64 ((rd_T101 l0 x13_1).f0.f2), .string ((rd_T101 l0 x13_1).f0.f3), .int .i64 ((rd_T101 l0 x13_1).f1.f0), .bool true, .int .i64 ((rd_T101 l0 x13_1).f1.f2), .int .i64 ((rd_T101 l0 x13_1).f1.f3.f0), .int .i64 ((rd_T101 l0 x13_1).f1.f3.f1), .string ((rd_T101 l0 x13_1).f1.f3.f2)] 101 (0, 0)) (by (with_reducible repeat (first | refine blk_drewN ?_ _ | refine blk_drew ?_ | refine blk_alloc ?_ _)); exact BK161.out)) : gb175 ≠ gb161)); clear HO_3; clear HO164; clear HO167; clear HO171; clear HO174; clear BK161; clear HB; have HO_3 := n0_; have HO164 := n1_; have HO167 := n2_; have HO171 := n3_; have HO174 := n4_; have BK161 := n5_; have HB := n6_; have BK175 := n7_; have GW175 := n8_; have GE175 := n9_; have NB161_175 := n10_; have NB175_161 := n11_; clear n0_ n1_ n2_ n3_ n4_ n5_ n6_ n7_ n8_ n9_ n10_ n11_; clear hb hbox hg; have hnb34 := NB175_161.out; have hnc34 := NB161_175.out; have hcz35_0 : w33.cell? ⟨gb175, 0, none⟩ = some (.int .i64 0) := (blk_cell BK175.out 0).trans rfl; have hcz35_1 : w33.cell? ⟨gb175, 1, none⟩ = some (.bool false) := (blk_cell BK175.out 1).trans rfl; have hcz35_2 : w33.cell? ⟨gb175, 2, none⟩ = some (.int .i64 0) := (blk_cell BK175.out 2).trans rfl; have hcz35_3 : w33.cell? ⟨gb175, 3, none⟩ = some (.int .i64 0) := (blk_cell BK175.out 3).trans rfl; have hcz35_4 : w33.cell? ⟨gb175, 4, none⟩ = some (.int .i64 0) := (blk_cell BK175.out 4).trans rfl; have hcz35_5 : w33.cell? ⟨gb175, 5, none⟩ = some (.string (⟨#[]⟩ : ByteArray)) := (blk_cell BK175.out 5).trans rfl; have hfz35_0 := blk_frozen BK175.out 0; have hfz35_1 := blk_frozen BK175.out 1; have hfz35_2 := blk_frozen BK175.out 2; have hfz35_3 := blk_frozen BK175.out 3; have hfz35_4 := blk_frozen BK175.out 4; have hfz35_5 := blk_frozen BK175.out 5) | ((with_reducible refine gate_callee (f := 30) rfl ?_); refine goesL_ (some 41) rfl rfl Try.func30 (by kernel_rfl) rfl #[.int .i64 ((rd_T101 l0 x13_1).f1.f0)] rfl (by (try simp only [List.map_toArray, List.map_cons, List.map_nil]); first | done | rfl | (simp only [List.length_drop, List.length_take]; rfl)) ?_; (with_reducible refine (skerryref01_Zig.calls ((rd_T101 l0 x13_1).f1.f0) t176 _ A12.out).mono ?_); rintro e w' ⟨rfl, ⟨nd, rfl⟩⟩; refine ⟨_, rfl, ?_⟩; obtain ⟨Ao36, co36, eo36⟩ := Kd.R_slice HO174.out; subst eo36) | ((with_reducible refine gate_callee (f := 29) rfl ?_); refine goesL_ (some 42) rfl rfl Try.func29 (by kernel_rfl) rfl #[.slice Ao36 t172.length co36, .int .u64 t176] rfl (by (try simp only [List.map_toArray, List.map_cons, List.map_nil]); first | done | rfl | (simp only [List.length_drop, List.length_take]; rfl)) ?_; (with_reducible refine (skerryref01_Put.calls k1 _ _ t172 t176 t177 _ ?side1 ?side2 A13.out).mono ?_); (case side1 => refine (Kd.R_reads' (e := 5) (base := w.heap.size) (ok := fun k_ => ((((True ∧ some k_ ≠ (.slice Ao23 x3_1.length co23 : Value).ownBlock) ∧ some k_ ≠ (.slice Ao25 t162.length co25 : Value).ownBlock) ∧ some k_ ≠ (.slice Ao28 t165.length co28 : Value).ownBlock) ∧ some k_ ≠ (.slice Ao30 t169.length co30 : Value).ownBlock)) (n := t172.length) (c := co36) ?_).2.2; exact (by (with_reducible repeat (first | apply Kd.R_alloc | apply Kd.R_drewN | apply Kd.R_drew)); exact (Kd.R_mono (Kd.R_far (p := ⟨gb175, 5, none⟩) (Kd.R_far (p := ⟨gb175, 4, none⟩) (Kd.R_far (p := ⟨gb175, 3, none⟩) (Kd.R_far (p := ⟨gb175, 2, none⟩) (Kd.R_far (p := ⟨gb175, 1, none⟩) (Kd.R_far (p := ⟨gb175, 0, none⟩) (Kd.R_types HO174.out BK175.out (by decide)) (fun _ hk => hk.2) (.int .i64 ((rd_T101 l0 x13_1).f1.f0))) (fun _ hk => hk.2) (.bool true)) (fun _ hk => hk.2) (.int .i64 ((rd_T101 l0 x13_1).f1.f2))) (fun _ hk => hk.2) (.int .i64 ((rd_T101 l0 x13_1).f1.f3.f0))) (fun _ hk => hk.2) (.int .i64 ((rd_T101 l0 x13_1).f1.f3.f1))) (fun _ hk => hk.2) (.string ((rd_T101 l0 x13_1).f1.f3.f2))) (fun _ h_ => h_.1)))); (case side2 => exact (Kd.R_reads' HO174.out).2.1); rintro e w37 ⟨v178, rfl, ho0, hb⟩; refine ⟨_, rfl, ?_⟩; have n0_ := Aside0.mk (Kd.R_elder' (by (with_reducible repeat (first | apply Kd.R_alloc | apply Kd.R_drewN | apply Kd.R_drew)); exact (Kd.R_mono (Kd.R_far (p := ⟨gb175, 5, none⟩) (Kd.R_far (p := ⟨gb175, 4, none⟩) (Kd.R_far (p := ⟨gb175, 3, none⟩) (Kd.R_far (p := ⟨gb175, 2, none⟩) (Kd.R_far (p := ⟨gb175, 1, none⟩) (Kd.R_far (p := ⟨gb175, 0, none⟩) (Kd.R_types HO_3.out BK175.out (by decide)) (fun _ hk => hk.2) (.int .i64 ((rd_T101 l0 x13_1).f1.f0))) (fun _ hk => hk.2) (.bool true)) (fun _ hk => hk.2) (.int .i64 ((rd_T101 l0 x13_1).f1.f2))) (fun _ hk => hk.2) (.int .i64 ((rd_T101 l0 x13_1).f1.f3.f0))) (fun _ hk => hk.2) (.int .i64 ((rd_T101 l0 x13_1).f1.f3.f1))) (fun _ hk => hk.2) (.string ((rd_T101 l0 x13_1).f1.f3.f2))) (fun _ h_ => h_.1))) (Kd.R_base ho0) hb); have n1_ := Aside0.mk (Kd.R_elder' (by (with_reducible repeat (first | apply Kd.R_alloc | apply Kd.R_drewN | apply Kd.R_drew)); exact (Kd.R_mono (Kd.R_far (p := ⟨gb175, 5, none⟩) (Kd.R_far (p := ⟨gb175, 4, none⟩) (Kd.R_far (p := ⟨gb175, 3, none⟩) (Kd.R_far (p := ⟨gb175, 2, none⟩) (Kd.R_far (p := ⟨gb175, 1, none⟩) (Kd.R_far (p := ⟨gb175, 0, none⟩) (Kd.R_types HO164.out BK175.out (by decide)) (fun _ hk => hk.2) (.int .i64 ((rd_T101 l0 x13_1).f1.f0))) (fun _ hk => hk.2) (.bool true)) (fun _ hk => hk.2) (.int .i64 ((rd_T101 l0 x13_1).f1.f2))) (fun _ hk => hk.2) (.int .i64 ((rd_T101 l0 x13_1).f1.f3.f0))) (fun _ hk => hk.2) (.int .i64 ((rd_T101 l0 x13_1).f1.f3.f1))) (fun _ hk => hk.2) (.string ((rd_T101 l0 x13_1).f1.f3.f2))) (fun _ h_ => h_.1))) (Kd.R_base ho0) hb); have n2_ := Aside0.mk (Kd.R_elder' (by (with_reducible repeat (first | apply Kd.R_alloc | apply Kd.R_drewN | apply Kd.R_drew)); exact (Kd.R_mono (Kd.R_far (p := ⟨gb175, 5, none⟩) (Kd.R_far (p := ⟨gb175, 4, none⟩) (Kd.R_far (p := ⟨gb175, 3, none⟩) (Kd.R_far (p := ⟨gb175, 2, none⟩) (Kd.R_far (p := ⟨gb175, 1, none⟩) (Kd.R_far (p := ⟨gb175, 0, none⟩) (Kd.R_types HO167.out BK175.out (by decide)) (fun _ hk => hk.2) (.int .i64 ((rd_T101 l0 x13_1).f1.f0))) (fun _ hk => hk.2) (.bool true)) (fun _ hk => hk.2) (.int .i64 ((rd_T101 l0 x13_1).f1.f2))) (fun _ hk => hk.2) (.int .i64 ((rd_T101 l0 x13_1).f1.f3.f0))) (fun _ hk => hk.2) (.int .i64 ((rd_T101 l0 x13_1).f1.f3.f1))) (fun _ hk => hk.2) (.string ((rd_T101 l0 x13_1).f1.f3.f2))) (fun _ h_ => h_.1))) (Kd.R_base ho0) hb); have n3_ := Aside0.mk (Kd.R_elder' (by (with_reducible repeat (first | apply Kd.R_alloc | apply Kd.R_drewN | apply Kd.R_drew)); exact (Kd.R_mono (Kd.R_far (p := ⟨gb175, 5, none⟩) (Kd.R_far (p := ⟨gb175, 4, none⟩) (Kd.R_far (p := ⟨gb175, 3, none⟩) (Kd.R_far (p := ⟨gb175, 2, none⟩) (Kd.R_far (p := ⟨gb175, 1, none⟩) (Kd.R_far (p := ⟨gb175, 0, none⟩) (Kd.R_types HO171.out BK175.out (by decide)) (fun _ hk => hk.2) (.int .i64 ((rd_T101 l0 x13_1).f1.f0))) (fun _ hk => hk.2) (.bool true)) (fun _ hk => hk.2) (.int .i64 ((rd_T101 l0 x13_1).f1.f2))) (fun _ hk => hk.2) (.int .i64 ((rd_T101 l0 x13_1).f1.f3.f0))) (fun _ hk => hk.2) (.int .i64 ((rd_T101 l0 x13_1).f1.f3.f1))) (fun _ hk => hk.2) (.string ((rd_T101 l0 x13_1).f1.f3.f2))) (fun _ h_ => h_.1))) (Kd.R_base ho0) hb); have n4_ := Aside0.mk (Kd.R_elder' (by (with_reducible repeat (first | apply Kd.R_alloc | apply Kd.R_drewN | apply Kd.R_drew)); exact (Kd.R_mono (Kd.R_far (p := ⟨gb175, 5, none⟩) (Kd.R_far (p := ⟨gb175, 4, none⟩) (Kd.R_far (p := ⟨gb175, 3, none⟩) (Kd.R_far (p := ⟨gb175, 2, none⟩) (Kd.R_far (p := ⟨gb175, 1, none⟩) (Kd.R_far (p := ⟨gb175, 0, none⟩) (Kd.R_types HO174.out BK175.out (by decide)) (fun _ hk => hk.2) (.int .i64 ((rd_T101 l0 x13_1).f1.f0))) (fun _ hk => hk.2) (.bool true)) (fun _ hk => hk.2) (.int .i64 ((rd_T101 l0 x13_1).f1.f2))) (fun _ hk => hk.2) (.int .i64 ((rd_T101 l0 x13_1).f1.f3.f0))) (fun _ hk => hk.2) (.int .i64 ((rd_T101 l0 x13_1).f1.f3.f1))) (fun _ hk => hk.2) (.string ((rd_T101 l0 x13_1).f1.f3.f2))) (fun _ h_ => h_.1))) (Kd.R_base ho0) hb); have n5_ := Aside0.mk (Kd.R_lower (Kd.R_new' (Kd.R_new' (Kd.R_new' (Kd.R_new' (Kd.R_new' ho0 (Kd.R_lt (by (with_reducible repeat (first | apply Kd.R_alloc | apply Kd.R_drewN | apply Kd.R_drew)); exact (Kd.R_mono (Kd.R_far (p := ⟨gb175, 5, none⟩) (Kd.R_far (p := ⟨gb175, 4, none⟩) (Kd.R_far (p := ⟨gb175, 3, none⟩) (Kd.R_far (p := ⟨gb175, 2, none⟩) (Kd.R_far (p := ⟨gb175, 1, none⟩) (Kd.R_far (p := ⟨gb175, 0, none⟩) (Kd.R_types HO_3.out BK175.out (by decide)) (fun _ hk => hk.2) (.int .i64 ((rd_T101 l0 x13_1).f1.f0))) (fun _ hk => hk.2) (.bool true)) (fun _ hk => hk.2) (.int .i64 ((rd_T101 l0 x13_1).f1.f2))) (fun _ hk => hk.2) (.int .i64 ((rd_T101 l0 x13_1).f1.f3.f0))) (fun _ hk => hk.2) (.int .i64 ((rd_T101 l0 x13_1).f1.f3.f1))) (fun _ hk => hk.2) (.string ((rd_T101 l0 x13_1).f1.f3.f2))) (fun _ h_ => h_.1))))) (Kd.R_lt (by (with_reducible repeat (first | apply Kd.R_alloc | apply Kd.R_drewN | apply Kd.R_drew)); exact (Kd.R_mono (Kd.R_far (p := ⟨gb175, 5, none⟩) (Kd.R_far (p := ⟨gb175, 4, none⟩) (Kd.R_far (p := ⟨gb175, 3, none⟩) (Kd.R_far (p := ⟨gb175, 2, none⟩) (Kd.R_far (p := ⟨gb175, 1, none⟩) (Kd.R_far (p := ⟨gb175, 0, none⟩) (Kd.R_types HO164.out BK175.out (by decide)) (fun _ hk => hk.2) (.int .i64 ((rd_T101 l0 x13_1).f1.f0))) (fun _ hk => hk.2) (.bool true)) (fun _ hk => hk.2) (.int .i64 ((rd_T101 l0 x13_1).f1.f2))) (fun _ hk => hk.2) (.int .i64 ((rd_T101 l0 x13_1).f1.f3.f0))) (fun _ hk => hk.2) (.int .i64 ((rd_T101 l0 x13_1).f1.f3.f1))) (fun _ hk => hk.2) (.string ((rd_T101 l0 x13_1).f1.f3.f2))) (fun _ h_ => h_.1))))) (Kd.R_lt (by (with_reducible repeat (first | apply Kd.R_alloc | apply Kd.R_drewN | apply Kd.R_drew)); exact (Kd.R_mono (Kd.R_far (p := ⟨gb175, 5, none⟩) (Kd.R_far (p := ⟨gb175, 4, none⟩) (Kd.R_far (p := ⟨gb175, 3, none⟩) (Kd.R_far (p := ⟨gb175, 2, none⟩) (Kd.R_far (p := ⟨gb175, 1, none⟩) (Kd.R_far (p := ⟨gb175, 0, none⟩) (Kd.R_types HO167.out BK175.out (by decide)) (fun _ hk => hk.2) (.int .i64 ((rd_T101 l0 x13_1).f1.f0))) (fun _ hk => hk.2) (.bool true)) (fun _ hk => hk.2) (.int .i64 ((rd_T101 l0 x13_1).f1.f2))) (fun _ hk => hk.2) (.int .i64 ((rd_T101 l0 x13_1).f1.f3.f0))) (fun _ hk => hk.2) (.int .i64 ((rd_T101 l0 x13_1).f1.f3.f1))) (fun _ hk => hk.2) (.string ((rd_T101 l0 x13_1).f1.f3.f2))) (fun _ h_ => h_.1))))) (Kd.R_lt (by (with_reducible repeat (first | apply Kd.R_alloc | apply Kd.R_drewN | apply Kd.R_drew)); exact (Kd.R_mono (Kd.R_far (p := ⟨gb175, 5, none⟩) (Kd.R_far (p := ⟨gb175, 4, none⟩) (Kd.R_far (p := ⟨gb175, 3, none⟩) (Kd.R_far (p := ⟨gb175, 2, none⟩) (Kd.R_far (p := ⟨gb175, 1, none⟩) (Kd.R_far (p := ⟨gb175, 0, none⟩) (Kd.R_types HO171.out BK175.out (by decide)) (fun _ hk => hk.2) (.int .i64 ((rd_T101 l0 x13_1).f1.f0))) (fun _ hk => hk.2) (.bool true)) (fun _ hk => hk.2) (.int .i64 ((rd_T101 l0 x13_1).f1.f2))) (fun _ hk => hk.2) (.int .i64 ((rd_T101 l0 x13_1).f1.f3.f0))) (fun _ hk => hk.2) (.int .i64 ((rd_T101 l0 x13_1).f1.f3.f1))) (fun _ hk => hk.2) (.string ((rd_T101 l0 x13_1).f1.f3.f2))) (fun _ h_ => h_.1))))) (Kd.R_lt (by (with_reducible repeat (first | apply Kd.R_alloc | apply Kd.R_drewN | apply Kd.R_drew)); exact (Kd.R_mono (Kd.R_far (p := ⟨gb175, 5, none⟩) (Kd.R_far (p := ⟨gb175, 4, none⟩) (Kd.R_far (p := ⟨gb175, 3, none⟩) (Kd.R_far (p := ⟨gb175, 2, none⟩) (Kd.R_far (p := ⟨gb175, 1, none⟩) (Kd.R_far (p := ⟨gb175, 0, none⟩) (Kd.R_types HO174.out BK175.out (by decide)) (fun _ hk => hk.2) (.int .i64 ((rd_T101 l0 x13_1).f1.f0))) (fun _ hk => hk.2) (.bool true)) (fun _ hk => hk.2) (.int .i64 ((rd_T101 l0 x13_1).f1.f2))) (fun _ hk => hk.2) (.int .i64 ((rd_T101 l0 x13_1).f1.f3.f0))) (fun _ hk => hk.2) (.int .i64 ((rd_T101 l0 x13_1).f1.f3.f1))) (fun _ hk => hk.2) (.string ((rd_T101 l0 x13_1).f1.f3.f2))) (fun _ h_ => h_.1))))) (below_size (by repeat (first | (with_reducible first | exact HB.out | apply below_alloc | apply pw_below_drewN | apply below_drew1 | refine below_set ?_ GE161.out | refine below_set ?_ GE175.out) | exact HB.out)))); have n6_ := Aside0.mk (blk_below (g := gb161) (o := .cells #[.string ((rd_T101 l0 x13_1).f0.f0), .string ((rd_T101 l0 x13_1).f0.f1), .int .i64 ((rd_T101 l0 x13_1).f0.f2), .string ((rd_T101 l0 x13_1).f0.f3), .int .i64 ((rd_T101 l0 x13_1).f1.f0), .bool true, .int .i64 ((rd_T101 l0 x13_1).f1.f2), .int .i64 ((rd_T101 l0 x13_1).f1.f3.f0), .int .i64 ((rd_T101 l0 x13_1).f1.f3.f1), .string ((rd_T101 l0 x13_1).f1.f3.f2)] 101 (0, 0)) (by (with_reducible repeat (first | refine blk_drewN ?_ _ | refine blk_drew ?_ | refine blk_alloc ?_ _)); refine blk_far ?_ NB161_175.out _; (with_reducible repeat (first | refine blk_drewN ?_ _ | refine blk_drew ?_ | refine blk_alloc ?_ _)); refine blk_far ?_ NB161_175.out _; (with_reducible repeat (first | refine blk_drewN ?_ _ | refine blk_drew ?_ | refine blk_alloc ?_ _)); refine blk_far ?_ NB161_175.out _; (with_reducible repeat (first | refine blk_drewN ?_ _ | refine blk_drew ?_ | refine blk_alloc ?_ _)); refine blk_far ?_ NB161_175.out _; (with_reducible repeat (first | refine blk_drewN ?_ _ | refine blk_drew ?_ | refine blk_alloc ?_ _)); refine blk_far ?_ NB161_175.out _; (with_reducible repeat (first | refine blk_drewN ?_ _ | refine blk_drew ?_ | refine blk_alloc ?_ _)); refine blk_far ?_ NB161_175.out _; (with_reducible repeat (first | refine blk_drewN ?_ _ | refine blk_drew ?_ | refine blk_alloc ?_ _)); exact BK161.out) hb); have n7_ := Aside0.mk (blk_below (g := gb175) (o := .cells #[.int .i64 ((rd_T101 l0 x13_1).f1.f0), .bool true, .int .i64 ((rd_T101 l0 x13_1).f1.f2), .int .i64 ((rd_T101 l0 x13_1).f1.f3.f0), .int .i64 ((rd_T101 l0 x13_1).f1.f3.f1), .string ((rd_T101 l0 x13_1).f1.f3.f2)] 99 (0, 0)) (by (with_reducible repeat (first | refine blk_drewN ?_ _ | refine blk_drew ?_ | refine blk_alloc ?_ _)); refine blk_put (cs := #[.int .i64 ((rd_T101 l0 x13_1).f1.f0), .bool true, .int .i64 ((rd_T101 l0 x13_1).f1.f2), .int .i64 ((rd_T101 l0 x13_1).f1.f3.f0), .int .i64 ((rd_T101 l0 x13_1).f1.f3.f1), .string (⟨#[]⟩ : ByteArray)]) ?_ 5 _ rfl; (with_reducible repeat (first | refine blk_drewN ?_ _ | refine blk_drew ?_ | refine blk_alloc ?_ _)); refine blk_put (cs := #[.int .i64 ((rd_T101 l0 x13_1).f1.f0), .bool true, .int .i64 ((rd_T101 l0 x13_1).f1.f2), .int .i64 ((rd_T101 l0 x13_1).f1.f3.f0), .int .i64 0, .string (⟨#[]⟩ : ByteArray)]) ?_ 4 _ rfl; (with_reducible repeat (first | refine blk_drewN ?_ _ | refine blk_drew ?_ | refine blk_alloc ?_ _)); refine blk_put (cs := #[.int .i64 ((rd_T101 l0 x13_1).f1.f0), .bool true, .int .i64 ((rd_T101 l0 x13_1).f1.f2), .int .i64 0, .int .i64 0, .string (⟨#[]⟩ : ByteArray)]) ?_ 3 _ rfl; (with_reducible repeat (first | refine blk_drewN ?_ _ | refine blk_drew ?_ | refine blk_alloc ?_ _)); refine blk_put (cs := #[.int .i64 ((rd_T101 l0 x13_1).f1.f0), .bool true, .int .i64 0, .int .i64 0, .int .i64 0, .string (⟨#[]⟩ : ByteArray)]) ?_ 2 _ rfl; (with_reducible repeat (first | refine blk_drewN ?_ _ | refine blk_drew ?_ | refine blk_alloc ?_ _)); refine blk_put (cs := #[.int .i64 ((rd_T101 l0 x13_1).f1.f0), .bool false, .int .i64 0, .int .i64 0, .int .i64 0, .string (⟨#[]⟩ : ByteArray)]) ?_ 1 _ rfl; (with_reducible repeat (first | refine blk_drewN ?_ _ | refine blk_drew ?_ | refine blk_alloc ?_ _)); refine blk_put (cs := #[.int .i64 0, .bool false, .int .i64 0, .int .i64 0, .int .i64 0, .string (⟨#[]⟩ : ByteArray)]) ?_ 0 _ rfl; (with_reducible repeat (first | refine blk_drewN ?_ _ | refine blk_drew ?_ | refine blk_alloc ?_ _)); exact BK175.out) hb); have n8_ := Aside0.mk (below_step (by repeat (first | (with_reducible first | exact HB.out | apply below_alloc | apply pw_below_drewN | apply below_drew1 | refine below_set ?_ GE161.out | refine below_set ?_ GE175.out) | exact HB.out)) hb); clear HO_3; clear HO164; clear HO167; clear HO171; clear HO174; clear BK161; clear BK175; clear HB; have HO_3 := n0_; have HO164 := n1_; have HO167 := n2_; have HO171 := n3_; have HO174 := n4_; have HO179 := n5_; have BK161 := n6_; have BK175 := n7_; have HB := n8_; clear n0_ n1_ n2_ n3_ n4_ n5_ n6_ n7_ n8_; (try clear hb); (try clear hb2); (try clear hk); (try clear hi); (try clear ho0); have hcz38_0 : w37.cell? ⟨gb175, 0, none⟩ = some (.int .i64 ((rd_T101 l0 x13_1).f1.f0)) := (blk_cell BK175.out 0).trans rfl; have hcz38_1 : w37.cell? ⟨gb175, 1, none⟩ = some (.bool true) := (blk_cell BK175.out 1).trans rfl; have hcz38_2 : w37.cell? ⟨gb175, 2, none⟩ = some (.int .i64 ((rd_T101 l0 x13_1).f1.f2)) := (blk_cell BK175.out 2).trans rfl; have hcz38_3 : w37.cell? ⟨gb175, 3, none⟩ = some (.int .i64 ((rd_T101 l0 x13_1).f1.f3.f0)) := (blk_cell BK175.out 3).trans rfl; have hcz38_4 : w37.cell? ⟨gb175, 4, none⟩ = some (.int .i64 ((rd_T101 l0 x13_1).f1.f3.f1)) := (blk_cell BK175.out 4).trans rfl; have hcz38_5 : w37.cell? ⟨gb175, 5, none⟩ = some (.string ((rd_T101 l0 x13_1).f1.f3.f2)) := (blk_cell BK175.out 5).trans rfl; have hfz38_0 := blk_frozen BK175.out 0; have hfz38_1 := blk_frozen BK175.out 1; have hfz38_2 := blk_frozen BK175.out 2; have hfz38_3 := blk_frozen BK175.out 3; have hfz38_4 := blk_frozen BK175.out 4; have hfz38_5 := blk_frozen BK175.out 5))
                have n0_ := Aside0.mk (Kd.R_drew HO_3.out)
                have n1_ := Aside0.mk (Kd.R_drew HO164.out)
                have n2_ := Aside0.mk (Kd.R_drew HO167.out)
                have n3_ := Aside0.mk (Kd.R_drew HO171.out)
                have n4_ := Aside0.mk (Kd.R_drew HO174.out)
                have n5_ := Aside0.mk (Kd.R_drew HO179.out)
                have n6_ := Aside0.mk (blk_drew BK161.out)
                have n7_ := Aside0.mk (blk_drew BK175.out)
                have n8_ := Aside0.mk (below_drew1 HB.out)
                clear HO_3
                clear HO164
                clear HO167
                clear HO171
                clear HO174
                clear HO179
                clear BK161
                clear BK175
                clear HB
                have HO_3 := n0_
                have HO164 := n1_
                have HO167 := n2_
                have HO171 := n3_
                have HO174 := n4_
                have HO179 := n5_
                have BK161 := n6_
                have BK175 := n7_
                have HB := n8_
                clear n0_ n1_ n2_ n3_ n4_ n5_ n6_ n7_ n8_
                refine start_ (n := 8) (S := fun w' => w'.cell? ⟨gb175, 0, none⟩ = some (.int .i64 ((rd_T101 l0 x13_1).f1.f0)) ∧ w'.cell? ⟨gb175, 1, none⟩ = some (.bool true) ∧ w'.cell? ⟨gb175, 2, none⟩ = some (.int .i64 ((rd_T101 l0 x13_1).f1.f2)) ∧ w'.cell? ⟨gb175, 3, none⟩ = some (.int .i64 ((rd_T101 l0 x13_1).f1.f3.f0)) ∧ w'.cell? ⟨gb175, 4, none⟩ = some (.int .i64 ((rd_T101 l0 x13_1).f1.f3.f1)) ∧ w'.cell? ⟨gb175, 5, none⟩ = some (.string ((rd_T101 l0 x13_1).f1.f3.f2))) (ds := []) #[false, false, false, false, false, false, false, false] (by kernel_rfl) rfl rfl ⟨(blk_cell BK175.out 0).trans rfl, (blk_cell BK175.out 1).trans rfl, (blk_cell BK175.out 2).trans rfl, (blk_cell BK175.out 3).trans rfl, (blk_cell BK175.out 4).trans rfl, (blk_cell BK175.out 5).trans rfl⟩ (fun hHeld => ?_); refine with_tabW skerryref01_Cells.tab10 skerryref01_Cells.bits10 (fun HT_ HW_ => ?_)
                generalize w37.drew = w39 at HO_3 HO164 HO167 HO171 HO174 HO179 BK161 BK175 HB hHeld ⊢
                refine pure_ (i := 0) (N := some 45) (v := ?_) (a' := ?_) #[true, false, false, false, false, false, false, false] rfl rfl (any_of HT_.out (by kernel_rfl)) (fun _ _ _ h => h) (Or.inl ⟨by rfl, ?_⟩) ?_ ?_
                rotate_left
                · intro w'
                  go_simp
                  with_reducible rfl
                rotate_left
                · simp only [Act.put, List.setIfInBounds_toArray, List.set_cons_zero, List.set_cons_succ, i64_w, i32_w]
                  rfl
                refine pure_ (i := 3) (N := some 48) (v := ?_) (a' := ?_) #[true, false, false, true, false, false, false, false] rfl rfl (any_of HT_.out (by kernel_rfl)) (fun _ _ _ h => h) (Or.inl ⟨by rfl, ?_⟩) ?_ ?_
                rotate_left
                · intro w'
                  go_simp
                  with_reducible rfl
                rotate_left
                · simp only [Act.put, List.setIfInBounds_toArray, List.set_cons_zero, List.set_cons_succ, i64_w, i32_w]
                  rfl
                refine take_ (i := 4) (N := some 49) (v := ?_) (a' := ?_) #[true, false, false, true, true, false, false, false] rfl rfl (take_ofW HT_.out HW_.out (by kernel_rfl)) (fun _ _ _ h => h) (Or.inl ⟨by rfl, ?_⟩) hHeld ?_ ?_
                rotate_left
                · rintro w' ⟨s0, s1, s2, s3, s4, s5⟩
                  go_simp
                  with_reducible rfl
                rotate_left
                · simp only [Act.put, List.setIfInBounds_toArray, List.set_cons_zero, List.set_cons_succ, i64_w, i32_w]
                  rfl
                refine one_ (i := 1) (N := some 46) #[true, true, false, true, true, false, false, false] rfl rfl (one_of HT_.out (by kernel_rfl)) (by decide) (fun K hK => ?_)
                refine value_ (w1 := ?_) (v := ?_) (by rfl) rfl ?_ ?_
                rotate_left 2
                · go_simp
                  constructor
                  · rfl
                  · rfl
                refine hK.out _ _ ⟨(blk_cell (blk_alloc BK175.out _) 0).trans rfl, (blk_cell (blk_alloc BK175.out _) 1).trans rfl, (blk_cell (blk_alloc BK175.out _) 2).trans rfl, (blk_cell (blk_alloc BK175.out _) 3).trans rfl, (blk_cell (blk_alloc BK175.out _) 4).trans rfl, (blk_cell (blk_alloc BK175.out _) 5).trans rfl⟩ (fun hHeld => ?_)
                clear hK K
                refine norm_ (a' := ?_) ?_ ?_
                rotate_left
                · show Act.put _ (some 46) _ = _
                  simp only [Act.put, List.setIfInBounds_toArray, List.set_cons_zero, List.set_cons_succ, i64_w, i32_w]
                  rfl
                refine one_ (i := 2) (N := some 47) #[true, true, true, true, true, false, false, false] rfl rfl (one_of HT_.out (by kernel_rfl)) (by decide) (fun K hK => ?_)
                refine Kd.R_append_step (Kd.int .u8) (w0 := w) w.heap.size (by rfl) (.tmp 45) (.tmp 46) 27 5 (.int .u8 0) 1 rfl Try.underlying27 info5 rfl (by decide) (by omega) v178 t177 1 [.int .u8 1] (fun k_ => some k_ ≠ (.slice Ao23 x3_1.length co23 : Value).ownBlock ∧ some k_ ≠ (.slice Ao25 t162.length co25 : Value).ownBlock ∧ some k_ ≠ (.slice Ao28 t165.length co28 : Value).ownBlock ∧ some k_ ≠ (.slice Ao30 t169.length co30 : Value).ownBlock ∧ some k_ ≠ (.slice Ao36 t172.length co36 : Value).ownBlock) (fun _ => False) rfl rfl ?aP (fun _ hk => hk.elim) ?aF ?aO ?aB ?aS ?aL ?_
                (case aP => exact rfl)
                (case aB => exact (by repeat (first | (with_reducible first | exact HB.out | apply below_alloc | apply pw_below_drewN | apply below_drew1 | refine below_set ?_ GE161.out | refine below_set ?_ GE175.out) | exact HB.out)))
                (case aF => exact (fun k_ hk => ⟨Kd.fresh' (Kd.R_lt (by (with_reducible repeat (first | apply Kd.R_alloc | apply Kd.R_drewN | apply Kd.R_drew)); exact HO_3.out)) k_ hk, Kd.fresh' (Kd.R_lt (by (with_reducible repeat (first | apply Kd.R_alloc | apply Kd.R_drewN | apply Kd.R_drew)); exact HO164.out)) k_ hk, Kd.fresh' (Kd.R_lt (by (with_reducible repeat (first | apply Kd.R_alloc | apply Kd.R_drewN | apply Kd.R_drew)); exact HO167.out)) k_ hk, Kd.fresh' (Kd.R_lt (by (with_reducible repeat (first | apply Kd.R_alloc | apply Kd.R_drewN | apply Kd.R_drew)); exact HO171.out)) k_ hk, Kd.fresh' (Kd.R_lt (by (with_reducible repeat (first | apply Kd.R_alloc | apply Kd.R_drewN | apply Kd.R_drew)); exact HO174.out)) k_ hk⟩))
                (case aO => exact (by (with_reducible repeat (first | apply Kd.R_alloc | apply Kd.R_drewN | apply Kd.R_drew)); exact Kd.R_mono HO179.out (fun _ hk => ⟨hk.1.1.1.1.2, ⟨hk.1.1.1.2, ⟨hk.1.1.2, ⟨hk.1.2, hk.2⟩⟩⟩⟩)))
                (case aS => exact (below_size (by repeat (first | (with_reducible first | exact HB.out | apply below_alloc | apply pw_below_drewN | apply below_drew1 | refine below_set ?_ GE161.out | refine below_set ?_ GE175.out) | exact HB.out))))
                (case aL => have := LMc16.out; omega)
                intro v181 w40 ho hb hg hat
                rw [← Ny180.out] at ho
                have n0_ := Aside0.mk (Kd.R_after (ok := (fun k_ => some k_ ≠ (.slice Ao25 t162.length co25 : Value).ownBlock ∧ some k_ ≠ (.slice Ao28 t165.length co28 : Value).ownBlock ∧ some k_ ≠ (.slice Ao30 t169.length co30 : Value).ownBlock ∧ some k_ ≠ (.slice Ao36 t172.length co36 : Value).ownBlock)) (by (with_reducible repeat (first | apply Kd.R_alloc | apply Kd.R_drewN | apply Kd.R_drew)); exact Kd.R_mono HO_3.out (fun _ hk => ⟨⟨hk.1.1.1.1.2, ⟨hk.1.1.1.2, ⟨hk.1.1.2, hk.1.2⟩⟩⟩, hk.2⟩)) hg hat)
                have n1_ := Aside0.mk (blk_grown (g := gb161) (o := .cells #[.string ((rd_T101 l0 x13_1).f0.f0), .string ((rd_T101 l0 x13_1).f0.f1), .int .i64 ((rd_T101 l0 x13_1).f0.f2), .string ((rd_T101 l0 x13_1).f0.f3), .int .i64 ((rd_T101 l0 x13_1).f1.f0), .bool true, .int .i64 ((rd_T101 l0 x13_1).f1.f2), .int .i64 ((rd_T101 l0 x13_1).f1.f3.f0), .int .i64 ((rd_T101 l0 x13_1).f1.f3.f1), .string ((rd_T101 l0 x13_1).f1.f3.f2)] 101 (0, 0)) (by (with_reducible repeat (first | refine blk_drewN ?_ _ | refine blk_drew ?_ | refine blk_alloc ?_ _)); exact BK161.out) hg (Kd.R_ne HO179.out BK161.out (by decide)))
                have n2_ := Aside0.mk (Kd.R_after (ok := (fun k_ => some k_ ≠ (.slice Ao23 x3_1.length co23 : Value).ownBlock ∧ some k_ ≠ (.slice Ao28 t165.length co28 : Value).ownBlock ∧ some k_ ≠ (.slice Ao30 t169.length co30 : Value).ownBlock ∧ some k_ ≠ (.slice Ao36 t172.length co36 : Value).ownBlock)) (by (with_reducible repeat (first | apply Kd.R_alloc | apply Kd.R_drewN | apply Kd.R_drew)); exact Kd.R_mono HO164.out (fun _ hk => ⟨⟨hk.1.1.1.1.2, ⟨hk.1.1.1.2, ⟨hk.1.1.2, hk.1.2⟩⟩⟩, hk.2⟩)) hg hat)
                have n3_ := Aside0.mk (Kd.R_after (ok := (fun k_ => some k_ ≠ (.slice Ao23 x3_1.length co23 : Value).ownBlock ∧ some k_ ≠ (.slice Ao25 t162.length co25 : Value).ownBlock ∧ some k_ ≠ (.slice Ao30 t169.length co30 : Value).ownBlock ∧ some k_ ≠ (.slice Ao36 t172.length co36 : Value).ownBlock)) (by (with_reducible repeat (first | apply Kd.R_alloc | apply Kd.R_drewN | apply Kd.R_drew)); exact Kd.R_mono HO167.out (fun _ hk => ⟨⟨hk.1.1.1.1.2, ⟨hk.1.1.1.2, ⟨hk.1.1.2, hk.1.2⟩⟩⟩, hk.2⟩)) hg hat)
                have n4_ := Aside0.mk (Kd.R_after (ok := (fun k_ => some k_ ≠ (.slice Ao23 x3_1.length co23 : Value).ownBlock ∧ some k_ ≠ (.slice Ao25 t162.length co25 : Value).ownBlock ∧ some k_ ≠ (.slice Ao28 t165.length co28 : Value).ownBlock ∧ some k_ ≠ (.slice Ao36 t172.length co36 : Value).ownBlock)) (by (with_reducible repeat (first | apply Kd.R_alloc | apply Kd.R_drewN | apply Kd.R_drew)); exact Kd.R_mono HO171.out (fun _ hk => ⟨⟨hk.1.1.1.1.2, ⟨hk.1.1.1.2, ⟨hk.1.1.2, hk.1.2⟩⟩⟩, hk.2⟩)) hg hat)
                have n5_ := Aside0.mk (Kd.R_after (ok := (fun k_ => some k_ ≠ (.slice Ao23 x3_1.length co23 : Value).ownBlock ∧ some k_ ≠ (.slice Ao25 t162.length co25 : Value).ownBlock ∧ some k_ ≠ (.slice Ao28 t165.length co28 : Value).ownBlock ∧ some k_ ≠ (.slice Ao30 t169.length co30 : Value).ownBlock)) (by (with_reducible repeat (first | apply Kd.R_alloc | apply Kd.R_drewN | apply Kd.R_drew)); exact Kd.R_mono HO174.out (fun _ hk => ⟨⟨hk.1.1.1.1.2, ⟨hk.1.1.1.2, ⟨hk.1.1.2, hk.1.2⟩⟩⟩, hk.2⟩)) hg hat)
                have n6_ := Aside0.mk (blk_grown (g := gb175) (o := .cells #[.int .i64 ((rd_T101 l0 x13_1).f1.f0), .bool true, .int .i64 ((rd_T101 l0 x13_1).f1.f2), .int .i64 ((rd_T101 l0 x13_1).f1.f3.f0), .int .i64 ((rd_T101 l0 x13_1).f1.f3.f1), .string ((rd_T101 l0 x13_1).f1.f3.f2)] 99 (0, 0)) (by (with_reducible repeat (first | refine blk_drewN ?_ _ | refine blk_drew ?_ | refine blk_alloc ?_ _)); exact BK175.out) hg (Kd.R_ne HO179.out BK175.out (by decide)))
                have n7_ := Aside0.mk (hb)
                have n8_ := Aside0.mk (ho)
                clear HO_3
                clear BK161
                clear HO164
                clear HO167
                clear HO171
                clear HO174
                clear BK175
                clear HB
                clear HO179
                have HO_3 := n0_
                have BK161 := n1_
                have HO164 := n2_
                have HO167 := n3_
                have HO171 := n4_
                have HO174 := n5_
                have BK175 := n6_
                have HB := n7_
                have HO182 := n8_
                clear n0_ n1_ n2_ n3_ n4_ n5_ n6_ n7_ n8_
                clear ho hb hg hat
                refine hK.out _ _ ⟨(blk_cell BK175.out 0).trans rfl, (blk_cell BK175.out 1).trans rfl, (blk_cell BK175.out 2).trans rfl, (blk_cell BK175.out 3).trans rfl, (blk_cell BK175.out 4).trans rfl, (blk_cell BK175.out 5).trans rfl⟩ (fun hHeld => ?_)
                clear hK K
                refine norm_ (a' := ?_) ?_ ?_
                rotate_left
                · show Act.put _ (some 47) _ = _
                  simp only [Act.put, List.setIfInBounds_toArray, List.set_cons_zero, List.set_cons_succ, i64_w, i32_w]
                  rfl
                refine one_ (i := 5) (N := some 50) #[true, true, true, true, true, true, false, false] rfl rfl (one_of HT_.out (by kernel_rfl)) (by decide) (fun K hK => ?_)
                refine goes_ Try.func30 (by kernel_rfl) rfl #[.int .i64 ((rd_T101 l0 x13_1).f1.f2)] (by rfl) rfl rfl (by (try simp only [List.map_toArray, List.map_cons, List.map_nil]); first | done | rfl | (simp only [List.length_drop, List.length_take]; rfl)) ?_
                with_reducible refine (skerryref01_Zig.calls ((rd_T101 l0 x13_1).f1.f2) t183 _ A17.out).mono ?_
                rintro e w' ⟨rfl, ⟨nd, rfl⟩⟩
                refine ⟨_, rfl, ?_⟩
                obtain ⟨Ao41, co41, eo41⟩ := Kd.R_slice HO182.out
                (first | subst eo41 | (injection eo41 with f1_ f2_ f3_; have f4_ := f1_.symm; have f5_ := f3_.symm; clear f1_ f2_ f3_; subst f4_; subst f5_))
                refine hK.out _ _ ⟨(blk_cell BK175.out 0).trans rfl, (blk_cell BK175.out 1).trans rfl, (blk_cell BK175.out 2).trans rfl, (blk_cell BK175.out 3).trans rfl, (blk_cell BK175.out 4).trans rfl, (blk_cell BK175.out 5).trans rfl⟩ (fun hHeld => ?_)
                clear hK K
                refine norm_ (a' := ?_) ?_ ?_
                rotate_left
                · show Act.put _ (some 50) _ = _
                  simp only [Act.put, List.setIfInBounds_toArray, List.set_cons_zero, List.set_cons_succ, i64_w, i32_w]
                  rfl
                refine one_ (i := 6) (N := some 51) #[true, true, true, true, true, true, true, false] rfl rfl (one_of HT_.out (by kernel_rfl)) (by decide) (fun K hK => ?_)
                refine goes_ Try.func29 (by kernel_rfl) rfl #[.slice Ao41 y180.length co41, .int .u64 t183] (by rfl) rfl rfl (by (try simp only [List.map_toArray, List.map_cons, List.map_nil]); first | done | rfl | (simp only [List.length_drop, List.length_take]; rfl)) ?_
                with_reducible refine (skerryref01_Put.calls k1 _ _ y180 t183 t184 _ ?side1 ?side2 A18.out).mono ?_
                (case side1 => repeat (first | exact (Kd.R_reads' HO182.out).2.2 | (with_reducible refine Kd.C_alloc ?_ _) | (with_reducible refine Kd.C_drewN ?_ _) | (with_reducible refine Kd.C_drew ?_)))
                (case side2 => exact (Kd.R_reads' HO182.out).2.1)
                rintro e w42 ⟨v185, rfl, ho0, hb⟩
                refine ⟨_, rfl, ?_⟩
                have n0_ := Aside0.mk (Kd.R_elder' (by (with_reducible repeat (first | apply Kd.R_alloc | apply Kd.R_drewN | apply Kd.R_drew)); exact HO_3.out) (Kd.R_base ho0) hb)
                have n1_ := Aside0.mk (Kd.R_elder' (by (with_reducible repeat (first | apply Kd.R_alloc | apply Kd.R_drewN | apply Kd.R_drew)); exact HO164.out) (Kd.R_base ho0) hb)
                have n2_ := Aside0.mk (Kd.R_elder' (by (with_reducible repeat (first | apply Kd.R_alloc | apply Kd.R_drewN | apply Kd.R_drew)); exact HO167.out) (Kd.R_base ho0) hb)
                have n3_ := Aside0.mk (Kd.R_elder' (by (with_reducible repeat (first | apply Kd.R_alloc | apply Kd.R_drewN | apply Kd.R_drew)); exact HO171.out) (Kd.R_base ho0) hb)
                have n4_ := Aside0.mk (Kd.R_elder' (by (with_reducible repeat (first | apply Kd.R_alloc | apply Kd.R_drewN | apply Kd.R_drew)); exact HO174.out) (Kd.R_base ho0) hb)
                have n5_ := Aside0.mk (Kd.R_elder' (by (with_reducible repeat (first | apply Kd.R_alloc | apply Kd.R_drewN | apply Kd.R_drew)); exact HO182.out) (Kd.R_base ho0) hb)
                have n6_ := Aside0.mk (Kd.R_lower (Kd.R_new' (Kd.R_new' (Kd.R_new' (Kd.R_new' (Kd.R_new' (Kd.R_new' ho0 (Kd.R_lt (by (with_reducible repeat (first | apply Kd.R_alloc | apply Kd.R_drewN | apply Kd.R_drew)); exact HO_3.out))) (Kd.R_lt (by (with_reducible repeat (first | apply Kd.R_alloc | apply Kd.R_drewN | apply Kd.R_drew)); exact HO164.out))) (Kd.R_lt (by (with_reducible repeat (first | apply Kd.R_alloc | apply Kd.R_drewN | apply Kd.R_drew)); exact HO167.out))) (Kd.R_lt (by (with_reducible repeat (first | apply Kd.R_alloc | apply Kd.R_drewN | apply Kd.R_drew)); exact HO171.out))) (Kd.R_lt (by (with_reducible repeat (first | apply Kd.R_alloc | apply Kd.R_drewN | apply Kd.R_drew)); exact HO174.out))) (Kd.R_lt (by (with_reducible repeat (first | apply Kd.R_alloc | apply Kd.R_drewN | apply Kd.R_drew)); exact HO182.out))) (below_size (by repeat (first | (with_reducible first | exact HB.out | apply below_alloc | apply pw_below_drewN | apply below_drew1 | refine below_set ?_ GE161.out | refine below_set ?_ GE175.out) | exact HB.out))))
                have n7_ := Aside0.mk (blk_below (g := gb161) (o := .cells #[.string ((rd_T101 l0 x13_1).f0.f0), .string ((rd_T101 l0 x13_1).f0.f1), .int .i64 ((rd_T101 l0 x13_1).f0.f2), .string ((rd_T101 l0 x13_1).f0.f3), .int .i64 ((rd_T101 l0 x13_1).f1.f0), .bool true, .int .i64 ((rd_T101 l0 x13_1).f1.f2), .int .i64 ((rd_T101 l0 x13_1).f1.f3.f0), .int .i64 ((rd_T101 l0 x13_1).f1.f3.f1), .string ((rd_T101 l0 x13_1).f1.f3.f2)] 101 (0, 0)) (by (with_reducible repeat (first | refine blk_drewN ?_ _ | refine blk_drew ?_ | refine blk_alloc ?_ _)); exact BK161.out) hb)
                have n8_ := Aside0.mk (blk_below (g := gb175) (o := .cells #[.int .i64 ((rd_T101 l0 x13_1).f1.f0), .bool true, .int .i64 ((rd_T101 l0 x13_1).f1.f2), .int .i64 ((rd_T101 l0 x13_1).f1.f3.f0), .int .i64 ((rd_T101 l0 x13_1).f1.f3.f1), .string ((rd_T101 l0 x13_1).f1.f3.f2)] 99 (0, 0)) (by (with_reducible repeat (first | refine blk_drewN ?_ _ | refine blk_drew ?_ | refine blk_alloc ?_ _)); exact BK175.out) hb)
                have n9_ := Aside0.mk (below_step (by repeat (first | (with_reducible first | exact HB.out | apply below_alloc | apply pw_below_drewN | apply below_drew1 | refine below_set ?_ GE161.out | refine below_set ?_ GE175.out) | exact HB.out)) hb)
                clear HO_3
                clear HO164
                clear HO167
                clear HO171
                clear HO174
                clear HO182
                clear BK161
                clear BK175
                clear HB
                have HO_3 := n0_
                have HO164 := n1_
                have HO167 := n2_
                have HO171 := n3_
                have HO174 := n4_
                have HO182 := n5_
                have HO186 := n6_
                have BK161 := n7_
                have BK175 := n8_
                have HB := n9_
                clear n0_ n1_ n2_ n3_ n4_ n5_ n6_ n7_ n8_ n9_
                (try clear hb)
                (try clear hb2)
                (try clear hk)
                (try clear hi)
                (try clear ho0)
                refine hK.out _ _ ⟨(blk_cell BK175.out 0).trans rfl, (blk_cell BK175.out 1).trans rfl, (blk_cell BK175.out 2).trans rfl, (blk_cell BK175.out 3).trans rfl, (blk_cell BK175.out 4).trans rfl, (blk_cell BK175.out 5).trans rfl⟩ (fun hHeld => ?_)
                clear hK K
                refine norm_ (a' := ?_) ?_ ?_
                rotate_left
                · show Act.put _ (some 51) _ = _
                  simp only [Act.put, List.setIfInBounds_toArray, List.set_cons_zero, List.set_cons_succ, i64_w, i32_w]
                  rfl
                refine pure_ (i := 7) (N := some 3) (v := ?_) (a' := ?_) #[true, true, true, true, true, true, true, true] rfl rfl (any_of HT_.out (by kernel_rfl)) (fun _ _ _ h => h) (Or.inl ⟨by rfl, ?_⟩) ?_ ?_
                rotate_left
                · intro w'
                  go_simp
                  with_reducible rfl
                rotate_left
                · simp only [Act.put, List.setIfInBounds_toArray, List.set_cons_zero, List.set_cons_succ, i64_w, i32_w]
                  rfl
                refine done_ (done_of HT_.out (by kernel_rfl)) ?_
                try go_wp2
                go_roundg k1
                case measure => have := HK1.out; omega
                case rel => exact ⟨(t184), (wrap64 (x13_1 + 1)), (by first | rfl | (simp; done) | (simp [*]; done)), H', ⟨by have := HK1.out; omega⟩, ⟨by (with_reducible repeat (first | apply Kd.R_alloc | apply Kd.R_drewN | apply Kd.R_drew)); exact Kd.R_mono HO186.out (fun _ hk => trivial)⟩, ⟨by repeat (first | (with_reducible first | exact HB.out | apply below_alloc | apply pw_below_drewN | apply below_drew1 | refine below_set ?_ GE161.out | refine below_set ?_ GE175.out) | exact HB.out)⟩⟩
              · rw [if_neg c16] at H
                exact absurd H (by simp)
            · replace c15 := Bool.eq_false_iff.mpr c15
              subst c15
              have H1 : (if t177.length < 140737488355328 then ((skerryref01_Put.f k1 (t177 ++ [0]) (IntKind.u64.wrap ((rd_T101 l0 x13_1).f1.f3.f0))).bind fun t190 => ((skerryref01_Zig.f ((rd_T101 l0 x13_1).f1.f3.f1)).bind fun t193 => ((skerryref01_Put.f k1 t190 t193).bind fun t194 => ((skerryref01_PutText.f k1 t194 ((rd_T101 l0 x13_1).f1.f3.f2)).bind fun t197 => (skerryref01_Cells.l0 k1 t197 l0 (l0.length : Int) (wrap64 (x13_1 + 1))))))) else (none)) = some r := by rw [if_neg (show ¬ (false = true) by decide)] at H; exact H
              clear H
              have H := H1
              clear H1
              by_cases c43 : t177.length < 140737488355328
              · rw [if_pos c43] at H
                have LMc43 := Aside0.mk c43
                clear c43
                obtain ⟨y187, hy187⟩ : ∃ y_ : List Int, y_ = (t177 ++ [0]) := ⟨_, rfl⟩
                replace H : ((skerryref01_Put.f k1 y187 (IntKind.u64.wrap ((rd_T101 l0 x13_1).f1.f3.f0))).bind fun t190 => ((skerryref01_Zig.f ((rd_T101 l0 x13_1).f1.f3.f1)).bind fun t193 => ((skerryref01_Put.f k1 t190 t193).bind fun t194 => ((skerryref01_PutText.f k1 t194 ((rd_T101 l0 x13_1).f1.f3.f2)).bind fun t197 => (skerryref01_Cells.l0 k1 t197 l0 (l0.length : Int) (wrap64 (x13_1 + 1))))))) = some r := by first | (rw [hy187]; with_reducible exact H) | (have H2_ := (Option.bind_some _ _).symm.trans H; rw [hy187]; with_reducible exact H2_) | (have H2_ := (Option.bind_some _ _).symm.trans H; with_reducible exact H2_) | with_reducible exact H | (rw [hy187]; exact H) | exact H
                have Ny187 := Aside0.mk hy187
                clear hy187
                replace H := Option.bind_eq_some_iff.mp H
                obtain ⟨t190, A440, H⟩ := H
                replace H : ((skerryref01_Zig.f ((rd_T101 l0 x13_1).f1.f3.f1)).bind fun t193 => ((skerryref01_Put.f k1 t190 t193).bind fun t194 => ((skerryref01_PutText.f k1 t194 ((rd_T101 l0 x13_1).f1.f3.f2)).bind fun t197 => (skerryref01_Cells.l0 k1 t197 l0 (l0.length : Int) (wrap64 (x13_1 + 1)))))) = some r := H
                have A44 := Aside0.mk A440
                clear A440
                replace H := Option.bind_eq_some_iff.mp H
                obtain ⟨t193, A450, H⟩ := H
                replace H : ((skerryref01_Put.f k1 t190 t193).bind fun t194 => ((skerryref01_PutText.f k1 t194 ((rd_T101 l0 x13_1).f1.f3.f2)).bind fun t197 => (skerryref01_Cells.l0 k1 t197 l0 (l0.length : Int) (wrap64 (x13_1 + 1))))) = some r := H
                have A45 := Aside0.mk A450
                clear A450
                replace H := Option.bind_eq_some_iff.mp H
                obtain ⟨t194, A460, H⟩ := H
                replace H : ((skerryref01_PutText.f k1 t194 ((rd_T101 l0 x13_1).f1.f3.f2)).bind fun t197 => (skerryref01_Cells.l0 k1 t197 l0 (l0.length : Int) (wrap64 (x13_1 + 1)))) = some r := H
                have A46 := Aside0.mk A460
                clear A460
                replace H := Option.bind_eq_some_iff.mp H
                obtain ⟨t197, A470, H⟩ := H
                replace H : (skerryref01_Cells.l0 k1 t197 l0 (l0.length : Int) (wrap64 (x13_1 + 1))) = some r := H
                have A47 := Aside0.mk A470
                clear A470
                have H' := Aside0.mk H
                clear H
                have p160 : 0 ≤ (x13_1 : Int) := of_decide_eq_true (by first | (with_reducible assumption) | assumption)
                have q160 : x13_1 < (l0.length : Int) := of_decide_eq_true (by first | (with_reducible assumption) | assumption)
                obtain ⟨ad160, e160, hx160_0, hx160_1, hx160_2, hx160_3, hx160_4, hx160_5, hx160_6, hx160_7, hx160_8, hx160_9⟩ := at_T101 HR0.out x13_1 p160 q160
                (try rw [← Nbq14.out] at hx160_5)
                cases e160
                replace hx160_0 := (HB.out.cell (World.block_lt_of_cell? w _ hx160_0)).trans hx160_0
                replace hx160_1 := (HB.out.cell (World.block_lt_of_cell? w _ hx160_1)).trans hx160_1
                replace hx160_2 := (HB.out.cell (World.block_lt_of_cell? w _ hx160_2)).trans hx160_2
                replace hx160_3 := (HB.out.cell (World.block_lt_of_cell? w _ hx160_3)).trans hx160_3
                replace hx160_4 := (HB.out.cell (World.block_lt_of_cell? w _ hx160_4)).trans hx160_4
                replace hx160_5 := (HB.out.cell (World.block_lt_of_cell? w _ hx160_5)).trans hx160_5
                replace hx160_6 := (HB.out.cell (World.block_lt_of_cell? w _ hx160_6)).trans hx160_6
                replace hx160_7 := (HB.out.cell (World.block_lt_of_cell? w _ hx160_7)).trans hx160_7
                replace hx160_8 := (HB.out.cell (World.block_lt_of_cell? w _ hx160_8)).trans hx160_8
                replace hx160_9 := (HB.out.cell (World.block_lt_of_cell? w _ hx160_9)).trans hx160_9
                replace p160 := eq_true p160
                replace q160 := eq_true q160
                try go_wp2_with (first | ((with_reducible refine gate_dst (N := 5) rfl ?_); refine box_event ?hg (N := 5) ?hd (cs := #[.string (⟨#[]⟩ : ByteArray), .string (⟨#[]⟩ : ByteArray), .int .i64 0, .string (⟨#[]⟩ : ByteArray), .int .i64 0, .bool false, .int .i64 0, .int .i64 0, .int .i64 0, .string (⟨#[]⟩ : ByteArray)]) (t := 101) ?hr ?_; (case hd => rfl); (case hg => rfl); (case hr => first | (go_simp; done) | (go_simp; rfl)); intro gb161 hg w48 hbox hb; have n0_ := Aside0.mk (Kd.R_below (by (with_reducible repeat (first | apply Kd.R_alloc | apply Kd.R_drewN | apply Kd.R_drew)); exact HO_3.out) hb); have n1_ := Aside0.mk (below_step (by repeat (first | (with_reducible first | exact HB.out | apply below_alloc | apply pw_below_drewN | apply below_drew1) | exact HB.out)) hb); have n2_ := Aside0.mk (hbox); have n3_ := Aside0.mk ((by rw [hg]; exact (below_size (by repeat (first | (with_reducible first | exact HB.out | apply below_alloc | apply pw_below_drewN | apply below_drew1) | exact HB.out))) : w.heap.size ≤ gb161)); have n4_ := Aside0.mk ((by rw [hg]; exact (below_size (by repeat (first | (with_reducible first | exact HB.out | apply below_alloc | apply pw_below_drewN | apply below_drew1) | exact HB.out))) : w.heap.size ≤ gb161)); clear HO_3; clear HB; have HO_3 := n0_; have HB := n1_; have BK161 := n2_; have GW161 := n3_; have GE161 := n4_; clear n0_ n1_ n2_ n3_ n4_; clear hb hbox hg; have hcz49_0 : w48.cell? ⟨gb161, 0, none⟩ = some (.string (⟨#[]⟩ : ByteArray)) := (blk_cell BK161.out 0).trans rfl; have hcz49_1 : w48.cell? ⟨gb161, 1, none⟩ = some (.string (⟨#[]⟩ : ByteArray)) := (blk_cell BK161.out 1).trans rfl; have hcz49_2 : w48.cell? ⟨gb161, 2, none⟩ = some (.int .i64 0) := (blk_cell BK161.out 2).trans rfl; have hcz49_3 : w48.cell? ⟨gb161, 3, none⟩ = some (.string (⟨#[]⟩ : ByteArray)) := (blk_cell BK161.out 3).trans rfl; have hcz49_4 : w48.cell? ⟨gb161, 4, none⟩ = some (.int .i64 0) := (blk_cell BK161.out 4).trans rfl; have hcz49_5 : w48.cell? ⟨gb161, 5, none⟩ = some (.bool false) := (blk_cell BK161.out 5).trans rfl; have hcz49_6 : w48.cell? ⟨gb161, 6, none⟩ = some (.int .i64 0) := (blk_cell BK161.out 6).trans rfl; have hcz49_7 : w48.cell? ⟨gb161, 7, none⟩ = some (.int .i64 0) := (blk_cell BK161.out 7).trans rfl; have hcz49_8 : w48.cell? ⟨gb161, 8, none⟩ = some (.int .i64 0) := (blk_cell BK161.out 8).trans rfl; have hcz49_9 : w48.cell? ⟨gb161, 9, none⟩ = some (.string (⟨#[]⟩ : ByteArray)) := (blk_cell BK161.out 9).trans rfl; have hfz49_0 := blk_frozen BK161.out 0; have hfz49_1 := blk_frozen BK161.out 1; have hfz49_2 := blk_frozen BK161.out 2; have hfz49_3 := blk_frozen BK161.out 3; have hfz49_4 := blk_frozen BK161.out 4; have hfz49_5 := blk_frozen BK161.out 5; have hfz49_6 := blk_frozen BK161.out 6; have hfz49_7 := blk_frozen BK161.out 7; have hfz49_8 := blk_frozen BK161.out 8; have hfz49_9 := blk_frozen BK161.out 9))
                have n0_ : Aside0 (Kd.R (Kd.int .u8) 5 ((((((((((w48.setCell ⟨gb161, 0, none⟩ (.string ((rd_T101 l0 x13_1).f0.f0))).setCell ⟨gb161, 1, none⟩ (.string ((rd_T101 l0 x13_1).f0.f1))).setCell ⟨gb161, 2, none⟩ (.int .i64 ((rd_T101 l0 x13_1).f0.f2))).setCell ⟨gb161, 3, none⟩ (.string ((rd_T101 l0 x13_1).f0.f3))).setCell ⟨gb161, 4, none⟩ (.int .i64 ((rd_T101 l0 x13_1).f1.f0))).setCell ⟨gb161, 5, none⟩ (.bool false)).setCell ⟨gb161, 6, none⟩ (.int .i64 ((rd_T101 l0 x13_1).f1.f2))).setCell ⟨gb161, 7, none⟩ (.int .i64 ((rd_T101 l0 x13_1).f1.f3.f0))).setCell ⟨gb161, 8, none⟩ (.int .i64 ((rd_T101 l0 x13_1).f1.f3.f1))).setCell ⟨gb161, 9, none⟩ (.string ((rd_T101 l0 x13_1).f1.f3.f2))) w.heap.size (fun _ => True) u3 x3_1) := ⟨by (with_reducible repeat (first | apply Kd.R_alloc | apply Kd.R_drewN | apply Kd.R_drew)); exact Kd.R_mono (Kd.R_far (p := ⟨gb161, 9, none⟩) (Kd.R_far (p := ⟨gb161, 8, none⟩) (Kd.R_far (p := ⟨gb161, 7, none⟩) (Kd.R_far (p := ⟨gb161, 6, none⟩) (Kd.R_far (p := ⟨gb161, 5, none⟩) (Kd.R_far (p := ⟨gb161, 4, none⟩) (Kd.R_far (p := ⟨gb161, 3, none⟩) (Kd.R_far (p := ⟨gb161, 2, none⟩) (Kd.R_far (p := ⟨gb161, 1, none⟩) (Kd.R_far (p := ⟨gb161, 0, none⟩) (Kd.R_types HO_3.out BK161.out (by decide)) (fun _ hk => hk.2) (.string ((rd_T101 l0 x13_1).f0.f0))) (fun _ hk => hk.2) (.string ((rd_T101 l0 x13_1).f0.f1))) (fun _ hk => hk.2) (.int .i64 ((rd_T101 l0 x13_1).f0.f2))) (fun _ hk => hk.2) (.string ((rd_T101 l0 x13_1).f0.f3))) (fun _ hk => hk.2) (.int .i64 ((rd_T101 l0 x13_1).f1.f0))) (fun _ hk => hk.2) (.bool false)) (fun _ hk => hk.2) (.int .i64 ((rd_T101 l0 x13_1).f1.f2))) (fun _ hk => hk.2) (.int .i64 ((rd_T101 l0 x13_1).f1.f3.f0))) (fun _ hk => hk.2) (.int .i64 ((rd_T101 l0 x13_1).f1.f3.f1))) (fun _ hk => hk.2) (.string ((rd_T101 l0 x13_1).f1.f3.f2))) (fun _ hk => trivial)⟩
                have n1_ : Aside0 (((((((((((w48.setCell ⟨gb161, 0, none⟩ (.string ((rd_T101 l0 x13_1).f0.f0))).setCell ⟨gb161, 1, none⟩ (.string ((rd_T101 l0 x13_1).f0.f1))).setCell ⟨gb161, 2, none⟩ (.int .i64 ((rd_T101 l0 x13_1).f0.f2))).setCell ⟨gb161, 3, none⟩ (.string ((rd_T101 l0 x13_1).f0.f3))).setCell ⟨gb161, 4, none⟩ (.int .i64 ((rd_T101 l0 x13_1).f1.f0))).setCell ⟨gb161, 5, none⟩ (.bool false)).setCell ⟨gb161, 6, none⟩ (.int .i64 ((rd_T101 l0 x13_1).f1.f2))).setCell ⟨gb161, 7, none⟩ (.int .i64 ((rd_T101 l0 x13_1).f1.f3.f0))).setCell ⟨gb161, 8, none⟩ (.int .i64 ((rd_T101 l0 x13_1).f1.f3.f1))).setCell ⟨gb161, 9, none⟩ (.string ((rd_T101 l0 x13_1).f1.f3.f2))).heap[gb161]? = some (.cells #[.string ((rd_T101 l0 x13_1).f0.f0), .string ((rd_T101 l0 x13_1).f0.f1), .int .i64 ((rd_T101 l0 x13_1).f0.f2), .string ((rd_T101 l0 x13_1).f0.f3), .int .i64 ((rd_T101 l0 x13_1).f1.f0), .bool false, .int .i64 ((rd_T101 l0 x13_1).f1.f2), .int .i64 ((rd_T101 l0 x13_1).f1.f3.f0), .int .i64 ((rd_T101 l0 x13_1).f1.f3.f1), .string ((rd_T101 l0 x13_1).f1.f3.f2)] 101 (0, 0))) := ⟨by (with_reducible repeat (first | refine blk_drewN ?_ _ | refine blk_drew ?_ | refine blk_alloc ?_ _)); refine blk_put (cs := #[.string ((rd_T101 l0 x13_1).f0.f0), .string ((rd_T101 l0 x13_1).f0.f1), .int .i64 ((rd_T101 l0 x13_1).f0.f2), .string ((rd_T101 l0 x13_1).f0.f3), .int .i64 ((rd_T101 l0 x13_1).f1.f0), .bool false, .int .i64 ((rd_T101 l0 x13_1).f1.f2), .int .i64 ((rd_T101 l0 x13_1).f1.f3.f0), .int .i64 ((rd_T101 l0 x13_1).f1.f3.f1), .string (⟨#[]⟩ : ByteArray)]) ?_ 9 _ rfl; (with_reducible repeat (first | refine blk_drewN ?_ _ | refine blk_drew ?_ | refine blk_alloc ?_ _)); refine blk_put (cs := #[.string ((rd_T101 l0 x13_1).f0.f0), .string ((rd_T101 l0 x13_1).f0.f1), .int .i64 ((rd_T101 l0 x13_1).f0.f2), .string ((rd_T101 l0 x13_1).f0.f3), .int .i64 ((rd_T101 l0 x13_1).f1.f0), .bool false, .int .i64 ((rd_T101 l0 x13_1).f1.f2), .int .i64 ((rd_T101 l0 x13_1).f1.f3.f0), .int .i64 0, .string (⟨#[]⟩ : ByteArray)]) ?_ 8 _ rfl; (with_reducible repeat (first | refine blk_drewN ?_ _ | refine blk_drew ?_ | refine blk_alloc ?_ _)); refine blk_put (cs := #[.string ((rd_T101 l0 x13_1).f0.f0), .string ((rd_T101 l0 x13_1).f0.f1), .int .i64 ((rd_T101 l0 x13_1).f0.f2), .string ((rd_T101 l0 x13_1).f0.f3), .int .i64 ((rd_T101 l0 x13_1).f1.f0), .bool false, .int .i64 ((rd_T101 l0 x13_1).f1.f2), .int .i64 0, .int .i64 0, .string (⟨#[]⟩ : ByteArray)]) ?_ 7 _ rfl; (with_reducible repeat (first | refine blk_drewN ?_ _ | refine blk_drew ?_ | refine blk_alloc ?_ _)); refine blk_put (cs := #[.string ((rd_T101 l0 x13_1).f0.f0), .string ((rd_T101 l0 x13_1).f0.f1), .int .i64 ((rd_T101 l0 x13_1).f0.f2), .string ((rd_T101 l0 x13_1).f0.f3), .int .i64 ((rd_T101 l0 x13_1).f1.f0), .bool false, .int .i64 0, .int .i64 0, .int .i64 0, .string (⟨#[]⟩ : ByteArray)]) ?_ 6 _ rfl; (with_reducible repeat (first | refine blk_drewN ?_ _ | refine blk_drew ?_ | refine blk_alloc ?_ _)); refine blk_put (cs := #[.string ((rd_T101 l0 x13_1).f0.f0), .string ((rd_T101 l0 x13_1).f0.f1), .int .i64 ((rd_T101 l0 x13_1).f0.f2), .string ((rd_T101 l0 x13_1).f0.f3), .int .i64 ((rd_T101 l0 x13_1).f1.f0), .bool false, .int .i64 0, .int .i64 0, .int .i64 0, .string (⟨#[]⟩ : ByteArray)]) ?_ 5 _ rfl; (with_reducible repeat (first | refine blk_drewN ?_ _ | refine blk_drew ?_ | refine blk_alloc ?_ _)); refine blk_put (cs := #[.string ((rd_T101 l0 x13_1).f0.f0), .string ((rd_T101 l0 x13_1).f0.f1), .int .i64 ((rd_T101 l0 x13_1).f0.f2), .string ((rd_T101 l0 x13_1).f0.f3), .int .i64 0, .bool false, .int .i64 0, .int .i64 0, .int .i64 0, .string (⟨#[]⟩ : ByteArray)]) ?_ 4 _ rfl; (with_reducible repeat (first | refine blk_drewN ?_ _ | refine blk_drew ?_ | refine blk_alloc ?_ _)); refine blk_put (cs := #[.string ((rd_T101 l0 x13_1).f0.f0), .string ((rd_T101 l0 x13_1).f0.f1), .int .i64 ((rd_T101 l0 x13_1).f0.f2), .string (⟨#[]⟩ : ByteArray), .int .i64 0, .bool false, .int .i64 0, .int .i64 0, .int .i64 0, .string (⟨#[]⟩ : ByteArray)]) ?_ 3 _ rfl; (with_reducible repeat (first | refine blk_drewN ?_ _ | refine blk_drew ?_ | refine blk_alloc ?_ _)); refine blk_put (cs := #[.string ((rd_T101 l0 x13_1).f0.f0), .string ((rd_T101 l0 x13_1).f0.f1), .int .i64 0, .string (⟨#[]⟩ : ByteArray), .int .i64 0, .bool false, .int .i64 0, .int .i64 0, .int .i64 0, .string (⟨#[]⟩ : ByteArray)]) ?_ 2 _ rfl; (with_reducible repeat (first | refine blk_drewN ?_ _ | refine blk_drew ?_ | refine blk_alloc ?_ _)); refine blk_put (cs := #[.string ((rd_T101 l0 x13_1).f0.f0), .string (⟨#[]⟩ : ByteArray), .int .i64 0, .string (⟨#[]⟩ : ByteArray), .int .i64 0, .bool false, .int .i64 0, .int .i64 0, .int .i64 0, .string (⟨#[]⟩ : ByteArray)]) ?_ 1 _ rfl; (with_reducible repeat (first | refine blk_drewN ?_ _ | refine blk_drew ?_ | refine blk_alloc ?_ _)); refine blk_put (cs := #[.string (⟨#[]⟩ : ByteArray), .string (⟨#[]⟩ : ByteArray), .int .i64 0, .string (⟨#[]⟩ : ByteArray), .int .i64 0, .bool false, .int .i64 0, .int .i64 0, .int .i64 0, .string (⟨#[]⟩ : ByteArray)]) ?_ 0 _ rfl; (with_reducible repeat (first | refine blk_drewN ?_ _ | refine blk_drew ?_ | refine blk_alloc ?_ _)); exact BK161.out⟩
                have n2_ : Aside0 (Below w.heap.size w ((((((((((w48.setCell ⟨gb161, 0, none⟩ (.string ((rd_T101 l0 x13_1).f0.f0))).setCell ⟨gb161, 1, none⟩ (.string ((rd_T101 l0 x13_1).f0.f1))).setCell ⟨gb161, 2, none⟩ (.int .i64 ((rd_T101 l0 x13_1).f0.f2))).setCell ⟨gb161, 3, none⟩ (.string ((rd_T101 l0 x13_1).f0.f3))).setCell ⟨gb161, 4, none⟩ (.int .i64 ((rd_T101 l0 x13_1).f1.f0))).setCell ⟨gb161, 5, none⟩ (.bool false)).setCell ⟨gb161, 6, none⟩ (.int .i64 ((rd_T101 l0 x13_1).f1.f2))).setCell ⟨gb161, 7, none⟩ (.int .i64 ((rd_T101 l0 x13_1).f1.f3.f0))).setCell ⟨gb161, 8, none⟩ (.int .i64 ((rd_T101 l0 x13_1).f1.f3.f1))).setCell ⟨gb161, 9, none⟩ (.string ((rd_T101 l0 x13_1).f1.f3.f2)))) := ⟨by repeat (first | (with_reducible first | exact HB.out | apply below_alloc | apply pw_below_drewN | apply below_drew1 | refine below_set ?_ GE161.out) | exact HB.out)⟩
                (try clear HO_3)
                (try clear BK161)
                (try clear HB)
                generalize ((((((((((w48.setCell ⟨gb161, 0, none⟩ (.string ((rd_T101 l0 x13_1).f0.f0))).setCell ⟨gb161, 1, none⟩ (.string ((rd_T101 l0 x13_1).f0.f1))).setCell ⟨gb161, 2, none⟩ (.int .i64 ((rd_T101 l0 x13_1).f0.f2))).setCell ⟨gb161, 3, none⟩ (.string ((rd_T101 l0 x13_1).f0.f3))).setCell ⟨gb161, 4, none⟩ (.int .i64 ((rd_T101 l0 x13_1).f1.f0))).setCell ⟨gb161, 5, none⟩ (.bool false)).setCell ⟨gb161, 6, none⟩ (.int .i64 ((rd_T101 l0 x13_1).f1.f2))).setCell ⟨gb161, 7, none⟩ (.int .i64 ((rd_T101 l0 x13_1).f1.f3.f0))).setCell ⟨gb161, 8, none⟩ (.int .i64 ((rd_T101 l0 x13_1).f1.f3.f1))).setCell ⟨gb161, 9, none⟩ (.string ((rd_T101 l0 x13_1).f1.f3.f2))) = w50 at n0_ n1_ n2_ ⊢
                have HO_3 := n0_
                have BK161 := n1_
                have HB := n2_
                clear n0_ n1_ n2_
                have n0_ := Aside0.mk (Kd.R_drew HO_3.out)
                have n1_ := Aside0.mk (blk_drew BK161.out)
                have n2_ := Aside0.mk (below_drew1 HB.out)
                clear HO_3
                clear BK161
                clear HB
                have HO_3 := n0_
                have BK161 := n1_
                have HB := n2_
                clear n0_ n1_ n2_
                obtain ⟨Ao52, co52, eo52⟩ := Kd.R_slice HO_3.out
                (first | subst eo52 | (injection eo52 with f1_ f2_ f3_; have f4_ := f1_.symm; have f5_ := f3_.symm; clear f1_ f2_ f3_; subst f4_; subst f5_))
                refine start_ (n := 10) (S := fun w' => w'.cell? ⟨gb161, 0, none⟩ = some (.string ((rd_T101 l0 x13_1).f0.f0)) ∧ w'.cell? ⟨gb161, 1, none⟩ = some (.string ((rd_T101 l0 x13_1).f0.f1)) ∧ w'.cell? ⟨gb161, 2, none⟩ = some (.int .i64 ((rd_T101 l0 x13_1).f0.f2)) ∧ w'.cell? ⟨gb161, 3, none⟩ = some (.string ((rd_T101 l0 x13_1).f0.f3)) ∧ w'.cell? ⟨gb161, 4, none⟩ = some (.int .i64 ((rd_T101 l0 x13_1).f1.f0)) ∧ w'.cell? ⟨gb161, 5, none⟩ = some (.bool false) ∧ w'.cell? ⟨gb161, 6, none⟩ = some (.int .i64 ((rd_T101 l0 x13_1).f1.f2)) ∧ w'.cell? ⟨gb161, 7, none⟩ = some (.int .i64 ((rd_T101 l0 x13_1).f1.f3.f0)) ∧ w'.cell? ⟨gb161, 8, none⟩ = some (.int .i64 ((rd_T101 l0 x13_1).f1.f3.f1)) ∧ w'.cell? ⟨gb161, 9, none⟩ = some (.string ((rd_T101 l0 x13_1).f1.f3.f2))) (ds := []) #[false, false, false, false, false, false, false, false, false, false] (by kernel_rfl) rfl rfl ⟨(blk_cell BK161.out 0).trans rfl, (blk_cell BK161.out 1).trans rfl, (blk_cell BK161.out 2).trans rfl, (blk_cell BK161.out 3).trans rfl, (blk_cell BK161.out 4).trans rfl, (blk_cell BK161.out 5).trans rfl, (blk_cell BK161.out 6).trans rfl, (blk_cell BK161.out 7).trans rfl, (blk_cell BK161.out 8).trans rfl, (blk_cell BK161.out 9).trans rfl⟩ (fun hHeld => ?_); refine with_tabW skerryref01_Cells.tab5 skerryref01_Cells.bits5 (fun HT_ HW_ => ?_)
                generalize w50.drew = w51 at HO_3 BK161 HB hHeld ⊢
                refine pure_ (i := 0) (N := some 17) (v := ?_) (a' := ?_) #[true, false, false, false, false, false, false, false, false, false] rfl rfl (any_of HT_.out (by kernel_rfl)) (fun _ _ _ h => h) (Or.inl ⟨by rfl, ?_⟩) ?_ ?_
                rotate_left
                · intro w'
                  go_simp
                  with_reducible rfl
                rotate_left
                · simp only [Act.put, List.setIfInBounds_toArray, List.set_cons_zero, List.set_cons_succ, i64_w, i32_w]
                  rfl
                refine pure_ (i := 1) (N := some 18) (v := ?_) (a' := ?_) #[true, true, false, false, false, false, false, false, false, false] rfl rfl (any_of HT_.out (by kernel_rfl)) (fun _ _ _ h => h) (Or.inl ⟨by rfl, ?_⟩) ?_ ?_
                rotate_left
                · intro w'
                  go_simp
                  with_reducible rfl
                rotate_left
                · simp only [Act.put, List.setIfInBounds_toArray, List.set_cons_zero, List.set_cons_succ, i64_w, i32_w]
                  rfl
                refine pure_ (i := 2) (N := some 19) (v := ?_) (a' := ?_) #[true, true, true, false, false, false, false, false, false, false] rfl rfl (any_of HT_.out (by kernel_rfl)) (fun _ _ _ h => h) (Or.inl ⟨by rfl, ?_⟩) ?_ ?_
                rotate_left
                · intro w'
                  go_simp
                  with_reducible rfl
                rotate_left
                · simp only [Act.put, List.setIfInBounds_toArray, List.set_cons_zero, List.set_cons_succ, i64_w, i32_w]
                  rfl
                refine pure_ (i := 5) (N := some 22) (v := ?_) (a' := ?_) #[true, true, true, false, false, true, false, false, false, false] rfl rfl (any_of HT_.out (by kernel_rfl)) (fun _ _ _ h => h) (Or.inl ⟨by rfl, ?_⟩) ?_ ?_
                rotate_left
                · intro w'
                  go_simp
                  with_reducible rfl
                rotate_left
                · simp only [Act.put, List.setIfInBounds_toArray, List.set_cons_zero, List.set_cons_succ, i64_w, i32_w]
                  rfl
                refine pure_ (i := 6) (N := some 23) (v := ?_) (a' := ?_) #[true, true, true, false, false, true, true, false, false, false] rfl rfl (any_of HT_.out (by kernel_rfl)) (fun _ _ _ h => h) (Or.inl ⟨by rfl, ?_⟩) ?_ ?_
                rotate_left
                · intro w'
                  go_simp
                  with_reducible rfl
                rotate_left
                · simp only [Act.put, List.setIfInBounds_toArray, List.set_cons_zero, List.set_cons_succ, i64_w, i32_w]
                  rfl
                refine take_ (i := 3) (N := some 20) (v := ?_) (a' := ?_) #[true, true, true, true, false, true, true, false, false, false] rfl rfl (take_ofW HT_.out HW_.out (by kernel_rfl)) (fun _ _ _ h => h) (Or.inl ⟨by rfl, ?_⟩) hHeld ?_ ?_
                rotate_left
                · rintro w' ⟨s0, s1, s2, s3, s4, s5, s6, s7, s8, s9⟩
                  go_simp
                  with_reducible rfl
                rotate_left
                · simp only [Act.put, List.setIfInBounds_toArray, List.set_cons_zero, List.set_cons_succ, i64_w, i32_w]
                  rfl
                refine take_ (i := 7) (N := some 24) (v := ?_) (a' := ?_) #[true, true, true, true, false, true, true, true, false, false] rfl rfl (take_ofW HT_.out HW_.out (by kernel_rfl)) (fun _ _ _ h => h) (Or.inl ⟨by rfl, ?_⟩) hHeld ?_ ?_
                rotate_left
                · rintro w' ⟨s0, s1, s2, s3, s4, s5, s6, s7, s8, s9⟩
                  go_simp
                  with_reducible rfl
                rotate_left
                · simp only [Act.put, List.setIfInBounds_toArray, List.set_cons_zero, List.set_cons_succ, i64_w, i32_w]
                  rfl
                refine one_ (i := 4) (N := some 21) #[true, true, true, true, true, true, true, true, false, false] rfl rfl (one_of HT_.out (by kernel_rfl)) (by decide) (fun K hK => ?_)
                refine goes_ Try.func36 (by kernel_rfl) rfl #[.slice Ao52 x3_1.length co52, .string ((rd_T101 l0 x13_1).f0.f0)] (by rfl) rfl rfl (by (try simp only [List.map_toArray, List.map_cons, List.map_nil]); first | done | rfl | (simp only [List.length_drop, List.length_take]; rfl)) ?_
                with_reducible refine (skerryref01_PutText.calls k1 _ _ x3_1 ((rd_T101 l0 x13_1).f0.f0) t162 _ ?side1 ?side2 A7.out).mono ?_
                (case side1 => repeat (first | exact (Kd.R_reads' HO_3.out).2.2 | (with_reducible refine Kd.C_alloc ?_ _) | (with_reducible refine Kd.C_drewN ?_ _) | (with_reducible refine Kd.C_drew ?_)))
                (case side2 => exact (Kd.R_reads' HO_3.out).2.1)
                rintro e w53 ⟨v163, rfl, ho0, hb⟩
                refine ⟨_, rfl, ?_⟩
                have n0_ := Aside0.mk (Kd.R_elder' (by (with_reducible repeat (first | apply Kd.R_alloc | apply Kd.R_drewN | apply Kd.R_drew)); exact HO_3.out) (Kd.R_base ho0) hb)
                have n1_ := Aside0.mk (Kd.R_lower (Kd.R_new' ho0 (Kd.R_lt (by (with_reducible repeat (first | apply Kd.R_alloc | apply Kd.R_drewN | apply Kd.R_drew)); exact HO_3.out))) (below_size (by repeat (first | (with_reducible first | exact HB.out | apply below_alloc | apply pw_below_drewN | apply below_drew1 | refine below_set ?_ GE161.out) | exact HB.out))))
                have n2_ := Aside0.mk (blk_below (g := gb161) (o := .cells #[.string ((rd_T101 l0 x13_1).f0.f0), .string ((rd_T101 l0 x13_1).f0.f1), .int .i64 ((rd_T101 l0 x13_1).f0.f2), .string ((rd_T101 l0 x13_1).f0.f3), .int .i64 ((rd_T101 l0 x13_1).f1.f0), .bool false, .int .i64 ((rd_T101 l0 x13_1).f1.f2), .int .i64 ((rd_T101 l0 x13_1).f1.f3.f0), .int .i64 ((rd_T101 l0 x13_1).f1.f3.f1), .string ((rd_T101 l0 x13_1).f1.f3.f2)] 101 (0, 0)) (by (with_reducible repeat (first | refine blk_drewN ?_ _ | refine blk_drew ?_ | refine blk_alloc ?_ _)); exact BK161.out) hb)
                have n3_ := Aside0.mk (below_step (by repeat (first | (with_reducible first | exact HB.out | apply below_alloc | apply pw_below_drewN | apply below_drew1 | refine below_set ?_ GE161.out) | exact HB.out)) hb)
                clear HO_3
                clear BK161
                clear HB
                have HO_3 := n0_
                have HO164 := n1_
                have BK161 := n2_
                have HB := n3_
                clear n0_ n1_ n2_ n3_
                (try clear hb)
                (try clear hb2)
                (try clear hk)
                (try clear hi)
                (try clear ho0)
                obtain ⟨Ao54, co54, eo54⟩ := Kd.R_slice HO164.out
                (first | subst eo54 | (injection eo54 with f1_ f2_ f3_; have f4_ := f1_.symm; have f5_ := f3_.symm; clear f1_ f2_ f3_; subst f4_; subst f5_))
                refine hK.out _ _ ⟨(blk_cell BK161.out 0).trans rfl, (blk_cell BK161.out 1).trans rfl, (blk_cell BK161.out 2).trans rfl, (blk_cell BK161.out 3).trans rfl, (blk_cell BK161.out 4).trans rfl, (blk_cell BK161.out 5).trans rfl, (blk_cell BK161.out 6).trans rfl, (blk_cell BK161.out 7).trans rfl, (blk_cell BK161.out 8).trans rfl, (blk_cell BK161.out 9).trans rfl⟩ (fun hHeld => ?_)
                clear hK K
                refine norm_ (a' := ?_) ?_ ?_
                rotate_left
                · show Act.put _ (some 21) _ = _
                  simp only [Act.put, List.setIfInBounds_toArray, List.set_cons_zero, List.set_cons_succ, i64_w, i32_w]
                  rfl
                refine one_ (i := 8) (N := some 25) #[true, true, true, true, true, true, true, true, true, false] rfl rfl (one_of HT_.out (by kernel_rfl)) (by decide) (fun K hK => ?_)
                refine goes_ Try.func36 (by kernel_rfl) rfl #[.slice Ao54 t162.length co54, .string ((rd_T101 l0 x13_1).f0.f1)] (by rfl) rfl rfl (by (try simp only [List.map_toArray, List.map_cons, List.map_nil]); first | done | rfl | (simp only [List.length_drop, List.length_take]; rfl)) ?_
                with_reducible refine (skerryref01_PutText.calls k1 _ _ t162 ((rd_T101 l0 x13_1).f0.f1) t165 _ ?side1 ?side2 A8.out).mono ?_
                (case side1 => repeat (first | exact (Kd.R_reads' HO164.out).2.2 | (with_reducible refine Kd.C_alloc ?_ _) | (with_reducible refine Kd.C_drewN ?_ _) | (with_reducible refine Kd.C_drew ?_)))
                (case side2 => exact (Kd.R_reads' HO164.out).2.1)
                rintro e w55 ⟨v166, rfl, ho0, hb⟩
                refine ⟨_, rfl, ?_⟩
                have n0_ := Aside0.mk (Kd.R_elder' (by (with_reducible repeat (first | apply Kd.R_alloc | apply Kd.R_drewN | apply Kd.R_drew)); exact HO_3.out) (Kd.R_base ho0) hb)
                have n1_ := Aside0.mk (Kd.R_elder' (by (with_reducible repeat (first | apply Kd.R_alloc | apply Kd.R_drewN | apply Kd.R_drew)); exact HO164.out) (Kd.R_base ho0) hb)
                have n2_ := Aside0.mk (Kd.R_lower (Kd.R_new' (Kd.R_new' ho0 (Kd.R_lt (by (with_reducible repeat (first | apply Kd.R_alloc | apply Kd.R_drewN | apply Kd.R_drew)); exact HO_3.out))) (Kd.R_lt (by (with_reducible repeat (first | apply Kd.R_alloc | apply Kd.R_drewN | apply Kd.R_drew)); exact HO164.out))) (below_size (by repeat (first | (with_reducible first | exact HB.out | apply below_alloc | apply pw_below_drewN | apply below_drew1 | refine below_set ?_ GE161.out) | exact HB.out))))
                have n3_ := Aside0.mk (blk_below (g := gb161) (o := .cells #[.string ((rd_T101 l0 x13_1).f0.f0), .string ((rd_T101 l0 x13_1).f0.f1), .int .i64 ((rd_T101 l0 x13_1).f0.f2), .string ((rd_T101 l0 x13_1).f0.f3), .int .i64 ((rd_T101 l0 x13_1).f1.f0), .bool false, .int .i64 ((rd_T101 l0 x13_1).f1.f2), .int .i64 ((rd_T101 l0 x13_1).f1.f3.f0), .int .i64 ((rd_T101 l0 x13_1).f1.f3.f1), .string ((rd_T101 l0 x13_1).f1.f3.f2)] 101 (0, 0)) (by (with_reducible repeat (first | refine blk_drewN ?_ _ | refine blk_drew ?_ | refine blk_alloc ?_ _)); exact BK161.out) hb)
                have n4_ := Aside0.mk (below_step (by repeat (first | (with_reducible first | exact HB.out | apply below_alloc | apply pw_below_drewN | apply below_drew1 | refine below_set ?_ GE161.out) | exact HB.out)) hb)
                clear HO_3
                clear HO164
                clear BK161
                clear HB
                have HO_3 := n0_
                have HO164 := n1_
                have HO167 := n2_
                have BK161 := n3_
                have HB := n4_
                clear n0_ n1_ n2_ n3_ n4_
                (try clear hb)
                (try clear hb2)
                (try clear hk)
                (try clear hi)
                (try clear ho0)
                refine hK.out _ _ ⟨(blk_cell BK161.out 0).trans rfl, (blk_cell BK161.out 1).trans rfl, (blk_cell BK161.out 2).trans rfl, (blk_cell BK161.out 3).trans rfl, (blk_cell BK161.out 4).trans rfl, (blk_cell BK161.out 5).trans rfl, (blk_cell BK161.out 6).trans rfl, (blk_cell BK161.out 7).trans rfl, (blk_cell BK161.out 8).trans rfl, (blk_cell BK161.out 9).trans rfl⟩ (fun hHeld => ?_)
                clear hK K
                refine norm_ (a' := ?_) ?_ ?_
                rotate_left
                · show Act.put _ (some 25) _ = _
                  simp only [Act.put, List.setIfInBounds_toArray, List.set_cons_zero, List.set_cons_succ, i64_w, i32_w]
                  rfl
                refine pure_ (i := 9) (N := some 3) (v := ?_) (a' := ?_) #[true, true, true, true, true, true, true, true, true, true] rfl rfl (any_of HT_.out (by kernel_rfl)) (fun _ _ _ h => h) (Or.inl ⟨by rfl, ?_⟩) ?_ ?_
                rotate_left
                · intro w'
                  go_simp
                  with_reducible rfl
                rotate_left
                · simp only [Act.put, List.setIfInBounds_toArray, List.set_cons_zero, List.set_cons_succ, i64_w, i32_w]
                  rfl
                refine done_ (done_of HT_.out (by kernel_rfl)) ?_
                try go_wp2
                have n0_ := Aside0.mk (Kd.R_drew HO_3.out)
                have n1_ := Aside0.mk (Kd.R_drew HO164.out)
                have n2_ := Aside0.mk (Kd.R_drew HO167.out)
                have n3_ := Aside0.mk (blk_drew BK161.out)
                have n4_ := Aside0.mk (below_drew1 HB.out)
                clear HO_3
                clear HO164
                clear HO167
                clear BK161
                clear HB
                have HO_3 := n0_
                have HO164 := n1_
                have HO167 := n2_
                have BK161 := n3_
                have HB := n4_
                clear n0_ n1_ n2_ n3_ n4_
                refine start_ (n := 11) (S := fun w' => w'.cell? ⟨gb161, 0, none⟩ = some (.string ((rd_T101 l0 x13_1).f0.f0)) ∧ w'.cell? ⟨gb161, 1, none⟩ = some (.string ((rd_T101 l0 x13_1).f0.f1)) ∧ w'.cell? ⟨gb161, 2, none⟩ = some (.int .i64 ((rd_T101 l0 x13_1).f0.f2)) ∧ w'.cell? ⟨gb161, 3, none⟩ = some (.string ((rd_T101 l0 x13_1).f0.f3)) ∧ w'.cell? ⟨gb161, 4, none⟩ = some (.int .i64 ((rd_T101 l0 x13_1).f1.f0)) ∧ w'.cell? ⟨gb161, 5, none⟩ = some (.bool false) ∧ w'.cell? ⟨gb161, 6, none⟩ = some (.int .i64 ((rd_T101 l0 x13_1).f1.f2)) ∧ w'.cell? ⟨gb161, 7, none⟩ = some (.int .i64 ((rd_T101 l0 x13_1).f1.f3.f0)) ∧ w'.cell? ⟨gb161, 8, none⟩ = some (.int .i64 ((rd_T101 l0 x13_1).f1.f3.f1)) ∧ w'.cell? ⟨gb161, 9, none⟩ = some (.string ((rd_T101 l0 x13_1).f1.f3.f2))) (ds := []) #[false, false, false, false, false, false, false, false, false, false, false] (by kernel_rfl) rfl rfl ⟨(blk_cell BK161.out 0).trans rfl, (blk_cell BK161.out 1).trans rfl, (blk_cell BK161.out 2).trans rfl, (blk_cell BK161.out 3).trans rfl, (blk_cell BK161.out 4).trans rfl, (blk_cell BK161.out 5).trans rfl, (blk_cell BK161.out 6).trans rfl, (blk_cell BK161.out 7).trans rfl, (blk_cell BK161.out 8).trans rfl, (blk_cell BK161.out 9).trans rfl⟩ (fun hHeld => ?_); refine with_tabW skerryref01_Cells.tab6 skerryref01_Cells.bits6 (fun HT_ HW_ => ?_)
                generalize w55.drew = w56 at HO_3 HO164 HO167 BK161 HB hHeld ⊢
                refine pure_ (i := 0) (N := some 26) (v := ?_) (a' := ?_) #[true, false, false, false, false, false, false, false, false, false, false] rfl rfl (any_of HT_.out (by kernel_rfl)) (fun _ _ _ h => h) (Or.inl ⟨by rfl, ?_⟩) ?_ ?_
                rotate_left
                · intro w'
                  go_simp
                  with_reducible rfl
                rotate_left
                · simp only [Act.put, List.setIfInBounds_toArray, List.set_cons_zero, List.set_cons_succ, i64_w, i32_w]
                  rfl
                refine pure_ (i := 1) (N := some 27) (v := ?_) (a' := ?_) #[true, true, false, false, false, false, false, false, false, false, false] rfl rfl (any_of HT_.out (by kernel_rfl)) (fun _ _ _ h => h) (Or.inl ⟨by rfl, ?_⟩) ?_ ?_
                rotate_left
                · intro w'
                  go_simp
                  with_reducible rfl
                rotate_left
                · simp only [Act.put, List.setIfInBounds_toArray, List.set_cons_zero, List.set_cons_succ, i64_w, i32_w]
                  rfl
                refine pure_ (i := 2) (N := some 28) (v := ?_) (a' := ?_) #[true, true, true, false, false, false, false, false, false, false, false] rfl rfl (any_of HT_.out (by kernel_rfl)) (fun _ _ _ h => h) (Or.inl ⟨by rfl, ?_⟩) ?_ ?_
                rotate_left
                · intro w'
                  go_simp
                  with_reducible rfl
                rotate_left
                · simp only [Act.put, List.setIfInBounds_toArray, List.set_cons_zero, List.set_cons_succ, i64_w, i32_w]
                  rfl
                refine pure_ (i := 6) (N := some 32) (v := ?_) (a' := ?_) #[true, true, true, false, false, false, true, false, false, false, false] rfl rfl (any_of HT_.out (by kernel_rfl)) (fun _ _ _ h => h) (Or.inl ⟨by rfl, ?_⟩) ?_ ?_
                rotate_left
                · intro w'
                  go_simp
                  with_reducible rfl
                rotate_left
                · simp only [Act.put, List.setIfInBounds_toArray, List.set_cons_zero, List.set_cons_succ, i64_w, i32_w]
                  rfl
                refine pure_ (i := 7) (N := some 33) (v := ?_) (a' := ?_) #[true, true, true, false, false, false, true, true, false, false, false] rfl rfl (any_of HT_.out (by kernel_rfl)) (fun _ _ _ h => h) (Or.inl ⟨by rfl, ?_⟩) ?_ ?_
                rotate_left
                · intro w'
                  go_simp
                  with_reducible rfl
                rotate_left
                · simp only [Act.put, List.setIfInBounds_toArray, List.set_cons_zero, List.set_cons_succ, i64_w, i32_w]
                  rfl
                refine take_ (i := 3) (N := some 29) (v := ?_) (a' := ?_) #[true, true, true, true, false, false, true, true, false, false, false] rfl rfl (take_ofW HT_.out HW_.out (by kernel_rfl)) (fun _ _ _ h => h) (Or.inl ⟨by rfl, ?_⟩) hHeld ?_ ?_
                rotate_left
                · rintro w' ⟨s0, s1, s2, s3, s4, s5, s6, s7, s8, s9⟩
                  go_simp
                  with_reducible rfl
                rotate_left
                · simp only [Act.put, List.setIfInBounds_toArray, List.set_cons_zero, List.set_cons_succ, i64_w, i32_w]
                  rfl
                refine take_ (i := 8) (N := some 34) (v := ?_) (a' := ?_) #[true, true, true, true, false, false, true, true, true, false, false] rfl rfl (take_ofW HT_.out HW_.out (by kernel_rfl)) (fun _ _ _ h => h) (Or.inl ⟨by rfl, ?_⟩) hHeld ?_ ?_
                rotate_left
                · rintro w' ⟨s0, s1, s2, s3, s4, s5, s6, s7, s8, s9⟩
                  go_simp
                  with_reducible rfl
                rotate_left
                · simp only [Act.put, List.setIfInBounds_toArray, List.set_cons_zero, List.set_cons_succ, i64_w, i32_w]
                  rfl
                refine one_ (i := 4) (N := some 30) #[true, true, true, true, true, false, true, true, true, false, false] rfl rfl (one_of HT_.out (by kernel_rfl)) (by decide) (fun K hK => ?_)
                refine goes_ Try.func30 (by kernel_rfl) rfl #[.int .i64 ((rd_T101 l0 x13_1).f0.f2)] (by rfl) rfl rfl (by (try simp only [List.map_toArray, List.map_cons, List.map_nil]); first | done | rfl | (simp only [List.length_drop, List.length_take]; rfl)) ?_
                with_reducible refine (skerryref01_Zig.calls ((rd_T101 l0 x13_1).f0.f2) t168 _ A9.out).mono ?_
                rintro e w' ⟨rfl, ⟨nd, rfl⟩⟩
                refine ⟨_, rfl, ?_⟩
                obtain ⟨Ao57, co57, eo57⟩ := Kd.R_slice HO167.out
                (first | subst eo57 | (injection eo57 with f1_ f2_ f3_; have f4_ := f1_.symm; have f5_ := f3_.symm; clear f1_ f2_ f3_; subst f4_; subst f5_))
                refine hK.out _ _ ⟨(blk_cell BK161.out 0).trans rfl, (blk_cell BK161.out 1).trans rfl, (blk_cell BK161.out 2).trans rfl, (blk_cell BK161.out 3).trans rfl, (blk_cell BK161.out 4).trans rfl, (blk_cell BK161.out 5).trans rfl, (blk_cell BK161.out 6).trans rfl, (blk_cell BK161.out 7).trans rfl, (blk_cell BK161.out 8).trans rfl, (blk_cell BK161.out 9).trans rfl⟩ (fun hHeld => ?_)
                clear hK K
                refine norm_ (a' := ?_) ?_ ?_
                rotate_left
                · show Act.put _ (some 30) _ = _
                  simp only [Act.put, List.setIfInBounds_toArray, List.set_cons_zero, List.set_cons_succ, i64_w, i32_w]
                  rfl
                refine one_ (i := 5) (N := some 31) #[true, true, true, true, true, true, true, true, true, false, false] rfl rfl (one_of HT_.out (by kernel_rfl)) (by decide) (fun K hK => ?_)
                refine goes_ Try.func29 (by kernel_rfl) rfl #[.slice Ao57 t165.length co57, .int .u64 t168] (by rfl) rfl rfl (by (try simp only [List.map_toArray, List.map_cons, List.map_nil]); first | done | rfl | (simp only [List.length_drop, List.length_take]; rfl)) ?_
                with_reducible refine (skerryref01_Put.calls k1 _ _ t165 t168 t169 _ ?side1 ?side2 A10.out).mono ?_
                (case side1 => repeat (first | exact (Kd.R_reads' HO167.out).2.2 | (with_reducible refine Kd.C_alloc ?_ _) | (with_reducible refine Kd.C_drewN ?_ _) | (with_reducible refine Kd.C_drew ?_)))
                (case side2 => exact (Kd.R_reads' HO167.out).2.1)
                rintro e w58 ⟨v170, rfl, ho0, hb⟩
                refine ⟨_, rfl, ?_⟩
                have n0_ := Aside0.mk (Kd.R_elder' (by (with_reducible repeat (first | apply Kd.R_alloc | apply Kd.R_drewN | apply Kd.R_drew)); exact HO_3.out) (Kd.R_base ho0) hb)
                have n1_ := Aside0.mk (Kd.R_elder' (by (with_reducible repeat (first | apply Kd.R_alloc | apply Kd.R_drewN | apply Kd.R_drew)); exact HO164.out) (Kd.R_base ho0) hb)
                have n2_ := Aside0.mk (Kd.R_elder' (by (with_reducible repeat (first | apply Kd.R_alloc | apply Kd.R_drewN | apply Kd.R_drew)); exact HO167.out) (Kd.R_base ho0) hb)
                have n3_ := Aside0.mk (Kd.R_lower (Kd.R_new' (Kd.R_new' (Kd.R_new' ho0 (Kd.R_lt (by (with_reducible repeat (first | apply Kd.R_alloc | apply Kd.R_drewN | apply Kd.R_drew)); exact HO_3.out))) (Kd.R_lt (by (with_reducible repeat (first | apply Kd.R_alloc | apply Kd.R_drewN | apply Kd.R_drew)); exact HO164.out))) (Kd.R_lt (by (with_reducible repeat (first | apply Kd.R_alloc | apply Kd.R_drewN | apply Kd.R_drew)); exact HO167.out))) (below_size (by repeat (first | (with_reducible first | exact HB.out | apply below_alloc | apply pw_below_drewN | apply below_drew1 | refine below_set ?_ GE161.out) | exact HB.out))))
                have n4_ := Aside0.mk (blk_below (g := gb161) (o := .cells #[.string ((rd_T101 l0 x13_1).f0.f0), .string ((rd_T101 l0 x13_1).f0.f1), .int .i64 ((rd_T101 l0 x13_1).f0.f2), .string ((rd_T101 l0 x13_1).f0.f3), .int .i64 ((rd_T101 l0 x13_1).f1.f0), .bool false, .int .i64 ((rd_T101 l0 x13_1).f1.f2), .int .i64 ((rd_T101 l0 x13_1).f1.f3.f0), .int .i64 ((rd_T101 l0 x13_1).f1.f3.f1), .string ((rd_T101 l0 x13_1).f1.f3.f2)] 101 (0, 0)) (by (with_reducible repeat (first | refine blk_drewN ?_ _ | refine blk_drew ?_ | refine blk_alloc ?_ _)); exact BK161.out) hb)
                have n5_ := Aside0.mk (below_step (by repeat (first | (with_reducible first | exact HB.out | apply below_alloc | apply pw_below_drewN | apply below_drew1 | refine below_set ?_ GE161.out) | exact HB.out)) hb)
                clear HO_3
                clear HO164
                clear HO167
                clear BK161
                clear HB
                have HO_3 := n0_
                have HO164 := n1_
                have HO167 := n2_
                have HO171 := n3_
                have BK161 := n4_
                have HB := n5_
                clear n0_ n1_ n2_ n3_ n4_ n5_
                (try clear hb)
                (try clear hb2)
                (try clear hk)
                (try clear hi)
                (try clear ho0)
                obtain ⟨Ao59, co59, eo59⟩ := Kd.R_slice HO171.out
                (first | subst eo59 | (injection eo59 with f1_ f2_ f3_; have f4_ := f1_.symm; have f5_ := f3_.symm; clear f1_ f2_ f3_; subst f4_; subst f5_))
                refine hK.out _ _ ⟨(blk_cell BK161.out 0).trans rfl, (blk_cell BK161.out 1).trans rfl, (blk_cell BK161.out 2).trans rfl, (blk_cell BK161.out 3).trans rfl, (blk_cell BK161.out 4).trans rfl, (blk_cell BK161.out 5).trans rfl, (blk_cell BK161.out 6).trans rfl, (blk_cell BK161.out 7).trans rfl, (blk_cell BK161.out 8).trans rfl, (blk_cell BK161.out 9).trans rfl⟩ (fun hHeld => ?_)
                clear hK K
                refine norm_ (a' := ?_) ?_ ?_
                rotate_left
                · show Act.put _ (some 31) _ = _
                  simp only [Act.put, List.setIfInBounds_toArray, List.set_cons_zero, List.set_cons_succ, i64_w, i32_w]
                  rfl
                refine one_ (i := 9) (N := some 35) #[true, true, true, true, true, true, true, true, true, true, false] rfl rfl (one_of HT_.out (by kernel_rfl)) (by decide) (fun K hK => ?_)
                refine goes_ Try.func36 (by kernel_rfl) rfl #[.slice Ao59 t169.length co59, .string ((rd_T101 l0 x13_1).f0.f3)] (by rfl) rfl rfl (by (try simp only [List.map_toArray, List.map_cons, List.map_nil]); first | done | rfl | (simp only [List.length_drop, List.length_take]; rfl)) ?_
                with_reducible refine (skerryref01_PutText.calls k1 _ _ t169 ((rd_T101 l0 x13_1).f0.f3) t172 _ ?side1 ?side2 A11.out).mono ?_
                (case side1 => repeat (first | exact (Kd.R_reads' HO171.out).2.2 | (with_reducible refine Kd.C_alloc ?_ _) | (with_reducible refine Kd.C_drewN ?_ _) | (with_reducible refine Kd.C_drew ?_)))
                (case side2 => exact (Kd.R_reads' HO171.out).2.1)
                rintro e w60 ⟨v173, rfl, ho0, hb⟩
                refine ⟨_, rfl, ?_⟩
                have n0_ := Aside0.mk (Kd.R_elder' (by (with_reducible repeat (first | apply Kd.R_alloc | apply Kd.R_drewN | apply Kd.R_drew)); exact HO_3.out) (Kd.R_base ho0) hb)
                have n1_ := Aside0.mk (Kd.R_elder' (by (with_reducible repeat (first | apply Kd.R_alloc | apply Kd.R_drewN | apply Kd.R_drew)); exact HO164.out) (Kd.R_base ho0) hb)
                have n2_ := Aside0.mk (Kd.R_elder' (by (with_reducible repeat (first | apply Kd.R_alloc | apply Kd.R_drewN | apply Kd.R_drew)); exact HO167.out) (Kd.R_base ho0) hb)
                have n3_ := Aside0.mk (Kd.R_elder' (by (with_reducible repeat (first | apply Kd.R_alloc | apply Kd.R_drewN | apply Kd.R_drew)); exact HO171.out) (Kd.R_base ho0) hb)
                have n4_ := Aside0.mk (Kd.R_lower (Kd.R_new' (Kd.R_new' (Kd.R_new' (Kd.R_new' ho0 (Kd.R_lt (by (with_reducible repeat (first | apply Kd.R_alloc | apply Kd.R_drewN | apply Kd.R_drew)); exact HO_3.out))) (Kd.R_lt (by (with_reducible repeat (first | apply Kd.R_alloc | apply Kd.R_drewN | apply Kd.R_drew)); exact HO164.out))) (Kd.R_lt (by (with_reducible repeat (first | apply Kd.R_alloc | apply Kd.R_drewN | apply Kd.R_drew)); exact HO167.out))) (Kd.R_lt (by (with_reducible repeat (first | apply Kd.R_alloc | apply Kd.R_drewN | apply Kd.R_drew)); exact HO171.out))) (below_size (by repeat (first | (with_reducible first | exact HB.out | apply below_alloc | apply pw_below_drewN | apply below_drew1 | refine below_set ?_ GE161.out) | exact HB.out))))
                have n5_ := Aside0.mk (blk_below (g := gb161) (o := .cells #[.string ((rd_T101 l0 x13_1).f0.f0), .string ((rd_T101 l0 x13_1).f0.f1), .int .i64 ((rd_T101 l0 x13_1).f0.f2), .string ((rd_T101 l0 x13_1).f0.f3), .int .i64 ((rd_T101 l0 x13_1).f1.f0), .bool false, .int .i64 ((rd_T101 l0 x13_1).f1.f2), .int .i64 ((rd_T101 l0 x13_1).f1.f3.f0), .int .i64 ((rd_T101 l0 x13_1).f1.f3.f1), .string ((rd_T101 l0 x13_1).f1.f3.f2)] 101 (0, 0)) (by (with_reducible repeat (first | refine blk_drewN ?_ _ | refine blk_drew ?_ | refine blk_alloc ?_ _)); exact BK161.out) hb)
                have n6_ := Aside0.mk (below_step (by repeat (first | (with_reducible first | exact HB.out | apply below_alloc | apply pw_below_drewN | apply below_drew1 | refine below_set ?_ GE161.out) | exact HB.out)) hb)
                clear HO_3
                clear HO164
                clear HO167
                clear HO171
                clear BK161
                clear HB
                have HO_3 := n0_
                have HO164 := n1_
                have HO167 := n2_
                have HO171 := n3_
                have HO174 := n4_
                have BK161 := n5_
                have HB := n6_
                clear n0_ n1_ n2_ n3_ n4_ n5_ n6_
                (try clear hb)
                (try clear hb2)
                (try clear hk)
                (try clear hi)
                (try clear ho0)
                refine hK.out _ _ ⟨(blk_cell BK161.out 0).trans rfl, (blk_cell BK161.out 1).trans rfl, (blk_cell BK161.out 2).trans rfl, (blk_cell BK161.out 3).trans rfl, (blk_cell BK161.out 4).trans rfl, (blk_cell BK161.out 5).trans rfl, (blk_cell BK161.out 6).trans rfl, (blk_cell BK161.out 7).trans rfl, (blk_cell BK161.out 8).trans rfl, (blk_cell BK161.out 9).trans rfl⟩ (fun hHeld => ?_)
                clear hK K
                refine norm_ (a' := ?_) ?_ ?_
                rotate_left
                · show Act.put _ (some 35) _ = _
                  simp only [Act.put, List.setIfInBounds_toArray, List.set_cons_zero, List.set_cons_succ, i64_w, i32_w]
                  rfl
                refine pure_ (i := 10) (N := some 3) (v := ?_) (a' := ?_) #[true, true, true, true, true, true, true, true, true, true, true] rfl rfl (any_of HT_.out (by kernel_rfl)) (fun _ _ _ h => h) (Or.inl ⟨by rfl, ?_⟩) ?_ ?_
                rotate_left
                · intro w'
                  go_simp
                  with_reducible rfl
                rotate_left
                · simp only [Act.put, List.setIfInBounds_toArray, List.set_cons_zero, List.set_cons_succ, i64_w, i32_w]
                  rfl
                refine done_ (done_of HT_.out (by kernel_rfl)) ?_
                have hcz61_0 : w60.cell? ⟨gb161, 0, none⟩ = some (.string ((rd_T101 l0 x13_1).f0.f0)) := (blk_cell BK161.out 0).trans rfl
                have hcz61_1 : w60.cell? ⟨gb161, 1, none⟩ = some (.string ((rd_T101 l0 x13_1).f0.f1)) := (blk_cell BK161.out 1).trans rfl
                have hcz61_2 : w60.cell? ⟨gb161, 2, none⟩ = some (.int .i64 ((rd_T101 l0 x13_1).f0.f2)) := (blk_cell BK161.out 2).trans rfl
                have hcz61_3 : w60.cell? ⟨gb161, 3, none⟩ = some (.string ((rd_T101 l0 x13_1).f0.f3)) := (blk_cell BK161.out 3).trans rfl
                have hcz61_4 : w60.cell? ⟨gb161, 4, none⟩ = some (.int .i64 ((rd_T101 l0 x13_1).f1.f0)) := (blk_cell BK161.out 4).trans rfl
                have hcz61_5 : w60.cell? ⟨gb161, 5, none⟩ = some (.bool false) := (blk_cell BK161.out 5).trans rfl
                have hcz61_6 : w60.cell? ⟨gb161, 6, none⟩ = some (.int .i64 ((rd_T101 l0 x13_1).f1.f2)) := (blk_cell BK161.out 6).trans rfl
                have hcz61_7 : w60.cell? ⟨gb161, 7, none⟩ = some (.int .i64 ((rd_T101 l0 x13_1).f1.f3.f0)) := (blk_cell BK161.out 7).trans rfl
                have hcz61_8 : w60.cell? ⟨gb161, 8, none⟩ = some (.int .i64 ((rd_T101 l0 x13_1).f1.f3.f1)) := (blk_cell BK161.out 8).trans rfl
                have hcz61_9 : w60.cell? ⟨gb161, 9, none⟩ = some (.string ((rd_T101 l0 x13_1).f1.f3.f2)) := (blk_cell BK161.out 9).trans rfl
                have hfz61_0 := blk_frozen BK161.out 0
                have hfz61_1 := blk_frozen BK161.out 1
                have hfz61_2 := blk_frozen BK161.out 2
                have hfz61_3 := blk_frozen BK161.out 3
                have hfz61_4 := blk_frozen BK161.out 4
                have hfz61_5 := blk_frozen BK161.out 5
                have hfz61_6 := blk_frozen BK161.out 6
                have hfz61_7 := blk_frozen BK161.out 7
                have hfz61_8 := blk_frozen BK161.out 8
                have hfz61_9 := blk_frozen BK161.out 9
                try go_wp2_with (first | ((with_reducible refine gate_dst (N := 6) rfl ?_); refine box_event ?hg (N := 6) ?hd (cs := #[.int .i64 0, .bool false, .int .i64 0, .int .i64 0, .int .i64 0, .string (⟨#[]⟩ : ByteArray)]) (t := 99) ?hr ?_; (case hd => rfl); (case hg => rfl); (case hr => first | (go_simp; done) | (go_simp; rfl)); intro gb175 hg w62 hbox hb; have n0_ := Aside0.mk (Kd.R_below (by (with_reducible repeat (first | apply Kd.R_alloc | apply Kd.R_drewN | apply Kd.R_drew)); exact HO_3.out) hb); have n1_ := Aside0.mk (Kd.R_below (by (with_reducible repeat (first | apply Kd.R_alloc | apply Kd.R_drewN | apply Kd.R_drew)); exact HO164.out) hb); have n2_ := Aside0.mk (Kd.R_below (by (with_reducible repeat (first | apply Kd.R_alloc | apply Kd.R_drewN | apply Kd.R_drew)); exact HO167.out) hb); have n3_ := Aside0.mk (Kd.R_below (by (with_reducible repeat (first | apply Kd.R_alloc | apply Kd.R_drewN | apply Kd.R_drew)); exact HO171.out) hb); have n4_ := Aside0.mk (Kd.R_below (by (with_reducible repeat (first | apply Kd.R_alloc | apply Kd.R_drewN | apply Kd.R_drew)); exact HO174.out) hb); have n5_ := Aside0.mk (blk_below (g := gb161) (o := .cells #[.string ((rd_T101 l0 x13_1).f0.f0), .string ((rd_T101 l0 x13_1).f0.f1), .int .i64 ((rd_T101 l0 x13_1).f0.f2), .string ((rd_T101 l0 x13_1).f0.f3), .int .i64 ((rd_T101 l0 x13_1).f1.f0), .bool false, .int .i64 ((rd_T101 l0 x13_1).f1.f2), .int .i64 ((rd_T101 l0 x13_1).f1.f3.f0), .int .i64 ((rd_T101 l0 x13_1).f1.f3.f1), .string ((rd_T101 l0 x13_1).f1.f3.f2)] 101 (0, 0)) (by (with_reducible repeat (first | refine blk_drewN ?_ _ | refine blk_drew ?_ | refine blk_alloc ?_ _)); exact BK161.out) hb); have n6_ := Aside0.mk (below_step (by repeat (first | (with_reducible first | exact HB.out | apply below_alloc | apply pw_below_drewN | apply below_drew1 | refine below_set ?_ GE161.out) | exact HB.out)) hb); have n7_ := Aside0.mk (hbox); have n8_ := Aside0.mk ((by rw [hg]; exact (below_size (by repeat (first | (with_reducible first | exact HB.out | apply below_alloc | apply pw_below_drewN | apply below_drew1 | refine below_set ?_ GE161.out) | exact HB.out))) : w.heap.size ≤ gb175)); have n9_ := Aside0.mk ((by rw [hg]; exact (below_size (by repeat (first | (with_reducible first | exact HB.out | apply below_alloc | apply pw_below_drewN | apply below_drew1 | refine below_set ?_ GE161.out) | exact HB.out))) : w.heap.size ≤ gb175)); have n10_ := Aside0.mk ((by rw [hg]; exact Nat.ne_of_lt (blk_lt (g := gb161) (o := .cells #[.string ((rd_T101 l0 x13_1).f0.f0), .string ((rd_T101 l0 x13_1).f0.f1), .int .i64 ((rd_T101 l0 x13_1).f0.f2), .string ((rd_T101 l0 x13_1).f0.f3), .int .i64 ((rd_T101 l0 x13_1).f1.f0), .bool false, .int .i64 ((rd_T101 l0 x13_1).f1.f2), .int .i64 ((rd_T101 l0 x13_1).f1.f3.f0), .int .i64 ((rd_T101 l0 x13_1).f1.f3.f1), .string ((rd_T101 l0 x13_1).f1.f3.f2)] 101 (0, 0)) (by (with_reducible repeat (first | refine blk_drewN ?_ _ | refine blk_drew ?_ | refine blk_alloc ?_ _)); exact BK161.out)) : gb161 ≠ gb175)); have n11_ := Aside0.mk ((by rw [hg]; exact Nat.ne_of_gt (blk_lt (g := gb161) (o := .cells #[.string ((rd_T101 l0 x13_1).f0.f0), .string ((rd_T101 l0 x13_1).f0.f1), .int .i64 ((rd_T101 l0 x13_1).f0.f2), .string ((rd_T101 l0 x13_1).f0.f3), .int .i64 ((rd_T101 l0 x13_1).f1.f0), .bool false, .int .i64 ((rd_T101 l0 x13_1).f1.f2), .int .i64 ((rd_T101 l0 x13_1).f1.f3.f0), .int .i64 ((rd_T101 l0 x13_1).f1.f3.f1), .string ((rd_T101 l0 x13_1).f1.f3.f2)] 101 (0, 0)) (by (with_reducible repeat (first | refine blk_drewN ?_ _ | refine blk_drew ?_ | refine blk_alloc ?_ _)); exact BK161.out)) : gb175 ≠ gb161)); clear HO_3; clear HO164; clear HO167; clear HO171; clear HO174; clear BK161; clear HB; have HO_3 := n0_; have HO164 := n1_; have HO167 := n2_; have HO171 := n3_; have HO174 := n4_; have BK161 := n5_; have HB := n6_; have BK175 := n7_; have GW175 := n8_; have GE175 := n9_; have NB161_175 := n10_; have NB175_161 := n11_; clear n0_ n1_ n2_ n3_ n4_ n5_ n6_ n7_ n8_ n9_ n10_ n11_; clear hb hbox hg; have hnb63 := NB175_161.out; have hnc63 := NB161_175.out; have hcz64_0 : w62.cell? ⟨gb175, 0, none⟩ = some (.int .i64 0) := (blk_cell BK175.out 0).trans rfl; have hcz64_1 : w62.cell? ⟨gb175, 1, none⟩ = some (.bool false) := (blk_cell BK175.out 1).trans rfl; have hcz64_2 : w62.cell? ⟨gb175, 2, none⟩ = some (.int .i64 0) := (blk_cell BK175.out 2).trans rfl; have hcz64_3 : w62.cell? ⟨gb175, 3, none⟩ = some (.int .i64 0) := (blk_cell BK175.out 3).trans rfl; have hcz64_4 : w62.cell? ⟨gb175, 4, none⟩ = some (.int .i64 0) := (blk_cell BK175.out 4).trans rfl; have hcz64_5 : w62.cell? ⟨gb175, 5, none⟩ = some (.string (⟨#[]⟩ : ByteArray)) := (blk_cell BK175.out 5).trans rfl; have hfz64_0 := blk_frozen BK175.out 0; have hfz64_1 := blk_frozen BK175.out 1; have hfz64_2 := blk_frozen BK175.out 2; have hfz64_3 := blk_frozen BK175.out 3; have hfz64_4 := blk_frozen BK175.out 4; have hfz64_5 := blk_frozen BK175.out 5) | ((with_reducible refine gate_callee (f := 30) rfl ?_); refine goesL_ (some 41) rfl rfl Try.func30 (by kernel_rfl) rfl #[.int .i64 ((rd_T101 l0 x13_1).f1.f0)] rfl (by (try simp only [List.map_toArray, List.map_cons, List.map_nil]); first | done | rfl | (simp only [List.length_drop, List.length_take]; rfl)) ?_; (with_reducible refine (skerryref01_Zig.calls ((rd_T101 l0 x13_1).f1.f0) t176 _ A12.out).mono ?_); rintro e w' ⟨rfl, ⟨nd, rfl⟩⟩; refine ⟨_, rfl, ?_⟩; obtain ⟨Ao65, co65, eo65⟩ := Kd.R_slice HO174.out; subst eo65) | ((with_reducible refine gate_callee (f := 29) rfl ?_); refine goesL_ (some 42) rfl rfl Try.func29 (by kernel_rfl) rfl #[.slice Ao65 t172.length co65, .int .u64 t176] rfl (by (try simp only [List.map_toArray, List.map_cons, List.map_nil]); first | done | rfl | (simp only [List.length_drop, List.length_take]; rfl)) ?_; (with_reducible refine (skerryref01_Put.calls k1 _ _ t172 t176 t177 _ ?side1 ?side2 A13.out).mono ?_); (case side1 => refine (Kd.R_reads' (e := 5) (base := w.heap.size) (ok := fun k_ => ((((True ∧ some k_ ≠ (.slice Ao52 x3_1.length co52 : Value).ownBlock) ∧ some k_ ≠ (.slice Ao54 t162.length co54 : Value).ownBlock) ∧ some k_ ≠ (.slice Ao57 t165.length co57 : Value).ownBlock) ∧ some k_ ≠ (.slice Ao59 t169.length co59 : Value).ownBlock)) (n := t172.length) (c := co65) ?_).2.2; exact (by (with_reducible repeat (first | apply Kd.R_alloc | apply Kd.R_drewN | apply Kd.R_drew)); exact (Kd.R_mono (Kd.R_far (p := ⟨gb175, 5, none⟩) (Kd.R_far (p := ⟨gb175, 4, none⟩) (Kd.R_far (p := ⟨gb175, 3, none⟩) (Kd.R_far (p := ⟨gb175, 2, none⟩) (Kd.R_far (p := ⟨gb175, 1, none⟩) (Kd.R_far (p := ⟨gb175, 0, none⟩) (Kd.R_types HO174.out BK175.out (by decide)) (fun _ hk => hk.2) (.int .i64 ((rd_T101 l0 x13_1).f1.f0))) (fun _ hk => hk.2) (.bool false)) (fun _ hk => hk.2) (.int .i64 ((rd_T101 l0 x13_1).f1.f2))) (fun _ hk => hk.2) (.int .i64 ((rd_T101 l0 x13_1).f1.f3.f0))) (fun _ hk => hk.2) (.int .i64 ((rd_T101 l0 x13_1).f1.f3.f1))) (fun _ hk => hk.2) (.string ((rd_T101 l0 x13_1).f1.f3.f2))) (fun _ h_ => h_.1)))); (case side2 => exact (Kd.R_reads' HO174.out).2.1); rintro e w66 ⟨v178, rfl, ho0, hb⟩; refine ⟨_, rfl, ?_⟩; have n0_ := Aside0.mk (Kd.R_elder' (by (with_reducible repeat (first | apply Kd.R_alloc | apply Kd.R_drewN | apply Kd.R_drew)); exact (Kd.R_mono (Kd.R_far (p := ⟨gb175, 5, none⟩) (Kd.R_far (p := ⟨gb175, 4, none⟩) (Kd.R_far (p := ⟨gb175, 3, none⟩) (Kd.R_far (p := ⟨gb175, 2, none⟩) (Kd.R_far (p := ⟨gb175, 1, none⟩) (Kd.R_far (p := ⟨gb175, 0, none⟩) (Kd.R_types HO_3.out BK175.out (by decide)) (fun _ hk => hk.2) (.int .i64 ((rd_T101 l0 x13_1).f1.f0))) (fun _ hk => hk.2) (.bool false)) (fun _ hk => hk.2) (.int .i64 ((rd_T101 l0 x13_1).f1.f2))) (fun _ hk => hk.2) (.int .i64 ((rd_T101 l0 x13_1).f1.f3.f0))) (fun _ hk => hk.2) (.int .i64 ((rd_T101 l0 x13_1).f1.f3.f1))) (fun _ hk => hk.2) (.string ((rd_T101 l0 x13_1).f1.f3.f2))) (fun _ h_ => h_.1))) (Kd.R_base ho0) hb); have n1_ := Aside0.mk (Kd.R_elder' (by (with_reducible repeat (first | apply Kd.R_alloc | apply Kd.R_drewN | apply Kd.R_drew)); exact (Kd.R_mono (Kd.R_far (p := ⟨gb175, 5, none⟩) (Kd.R_far (p := ⟨gb175, 4, none⟩) (Kd.R_far (p := ⟨gb175, 3, none⟩) (Kd.R_far (p := ⟨gb175, 2, none⟩) (Kd.R_far (p := ⟨gb175, 1, none⟩) (Kd.R_far (p := ⟨gb175, 0, none⟩) (Kd.R_types HO164.out BK175.out (by decide)) (fun _ hk => hk.2) (.int .i64 ((rd_T101 l0 x13_1).f1.f0))) (fun _ hk => hk.2) (.bool false)) (fun _ hk => hk.2) (.int .i64 ((rd_T101 l0 x13_1).f1.f2))) (fun _ hk => hk.2) (.int .i64 ((rd_T101 l0 x13_1).f1.f3.f0))) (fun _ hk => hk.2) (.int .i64 ((rd_T101 l0 x13_1).f1.f3.f1))) (fun _ hk => hk.2) (.string ((rd_T101 l0 x13_1).f1.f3.f2))) (fun _ h_ => h_.1))) (Kd.R_base ho0) hb); have n2_ := Aside0.mk (Kd.R_elder' (by (with_reducible repeat (first | apply Kd.R_alloc | apply Kd.R_drewN | apply Kd.R_drew)); exact (Kd.R_mono (Kd.R_far (p := ⟨gb175, 5, none⟩) (Kd.R_far (p := ⟨gb175, 4, none⟩) (Kd.R_far (p := ⟨gb175, 3, none⟩) (Kd.R_far (p := ⟨gb175, 2, none⟩) (Kd.R_far (p := ⟨gb175, 1, none⟩) (Kd.R_far (p := ⟨gb175, 0, none⟩) (Kd.R_types HO167.out BK175.out (by decide)) (fun _ hk => hk.2) (.int .i64 ((rd_T101 l0 x13_1).f1.f0))) (fun _ hk => hk.2) (.bool false)) (fun _ hk => hk.2) (.int .i64 ((rd_T101 l0 x13_1).f1.f2))) (fun _ hk => hk.2) (.int .i64 ((rd_T101 l0 x13_1).f1.f3.f0))) (fun _ hk => hk.2) (.int .i64 ((rd_T101 l0 x13_1).f1.f3.f1))) (fun _ hk => hk.2) (.string ((rd_T101 l0 x13_1).f1.f3.f2))) (fun _ h_ => h_.1))) (Kd.R_base ho0) hb); have n3_ := Aside0.mk (Kd.R_elder' (by (with_reducible repeat (first | apply Kd.R_alloc | apply Kd.R_drewN | apply Kd.R_drew)); exact (Kd.R_mono (Kd.R_far (p := ⟨gb175, 5, none⟩) (Kd.R_far (p := ⟨gb175, 4, none⟩) (Kd.R_far (p := ⟨gb175, 3, none⟩) (Kd.R_far (p := ⟨gb175, 2, none⟩) (Kd.R_far (p := ⟨gb175, 1, none⟩) (Kd.R_far (p := ⟨gb175, 0, none⟩) (Kd.R_types HO171.out BK175.out (by decide)) (fun _ hk => hk.2) (.int .i64 ((rd_T101 l0 x13_1).f1.f0))) (fun _ hk => hk.2) (.bool false)) (fun _ hk => hk.2) (.int .i64 ((rd_T101 l0 x13_1).f1.f2))) (fun _ hk => hk.2) (.int .i64 ((rd_T101 l0 x13_1).f1.f3.f0))) (fun _ hk => hk.2) (.int .i64 ((rd_T101 l0 x13_1).f1.f3.f1))) (fun _ hk => hk.2) (.string ((rd_T101 l0 x13_1).f1.f3.f2))) (fun _ h_ => h_.1))) (Kd.R_base ho0) hb); have n4_ := Aside0.mk (Kd.R_elder' (by (with_reducible repeat (first | apply Kd.R_alloc | apply Kd.R_drewN | apply Kd.R_drew)); exact (Kd.R_mono (Kd.R_far (p := ⟨gb175, 5, none⟩) (Kd.R_far (p := ⟨gb175, 4, none⟩) (Kd.R_far (p := ⟨gb175, 3, none⟩) (Kd.R_far (p := ⟨gb175, 2, none⟩) (Kd.R_far (p := ⟨gb175, 1, none⟩) (Kd.R_far (p := ⟨gb175, 0, none⟩) (Kd.R_types HO174.out BK175.out (by decide)) (fun _ hk => hk.2) (.int .i64 ((rd_T101 l0 x13_1).f1.f0))) (fun _ hk => hk.2) (.bool false)) (fun _ hk => hk.2) (.int .i64 ((rd_T101 l0 x13_1).f1.f2))) (fun _ hk => hk.2) (.int .i64 ((rd_T101 l0 x13_1).f1.f3.f0))) (fun _ hk => hk.2) (.int .i64 ((rd_T101 l0 x13_1).f1.f3.f1))) (fun _ hk => hk.2) (.string ((rd_T101 l0 x13_1).f1.f3.f2))) (fun _ h_ => h_.1))) (Kd.R_base ho0) hb); have n5_ := Aside0.mk (Kd.R_lower (Kd.R_new' (Kd.R_new' (Kd.R_new' (Kd.R_new' (Kd.R_new' ho0 (Kd.R_lt (by (with_reducible repeat (first | apply Kd.R_alloc | apply Kd.R_drewN | apply Kd.R_drew)); exact (Kd.R_mono (Kd.R_far (p := ⟨gb175, 5, none⟩) (Kd.R_far (p := ⟨gb175, 4, none⟩) (Kd.R_far (p := ⟨gb175, 3, none⟩) (Kd.R_far (p := ⟨gb175, 2, none⟩) (Kd.R_far (p := ⟨gb175, 1, none⟩) (Kd.R_far (p := ⟨gb175, 0, none⟩) (Kd.R_types HO_3.out BK175.out (by decide)) (fun _ hk => hk.2) (.int .i64 ((rd_T101 l0 x13_1).f1.f0))) (fun _ hk => hk.2) (.bool false)) (fun _ hk => hk.2) (.int .i64 ((rd_T101 l0 x13_1).f1.f2))) (fun _ hk => hk.2) (.int .i64 ((rd_T101 l0 x13_1).f1.f3.f0))) (fun _ hk => hk.2) (.int .i64 ((rd_T101 l0 x13_1).f1.f3.f1))) (fun _ hk => hk.2) (.string ((rd_T101 l0 x13_1).f1.f3.f2))) (fun _ h_ => h_.1))))) (Kd.R_lt (by (with_reducible repeat (first | apply Kd.R_alloc | apply Kd.R_drewN | apply Kd.R_drew)); exact (Kd.R_mono (Kd.R_far (p := ⟨gb175, 5, none⟩) (Kd.R_far (p := ⟨gb175, 4, none⟩) (Kd.R_far (p := ⟨gb175, 3, none⟩) (Kd.R_far (p := ⟨gb175, 2, none⟩) (Kd.R_far (p := ⟨gb175, 1, none⟩) (Kd.R_far (p := ⟨gb175, 0, none⟩) (Kd.R_types HO164.out BK175.out (by decide)) (fun _ hk => hk.2) (.int .i64 ((rd_T101 l0 x13_1).f1.f0))) (fun _ hk => hk.2) (.bool false)) (fun _ hk => hk.2) (.int .i64 ((rd_T101 l0 x13_1).f1.f2))) (fun _ hk => hk.2) (.int .i64 ((rd_T101 l0 x13_1).f1.f3.f0))) (fun _ hk => hk.2) (.int .i64 ((rd_T101 l0 x13_1).f1.f3.f1))) (fun _ hk => hk.2) (.string ((rd_T101 l0 x13_1).f1.f3.f2))) (fun _ h_ => h_.1))))) (Kd.R_lt (by (with_reducible repeat (first | apply Kd.R_alloc | apply Kd.R_drewN | apply Kd.R_drew)); exact (Kd.R_mono (Kd.R_far (p := ⟨gb175, 5, none⟩) (Kd.R_far (p := ⟨gb175, 4, none⟩) (Kd.R_far (p := ⟨gb175, 3, none⟩) (Kd.R_far (p := ⟨gb175, 2, none⟩) (Kd.R_far (p := ⟨gb175, 1, none⟩) (Kd.R_far (p := ⟨gb175, 0, none⟩) (Kd.R_types HO167.out BK175.out (by decide)) (fun _ hk => hk.2) (.int .i64 ((rd_T101 l0 x13_1).f1.f0))) (fun _ hk => hk.2) (.bool false)) (fun _ hk => hk.2) (.int .i64 ((rd_T101 l0 x13_1).f1.f2))) (fun _ hk => hk.2) (.int .i64 ((rd_T101 l0 x13_1).f1.f3.f0))) (fun _ hk => hk.2) (.int .i64 ((rd_T101 l0 x13_1).f1.f3.f1))) (fun _ hk => hk.2) (.string ((rd_T101 l0 x13_1).f1.f3.f2))) (fun _ h_ => h_.1))))) (Kd.R_lt (by (with_reducible repeat (first | apply Kd.R_alloc | apply Kd.R_drewN | apply Kd.R_drew)); exact (Kd.R_mono (Kd.R_far (p := ⟨gb175, 5, none⟩) (Kd.R_far (p := ⟨gb175, 4, none⟩) (Kd.R_far (p := ⟨gb175, 3, none⟩) (Kd.R_far (p := ⟨gb175, 2, none⟩) (Kd.R_far (p := ⟨gb175, 1, none⟩) (Kd.R_far (p := ⟨gb175, 0, none⟩) (Kd.R_types HO171.out BK175.out (by decide)) (fun _ hk => hk.2) (.int .i64 ((rd_T101 l0 x13_1).f1.f0))) (fun _ hk => hk.2) (.bool false)) (fun _ hk => hk.2) (.int .i64 ((rd_T101 l0 x13_1).f1.f2))) (fun _ hk => hk.2) (.int .i64 ((rd_T101 l0 x13_1).f1.f3.f0))) (fun _ hk => hk.2) (.int .i64 ((rd_T101 l0 x13_1).f1.f3.f1))) (fun _ hk => hk.2) (.string ((rd_T101 l0 x13_1).f1.f3.f2))) (fun _ h_ => h_.1))))) (Kd.R_lt (by (with_reducible repeat (first | apply Kd.R_alloc | apply Kd.R_drewN | apply Kd.R_drew)); exact (Kd.R_mono (Kd.R_far (p := ⟨gb175, 5, none⟩) (Kd.R_far (p := ⟨gb175, 4, none⟩) (Kd.R_far (p := ⟨gb175, 3, none⟩) (Kd.R_far (p := ⟨gb175, 2, none⟩) (Kd.R_far (p := ⟨gb175, 1, none⟩) (Kd.R_far (p := ⟨gb175, 0, none⟩) (Kd.R_types HO174.out BK175.out (by decide)) (fun _ hk => hk.2) (.int .i64 ((rd_T101 l0 x13_1).f1.f0))) (fun _ hk => hk.2) (.bool false)) (fun _ hk => hk.2) (.int .i64 ((rd_T101 l0 x13_1).f1.f2))) (fun _ hk => hk.2) (.int .i64 ((rd_T101 l0 x13_1).f1.f3.f0))) (fun _ hk => hk.2) (.int .i64 ((rd_T101 l0 x13_1).f1.f3.f1))) (fun _ hk => hk.2) (.string ((rd_T101 l0 x13_1).f1.f3.f2))) (fun _ h_ => h_.1))))) (below_size (by repeat (first | (with_reducible first | exact HB.out | apply below_alloc | apply pw_below_drewN | apply below_drew1 | refine below_set ?_ GE161.out | refine below_set ?_ GE175.out) | exact HB.out)))); have n6_ := Aside0.mk (blk_below (g := gb161) (o := .cells #[.string ((rd_T101 l0 x13_1).f0.f0), .string ((rd_T101 l0 x13_1).f0.f1), .int .i64 ((rd_T101 l0 x13_1).f0.f2), .string ((rd_T101 l0 x13_1).f0.f3), .int .i64 ((rd_T101 l0 x13_1).f1.f0), .bool false, .int .i64 ((rd_T101 l0 x13_1).f1.f2), .int .i64 ((rd_T101 l0 x13_1).f1.f3.f0), .int .i64 ((rd_T101 l0 x13_1).f1.f3.f1), .string ((rd_T101 l0 x13_1).f1.f3.f2)] 101 (0, 0)) (by (with_reducible repeat (first | refine blk_drewN ?_ _ | refine blk_drew ?_ | refine blk_alloc ?_ _)); refine blk_far ?_ NB161_175.out _; (with_reducible repeat (first | refine blk_drewN ?_ _ | refine blk_drew ?_ | refine blk_alloc ?_ _)); refine blk_far ?_ NB161_175.out _; (with_reducible repeat (first | refine blk_drewN ?_ _ | refine blk_drew ?_ | refine blk_alloc ?_ _)); refine blk_far ?_ NB161_175.out _; (with_reducible repeat (first | refine blk_drewN ?_ _ | refine blk_drew ?_ | refine blk_alloc ?_ _)); refine blk_far ?_ NB161_175.out _; (with_reducible repeat (first | refine blk_drewN ?_ _ | refine blk_drew ?_ | refine blk_alloc ?_ _)); refine blk_far ?_ NB161_175.out _; (with_reducible repeat (first | refine blk_drewN ?_ _ | refine blk_drew ?_ | refine blk_alloc ?_ _)); refine blk_far ?_ NB161_175.out _; (with_reducible repeat (first | refine blk_drewN ?_ _ | refine blk_drew ?_ | refine blk_alloc ?_ _)); exact BK161.out) hb); have n7_ := Aside0.mk (blk_below (g := gb175) (o := .cells #[.int .i64 ((rd_T101 l0 x13_1).f1.f0), .bool false, .int .i64 ((rd_T101 l0 x13_1).f1.f2), .int .i64 ((rd_T101 l0 x13_1).f1.f3.f0), .int .i64 ((rd_T101 l0 x13_1).f1.f3.f1), .string ((rd_T101 l0 x13_1).f1.f3.f2)] 99 (0, 0)) (by (with_reducible repeat (first | refine blk_drewN ?_ _ | refine blk_drew ?_ | refine blk_alloc ?_ _)); refine blk_put (cs := #[.int .i64 ((rd_T101 l0 x13_1).f1.f0), .bool false, .int .i64 ((rd_T101 l0 x13_1).f1.f2), .int .i64 ((rd_T101 l0 x13_1).f1.f3.f0), .int .i64 ((rd_T101 l0 x13_1).f1.f3.f1), .string (⟨#[]⟩ : ByteArray)]) ?_ 5 _ rfl; (with_reducible repeat (first | refine blk_drewN ?_ _ | refine blk_drew ?_ | refine blk_alloc ?_ _)); refine blk_put (cs := #[.int .i64 ((rd_T101 l0 x13_1).f1.f0), .bool false, .int .i64 ((rd_T101 l0 x13_1).f1.f2), .int .i64 ((rd_T101 l0 x13_1).f1.f3.f0), .int .i64 0, .string (⟨#[]⟩ : ByteArray)]) ?_ 4 _ rfl; (with_reducible repeat (first | refine blk_drewN ?_ _ | refine blk_drew ?_ | refine blk_alloc ?_ _)); refine blk_put (cs := #[.int .i64 ((rd_T101 l0 x13_1).f1.f0), .bool false, .int .i64 ((rd_T101 l0 x13_1).f1.f2), .int .i64 0, .int .i64 0, .string (⟨#[]⟩ : ByteArray)]) ?_ 3 _ rfl; (with_reducible repeat (first | refine blk_drewN ?_ _ | refine blk_drew ?_ | refine blk_alloc ?_ _)); refine blk_put (cs := #[.int .i64 ((rd_T101 l0 x13_1).f1.f0), .bool false, .int .i64 0, .int .i64 0, .int .i64 0, .string (⟨#[]⟩ : ByteArray)]) ?_ 2 _ rfl; (with_reducible repeat (first | refine blk_drewN ?_ _ | refine blk_drew ?_ | refine blk_alloc ?_ _)); refine blk_put (cs := #[.int .i64 ((rd_T101 l0 x13_1).f1.f0), .bool false, .int .i64 0, .int .i64 0, .int .i64 0, .string (⟨#[]⟩ : ByteArray)]) ?_ 1 _ rfl; (with_reducible repeat (first | refine blk_drewN ?_ _ | refine blk_drew ?_ | refine blk_alloc ?_ _)); refine blk_put (cs := #[.int .i64 0, .bool false, .int .i64 0, .int .i64 0, .int .i64 0, .string (⟨#[]⟩ : ByteArray)]) ?_ 0 _ rfl; (with_reducible repeat (first | refine blk_drewN ?_ _ | refine blk_drew ?_ | refine blk_alloc ?_ _)); exact BK175.out) hb); have n8_ := Aside0.mk (below_step (by repeat (first | (with_reducible first | exact HB.out | apply below_alloc | apply pw_below_drewN | apply below_drew1 | refine below_set ?_ GE161.out | refine below_set ?_ GE175.out) | exact HB.out)) hb); clear HO_3; clear HO164; clear HO167; clear HO171; clear HO174; clear BK161; clear BK175; clear HB; have HO_3 := n0_; have HO164 := n1_; have HO167 := n2_; have HO171 := n3_; have HO174 := n4_; have HO179 := n5_; have BK161 := n6_; have BK175 := n7_; have HB := n8_; clear n0_ n1_ n2_ n3_ n4_ n5_ n6_ n7_ n8_; (try clear hb); (try clear hb2); (try clear hk); (try clear hi); (try clear ho0); have hcz67_0 : w66.cell? ⟨gb175, 0, none⟩ = some (.int .i64 ((rd_T101 l0 x13_1).f1.f0)) := (blk_cell BK175.out 0).trans rfl; have hcz67_1 : w66.cell? ⟨gb175, 1, none⟩ = some (.bool false) := (blk_cell BK175.out 1).trans rfl; have hcz67_2 : w66.cell? ⟨gb175, 2, none⟩ = some (.int .i64 ((rd_T101 l0 x13_1).f1.f2)) := (blk_cell BK175.out 2).trans rfl; have hcz67_3 : w66.cell? ⟨gb175, 3, none⟩ = some (.int .i64 ((rd_T101 l0 x13_1).f1.f3.f0)) := (blk_cell BK175.out 3).trans rfl; have hcz67_4 : w66.cell? ⟨gb175, 4, none⟩ = some (.int .i64 ((rd_T101 l0 x13_1).f1.f3.f1)) := (blk_cell BK175.out 4).trans rfl; have hcz67_5 : w66.cell? ⟨gb175, 5, none⟩ = some (.string ((rd_T101 l0 x13_1).f1.f3.f2)) := (blk_cell BK175.out 5).trans rfl; have hfz67_0 := blk_frozen BK175.out 0; have hfz67_1 := blk_frozen BK175.out 1; have hfz67_2 := blk_frozen BK175.out 2; have hfz67_3 := blk_frozen BK175.out 3; have hfz67_4 := blk_frozen BK175.out 4; have hfz67_5 := blk_frozen BK175.out 5))
                have n0_ := Aside0.mk (Kd.R_drew HO_3.out)
                have n1_ := Aside0.mk (Kd.R_drew HO164.out)
                have n2_ := Aside0.mk (Kd.R_drew HO167.out)
                have n3_ := Aside0.mk (Kd.R_drew HO171.out)
                have n4_ := Aside0.mk (Kd.R_drew HO174.out)
                have n5_ := Aside0.mk (Kd.R_drew HO179.out)
                have n6_ := Aside0.mk (blk_drew BK161.out)
                have n7_ := Aside0.mk (blk_drew BK175.out)
                have n8_ := Aside0.mk (below_drew1 HB.out)
                clear HO_3
                clear HO164
                clear HO167
                clear HO171
                clear HO174
                clear HO179
                clear BK161
                clear BK175
                clear HB
                have HO_3 := n0_
                have HO164 := n1_
                have HO167 := n2_
                have HO171 := n3_
                have HO174 := n4_
                have HO179 := n5_
                have BK161 := n6_
                have BK175 := n7_
                have HB := n8_
                clear n0_ n1_ n2_ n3_ n4_ n5_ n6_ n7_ n8_
                refine start_ (n := 9) (S := fun w' => w'.cell? ⟨gb175, 0, none⟩ = some (.int .i64 ((rd_T101 l0 x13_1).f1.f0)) ∧ w'.cell? ⟨gb175, 1, none⟩ = some (.bool false) ∧ w'.cell? ⟨gb175, 2, none⟩ = some (.int .i64 ((rd_T101 l0 x13_1).f1.f2)) ∧ w'.cell? ⟨gb175, 3, none⟩ = some (.int .i64 ((rd_T101 l0 x13_1).f1.f3.f0)) ∧ w'.cell? ⟨gb175, 4, none⟩ = some (.int .i64 ((rd_T101 l0 x13_1).f1.f3.f1)) ∧ w'.cell? ⟨gb175, 5, none⟩ = some (.string ((rd_T101 l0 x13_1).f1.f3.f2))) (ds := []) #[false, false, false, false, false, false, false, false, false] (by kernel_rfl) rfl rfl ⟨(blk_cell BK175.out 0).trans rfl, (blk_cell BK175.out 1).trans rfl, (blk_cell BK175.out 2).trans rfl, (blk_cell BK175.out 3).trans rfl, (blk_cell BK175.out 4).trans rfl, (blk_cell BK175.out 5).trans rfl⟩ (fun hHeld => ?_); refine with_tabW skerryref01_Cells.tab11 skerryref01_Cells.bits11 (fun HT_ HW_ => ?_)
                generalize w66.drew = w68 at HO_3 HO164 HO167 HO171 HO174 HO179 BK161 BK175 HB hHeld ⊢
                refine pure_ (i := 0) (N := some 52) (v := ?_) (a' := ?_) #[true, false, false, false, false, false, false, false, false] rfl rfl (any_of HT_.out (by kernel_rfl)) (fun _ _ _ h => h) (Or.inl ⟨by rfl, ?_⟩) ?_ ?_
                rotate_left
                · intro w'
                  go_simp
                  with_reducible rfl
                rotate_left
                · simp only [Act.put, List.setIfInBounds_toArray, List.set_cons_zero, List.set_cons_succ, i64_w, i32_w]
                  rfl
                refine pure_ (i := 3) (N := some 55) (v := ?_) (a' := ?_) #[true, false, false, true, false, false, false, false, false] rfl rfl (any_of HT_.out (by kernel_rfl)) (fun _ _ _ h => h) (Or.inl ⟨by rfl, ?_⟩) ?_ ?_
                rotate_left
                · intro w'
                  go_simp
                  with_reducible rfl
                rotate_left
                · simp only [Act.put, List.setIfInBounds_toArray, List.set_cons_zero, List.set_cons_succ, i64_w, i32_w]
                  rfl
                refine pure_ (i := 4) (N := some 56) (v := ?_) (a' := ?_) #[true, false, false, true, true, false, false, false, false] rfl rfl (any_of HT_.out (by kernel_rfl)) (fun _ _ _ h => h) (Or.inl ⟨by rfl, ?_⟩) ?_ ?_
                rotate_left
                · intro w'
                  go_simp
                  with_reducible rfl
                rotate_left
                · simp only [Act.put, List.setIfInBounds_toArray, List.set_cons_zero, List.set_cons_succ, i64_w, i32_w]
                  rfl
                refine take_ (i := 5) (N := some 57) (v := ?_) (a' := ?_) #[true, false, false, true, true, true, false, false, false] rfl rfl (take_ofW HT_.out HW_.out (by kernel_rfl)) (fun _ _ _ h => h) (Or.inl ⟨by rfl, ?_⟩) hHeld ?_ ?_
                rotate_left
                · rintro w' ⟨s0, s1, s2, s3, s4, s5⟩
                  go_simp
                  with_reducible rfl
                rotate_left
                · simp only [Act.put, List.setIfInBounds_toArray, List.set_cons_zero, List.set_cons_succ, i64_w, i32_w]
                  rfl
                refine pure_ (i := 6) (N := some 58) (v := ?_) (a' := ?_) #[true, false, false, true, true, true, true, false, false] rfl rfl (any_of HT_.out (by kernel_rfl)) (fun _ _ _ h => h) (Or.inl ⟨by rfl, ?_⟩) ?_ ?_
                rotate_left
                · intro w'
                  go_simp
                  with_reducible rfl
                rotate_left
                · simp only [Act.put, List.setIfInBounds_toArray, List.set_cons_zero, List.set_cons_succ, i64_w, i32_w]
                  rfl
                refine one_ (i := 1) (N := some 53) #[true, true, false, true, true, true, true, false, false] rfl rfl (one_of HT_.out (by kernel_rfl)) (by decide) (fun K hK => ?_)
                refine value_ (w1 := ?_) (v := ?_) (by rfl) rfl ?_ ?_
                rotate_left 2
                · go_simp
                  constructor
                  · rfl
                  · rfl
                refine hK.out _ _ ⟨(blk_cell (blk_alloc BK175.out _) 0).trans rfl, (blk_cell (blk_alloc BK175.out _) 1).trans rfl, (blk_cell (blk_alloc BK175.out _) 2).trans rfl, (blk_cell (blk_alloc BK175.out _) 3).trans rfl, (blk_cell (blk_alloc BK175.out _) 4).trans rfl, (blk_cell (blk_alloc BK175.out _) 5).trans rfl⟩ (fun hHeld => ?_)
                clear hK K
                refine norm_ (a' := ?_) ?_ ?_
                rotate_left
                · show Act.put _ (some 53) _ = _
                  simp only [Act.put, List.setIfInBounds_toArray, List.set_cons_zero, List.set_cons_succ, i64_w, i32_w]
                  rfl
                refine one_ (i := 2) (N := some 54) #[true, true, true, true, true, true, true, false, false] rfl rfl (one_of HT_.out (by kernel_rfl)) (by decide) (fun K hK => ?_)
                refine Kd.R_append_step (Kd.int .u8) (w0 := w) w.heap.size (by rfl) (.tmp 52) (.tmp 53) 27 5 (.int .u8 0) 1 rfl Try.underlying27 info5 rfl (by decide) (by omega) v178 t177 0 [.int .u8 0] (fun k_ => some k_ ≠ (.slice Ao52 x3_1.length co52 : Value).ownBlock ∧ some k_ ≠ (.slice Ao54 t162.length co54 : Value).ownBlock ∧ some k_ ≠ (.slice Ao57 t165.length co57 : Value).ownBlock ∧ some k_ ≠ (.slice Ao59 t169.length co59 : Value).ownBlock ∧ some k_ ≠ (.slice Ao65 t172.length co65 : Value).ownBlock) (fun _ => False) rfl rfl ?aP (fun _ hk => hk.elim) ?aF ?aO ?aB ?aS ?aL ?_
                (case aP => exact rfl)
                (case aB => exact (by repeat (first | (with_reducible first | exact HB.out | apply below_alloc | apply pw_below_drewN | apply below_drew1 | refine below_set ?_ GE161.out | refine below_set ?_ GE175.out) | exact HB.out)))
                (case aF => exact (fun k_ hk => ⟨Kd.fresh' (Kd.R_lt (by (with_reducible repeat (first | apply Kd.R_alloc | apply Kd.R_drewN | apply Kd.R_drew)); exact HO_3.out)) k_ hk, Kd.fresh' (Kd.R_lt (by (with_reducible repeat (first | apply Kd.R_alloc | apply Kd.R_drewN | apply Kd.R_drew)); exact HO164.out)) k_ hk, Kd.fresh' (Kd.R_lt (by (with_reducible repeat (first | apply Kd.R_alloc | apply Kd.R_drewN | apply Kd.R_drew)); exact HO167.out)) k_ hk, Kd.fresh' (Kd.R_lt (by (with_reducible repeat (first | apply Kd.R_alloc | apply Kd.R_drewN | apply Kd.R_drew)); exact HO171.out)) k_ hk, Kd.fresh' (Kd.R_lt (by (with_reducible repeat (first | apply Kd.R_alloc | apply Kd.R_drewN | apply Kd.R_drew)); exact HO174.out)) k_ hk⟩))
                (case aO => exact (by (with_reducible repeat (first | apply Kd.R_alloc | apply Kd.R_drewN | apply Kd.R_drew)); exact Kd.R_mono HO179.out (fun _ hk => ⟨hk.1.1.1.1.2, ⟨hk.1.1.1.2, ⟨hk.1.1.2, ⟨hk.1.2, hk.2⟩⟩⟩⟩)))
                (case aS => exact (below_size (by repeat (first | (with_reducible first | exact HB.out | apply below_alloc | apply pw_below_drewN | apply below_drew1 | refine below_set ?_ GE161.out | refine below_set ?_ GE175.out) | exact HB.out))))
                (case aL => have := LMc43.out; omega)
                intro v188 w69 ho hb hg hat
                rw [← Ny187.out] at ho
                have n0_ := Aside0.mk (Kd.R_after (ok := (fun k_ => some k_ ≠ (.slice Ao54 t162.length co54 : Value).ownBlock ∧ some k_ ≠ (.slice Ao57 t165.length co57 : Value).ownBlock ∧ some k_ ≠ (.slice Ao59 t169.length co59 : Value).ownBlock ∧ some k_ ≠ (.slice Ao65 t172.length co65 : Value).ownBlock)) (by (with_reducible repeat (first | apply Kd.R_alloc | apply Kd.R_drewN | apply Kd.R_drew)); exact Kd.R_mono HO_3.out (fun _ hk => ⟨⟨hk.1.1.1.1.2, ⟨hk.1.1.1.2, ⟨hk.1.1.2, hk.1.2⟩⟩⟩, hk.2⟩)) hg hat)
                have n1_ := Aside0.mk (blk_grown (g := gb161) (o := .cells #[.string ((rd_T101 l0 x13_1).f0.f0), .string ((rd_T101 l0 x13_1).f0.f1), .int .i64 ((rd_T101 l0 x13_1).f0.f2), .string ((rd_T101 l0 x13_1).f0.f3), .int .i64 ((rd_T101 l0 x13_1).f1.f0), .bool false, .int .i64 ((rd_T101 l0 x13_1).f1.f2), .int .i64 ((rd_T101 l0 x13_1).f1.f3.f0), .int .i64 ((rd_T101 l0 x13_1).f1.f3.f1), .string ((rd_T101 l0 x13_1).f1.f3.f2)] 101 (0, 0)) (by (with_reducible repeat (first | refine blk_drewN ?_ _ | refine blk_drew ?_ | refine blk_alloc ?_ _)); exact BK161.out) hg (Kd.R_ne HO179.out BK161.out (by decide)))
                have n2_ := Aside0.mk (Kd.R_after (ok := (fun k_ => some k_ ≠ (.slice Ao52 x3_1.length co52 : Value).ownBlock ∧ some k_ ≠ (.slice Ao57 t165.length co57 : Value).ownBlock ∧ some k_ ≠ (.slice Ao59 t169.length co59 : Value).ownBlock ∧ some k_ ≠ (.slice Ao65 t172.length co65 : Value).ownBlock)) (by (with_reducible repeat (first | apply Kd.R_alloc | apply Kd.R_drewN | apply Kd.R_drew)); exact Kd.R_mono HO164.out (fun _ hk => ⟨⟨hk.1.1.1.1.2, ⟨hk.1.1.1.2, ⟨hk.1.1.2, hk.1.2⟩⟩⟩, hk.2⟩)) hg hat)
                have n3_ := Aside0.mk (Kd.R_after (ok := (fun k_ => some k_ ≠ (.slice Ao52 x3_1.length co52 : Value).ownBlock ∧ some k_ ≠ (.slice Ao54 t162.length co54 : Value).ownBlock ∧ some k_ ≠ (.slice Ao59 t169.length co59 : Value).ownBlock ∧ some k_ ≠ (.slice Ao65 t172.length co65 : Value).ownBlock)) (by (with_reducible repeat (first | apply Kd.R_alloc | apply Kd.R_drewN | apply Kd.R_drew)); exact Kd.R_mono HO167.out (fun _ hk => ⟨⟨hk.1.1.1.1.2, ⟨hk.1.1.1.2, ⟨hk.1.1.2, hk.1.2⟩⟩⟩, hk.2⟩)) hg hat)
                have n4_ := Aside0.mk (Kd.R_after (ok := (fun k_ => some k_ ≠ (.slice Ao52 x3_1.length co52 : Value).ownBlock ∧ some k_ ≠ (.slice Ao54 t162.length co54 : Value).ownBlock ∧ some k_ ≠ (.slice Ao57 t165.length co57 : Value).ownBlock ∧ some k_ ≠ (.slice Ao65 t172.length co65 : Value).ownBlock)) (by (with_reducible repeat (first | apply Kd.R_alloc | apply Kd.R_drewN | apply Kd.R_drew)); exact Kd.R_mono HO171.out (fun _ hk => ⟨⟨hk.1.1.1.1.2, ⟨hk.1.1.1.2, ⟨hk.1.1.2, hk.1.2⟩⟩⟩, hk.2⟩)) hg hat)
                have n5_ := Aside0.mk (Kd.R_after (ok := (fun k_ => some k_ ≠ (.slice Ao52 x3_1.length co52 : Value).ownBlock ∧ some k_ ≠ (.slice Ao54 t162.length co54 : Value).ownBlock ∧ some k_ ≠ (.slice Ao57 t165.length co57 : Value).ownBlock ∧ some k_ ≠ (.slice Ao59 t169.length co59 : Value).ownBlock)) (by (with_reducible repeat (first | apply Kd.R_alloc | apply Kd.R_drewN | apply Kd.R_drew)); exact Kd.R_mono HO174.out (fun _ hk => ⟨⟨hk.1.1.1.1.2, ⟨hk.1.1.1.2, ⟨hk.1.1.2, hk.1.2⟩⟩⟩, hk.2⟩)) hg hat)
                have n6_ := Aside0.mk (blk_grown (g := gb175) (o := .cells #[.int .i64 ((rd_T101 l0 x13_1).f1.f0), .bool false, .int .i64 ((rd_T101 l0 x13_1).f1.f2), .int .i64 ((rd_T101 l0 x13_1).f1.f3.f0), .int .i64 ((rd_T101 l0 x13_1).f1.f3.f1), .string ((rd_T101 l0 x13_1).f1.f3.f2)] 99 (0, 0)) (by (with_reducible repeat (first | refine blk_drewN ?_ _ | refine blk_drew ?_ | refine blk_alloc ?_ _)); exact BK175.out) hg (Kd.R_ne HO179.out BK175.out (by decide)))
                have n7_ := Aside0.mk (hb)
                have n8_ := Aside0.mk (ho)
                clear HO_3
                clear BK161
                clear HO164
                clear HO167
                clear HO171
                clear HO174
                clear BK175
                clear HB
                clear HO179
                have HO_3 := n0_
                have BK161 := n1_
                have HO164 := n2_
                have HO167 := n3_
                have HO171 := n4_
                have HO174 := n5_
                have BK175 := n6_
                have HB := n7_
                have HO189 := n8_
                clear n0_ n1_ n2_ n3_ n4_ n5_ n6_ n7_ n8_
                clear ho hb hg hat
                obtain ⟨Ao70, co70, eo70⟩ := Kd.R_slice HO189.out
                (first | subst eo70 | (injection eo70 with f1_ f2_ f3_; have f4_ := f1_.symm; have f5_ := f3_.symm; clear f1_ f2_ f3_; subst f4_; subst f5_))
                refine hK.out _ _ ⟨(blk_cell BK175.out 0).trans rfl, (blk_cell BK175.out 1).trans rfl, (blk_cell BK175.out 2).trans rfl, (blk_cell BK175.out 3).trans rfl, (blk_cell BK175.out 4).trans rfl, (blk_cell BK175.out 5).trans rfl⟩ (fun hHeld => ?_)
                clear hK K
                refine norm_ (a' := ?_) ?_ ?_
                rotate_left
                · show Act.put _ (some 54) _ = _
                  simp only [Act.put, List.setIfInBounds_toArray, List.set_cons_zero, List.set_cons_succ, i64_w, i32_w]
                  rfl
                refine one_ (i := 7) (N := some 59) #[true, true, true, true, true, true, true, true, false] rfl rfl (one_of HT_.out (by kernel_rfl)) (by decide) (fun K hK => ?_)
                refine goes_ Try.func29 (by kernel_rfl) rfl #[.slice Ao70 y187.length co70, .int .u64 (IntKind.u64.wrap ((rd_T101 l0 x13_1).f1.f3.f0))] (by rfl) rfl rfl (by (try simp only [List.map_toArray, List.map_cons, List.map_nil]); first | done | rfl | (simp only [List.length_drop, List.length_take]; rfl)) ?_
                with_reducible refine (skerryref01_Put.calls k1 _ _ y187 (IntKind.u64.wrap ((rd_T101 l0 x13_1).f1.f3.f0)) t190 _ ?side1 ?side2 A44.out).mono ?_
                (case side1 => repeat (first | exact (Kd.R_reads' HO189.out).2.2 | (with_reducible refine Kd.C_alloc ?_ _) | (with_reducible refine Kd.C_drewN ?_ _) | (with_reducible refine Kd.C_drew ?_)))
                (case side2 => exact (Kd.R_reads' HO189.out).2.1)
                rintro e w71 ⟨v191, rfl, ho0, hb⟩
                refine ⟨_, rfl, ?_⟩
                have n0_ := Aside0.mk (Kd.R_elder' (by (with_reducible repeat (first | apply Kd.R_alloc | apply Kd.R_drewN | apply Kd.R_drew)); exact HO_3.out) (Kd.R_base ho0) hb)
                have n1_ := Aside0.mk (Kd.R_elder' (by (with_reducible repeat (first | apply Kd.R_alloc | apply Kd.R_drewN | apply Kd.R_drew)); exact HO164.out) (Kd.R_base ho0) hb)
                have n2_ := Aside0.mk (Kd.R_elder' (by (with_reducible repeat (first | apply Kd.R_alloc | apply Kd.R_drewN | apply Kd.R_drew)); exact HO167.out) (Kd.R_base ho0) hb)
                have n3_ := Aside0.mk (Kd.R_elder' (by (with_reducible repeat (first | apply Kd.R_alloc | apply Kd.R_drewN | apply Kd.R_drew)); exact HO171.out) (Kd.R_base ho0) hb)
                have n4_ := Aside0.mk (Kd.R_elder' (by (with_reducible repeat (first | apply Kd.R_alloc | apply Kd.R_drewN | apply Kd.R_drew)); exact HO174.out) (Kd.R_base ho0) hb)
                have n5_ := Aside0.mk (Kd.R_elder' (by (with_reducible repeat (first | apply Kd.R_alloc | apply Kd.R_drewN | apply Kd.R_drew)); exact HO189.out) (Kd.R_base ho0) hb)
                have n6_ := Aside0.mk (Kd.R_lower (Kd.R_new' (Kd.R_new' (Kd.R_new' (Kd.R_new' (Kd.R_new' (Kd.R_new' ho0 (Kd.R_lt (by (with_reducible repeat (first | apply Kd.R_alloc | apply Kd.R_drewN | apply Kd.R_drew)); exact HO_3.out))) (Kd.R_lt (by (with_reducible repeat (first | apply Kd.R_alloc | apply Kd.R_drewN | apply Kd.R_drew)); exact HO164.out))) (Kd.R_lt (by (with_reducible repeat (first | apply Kd.R_alloc | apply Kd.R_drewN | apply Kd.R_drew)); exact HO167.out))) (Kd.R_lt (by (with_reducible repeat (first | apply Kd.R_alloc | apply Kd.R_drewN | apply Kd.R_drew)); exact HO171.out))) (Kd.R_lt (by (with_reducible repeat (first | apply Kd.R_alloc | apply Kd.R_drewN | apply Kd.R_drew)); exact HO174.out))) (Kd.R_lt (by (with_reducible repeat (first | apply Kd.R_alloc | apply Kd.R_drewN | apply Kd.R_drew)); exact HO189.out))) (below_size (by repeat (first | (with_reducible first | exact HB.out | apply below_alloc | apply pw_below_drewN | apply below_drew1 | refine below_set ?_ GE161.out | refine below_set ?_ GE175.out) | exact HB.out))))
                have n7_ := Aside0.mk (blk_below (g := gb161) (o := .cells #[.string ((rd_T101 l0 x13_1).f0.f0), .string ((rd_T101 l0 x13_1).f0.f1), .int .i64 ((rd_T101 l0 x13_1).f0.f2), .string ((rd_T101 l0 x13_1).f0.f3), .int .i64 ((rd_T101 l0 x13_1).f1.f0), .bool false, .int .i64 ((rd_T101 l0 x13_1).f1.f2), .int .i64 ((rd_T101 l0 x13_1).f1.f3.f0), .int .i64 ((rd_T101 l0 x13_1).f1.f3.f1), .string ((rd_T101 l0 x13_1).f1.f3.f2)] 101 (0, 0)) (by (with_reducible repeat (first | refine blk_drewN ?_ _ | refine blk_drew ?_ | refine blk_alloc ?_ _)); exact BK161.out) hb)
                have n8_ := Aside0.mk (blk_below (g := gb175) (o := .cells #[.int .i64 ((rd_T101 l0 x13_1).f1.f0), .bool false, .int .i64 ((rd_T101 l0 x13_1).f1.f2), .int .i64 ((rd_T101 l0 x13_1).f1.f3.f0), .int .i64 ((rd_T101 l0 x13_1).f1.f3.f1), .string ((rd_T101 l0 x13_1).f1.f3.f2)] 99 (0, 0)) (by (with_reducible repeat (first | refine blk_drewN ?_ _ | refine blk_drew ?_ | refine blk_alloc ?_ _)); exact BK175.out) hb)
                have n9_ := Aside0.mk (below_step (by repeat (first | (with_reducible first | exact HB.out | apply below_alloc | apply pw_below_drewN | apply below_drew1 | refine below_set ?_ GE161.out | refine below_set ?_ GE175.out) | exact HB.out)) hb)
                clear HO_3
                clear HO164
                clear HO167
                clear HO171
                clear HO174
                clear HO189
                clear BK161
                clear BK175
                clear HB
                have HO_3 := n0_
                have HO164 := n1_
                have HO167 := n2_
                have HO171 := n3_
                have HO174 := n4_
                have HO189 := n5_
                have HO192 := n6_
                have BK161 := n7_
                have BK175 := n8_
                have HB := n9_
                clear n0_ n1_ n2_ n3_ n4_ n5_ n6_ n7_ n8_ n9_
                (try clear hb)
                (try clear hb2)
                (try clear hk)
                (try clear hi)
                (try clear ho0)
                refine hK.out _ _ ⟨(blk_cell BK175.out 0).trans rfl, (blk_cell BK175.out 1).trans rfl, (blk_cell BK175.out 2).trans rfl, (blk_cell BK175.out 3).trans rfl, (blk_cell BK175.out 4).trans rfl, (blk_cell BK175.out 5).trans rfl⟩ (fun hHeld => ?_)
                clear hK K
                refine norm_ (a' := ?_) ?_ ?_
                rotate_left
                · show Act.put _ (some 59) _ = _
                  simp only [Act.put, List.setIfInBounds_toArray, List.set_cons_zero, List.set_cons_succ, i64_w, i32_w]
                  rfl
                refine pure_ (i := 8) (N := some 3) (v := ?_) (a' := ?_) #[true, true, true, true, true, true, true, true, true] rfl rfl (any_of HT_.out (by kernel_rfl)) (fun _ _ _ h => h) (Or.inl ⟨by rfl, ?_⟩) ?_ ?_
                rotate_left
                · intro w'
                  go_simp
                  with_reducible rfl
                rotate_left
                · simp only [Act.put, List.setIfInBounds_toArray, List.set_cons_zero, List.set_cons_succ, i64_w, i32_w]
                  rfl
                refine done_ (done_of HT_.out (by kernel_rfl)) ?_
                try go_wp2
                have n0_ := Aside0.mk (Kd.R_drew HO_3.out)
                have n1_ := Aside0.mk (Kd.R_drew HO164.out)
                have n2_ := Aside0.mk (Kd.R_drew HO167.out)
                have n3_ := Aside0.mk (Kd.R_drew HO171.out)
                have n4_ := Aside0.mk (Kd.R_drew HO174.out)
                have n5_ := Aside0.mk (Kd.R_drew HO189.out)
                have n6_ := Aside0.mk (Kd.R_drew HO192.out)
                have n7_ := Aside0.mk (blk_drew BK161.out)
                have n8_ := Aside0.mk (blk_drew BK175.out)
                have n9_ := Aside0.mk (below_drew1 HB.out)
                clear HO_3
                clear HO164
                clear HO167
                clear HO171
                clear HO174
                clear HO189
                clear HO192
                clear BK161
                clear BK175
                clear HB
                have HO_3 := n0_
                have HO164 := n1_
                have HO167 := n2_
                have HO171 := n3_
                have HO174 := n4_
                have HO189 := n5_
                have HO192 := n6_
                have BK161 := n7_
                have BK175 := n8_
                have HB := n9_
                clear n0_ n1_ n2_ n3_ n4_ n5_ n6_ n7_ n8_ n9_
                refine start_ (n := 11) (S := fun w' => w'.cell? ⟨gb175, 0, none⟩ = some (.int .i64 ((rd_T101 l0 x13_1).f1.f0)) ∧ w'.cell? ⟨gb175, 1, none⟩ = some (.bool false) ∧ w'.cell? ⟨gb175, 2, none⟩ = some (.int .i64 ((rd_T101 l0 x13_1).f1.f2)) ∧ w'.cell? ⟨gb175, 3, none⟩ = some (.int .i64 ((rd_T101 l0 x13_1).f1.f3.f0)) ∧ w'.cell? ⟨gb175, 4, none⟩ = some (.int .i64 ((rd_T101 l0 x13_1).f1.f3.f1)) ∧ w'.cell? ⟨gb175, 5, none⟩ = some (.string ((rd_T101 l0 x13_1).f1.f3.f2))) (ds := []) #[false, false, false, false, false, false, false, false, false, false, false] (by kernel_rfl) rfl rfl ⟨(blk_cell BK175.out 0).trans rfl, (blk_cell BK175.out 1).trans rfl, (blk_cell BK175.out 2).trans rfl, (blk_cell BK175.out 3).trans rfl, (blk_cell BK175.out 4).trans rfl, (blk_cell BK175.out 5).trans rfl⟩ (fun hHeld => ?_); refine with_tabW skerryref01_Cells.tab12 skerryref01_Cells.bits12 (fun HT_ HW_ => ?_)
                generalize w71.drew = w72 at HO_3 HO164 HO167 HO171 HO174 HO189 HO192 BK161 BK175 HB hHeld ⊢
                refine pure_ (i := 0) (N := some 60) (v := ?_) (a' := ?_) #[true, false, false, false, false, false, false, false, false, false, false] rfl rfl (any_of HT_.out (by kernel_rfl)) (fun _ _ _ h => h) (Or.inl ⟨by rfl, ?_⟩) ?_ ?_
                rotate_left
                · intro w'
                  go_simp
                  with_reducible rfl
                rotate_left
                · simp only [Act.put, List.setIfInBounds_toArray, List.set_cons_zero, List.set_cons_succ, i64_w, i32_w]
                  rfl
                refine pure_ (i := 1) (N := some 61) (v := ?_) (a' := ?_) #[true, true, false, false, false, false, false, false, false, false, false] rfl rfl (any_of HT_.out (by kernel_rfl)) (fun _ _ _ h => h) (Or.inl ⟨by rfl, ?_⟩) ?_ ?_
                rotate_left
                · intro w'
                  go_simp
                  with_reducible rfl
                rotate_left
                · simp only [Act.put, List.setIfInBounds_toArray, List.set_cons_zero, List.set_cons_succ, i64_w, i32_w]
                  rfl
                refine pure_ (i := 2) (N := some 62) (v := ?_) (a' := ?_) #[true, true, true, false, false, false, false, false, false, false, false] rfl rfl (any_of HT_.out (by kernel_rfl)) (fun _ _ _ h => h) (Or.inl ⟨by rfl, ?_⟩) ?_ ?_
                rotate_left
                · intro w'
                  go_simp
                  with_reducible rfl
                rotate_left
                · simp only [Act.put, List.setIfInBounds_toArray, List.set_cons_zero, List.set_cons_succ, i64_w, i32_w]
                  rfl
                refine pure_ (i := 6) (N := some 66) (v := ?_) (a' := ?_) #[true, true, true, false, false, false, true, false, false, false, false] rfl rfl (any_of HT_.out (by kernel_rfl)) (fun _ _ _ h => h) (Or.inl ⟨by rfl, ?_⟩) ?_ ?_
                rotate_left
                · intro w'
                  go_simp
                  with_reducible rfl
                rotate_left
                · simp only [Act.put, List.setIfInBounds_toArray, List.set_cons_zero, List.set_cons_succ, i64_w, i32_w]
                  rfl
                refine pure_ (i := 7) (N := some 67) (v := ?_) (a' := ?_) #[true, true, true, false, false, false, true, true, false, false, false] rfl rfl (any_of HT_.out (by kernel_rfl)) (fun _ _ _ h => h) (Or.inl ⟨by rfl, ?_⟩) ?_ ?_
                rotate_left
                · intro w'
                  go_simp
                  with_reducible rfl
                rotate_left
                · simp only [Act.put, List.setIfInBounds_toArray, List.set_cons_zero, List.set_cons_succ, i64_w, i32_w]
                  rfl
                refine take_ (i := 3) (N := some 63) (v := ?_) (a' := ?_) #[true, true, true, true, false, false, true, true, false, false, false] rfl rfl (take_ofW HT_.out HW_.out (by kernel_rfl)) (fun _ _ _ h => h) (Or.inl ⟨by rfl, ?_⟩) hHeld ?_ ?_
                rotate_left
                · rintro w' ⟨s0, s1, s2, s3, s4, s5⟩
                  go_simp
                  with_reducible rfl
                rotate_left
                · simp only [Act.put, List.setIfInBounds_toArray, List.set_cons_zero, List.set_cons_succ, i64_w, i32_w]
                  rfl
                refine take_ (i := 8) (N := some 68) (v := ?_) (a' := ?_) #[true, true, true, true, false, false, true, true, true, false, false] rfl rfl (take_ofW HT_.out HW_.out (by kernel_rfl)) (fun _ _ _ h => h) (Or.inl ⟨by rfl, ?_⟩) hHeld ?_ ?_
                rotate_left
                · rintro w' ⟨s0, s1, s2, s3, s4, s5⟩
                  go_simp
                  with_reducible rfl
                rotate_left
                · simp only [Act.put, List.setIfInBounds_toArray, List.set_cons_zero, List.set_cons_succ, i64_w, i32_w]
                  rfl
                refine one_ (i := 4) (N := some 64) #[true, true, true, true, true, false, true, true, true, false, false] rfl rfl (one_of HT_.out (by kernel_rfl)) (by decide) (fun K hK => ?_)
                refine goes_ Try.func30 (by kernel_rfl) rfl #[.int .i64 ((rd_T101 l0 x13_1).f1.f3.f1)] (by rfl) rfl rfl (by (try simp only [List.map_toArray, List.map_cons, List.map_nil]); first | done | rfl | (simp only [List.length_drop, List.length_take]; rfl)) ?_
                with_reducible refine (skerryref01_Zig.calls ((rd_T101 l0 x13_1).f1.f3.f1) t193 _ A45.out).mono ?_
                rintro e w' ⟨rfl, ⟨nd, rfl⟩⟩
                refine ⟨_, rfl, ?_⟩
                obtain ⟨Ao73, co73, eo73⟩ := Kd.R_slice HO192.out
                (first | subst eo73 | (injection eo73 with f1_ f2_ f3_; have f4_ := f1_.symm; have f5_ := f3_.symm; clear f1_ f2_ f3_; subst f4_; subst f5_))
                refine hK.out _ _ ⟨(blk_cell BK175.out 0).trans rfl, (blk_cell BK175.out 1).trans rfl, (blk_cell BK175.out 2).trans rfl, (blk_cell BK175.out 3).trans rfl, (blk_cell BK175.out 4).trans rfl, (blk_cell BK175.out 5).trans rfl⟩ (fun hHeld => ?_)
                clear hK K
                refine norm_ (a' := ?_) ?_ ?_
                rotate_left
                · show Act.put _ (some 64) _ = _
                  simp only [Act.put, List.setIfInBounds_toArray, List.set_cons_zero, List.set_cons_succ, i64_w, i32_w]
                  rfl
                refine one_ (i := 5) (N := some 65) #[true, true, true, true, true, true, true, true, true, false, false] rfl rfl (one_of HT_.out (by kernel_rfl)) (by decide) (fun K hK => ?_)
                refine goes_ Try.func29 (by kernel_rfl) rfl #[.slice Ao73 t190.length co73, .int .u64 t193] (by rfl) rfl rfl (by (try simp only [List.map_toArray, List.map_cons, List.map_nil]); first | done | rfl | (simp only [List.length_drop, List.length_take]; rfl)) ?_
                with_reducible refine (skerryref01_Put.calls k1 _ _ t190 t193 t194 _ ?side1 ?side2 A46.out).mono ?_
                (case side1 => repeat (first | exact (Kd.R_reads' HO192.out).2.2 | (with_reducible refine Kd.C_alloc ?_ _) | (with_reducible refine Kd.C_drewN ?_ _) | (with_reducible refine Kd.C_drew ?_)))
                (case side2 => exact (Kd.R_reads' HO192.out).2.1)
                rintro e w74 ⟨v195, rfl, ho0, hb⟩
                refine ⟨_, rfl, ?_⟩
                have n0_ := Aside0.mk (Kd.R_elder' (by (with_reducible repeat (first | apply Kd.R_alloc | apply Kd.R_drewN | apply Kd.R_drew)); exact HO_3.out) (Kd.R_base ho0) hb)
                have n1_ := Aside0.mk (Kd.R_elder' (by (with_reducible repeat (first | apply Kd.R_alloc | apply Kd.R_drewN | apply Kd.R_drew)); exact HO164.out) (Kd.R_base ho0) hb)
                have n2_ := Aside0.mk (Kd.R_elder' (by (with_reducible repeat (first | apply Kd.R_alloc | apply Kd.R_drewN | apply Kd.R_drew)); exact HO167.out) (Kd.R_base ho0) hb)
                have n3_ := Aside0.mk (Kd.R_elder' (by (with_reducible repeat (first | apply Kd.R_alloc | apply Kd.R_drewN | apply Kd.R_drew)); exact HO171.out) (Kd.R_base ho0) hb)
                have n4_ := Aside0.mk (Kd.R_elder' (by (with_reducible repeat (first | apply Kd.R_alloc | apply Kd.R_drewN | apply Kd.R_drew)); exact HO174.out) (Kd.R_base ho0) hb)
                have n5_ := Aside0.mk (Kd.R_elder' (by (with_reducible repeat (first | apply Kd.R_alloc | apply Kd.R_drewN | apply Kd.R_drew)); exact HO189.out) (Kd.R_base ho0) hb)
                have n6_ := Aside0.mk (Kd.R_elder' (by (with_reducible repeat (first | apply Kd.R_alloc | apply Kd.R_drewN | apply Kd.R_drew)); exact HO192.out) (Kd.R_base ho0) hb)
                have n7_ := Aside0.mk (Kd.R_lower (Kd.R_new' (Kd.R_new' (Kd.R_new' (Kd.R_new' (Kd.R_new' (Kd.R_new' (Kd.R_new' ho0 (Kd.R_lt (by (with_reducible repeat (first | apply Kd.R_alloc | apply Kd.R_drewN | apply Kd.R_drew)); exact HO_3.out))) (Kd.R_lt (by (with_reducible repeat (first | apply Kd.R_alloc | apply Kd.R_drewN | apply Kd.R_drew)); exact HO164.out))) (Kd.R_lt (by (with_reducible repeat (first | apply Kd.R_alloc | apply Kd.R_drewN | apply Kd.R_drew)); exact HO167.out))) (Kd.R_lt (by (with_reducible repeat (first | apply Kd.R_alloc | apply Kd.R_drewN | apply Kd.R_drew)); exact HO171.out))) (Kd.R_lt (by (with_reducible repeat (first | apply Kd.R_alloc | apply Kd.R_drewN | apply Kd.R_drew)); exact HO174.out))) (Kd.R_lt (by (with_reducible repeat (first | apply Kd.R_alloc | apply Kd.R_drewN | apply Kd.R_drew)); exact HO189.out))) (Kd.R_lt (by (with_reducible repeat (first | apply Kd.R_alloc | apply Kd.R_drewN | apply Kd.R_drew)); exact HO192.out))) (below_size (by repeat (first | (with_reducible first | exact HB.out | apply below_alloc | apply pw_below_drewN | apply below_drew1 | refine below_set ?_ GE161.out | refine below_set ?_ GE175.out) | exact HB.out))))
                have n8_ := Aside0.mk (blk_below (g := gb161) (o := .cells #[.string ((rd_T101 l0 x13_1).f0.f0), .string ((rd_T101 l0 x13_1).f0.f1), .int .i64 ((rd_T101 l0 x13_1).f0.f2), .string ((rd_T101 l0 x13_1).f0.f3), .int .i64 ((rd_T101 l0 x13_1).f1.f0), .bool false, .int .i64 ((rd_T101 l0 x13_1).f1.f2), .int .i64 ((rd_T101 l0 x13_1).f1.f3.f0), .int .i64 ((rd_T101 l0 x13_1).f1.f3.f1), .string ((rd_T101 l0 x13_1).f1.f3.f2)] 101 (0, 0)) (by (with_reducible repeat (first | refine blk_drewN ?_ _ | refine blk_drew ?_ | refine blk_alloc ?_ _)); exact BK161.out) hb)
                have n9_ := Aside0.mk (blk_below (g := gb175) (o := .cells #[.int .i64 ((rd_T101 l0 x13_1).f1.f0), .bool false, .int .i64 ((rd_T101 l0 x13_1).f1.f2), .int .i64 ((rd_T101 l0 x13_1).f1.f3.f0), .int .i64 ((rd_T101 l0 x13_1).f1.f3.f1), .string ((rd_T101 l0 x13_1).f1.f3.f2)] 99 (0, 0)) (by (with_reducible repeat (first | refine blk_drewN ?_ _ | refine blk_drew ?_ | refine blk_alloc ?_ _)); exact BK175.out) hb)
                have n10_ := Aside0.mk (below_step (by repeat (first | (with_reducible first | exact HB.out | apply below_alloc | apply pw_below_drewN | apply below_drew1 | refine below_set ?_ GE161.out | refine below_set ?_ GE175.out) | exact HB.out)) hb)
                clear HO_3
                clear HO164
                clear HO167
                clear HO171
                clear HO174
                clear HO189
                clear HO192
                clear BK161
                clear BK175
                clear HB
                have HO_3 := n0_
                have HO164 := n1_
                have HO167 := n2_
                have HO171 := n3_
                have HO174 := n4_
                have HO189 := n5_
                have HO192 := n6_
                have HO196 := n7_
                have BK161 := n8_
                have BK175 := n9_
                have HB := n10_
                clear n0_ n1_ n2_ n3_ n4_ n5_ n6_ n7_ n8_ n9_ n10_
                (try clear hb)
                (try clear hb2)
                (try clear hk)
                (try clear hi)
                (try clear ho0)
                obtain ⟨Ao75, co75, eo75⟩ := Kd.R_slice HO196.out
                (first | subst eo75 | (injection eo75 with f1_ f2_ f3_; have f4_ := f1_.symm; have f5_ := f3_.symm; clear f1_ f2_ f3_; subst f4_; subst f5_))
                refine hK.out _ _ ⟨(blk_cell BK175.out 0).trans rfl, (blk_cell BK175.out 1).trans rfl, (blk_cell BK175.out 2).trans rfl, (blk_cell BK175.out 3).trans rfl, (blk_cell BK175.out 4).trans rfl, (blk_cell BK175.out 5).trans rfl⟩ (fun hHeld => ?_)
                clear hK K
                refine norm_ (a' := ?_) ?_ ?_
                rotate_left
                · show Act.put _ (some 65) _ = _
                  simp only [Act.put, List.setIfInBounds_toArray, List.set_cons_zero, List.set_cons_succ, i64_w, i32_w]
                  rfl
                refine one_ (i := 9) (N := some 69) #[true, true, true, true, true, true, true, true, true, true, false] rfl rfl (one_of HT_.out (by kernel_rfl)) (by decide) (fun K hK => ?_)
                refine goes_ Try.func36 (by kernel_rfl) rfl #[.slice Ao75 t194.length co75, .string ((rd_T101 l0 x13_1).f1.f3.f2)] (by rfl) rfl rfl (by (try simp only [List.map_toArray, List.map_cons, List.map_nil]); first | done | rfl | (simp only [List.length_drop, List.length_take]; rfl)) ?_
                with_reducible refine (skerryref01_PutText.calls k1 _ _ t194 ((rd_T101 l0 x13_1).f1.f3.f2) t197 _ ?side1 ?side2 A47.out).mono ?_
                (case side1 => repeat (first | exact (Kd.R_reads' HO196.out).2.2 | (with_reducible refine Kd.C_alloc ?_ _) | (with_reducible refine Kd.C_drewN ?_ _) | (with_reducible refine Kd.C_drew ?_)))
                (case side2 => exact (Kd.R_reads' HO196.out).2.1)
                rintro e w76 ⟨v198, rfl, ho0, hb⟩
                refine ⟨_, rfl, ?_⟩
                have n0_ := Aside0.mk (Kd.R_elder' (by (with_reducible repeat (first | apply Kd.R_alloc | apply Kd.R_drewN | apply Kd.R_drew)); exact HO_3.out) (Kd.R_base ho0) hb)
                have n1_ := Aside0.mk (Kd.R_elder' (by (with_reducible repeat (first | apply Kd.R_alloc | apply Kd.R_drewN | apply Kd.R_drew)); exact HO164.out) (Kd.R_base ho0) hb)
                have n2_ := Aside0.mk (Kd.R_elder' (by (with_reducible repeat (first | apply Kd.R_alloc | apply Kd.R_drewN | apply Kd.R_drew)); exact HO167.out) (Kd.R_base ho0) hb)
                have n3_ := Aside0.mk (Kd.R_elder' (by (with_reducible repeat (first | apply Kd.R_alloc | apply Kd.R_drewN | apply Kd.R_drew)); exact HO171.out) (Kd.R_base ho0) hb)
                have n4_ := Aside0.mk (Kd.R_elder' (by (with_reducible repeat (first | apply Kd.R_alloc | apply Kd.R_drewN | apply Kd.R_drew)); exact HO174.out) (Kd.R_base ho0) hb)
                have n5_ := Aside0.mk (Kd.R_elder' (by (with_reducible repeat (first | apply Kd.R_alloc | apply Kd.R_drewN | apply Kd.R_drew)); exact HO189.out) (Kd.R_base ho0) hb)
                have n6_ := Aside0.mk (Kd.R_elder' (by (with_reducible repeat (first | apply Kd.R_alloc | apply Kd.R_drewN | apply Kd.R_drew)); exact HO192.out) (Kd.R_base ho0) hb)
                have n7_ := Aside0.mk (Kd.R_elder' (by (with_reducible repeat (first | apply Kd.R_alloc | apply Kd.R_drewN | apply Kd.R_drew)); exact HO196.out) (Kd.R_base ho0) hb)
                have n8_ := Aside0.mk (Kd.R_lower (Kd.R_new' (Kd.R_new' (Kd.R_new' (Kd.R_new' (Kd.R_new' (Kd.R_new' (Kd.R_new' (Kd.R_new' ho0 (Kd.R_lt (by (with_reducible repeat (first | apply Kd.R_alloc | apply Kd.R_drewN | apply Kd.R_drew)); exact HO_3.out))) (Kd.R_lt (by (with_reducible repeat (first | apply Kd.R_alloc | apply Kd.R_drewN | apply Kd.R_drew)); exact HO164.out))) (Kd.R_lt (by (with_reducible repeat (first | apply Kd.R_alloc | apply Kd.R_drewN | apply Kd.R_drew)); exact HO167.out))) (Kd.R_lt (by (with_reducible repeat (first | apply Kd.R_alloc | apply Kd.R_drewN | apply Kd.R_drew)); exact HO171.out))) (Kd.R_lt (by (with_reducible repeat (first | apply Kd.R_alloc | apply Kd.R_drewN | apply Kd.R_drew)); exact HO174.out))) (Kd.R_lt (by (with_reducible repeat (first | apply Kd.R_alloc | apply Kd.R_drewN | apply Kd.R_drew)); exact HO189.out))) (Kd.R_lt (by (with_reducible repeat (first | apply Kd.R_alloc | apply Kd.R_drewN | apply Kd.R_drew)); exact HO192.out))) (Kd.R_lt (by (with_reducible repeat (first | apply Kd.R_alloc | apply Kd.R_drewN | apply Kd.R_drew)); exact HO196.out))) (below_size (by repeat (first | (with_reducible first | exact HB.out | apply below_alloc | apply pw_below_drewN | apply below_drew1 | refine below_set ?_ GE161.out | refine below_set ?_ GE175.out) | exact HB.out))))
                have n9_ := Aside0.mk (blk_below (g := gb161) (o := .cells #[.string ((rd_T101 l0 x13_1).f0.f0), .string ((rd_T101 l0 x13_1).f0.f1), .int .i64 ((rd_T101 l0 x13_1).f0.f2), .string ((rd_T101 l0 x13_1).f0.f3), .int .i64 ((rd_T101 l0 x13_1).f1.f0), .bool false, .int .i64 ((rd_T101 l0 x13_1).f1.f2), .int .i64 ((rd_T101 l0 x13_1).f1.f3.f0), .int .i64 ((rd_T101 l0 x13_1).f1.f3.f1), .string ((rd_T101 l0 x13_1).f1.f3.f2)] 101 (0, 0)) (by (with_reducible repeat (first | refine blk_drewN ?_ _ | refine blk_drew ?_ | refine blk_alloc ?_ _)); exact BK161.out) hb)
                have n10_ := Aside0.mk (blk_below (g := gb175) (o := .cells #[.int .i64 ((rd_T101 l0 x13_1).f1.f0), .bool false, .int .i64 ((rd_T101 l0 x13_1).f1.f2), .int .i64 ((rd_T101 l0 x13_1).f1.f3.f0), .int .i64 ((rd_T101 l0 x13_1).f1.f3.f1), .string ((rd_T101 l0 x13_1).f1.f3.f2)] 99 (0, 0)) (by (with_reducible repeat (first | refine blk_drewN ?_ _ | refine blk_drew ?_ | refine blk_alloc ?_ _)); exact BK175.out) hb)
                have n11_ := Aside0.mk (below_step (by repeat (first | (with_reducible first | exact HB.out | apply below_alloc | apply pw_below_drewN | apply below_drew1 | refine below_set ?_ GE161.out | refine below_set ?_ GE175.out) | exact HB.out)) hb)
                clear HO_3
                clear HO164
                clear HO167
                clear HO171
                clear HO174
                clear HO189
                clear HO192
                clear HO196
                clear BK161
                clear BK175
                clear HB
                have HO_3 := n0_
                have HO164 := n1_
                have HO167 := n2_
                have HO171 := n3_
                have HO174 := n4_
                have HO189 := n5_
                have HO192 := n6_
                have HO196 := n7_
                have HO199 := n8_
                have BK161 := n9_
                have BK175 := n10_
                have HB := n11_
                clear n0_ n1_ n2_ n3_ n4_ n5_ n6_ n7_ n8_ n9_ n10_ n11_
                (try clear hb)
                (try clear hb2)
                (try clear hk)
                (try clear hi)
                (try clear ho0)
                refine hK.out _ _ ⟨(blk_cell BK175.out 0).trans rfl, (blk_cell BK175.out 1).trans rfl, (blk_cell BK175.out 2).trans rfl, (blk_cell BK175.out 3).trans rfl, (blk_cell BK175.out 4).trans rfl, (blk_cell BK175.out 5).trans rfl⟩ (fun hHeld => ?_)
                clear hK K
                refine norm_ (a' := ?_) ?_ ?_
                rotate_left
                · show Act.put _ (some 69) _ = _
                  simp only [Act.put, List.setIfInBounds_toArray, List.set_cons_zero, List.set_cons_succ, i64_w, i32_w]
                  rfl
                refine pure_ (i := 10) (N := some 3) (v := ?_) (a' := ?_) #[true, true, true, true, true, true, true, true, true, true, true] rfl rfl (any_of HT_.out (by kernel_rfl)) (fun _ _ _ h => h) (Or.inl ⟨by rfl, ?_⟩) ?_ ?_
                rotate_left
                · intro w'
                  go_simp
                  with_reducible rfl
                rotate_left
                · simp only [Act.put, List.setIfInBounds_toArray, List.set_cons_zero, List.set_cons_succ, i64_w, i32_w]
                  rfl
                refine done_ (done_of HT_.out (by kernel_rfl)) ?_
                try go_wp2
                go_roundg k1
                case measure => have := HK1.out; omega
                case rel => exact ⟨(t197), (wrap64 (x13_1 + 1)), (by first | rfl | (simp; done) | (simp [*]; done)), H', ⟨by have := HK1.out; omega⟩, ⟨by (with_reducible repeat (first | apply Kd.R_alloc | apply Kd.R_drewN | apply Kd.R_drew)); exact Kd.R_mono HO199.out (fun _ hk => trivial)⟩, ⟨by repeat (first | (with_reducible first | exact HB.out | apply below_alloc | apply pw_below_drewN | apply below_drew1 | refine below_set ?_ GE161.out | refine below_set ?_ GE175.out) | exact HB.out)⟩⟩
              · rw [if_neg c43] at H
                exact absurd H (by simp)
          · rw [if_neg c6] at H
            exact absurd H (by simp)
        · rw [if_neg c5] at H
          exact absurd H (by simp)
      · rw [if_neg c4] at H
        have c4b0 : decide (x13_1 < (l0.length : Int)) = false := decide_eq_false c4
        clear c4
        obtain rfl := Option.some.inj H
        go_wp2
        go_ret
        exact ⟨_, by first | rfl | (simp [errW_none, errW_some] <;> rfl) | (simp [*, errW_none, errW_some] <;> rfl), by (with_reducible repeat (first | apply Kd.R_alloc | apply Kd.R_drewN | apply Kd.R_drew)); exact HO_3.out, by repeat (first | (with_reducible first | exact HB.out | apply below_alloc | apply pw_below_drewN | apply below_drew1) | exact HB.out)⟩
end Go.Proofs.Ytcopbkdlpfcjpaa.G
namespace Go.Proofs.Ytcopbkdlpfcjpaa.G
open Go.RowKit Go.Proofs.YtcopbkdlpfcjpaaW.PrintWords Go.Proofs.YtcopbkdlpfcjpaaW.PrintLast Go.Proofs.YtcopbkdlpfcjpaaW.PrintMore Go.Proofs.Ytcopbkdlpfcjpaa.B Go.Proofs.Ytcopbkdlpfcjpaa.H
attribute [local go_sem] max2_int min2_int max_two min_two max_three min_three max_four min_four
set_option linter.unusedVariables false
set_option linter.unusedSimpArgs false
theorem eqA95 (d : Nat) (w : World) (x0 y0 : ByteArray) (x1 y1 : ByteArray) (x2 y2 : Int) (x3 y3 : ByteArray) :
    (Op.equalIn (d + 2) 95 (.agg #[.string x0, .string x1, .int .i64 x2, .string x3]) (.agg #[.string y0, .string y1, .int .i64 y2, .string y3])).run Try.prog w = .ok (x0.toList == y0.toList && (x1.toList == y1.toList && (x2 == y2 && (x3.toList == y3.toList)))) w := by
  refine eqA_of Try.underlying95 (by kernel_rfl) ?_
  refine eqf_cons (by rfl) (by go_simp; rfl) (by go_simp; rfl) (by go_simp) ?_
  refine eqf_cons (by rfl) (by go_simp; rfl) (by go_simp; rfl) (by go_simp) ?_
  refine eqf_cons (by rfl) (by go_simp; rfl) (by go_simp; rfl) (by go_simp) ?_
  exact eqf_last (by rfl) (by go_simp; rfl) (by go_simp; rfl) (by go_simp)
theorem eqA97 (d : Nat) (w : World) (x0 y0 : Int) (x1 y1 : Int) (x2 y2 : ByteArray) :
    (Op.equalIn (d + 2) 97 (.agg #[.int .i64 x0, .int .i64 x1, .string x2]) (.agg #[.int .i64 y0, .int .i64 y1, .string y2])).run Try.prog w = .ok (x0 == y0 && (x1 == y1 && (x2.toList == y2.toList))) w := by
  refine eqA_of Try.underlying97 (by kernel_rfl) ?_
  refine eqf_cons (by rfl) (by go_simp; rfl) (by go_simp; rfl) (by go_simp) ?_
  refine eqf_cons (by rfl) (by go_simp; rfl) (by go_simp; rfl) (by go_simp) ?_
  exact eqf_last (by rfl) (by go_simp; rfl) (by go_simp; rfl) (by go_simp)
theorem eqA99 (d : Nat) (w : World) (x0 y0 : Int) (x1 y1 : Bool) (x2 y2 : Int) (x3 y3 : Int) (x4 y4 : Int) (x5 y5 : ByteArray) :
    (Op.equalIn (d + 3) 99 (.agg #[.int .i64 x0, .bool x1, .int .i64 x2, .int .i64 x3, .int .i64 x4, .string x5]) (.agg #[.int .i64 y0, .bool y1, .int .i64 y2, .int .i64 y3, .int .i64 y4, .string y5])).run Try.prog w = .ok (x0 == y0 && (x1 == y1 && (x2 == y2 && ((x3 == y3 && (x4 == y4 && (x5.toList == y5.toList))))))) w := by
  refine eqA_of Try.underlying99 (by kernel_rfl) ?_
  refine eqf_cons (by rfl) (by go_simp; rfl) (by go_simp; rfl) (by go_simp) ?_
  refine eqf_cons (by rfl) (by go_simp; rfl) (by go_simp; rfl) (by go_simp) ?_
  refine eqf_cons (by rfl) (by go_simp; rfl) (by go_simp; rfl) (by go_simp) ?_
  exact eqf_last (by rfl) (by go_simp) (by go_simp) (eqA97 (d + 0) w _ _ _ _ _ _)
theorem eqA101 (d : Nat) (w : World) (x0 y0 : ByteArray) (x1 y1 : ByteArray) (x2 y2 : Int) (x3 y3 : ByteArray) (x4 y4 : Int) (x5 y5 : Bool) (x6 y6 : Int) (x7 y7 : Int) (x8 y8 : Int) (x9 y9 : ByteArray) :
    (Op.equalIn (d + 4) 101 (.agg #[.string x0, .string x1, .int .i64 x2, .string x3, .int .i64 x4, .bool x5, .int .i64 x6, .int .i64 x7, .int .i64 x8, .string x9]) (.agg #[.string y0, .string y1, .int .i64 y2, .string y3, .int .i64 y4, .bool y5, .int .i64 y6, .int .i64 y7, .int .i64 y8, .string y9])).run Try.prog w = .ok ((x0.toList == y0.toList && (x1.toList == y1.toList && (x2 == y2 && (x3.toList == y3.toList)))) && ((x4 == y4 && (x5 == y5 && (x6 == y6 && ((x7 == y7 && (x8 == y8 && (x9.toList == y9.toList))))))))) w := by
  refine eqA_of Try.underlying101 (by kernel_rfl) ?_
  refine eqf_cons (by rfl) (by go_simp) (by go_simp) (eqA95 (d + 1) w _ _ _ _ _ _ _ _) ?_
  exact eqf_last (by rfl) (by go_simp) (by go_simp) (eqA99 (d + 0) w _ _ _ _ _ _ _ _ _ _ _ _)
end Go.Proofs.Ytcopbkdlpfcjpaa.G
namespace Go.Proofs.Ytcopbkdlpfcjpaa.G
open Go.RowKit Go.Proofs.YtcopbkdlpfcjpaaW.PrintWords Go.Proofs.YtcopbkdlpfcjpaaW.PrintLast Go.Proofs.YtcopbkdlpfcjpaaW.PrintMore Go.Proofs.Ytcopbkdlpfcjpaa.B Go.Proofs.Ytcopbkdlpfcjpaa.H
attribute [local go_sem] max2_int min2_int max_two min_two max_three min_three max_four min_four
set_option linter.unusedVariables false
set_option linter.unusedSimpArgs false
attribute [local go_sem high] eqA101
def skerryref01_Like.l0 : Nat → List (S101) → List (S101) → Int → Int → Option (Bool)
  | 0, _, _, _, _ => none
  | k + 1, x0, x1, x12, x13 => if x13 < x12 then (if 0 ≤ x13 then (if x13 < (x0.length : Int) then (if x13 < (x1.length : Int) then (if ((!((((rd_T101 x0 x13).f0.f0).toList) == (((rd_T101 x1 x13).f0.f0).toList)) || (!((((rd_T101 x0 x13).f0.f1).toList) == (((rd_T101 x1 x13).f0.f1).toList)) || (!(((rd_T101 x0 x13).f0.f2) == ((rd_T101 x1 x13).f0.f2)) || (!((((rd_T101 x0 x13).f0.f3).toList) == (((rd_T101 x1 x13).f0.f3).toList)))))) || ((!(((rd_T101 x0 x13).f1.f0) == ((rd_T101 x1 x13).f1.f0)) || (!(((rd_T101 x0 x13).f1.f1) == ((rd_T101 x1 x13).f1.f1)) || (!(((rd_T101 x0 x13).f1.f2) == ((rd_T101 x1 x13).f1.f2)) || ((!(((rd_T101 x0 x13).f1.f3.f0) == ((rd_T101 x1 x13).f1.f3.f0)) || (!(((rd_T101 x0 x13).f1.f3.f1) == ((rd_T101 x1 x13).f1.f3.f1)) || (!((((rd_T101 x0 x13).f1.f3.f2).toList) == (((rd_T101 x1 x13).f1.f3.f2).toList))))))))))) = true then (some false) else (skerryref01_Like.l0 k x0 x1 x12 (wrap64 (x13 + 1)))) else (none)) else (none)) else (none)) else (some true)
def skerryref01_Like.f (k : Nat) (l0 : List (S101)) (l1 : List (S101)) : Option (Bool) := if (l0.length : Int) = (l1.length : Int) then (skerryref01_Like.l0 k l0 l1 (l0.length : Int) 0) else (some false)
theorem skerryref01_Like.mono_l : ∀ k, (∀ y0 y1 y2 y3, LeO (skerryref01_Like.l0 k y0 y1 y2 y3) (skerryref01_Like.l0 (k + 1) y0 y1 y2 y3))
  | 0 => fun _ _ _ _ r h => by simp [skerryref01_Like.l0] at h
  | k + 1 => by
    have ih0 := skerryref01_Like.mono_l k
    · intro y0 y1 y2 y3
      unfold skerryref01_Like.l0
      repeat' first
      | (with_reducible exact ih0 _ _ _ _)
      | (with_reducible exact LeO.refl _)
      | (with_reducible exact LeO.none _)
      | (with_reducible refine LeO.ite ?_ ?_)
      | (with_reducible refine LeO.bind ?_ (fun _ => ?_))
      | exact ih0 _ _ _ _
      | exact LeO.none _
      | refine LeO.ite ?_ ?_
      | refine LeO.bind ?_ (fun _ => ?_)
theorem skerryref01_Like.mono : ∀ a0 a1 k, LeO (skerryref01_Like.f k a0 a1) (skerryref01_Like.f (k + 1) a0 a1) := by
  intro a0 a1 k
  have ih0 := skerryref01_Like.mono_l k
  unfold skerryref01_Like.f
  repeat' first
      | (with_reducible exact ih0 _ _ _ _)
      | (with_reducible exact LeO.refl _)
      | (with_reducible exact LeO.none _)
      | (with_reducible refine LeO.ite ?_ ?_)
      | (with_reducible refine LeO.bind ?_ (fun _ => ?_))
      | exact ih0 _ _ _ _
      | exact LeO.none _
      | refine LeO.ite ?_ ?_
      | refine LeO.bind ?_ (fun _ => ?_)
set_option maxHeartbeats 8000000 in
set_option maxRecDepth 100000 in
theorem skerryref01_Like.calls (k : Nat) (A0 : Option Addr) (c0 : Nat) (l0 : List (S101)) (A1 : Option Addr) (c1 : Nat) (l1 : List (S101)) (r : Bool) (w : World) (hr0 : Kd.C k101 w A0 l0.length l0) (hc0 : l0.length ≤ c0) (hr1 : Kd.C k101 w A1 l1.length l1) (hc1 : l1.length ≤ c1) (h : skerryref01_Like.f k l0 l1 = some r) :
    Calls Try.prog 72 #[.slice A0 l0.length c0, .slice A1 l1.length c1] w fun e w' => e = .returned (.bool r) ∧ Drawn0 w w' := by
  have hu101 := Try.underlying101
  have HR0 := Aside0.mk hr0
  have HC0 := Aside0.mk hc0
  clear hr0 hc0
  have HR1 := Aside0.mk hr1
  have HC1 := Aside0.mk hc1
  clear hr1 hc1
  have H : (if (l0.length : Int) = (l1.length : Int) then (skerryref01_Like.l0 k l0 l1 (l0.length : Int) 0) else (some false)) = some r := h
  clear h
  by_cases c3 : (l0.length : Int) = (l1.length : Int)
  · rw [if_pos c3] at H
    have c3b0 : ((l0.length : Int) == (l1.length : Int)) = true := beq_iff_eq.mpr c3
    have c3b1 : ((l0.length : Int) != (l1.length : Int)) = false := bne_eq_false_iff_eq.mpr c3
    have c3b2 : (l0.length == l1.length) = true := by first | simpa using c3 | (simp at c3 ⊢; omega)
    clear c3
    have H' := Aside0.mk H
    clear H
    go_enter Try.func72, Try.ntmps72
    go_wp2
    repeat (go_quiet (fail); try go_wp2)
    go_loopg [13] k (fun kq v13 w' => ∃ (x13_1 : Int), v13 = .int .i64 x13_1 ∧ Aside0 (skerryref01_Like.l0 kq l0 l1 (l0.length : Int) x13_1 = some r) ∧ Aside0 (kq ≤ k) ∧ Drawn0 w w')
    case atStart => exact ⟨(0), (by first | rfl | (simp; done) | (simp [*]; done)), H', ⟨Nat.le_refl _⟩, by repeat (first | exact Drawn0.refl _ | apply Drawn0.step)⟩
    case round =>
      clear H'
      try clear c1
      try clear p2
      try clear c3
      try clear c3b0
      try clear c3b1
      try clear c3b2
      obtain ⟨x13_1, rfl, HA, HK1, ⟨m1, rfl⟩⟩ := hrel
      cases gk with
      | zero => exact absurd HA.out (by simp [skerryref01_Like.l0])
      | succ k1 =>
        have H := HA.out
        clear HA
        simp only [skerryref01_Like.l0] at H
        by_cases c4 : x13_1 < (l0.length : Int)
        · rw [if_pos c4] at H
          have c4b0 : decide (x13_1 < (l0.length : Int)) = true := decide_eq_true c4
          clear c4
          by_cases c5 : 0 ≤ x13_1
          · rw [if_pos c5] at H
            have c5b0 : decide (0 ≤ x13_1) = true := decide_eq_true c5
            clear c5
            by_cases c6 : x13_1 < (l0.length : Int)
            · rw [if_pos c6] at H
              have c6b0 : decide (x13_1 < (l0.length : Int)) = true := decide_eq_true c6
              clear c6
              by_cases c7 : x13_1 < (l1.length : Int)
              · rw [if_pos c7] at H
                have c7b0 : decide (x13_1 < (l1.length : Int)) = true := decide_eq_true c7
                clear c7
                by_cases c8 : ((!((((rd_T101 l0 x13_1).f0.f0).toList) == (((rd_T101 l1 x13_1).f0.f0).toList)) || (!((((rd_T101 l0 x13_1).f0.f1).toList) == (((rd_T101 l1 x13_1).f0.f1).toList)) || (!(((rd_T101 l0 x13_1).f0.f2) == ((rd_T101 l1 x13_1).f0.f2)) || (!((((rd_T101 l0 x13_1).f0.f3).toList) == (((rd_T101 l1 x13_1).f0.f3).toList)))))) || ((!(((rd_T101 l0 x13_1).f1.f0) == ((rd_T101 l1 x13_1).f1.f0)) || (!(((rd_T101 l0 x13_1).f1.f1) == ((rd_T101 l1 x13_1).f1.f1)) || (!(((rd_T101 l0 x13_1).f1.f2) == ((rd_T101 l1 x13_1).f1.f2)) || ((!(((rd_T101 l0 x13_1).f1.f3.f0) == ((rd_T101 l1 x13_1).f1.f3.f0)) || (!(((rd_T101 l0 x13_1).f1.f3.f1) == ((rd_T101 l1 x13_1).f1.f3.f1)) || (!((((rd_T101 l0 x13_1).f1.f3.f2).toList) == (((rd_T101 l1 x13_1).f1.f3.f2).toList))))))))))) = true
                · rw [if_pos c8] at H
                  have c8b0 : ((!((((rd_T101 l0 x13_1).f0.f0).toList) == (((rd_T101 l1 x13_1).f0.f0).toList)) || (!((((rd_T101 l0 x13_1).f0.f1).toList) == (((rd_T101 l1 x13_1).f0.f1).toList)) || (!(((rd_T101 l0 x13_1).f0.f2) == ((rd_T101 l1 x13_1).f0.f2)) || (!((((rd_T101 l0 x13_1).f0.f3).toList) == (((rd_T101 l1 x13_1).f0.f3).toList)))))) || ((!(((rd_T101 l0 x13_1).f1.f0) == ((rd_T101 l1 x13_1).f1.f0)) || (!(((rd_T101 l0 x13_1).f1.f1) == ((rd_T101 l1 x13_1).f1.f1)) || (!(((rd_T101 l0 x13_1).f1.f2) == ((rd_T101 l1 x13_1).f1.f2)) || ((!(((rd_T101 l0 x13_1).f1.f3.f0) == ((rd_T101 l1 x13_1).f1.f3.f0)) || (!(((rd_T101 l0 x13_1).f1.f3.f1) == ((rd_T101 l1 x13_1).f1.f3.f1)) || (!((((rd_T101 l0 x13_1).f1.f3.f2).toList) == (((rd_T101 l1 x13_1).f1.f3.f2).toList))))))))))) = true := c8
                  clear c8
                  obtain rfl := Option.some.inj H
                  have p200 : 0 ≤ (x13_1 : Int) := of_decide_eq_true (by first | (with_reducible assumption) | assumption)
                  have q200 : x13_1 < (l0.length : Int) := of_decide_eq_true (by first | (with_reducible assumption) | assumption)
                  obtain ⟨ad200, e200, hx200_0, hx200_1, hx200_2, hx200_3, hx200_4, hx200_5, hx200_6, hx200_7, hx200_8, hx200_9⟩ := at_T101 HR0.out x13_1 p200 q200
                  cases e200
                  replace p200 := eq_true p200
                  replace q200 := eq_true q200
                  have p201 : 0 ≤ (x13_1 : Int) := of_decide_eq_true (by first | (with_reducible assumption) | assumption)
                  have q201 : x13_1 < (l1.length : Int) := of_decide_eq_true (by first | (with_reducible assumption) | assumption)
                  obtain ⟨ad201, e201, hx201_0, hx201_1, hx201_2, hx201_3, hx201_4, hx201_5, hx201_6, hx201_7, hx201_8, hx201_9⟩ := at_T101 HR1.out x13_1 p201 q201
                  cases e201
                  replace p201 := eq_true p201
                  replace q201 := eq_true q201
                  go_wp2
                  repeat (go_quiet (fail); try go_wp2)
                  go_ret
                  exact ⟨by first | rfl | (simp; done) | (simp [*]; done), by repeat (first | exact Drawn0.refl _ | apply Drawn0.step)⟩
                · rw [if_neg c8] at H
                  have c8b0 : ((!((((rd_T101 l0 x13_1).f0.f0).toList) == (((rd_T101 l1 x13_1).f0.f0).toList)) || (!((((rd_T101 l0 x13_1).f0.f1).toList) == (((rd_T101 l1 x13_1).f0.f1).toList)) || (!(((rd_T101 l0 x13_1).f0.f2) == ((rd_T101 l1 x13_1).f0.f2)) || (!((((rd_T101 l0 x13_1).f0.f3).toList) == (((rd_T101 l1 x13_1).f0.f3).toList)))))) || ((!(((rd_T101 l0 x13_1).f1.f0) == ((rd_T101 l1 x13_1).f1.f0)) || (!(((rd_T101 l0 x13_1).f1.f1) == ((rd_T101 l1 x13_1).f1.f1)) || (!(((rd_T101 l0 x13_1).f1.f2) == ((rd_T101 l1 x13_1).f1.f2)) || ((!(((rd_T101 l0 x13_1).f1.f3.f0) == ((rd_T101 l1 x13_1).f1.f3.f0)) || (!(((rd_T101 l0 x13_1).f1.f3.f1) == ((rd_T101 l1 x13_1).f1.f3.f1)) || (!((((rd_T101 l0 x13_1).f1.f3.f2).toList) == (((rd_T101 l1 x13_1).f1.f3.f2).toList))))))))))) = false := by simpa using c8
                  clear c8
                  have H' := Aside0.mk H
                  clear H
                  have p200 : 0 ≤ (x13_1 : Int) := of_decide_eq_true (by first | (with_reducible assumption) | assumption)
                  have q200 : x13_1 < (l0.length : Int) := of_decide_eq_true (by first | (with_reducible assumption) | assumption)
                  obtain ⟨ad200, e200, hx200_0, hx200_1, hx200_2, hx200_3, hx200_4, hx200_5, hx200_6, hx200_7, hx200_8, hx200_9⟩ := at_T101 HR0.out x13_1 p200 q200
                  cases e200
                  replace p200 := eq_true p200
                  replace q200 := eq_true q200
                  have p201 : 0 ≤ (x13_1 : Int) := of_decide_eq_true (by first | (with_reducible assumption) | assumption)
                  have q201 : x13_1 < (l1.length : Int) := of_decide_eq_true (by first | (with_reducible assumption) | assumption)
                  obtain ⟨ad201, e201, hx201_0, hx201_1, hx201_2, hx201_3, hx201_4, hx201_5, hx201_6, hx201_7, hx201_8, hx201_9⟩ := at_T101 HR1.out x13_1 p201 q201
                  cases e201
                  replace p201 := eq_true p201
                  replace q201 := eq_true q201
                  go_wp2
                  repeat (go_quiet (fail); try go_wp2)
                  go_roundg k1
                  case measure => have := HK1.out; omega
                  case rel => exact ⟨(wrap64 (x13_1 + 1)), (by first | rfl | (simp; done) | (simp [*]; done)), H', ⟨by have := HK1.out; omega⟩, by repeat (first | exact Drawn0.refl _ | apply Drawn0.step)⟩
              · rw [if_neg c7] at H
                exact absurd H (by simp)
            · rw [if_neg c6] at H
              exact absurd H (by simp)
          · rw [if_neg c5] at H
            exact absurd H (by simp)
        · rw [if_neg c4] at H
          have c4b0 : decide (x13_1 < (l0.length : Int)) = false := decide_eq_false c4
          clear c4
          obtain rfl := Option.some.inj H
          go_wp2
          repeat (go_quiet (fail); try go_wp2)
          go_ret
          exact ⟨by first | rfl | (simp; done) | (simp [*]; done), by repeat (first | exact Drawn0.refl _ | apply Drawn0.step)⟩
  · rw [if_neg c3] at H
    have c3b0 : ((l0.length : Int) == (l1.length : Int)) = false := beq_eq_false_iff_ne.mpr c3
    have c3b1 : ((l0.length : Int) != (l1.length : Int)) = true := bne_iff_ne.mpr c3
    have c3b2 : (l0.length == l1.length) = false := by first | simpa using c3 | (simp at c3 ⊢; omega)
    obtain rfl := Option.some.inj H
    go_enter Try.func72, Try.ntmps72
    go_wp2
    repeat (go_quiet (fail); try go_wp2)
    go_ret
    exact ⟨by first | rfl | (simp; done) | (simp [*]; done), by repeat (first | exact Drawn0.refl _ | apply Drawn0.step)⟩
end Go.Proofs.Ytcopbkdlpfcjpaa.G
