/- Joined by a program of this session (slim.py) out of: Gx3, Gx1: what this claim uses of them. -/
import Derived.Test.YtcopbkdlpfcjpaaSb1
namespace Go.Proofs.Ytcopbkdlpfcjpaa.G
open Go.RowKit Go.Proofs.YtcopbkdlpfcjpaaW.PrintWords Go.Proofs.YtcopbkdlpfcjpaaW.PrintLast Go.Proofs.YtcopbkdlpfcjpaaW.PrintMore Go.Proofs.Ytcopbkdlpfcjpaa.B Go.Proofs.Ytcopbkdlpfcjpaa.H
attribute [local go_sem] max2_int min2_int max_two min_two max_three min_three max_four min_four
set_option linter.unusedVariables false
set_option linter.unusedSimpArgs false
def codec_Cells.l0 : Nat → List Int → List (S101) → Int → Int → Option (List Int)
  | 0, _, _, _, _ => none
  | k + 1, x3, x12, x13, x14 => if x14 < x13 then (if 0 ≤ x14 then (if x14 < (x12.length : Int) then ((codec_text.f k x3 ((rd_T101 x12 x14).f0.f0)).bind fun t120 => ((codec_text.f k t120 ((rd_T101 x12 x14).f0.f1)).bind fun t123 => ((codec_Zig.f ((rd_T101 x12 x14).f0.f2)).bind fun t126 => ((codec_put.f k t123 t126).bind fun t127 => ((codec_text.f k t127 ((rd_T101 x12 x14).f0.f3)).bind fun t130 => ((codec_Zig.f ((rd_T101 x12 x14).f1.f0)).bind fun t133 => ((codec_put.f k t130 t133).bind fun t134 => (if (rd_T101 x12 x14).f1.f1 = true then (if t134.length < 140737488355328 then ((codec_Zig.f ((rd_T101 x12 x14).f1.f2)).bind fun t140 => ((codec_put.f k (t134 ++ [1]) t140).bind fun t141 => (codec_Cells.l0 k t141 x12 x13 (wrap64 (x14 + 1))))) else (none)) else (if t134.length < 140737488355328 then ((codec_put.f k (t134 ++ [0]) (IntKind.u64.wrap ((rd_T101 x12 x14).f1.f3.f0))).bind fun t147 => ((codec_Zig.f ((rd_T101 x12 x14).f1.f3.f1)).bind fun t150 => ((codec_put.f k t147 t150).bind fun t151 => ((codec_text.f k t151 ((rd_T101 x12 x14).f1.f3.f2)).bind fun t154 => (codec_Cells.l0 k t154 x12 x13 (wrap64 (x14 + 1))))))) else (none)))))))))) else (none)) else (none)) else (some x3)
def codec_Cells.f (k : Nat) (l0 : List (S101)) : Option (List Int) := (codec_put.f k ([] : List Int) (IntKind.u64.wrap ((l0.length : Int)))).bind fun t113 => (codec_Cells.l0 k t113 l0 (l0.length : Int) 0)
theorem codec_Cells.mono_l : ∀ k, (∀ y0 y1 y2 y3, LeO (codec_Cells.l0 k y0 y1 y2 y3) (codec_Cells.l0 (k + 1) y0 y1 y2 y3))
  | 0 => fun _ _ _ _ r h => by simp [codec_Cells.l0] at h
  | k + 1 => by
    have ih0 := codec_Cells.mono_l k
    · intro y0 y1 y2 y3
      unfold codec_Cells.l0
      repeat' first
      | (with_reducible exact ih0 _ _ _ _)
      | (with_reducible exact codec_put.mono _ _ _)
      | (with_reducible exact codec_text.mono _ _ _)
      | (with_reducible exact LeO.refl _)
      | (with_reducible exact LeO.none _)
      | (with_reducible refine LeO.ite ?_ ?_)
      | (with_reducible refine LeO.bind ?_ (fun _ => ?_))
      | exact ih0 _ _ _ _
      | exact codec_put.mono _ _ _
      | exact codec_text.mono _ _ _
      | exact LeO.none _
      | refine LeO.ite ?_ ?_
      | refine LeO.bind ?_ (fun _ => ?_)
theorem codec_Cells.mono : ∀ a0 k, LeO (codec_Cells.f k a0) (codec_Cells.f (k + 1) a0) := by
  intro a0 k
  have ih0 := codec_Cells.mono_l k
  unfold codec_Cells.f
  repeat' first
      | (with_reducible exact ih0 _ _ _ _)
      | (with_reducible exact codec_put.mono _ _ _)
      | (with_reducible exact codec_text.mono _ _ _)
      | (with_reducible exact LeO.refl _)
      | (with_reducible exact LeO.none _)
      | (with_reducible refine LeO.ite ?_ ?_)
      | (with_reducible refine LeO.bind ?_ (fun _ => ?_))
      | exact ih0 _ _ _ _
      | exact codec_put.mono _ _ _
      | exact codec_text.mono _ _ _
      | exact LeO.none _
      | refine LeO.ite ?_ ?_
      | refine LeO.bind ?_ (fun _ => ?_)
def codec_Cells.T5 : Bool × List (List Nat × List Nat) := (true, [([], []), ([0], [0]), ([], []), ([2], [2]), ([], []), ([], []), ([4, 1, 0, 1, 4, 5], [1, 4]), ([5, 3, 6, 0, 1, 2, 3, 4, 5, 6], [3, 5])])
def codec_Cells.B5 : List Nat := [0, 1, 0, 4, 0, 0, 51, 127]
theorem codec_Cells.tab5 : rtab .any (opsOf Try.f70 5) = codec_Cells.T5 := by kernel_rfl
theorem codec_Cells.bits5 : waitsOk codec_Cells.T5.2 codec_Cells.B5 = true := by kernel_rfl
def codec_Cells.T6 : Bool × List (List Nat × List Nat) := (true, [([], []), ([], []), ([1], [1]), ([0, 2], [0, 2]), ([], []), ([4], [4]), ([3, 5, 3], [3, 5]), ([], []), ([7], [7]), ([8, 6], [8]), ([6, 9, 9], [6, 9]), ([], []), ([11], [11]), ([10, 12, 10], [10, 12]), ([13, 13, 0, 1, 2, 3, 4, 5, 6, 7, 8, 9, 10, 11, 12, 13], [0, 13])])
def codec_Cells.B6 : List Nat := [0, 0, 2, 7, 0, 16, 63, 0, 128, 511, 1023, 0, 2048, 8191, 16383]
theorem codec_Cells.tab6 : rtab .any (opsOf Try.f70 6) = codec_Cells.T6 := by kernel_rfl
theorem codec_Cells.bits6 : waitsOk codec_Cells.T6.2 codec_Cells.B6 = true := by kernel_rfl
def codec_Cells.T9 : Bool × List (List Nat × List Nat) := (true, [([], []), ([], []), ([0, 1], [0, 1]), ([], []), ([3], [3]), ([4, 2], [4]), ([2, 5, 5], [2, 5]), ([6, 6, 0, 1, 2, 3, 4, 5, 6], [0, 6])])
def codec_Cells.B9 : List Nat := [0, 0, 3, 0, 8, 31, 63, 127]
theorem codec_Cells.tab9 : rtab .any (opsOf Try.f70 9) = codec_Cells.T9 := by kernel_rfl
theorem codec_Cells.bits9 : waitsOk codec_Cells.T9.2 codec_Cells.B9 = true := by kernel_rfl
def codec_Cells.T10 : Bool × List (List Nat × List Nat) := (true, [([], []), ([], []), ([0, 1], [0, 1]), ([], []), ([3], [3]), ([4], [4]), ([5], [5]), ([2, 6, 2], [2, 6]), ([], []), ([8], [8]), ([9], [9]), ([10, 7], [10]), ([7, 11, 11], [7, 11]), ([], []), ([13], [13]), ([14], [14]), ([12, 15, 12], [12, 15]), ([16, 16, 0, 1, 2, 3, 4, 5, 6, 7, 8, 9, 10, 11, 12, 13, 14, 15, 16], [0, 16])])
def codec_Cells.B10 : List Nat := [0, 0, 3, 0, 8, 24, 56, 127, 0, 256, 768, 2047, 4095, 0, 8192, 24576, 65535, 131071]
theorem codec_Cells.tab10 : rtab .any (opsOf Try.f70 10) = codec_Cells.T10 := by kernel_rfl
theorem codec_Cells.bits10 : waitsOk codec_Cells.T10.2 codec_Cells.B10 = true := by kernel_rfl
set_option maxHeartbeats 8000000 in
set_option maxRecDepth 100000 in
theorem codec_Cells.calls (k : Nat) (A0 : Option Addr) (c0 : Nat) (l0 : List (S101)) (r : List Int) (w : World) (hr0 : Kd.C k101 w A0 l0.length l0) (hc0 : l0.length ≤ c0) (h : codec_Cells.f k l0 = some r) :
    Calls Try.prog 70 #[.slice A0 l0.length c0] w fun e w' => ∃ v0_ : Value, e = .returned (v0_) ∧ Kd.R (Kd.int .u8) 5 w' w.heap.size (fun _ => True) v0_ r ∧ Below w.heap.size w w' := by
  have hu101 := Try.underlying101
  have hu95 := Try.underlying95
  have hu99 := Try.underlying99
  have HR0 := Aside0.mk hr0
  have HC0 := Aside0.mk hc0
  clear hr0 hc0
  have HB := Aside0.mk (Below.refl w.heap.size w)
  have H : ((codec_put.f k ([] : List Int) (IntKind.u64.wrap ((l0.length : Int)))).bind fun t113 => (codec_Cells.l0 k t113 l0 (l0.length : Int) 0)) = some r := h
  clear h
  replace H := Option.bind_eq_some_iff.mp H
  obtain ⟨t113, A20, H⟩ := H
  replace H : (codec_Cells.l0 k t113 l0 (l0.length : Int) 0) = some r := H
  have A2 := Aside0.mk A20
  clear A20
  have H' := Aside0.mk H
  clear H
  go_enter Try.func70, Try.ntmps70
  go_wp2_with (first | ((with_reducible refine gate_callee (f := 73) rfl ?_); refine goesL_ (some 11) rfl rfl Try.func73 (by kernel_rfl) rfl #[.slice none 0 0, .int .u64 (IntKind.u64.wrap ((l0.length : Int)))] rfl (by (try simp only [List.map_toArray, List.map_cons, List.map_nil]); first | done | rfl | (simp only [List.length_drop, List.length_take]; rfl)) ?_; (refine (codec_put.calls k (fun k_ => some k_ = (.slice none 0 0 : Value).ownBlock) (.slice none 0 0) ([] : List Int) (IntKind.u64.wrap ((l0.length : Int))) t113 w _ ?side1 ?side2 A2.out).mono ?_); (case side1 => repeat (first | (with_reducible first | exact HB.out | apply below_alloc | apply pw_below_drewN | apply below_drew1) | exact HB.out)); (case side2 => exact Kd.R_nil _ _ _ _ _); rintro e w3 ⟨v114, rfl, ho0, hb, hkp⟩; refine ⟨_, rfl, ?_⟩; have n0_ := Aside0.mk (Kd.R_mono (ok' := fun k_ => True) ho0 (fun k_ hk_ => trivial)); have n1_ := Aside0.mk (hb); clear HB; have HO115 := n0_; have HB := n1_; clear n0_ n1_; (try clear hb); (try clear hkp); (try clear ho0)))
  go_loopg [3, 14] k (fun kq v3 v14 w' => ∃ (x3_1 : List Int) (x14_1 : Int), v14 = .int .i64 x14_1 ∧ Aside0 (codec_Cells.l0 kq x3_1 l0 (l0.length : Int) x14_1 = some r) ∧ Aside0 (kq ≤ k) ∧ Aside0 (Kd.R (Kd.int .u8) 5 w' w.heap.size (fun _ => True) v3 x3_1) ∧ Aside0 (Below w.heap.size w w'))
  case atStart => exact ⟨(t113), (0), (by first | rfl | (simp; done) | (simp [*]; done)), H', ⟨Nat.le_refl _⟩, ⟨by (with_reducible repeat (first | apply Kd.R_alloc | apply Kd.R_drewN | apply Kd.R_drew)); exact HO115.out⟩, ⟨by repeat (first | (with_reducible first | exact HB.out | apply below_alloc | apply pw_below_drewN | apply below_drew1) | exact HB.out)⟩⟩
  case round =>
    clear H'
    try clear p2
    obtain ⟨x3_1, x14_1, rfl, HA, HK1, HO_3, HB⟩ := hrel
    cases gk with
    | zero => exact absurd HA.out (by simp [codec_Cells.l0])
    | succ k1 =>
      have H := HA.out
      clear HA
      simp only [codec_Cells.l0] at H
      by_cases c4 : x14_1 < (l0.length : Int)
      · rw [if_pos c4] at H
        have c4b0 : decide (x14_1 < (l0.length : Int)) = true := decide_eq_true c4
        clear c4
        by_cases c5 : 0 ≤ x14_1
        · rw [if_pos c5] at H
          have c5b0 : decide (0 ≤ x14_1) = true := decide_eq_true c5
          clear c5
          by_cases c6 : x14_1 < (l0.length : Int)
          · rw [if_pos c6] at H
            have c6b0 : decide (x14_1 < (l0.length : Int)) = true := decide_eq_true c6
            clear c6
            replace H := Option.bind_eq_some_iff.mp H
            obtain ⟨t120, A70, H⟩ := H
            replace H : ((codec_text.f k1 t120 ((rd_T101 l0 x14_1).f0.f1)).bind fun t123 => ((codec_Zig.f ((rd_T101 l0 x14_1).f0.f2)).bind fun t126 => ((codec_put.f k1 t123 t126).bind fun t127 => ((codec_text.f k1 t127 ((rd_T101 l0 x14_1).f0.f3)).bind fun t130 => ((codec_Zig.f ((rd_T101 l0 x14_1).f1.f0)).bind fun t133 => ((codec_put.f k1 t130 t133).bind fun t134 => (if (rd_T101 l0 x14_1).f1.f1 = true then (if t134.length < 140737488355328 then ((codec_Zig.f ((rd_T101 l0 x14_1).f1.f2)).bind fun t140 => ((codec_put.f k1 (t134 ++ [1]) t140).bind fun t141 => (codec_Cells.l0 k1 t141 l0 (l0.length : Int) (wrap64 (x14_1 + 1))))) else (none)) else (if t134.length < 140737488355328 then ((codec_put.f k1 (t134 ++ [0]) (IntKind.u64.wrap ((rd_T101 l0 x14_1).f1.f3.f0))).bind fun t147 => ((codec_Zig.f ((rd_T101 l0 x14_1).f1.f3.f1)).bind fun t150 => ((codec_put.f k1 t147 t150).bind fun t151 => ((codec_text.f k1 t151 ((rd_T101 l0 x14_1).f1.f3.f2)).bind fun t154 => (codec_Cells.l0 k1 t154 l0 (l0.length : Int) (wrap64 (x14_1 + 1))))))) else (none))))))))) = some r := H
            have A7 := Aside0.mk A70
            clear A70
            replace H := Option.bind_eq_some_iff.mp H
            obtain ⟨t123, A80, H⟩ := H
            replace H : ((codec_Zig.f ((rd_T101 l0 x14_1).f0.f2)).bind fun t126 => ((codec_put.f k1 t123 t126).bind fun t127 => ((codec_text.f k1 t127 ((rd_T101 l0 x14_1).f0.f3)).bind fun t130 => ((codec_Zig.f ((rd_T101 l0 x14_1).f1.f0)).bind fun t133 => ((codec_put.f k1 t130 t133).bind fun t134 => (if (rd_T101 l0 x14_1).f1.f1 = true then (if t134.length < 140737488355328 then ((codec_Zig.f ((rd_T101 l0 x14_1).f1.f2)).bind fun t140 => ((codec_put.f k1 (t134 ++ [1]) t140).bind fun t141 => (codec_Cells.l0 k1 t141 l0 (l0.length : Int) (wrap64 (x14_1 + 1))))) else (none)) else (if t134.length < 140737488355328 then ((codec_put.f k1 (t134 ++ [0]) (IntKind.u64.wrap ((rd_T101 l0 x14_1).f1.f3.f0))).bind fun t147 => ((codec_Zig.f ((rd_T101 l0 x14_1).f1.f3.f1)).bind fun t150 => ((codec_put.f k1 t147 t150).bind fun t151 => ((codec_text.f k1 t151 ((rd_T101 l0 x14_1).f1.f3.f2)).bind fun t154 => (codec_Cells.l0 k1 t154 l0 (l0.length : Int) (wrap64 (x14_1 + 1))))))) else (none)))))))) = some r := H
            have A8 := Aside0.mk A80
            clear A80
            replace H := Option.bind_eq_some_iff.mp H
            obtain ⟨t126, A90, H⟩ := H
            replace H : ((codec_put.f k1 t123 t126).bind fun t127 => ((codec_text.f k1 t127 ((rd_T101 l0 x14_1).f0.f3)).bind fun t130 => ((codec_Zig.f ((rd_T101 l0 x14_1).f1.f0)).bind fun t133 => ((codec_put.f k1 t130 t133).bind fun t134 => (if (rd_T101 l0 x14_1).f1.f1 = true then (if t134.length < 140737488355328 then ((codec_Zig.f ((rd_T101 l0 x14_1).f1.f2)).bind fun t140 => ((codec_put.f k1 (t134 ++ [1]) t140).bind fun t141 => (codec_Cells.l0 k1 t141 l0 (l0.length : Int) (wrap64 (x14_1 + 1))))) else (none)) else (if t134.length < 140737488355328 then ((codec_put.f k1 (t134 ++ [0]) (IntKind.u64.wrap ((rd_T101 l0 x14_1).f1.f3.f0))).bind fun t147 => ((codec_Zig.f ((rd_T101 l0 x14_1).f1.f3.f1)).bind fun t150 => ((codec_put.f k1 t147 t150).bind fun t151 => ((codec_text.f k1 t151 ((rd_T101 l0 x14_1).f1.f3.f2)).bind fun t154 => (codec_Cells.l0 k1 t154 l0 (l0.length : Int) (wrap64 (x14_1 + 1))))))) else (none))))))) = some r := H
            have A9 := Aside0.mk A90
            clear A90
            replace H := Option.bind_eq_some_iff.mp H
            obtain ⟨t127, A100, H⟩ := H
            replace H : ((codec_text.f k1 t127 ((rd_T101 l0 x14_1).f0.f3)).bind fun t130 => ((codec_Zig.f ((rd_T101 l0 x14_1).f1.f0)).bind fun t133 => ((codec_put.f k1 t130 t133).bind fun t134 => (if (rd_T101 l0 x14_1).f1.f1 = true then (if t134.length < 140737488355328 then ((codec_Zig.f ((rd_T101 l0 x14_1).f1.f2)).bind fun t140 => ((codec_put.f k1 (t134 ++ [1]) t140).bind fun t141 => (codec_Cells.l0 k1 t141 l0 (l0.length : Int) (wrap64 (x14_1 + 1))))) else (none)) else (if t134.length < 140737488355328 then ((codec_put.f k1 (t134 ++ [0]) (IntKind.u64.wrap ((rd_T101 l0 x14_1).f1.f3.f0))).bind fun t147 => ((codec_Zig.f ((rd_T101 l0 x14_1).f1.f3.f1)).bind fun t150 => ((codec_put.f k1 t147 t150).bind fun t151 => ((codec_text.f k1 t151 ((rd_T101 l0 x14_1).f1.f3.f2)).bind fun t154 => (codec_Cells.l0 k1 t154 l0 (l0.length : Int) (wrap64 (x14_1 + 1))))))) else (none)))))) = some r := H
            have A10 := Aside0.mk A100
            clear A100
            replace H := Option.bind_eq_some_iff.mp H
            obtain ⟨t130, A110, H⟩ := H
            replace H : ((codec_Zig.f ((rd_T101 l0 x14_1).f1.f0)).bind fun t133 => ((codec_put.f k1 t130 t133).bind fun t134 => (if (rd_T101 l0 x14_1).f1.f1 = true then (if t134.length < 140737488355328 then ((codec_Zig.f ((rd_T101 l0 x14_1).f1.f2)).bind fun t140 => ((codec_put.f k1 (t134 ++ [1]) t140).bind fun t141 => (codec_Cells.l0 k1 t141 l0 (l0.length : Int) (wrap64 (x14_1 + 1))))) else (none)) else (if t134.length < 140737488355328 then ((codec_put.f k1 (t134 ++ [0]) (IntKind.u64.wrap ((rd_T101 l0 x14_1).f1.f3.f0))).bind fun t147 => ((codec_Zig.f ((rd_T101 l0 x14_1).f1.f3.f1)).bind fun t150 => ((codec_put.f k1 t147 t150).bind fun t151 => ((codec_text.f k1 t151 ((rd_T101 l0 x14_1).f1.f3.f2)).bind fun t154 => (codec_Cells.l0 k1 t154 l0 (l0.length : Int) (wrap64 (x14_1 + 1))))))) else (none))))) = some r := H
            have A11 := Aside0.mk A110
            clear A110
            replace H := Option.bind_eq_some_iff.mp H
            obtain ⟨t133, A120, H⟩ := H
            replace H : ((codec_put.f k1 t130 t133).bind fun t134 => (if (rd_T101 l0 x14_1).f1.f1 = true then (if t134.length < 140737488355328 then ((codec_Zig.f ((rd_T101 l0 x14_1).f1.f2)).bind fun t140 => ((codec_put.f k1 (t134 ++ [1]) t140).bind fun t141 => (codec_Cells.l0 k1 t141 l0 (l0.length : Int) (wrap64 (x14_1 + 1))))) else (none)) else (if t134.length < 140737488355328 then ((codec_put.f k1 (t134 ++ [0]) (IntKind.u64.wrap ((rd_T101 l0 x14_1).f1.f3.f0))).bind fun t147 => ((codec_Zig.f ((rd_T101 l0 x14_1).f1.f3.f1)).bind fun t150 => ((codec_put.f k1 t147 t150).bind fun t151 => ((codec_text.f k1 t151 ((rd_T101 l0 x14_1).f1.f3.f2)).bind fun t154 => (codec_Cells.l0 k1 t154 l0 (l0.length : Int) (wrap64 (x14_1 + 1))))))) else (none)))) = some r := H
            have A12 := Aside0.mk A120
            clear A120
            replace H := Option.bind_eq_some_iff.mp H
            obtain ⟨t134, A130, H⟩ := H
            replace H : (if (rd_T101 l0 x14_1).f1.f1 = true then (if t134.length < 140737488355328 then ((codec_Zig.f ((rd_T101 l0 x14_1).f1.f2)).bind fun t140 => ((codec_put.f k1 (t134 ++ [1]) t140).bind fun t141 => (codec_Cells.l0 k1 t141 l0 (l0.length : Int) (wrap64 (x14_1 + 1))))) else (none)) else (if t134.length < 140737488355328 then ((codec_put.f k1 (t134 ++ [0]) (IntKind.u64.wrap ((rd_T101 l0 x14_1).f1.f3.f0))).bind fun t147 => ((codec_Zig.f ((rd_T101 l0 x14_1).f1.f3.f1)).bind fun t150 => ((codec_put.f k1 t147 t150).bind fun t151 => ((codec_text.f k1 t151 ((rd_T101 l0 x14_1).f1.f3.f2)).bind fun t154 => (codec_Cells.l0 k1 t154 l0 (l0.length : Int) (wrap64 (x14_1 + 1))))))) else (none))) = some r := H
            have A13 := Aside0.mk A130
            clear A130
            obtain ⟨bq14, hbq14⟩ : ∃ b_ : Bool, b_ = ((rd_T101 l0 x14_1).f1.f1) := ⟨_, rfl⟩
            replace H : (if bq14 = true then (if t134.length < 140737488355328 then ((codec_Zig.f ((rd_T101 l0 x14_1).f1.f2)).bind fun t140 => ((codec_put.f k1 (t134 ++ [1]) t140).bind fun t141 => (codec_Cells.l0 k1 t141 l0 (l0.length : Int) (wrap64 (x14_1 + 1))))) else (none)) else (if t134.length < 140737488355328 then ((codec_put.f k1 (t134 ++ [0]) (IntKind.u64.wrap ((rd_T101 l0 x14_1).f1.f3.f0))).bind fun t147 => ((codec_Zig.f ((rd_T101 l0 x14_1).f1.f3.f1)).bind fun t150 => ((codec_put.f k1 t147 t150).bind fun t151 => ((codec_text.f k1 t151 ((rd_T101 l0 x14_1).f1.f3.f2)).bind fun t154 => (codec_Cells.l0 k1 t154 l0 (l0.length : Int) (wrap64 (x14_1 + 1))))))) else (none))) = some r := by rw [← hbq14] at H; exact H
            have Nbq14 := Aside0.mk hbq14
            clear hbq14
            by_cases c15 : bq14 = true
            · subst c15
              have H1 : (if t134.length < 140737488355328 then ((codec_Zig.f ((rd_T101 l0 x14_1).f1.f2)).bind fun t140 => ((codec_put.f k1 (t134 ++ [1]) t140).bind fun t141 => (codec_Cells.l0 k1 t141 l0 (l0.length : Int) (wrap64 (x14_1 + 1))))) else (none)) = some r := by rw [if_pos rfl] at H; exact H
              clear H
              have H := H1
              clear H1
              by_cases c16 : t134.length < 140737488355328
              · rw [if_pos c16] at H
                have LMc16 := Aside0.mk c16
                clear c16
                obtain ⟨y137, hy137⟩ : ∃ y_ : List Int, y_ = (t134 ++ [1]) := ⟨_, rfl⟩
                replace H : ((codec_Zig.f ((rd_T101 l0 x14_1).f1.f2)).bind fun t140 => ((codec_put.f k1 y137 t140).bind fun t141 => (codec_Cells.l0 k1 t141 l0 (l0.length : Int) (wrap64 (x14_1 + 1))))) = some r := by first | (rw [hy137]; with_reducible exact H) | (have H2_ := (Option.bind_some _ _).symm.trans H; rw [hy137]; with_reducible exact H2_) | (have H2_ := (Option.bind_some _ _).symm.trans H; with_reducible exact H2_) | with_reducible exact H | (rw [hy137]; exact H) | exact H
                have Ny137 := Aside0.mk hy137
                clear hy137
                replace H := Option.bind_eq_some_iff.mp H
                obtain ⟨t140, A170, H⟩ := H
                replace H : ((codec_put.f k1 y137 t140).bind fun t141 => (codec_Cells.l0 k1 t141 l0 (l0.length : Int) (wrap64 (x14_1 + 1)))) = some r := H
                have A17 := Aside0.mk A170
                clear A170
                replace H := Option.bind_eq_some_iff.mp H
                obtain ⟨t141, A180, H⟩ := H
                replace H : (codec_Cells.l0 k1 t141 l0 (l0.length : Int) (wrap64 (x14_1 + 1))) = some r := H
                have A18 := Aside0.mk A180
                clear A180
                have H' := Aside0.mk H
                clear H
                have p116 : 0 ≤ (x14_1 : Int) := of_decide_eq_true (by first | (with_reducible assumption) | assumption)
                have q116 : x14_1 < (l0.length : Int) := of_decide_eq_true (by first | (with_reducible assumption) | assumption)
                obtain ⟨ad116, e116, hx116_0, hx116_1, hx116_2, hx116_3, hx116_4, hx116_5, hx116_6, hx116_7, hx116_8, hx116_9⟩ := at_T101 HR0.out x14_1 p116 q116
                (try rw [← Nbq14.out] at hx116_5)
                cases e116
                replace hx116_0 := (HB.out.cell (World.block_lt_of_cell? w _ hx116_0)).trans hx116_0
                replace hx116_1 := (HB.out.cell (World.block_lt_of_cell? w _ hx116_1)).trans hx116_1
                replace hx116_2 := (HB.out.cell (World.block_lt_of_cell? w _ hx116_2)).trans hx116_2
                replace hx116_3 := (HB.out.cell (World.block_lt_of_cell? w _ hx116_3)).trans hx116_3
                replace hx116_4 := (HB.out.cell (World.block_lt_of_cell? w _ hx116_4)).trans hx116_4
                replace hx116_5 := (HB.out.cell (World.block_lt_of_cell? w _ hx116_5)).trans hx116_5
                replace hx116_6 := (HB.out.cell (World.block_lt_of_cell? w _ hx116_6)).trans hx116_6
                replace hx116_7 := (HB.out.cell (World.block_lt_of_cell? w _ hx116_7)).trans hx116_7
                replace hx116_8 := (HB.out.cell (World.block_lt_of_cell? w _ hx116_8)).trans hx116_8
                replace hx116_9 := (HB.out.cell (World.block_lt_of_cell? w _ hx116_9)).trans hx116_9
                replace p116 := eq_true p116
                replace q116 := eq_true q116
                try go_wp2_with (first | ((with_reducible refine gate_dst (N := 5) rfl ?_); refine box_event ?hg (N := 5) ?hd (cs := #[.string (⟨#[]⟩ : ByteArray), .string (⟨#[]⟩ : ByteArray), .int .i64 0, .string (⟨#[]⟩ : ByteArray), .int .i64 0, .bool false, .int .i64 0, .int .i64 0, .int .i64 0, .string (⟨#[]⟩ : ByteArray)]) (t := 101) ?hr ?_; (case hd => rfl); (case hg => rfl); (case hr => first | (go_simp; done) | (go_simp; rfl)); intro gb117 hg w19 hbox hb; have n0_ := Aside0.mk (Kd.R_below (by (with_reducible repeat (first | apply Kd.R_alloc | apply Kd.R_drewN | apply Kd.R_drew)); exact HO_3.out) hb); have n1_ := Aside0.mk (below_step (by repeat (first | (with_reducible first | exact HB.out | apply below_alloc | apply pw_below_drewN | apply below_drew1) | exact HB.out)) hb); have n2_ := Aside0.mk (hbox); have n3_ := Aside0.mk ((by rw [hg]; exact (below_size (by repeat (first | (with_reducible first | exact HB.out | apply below_alloc | apply pw_below_drewN | apply below_drew1) | exact HB.out))) : w.heap.size ≤ gb117)); have n4_ := Aside0.mk ((by rw [hg]; exact (below_size (by repeat (first | (with_reducible first | exact HB.out | apply below_alloc | apply pw_below_drewN | apply below_drew1) | exact HB.out))) : w.heap.size ≤ gb117)); clear HO_3; clear HB; have HO_3 := n0_; have HB := n1_; have BK117 := n2_; have GW117 := n3_; have GE117 := n4_; clear n0_ n1_ n2_ n3_ n4_; clear hb hbox hg; have hcz20_0 : w19.cell? ⟨gb117, 0, none⟩ = some (.string (⟨#[]⟩ : ByteArray)) := (blk_cell BK117.out 0).trans rfl; have hcz20_1 : w19.cell? ⟨gb117, 1, none⟩ = some (.string (⟨#[]⟩ : ByteArray)) := (blk_cell BK117.out 1).trans rfl; have hcz20_2 : w19.cell? ⟨gb117, 2, none⟩ = some (.int .i64 0) := (blk_cell BK117.out 2).trans rfl; have hcz20_3 : w19.cell? ⟨gb117, 3, none⟩ = some (.string (⟨#[]⟩ : ByteArray)) := (blk_cell BK117.out 3).trans rfl; have hcz20_4 : w19.cell? ⟨gb117, 4, none⟩ = some (.int .i64 0) := (blk_cell BK117.out 4).trans rfl; have hcz20_5 : w19.cell? ⟨gb117, 5, none⟩ = some (.bool false) := (blk_cell BK117.out 5).trans rfl; have hcz20_6 : w19.cell? ⟨gb117, 6, none⟩ = some (.int .i64 0) := (blk_cell BK117.out 6).trans rfl; have hcz20_7 : w19.cell? ⟨gb117, 7, none⟩ = some (.int .i64 0) := (blk_cell BK117.out 7).trans rfl; have hcz20_8 : w19.cell? ⟨gb117, 8, none⟩ = some (.int .i64 0) := (blk_cell BK117.out 8).trans rfl; have hcz20_9 : w19.cell? ⟨gb117, 9, none⟩ = some (.string (⟨#[]⟩ : ByteArray)) := (blk_cell BK117.out 9).trans rfl; have hfz20_0 := blk_frozen BK117.out 0; have hfz20_1 := blk_frozen BK117.out 1; have hfz20_2 := blk_frozen BK117.out 2; have hfz20_3 := blk_frozen BK117.out 3; have hfz20_4 := blk_frozen BK117.out 4; have hfz20_5 := blk_frozen BK117.out 5; have hfz20_6 := blk_frozen BK117.out 6; have hfz20_7 := blk_frozen BK117.out 7; have hfz20_8 := blk_frozen BK117.out 8; have hfz20_9 := blk_frozen BK117.out 9))
                have n0_ : Aside0 (Kd.R (Kd.int .u8) 5 ((((((((((w19.setCell ⟨gb117, 0, none⟩ (.string ((rd_T101 l0 x14_1).f0.f0))).setCell ⟨gb117, 1, none⟩ (.string ((rd_T101 l0 x14_1).f0.f1))).setCell ⟨gb117, 2, none⟩ (.int .i64 ((rd_T101 l0 x14_1).f0.f2))).setCell ⟨gb117, 3, none⟩ (.string ((rd_T101 l0 x14_1).f0.f3))).setCell ⟨gb117, 4, none⟩ (.int .i64 ((rd_T101 l0 x14_1).f1.f0))).setCell ⟨gb117, 5, none⟩ (.bool true)).setCell ⟨gb117, 6, none⟩ (.int .i64 ((rd_T101 l0 x14_1).f1.f2))).setCell ⟨gb117, 7, none⟩ (.int .i64 ((rd_T101 l0 x14_1).f1.f3.f0))).setCell ⟨gb117, 8, none⟩ (.int .i64 ((rd_T101 l0 x14_1).f1.f3.f1))).setCell ⟨gb117, 9, none⟩ (.string ((rd_T101 l0 x14_1).f1.f3.f2))) w.heap.size (fun _ => True) u3 x3_1) := ⟨by (with_reducible repeat (first | apply Kd.R_alloc | apply Kd.R_drewN | apply Kd.R_drew)); exact Kd.R_mono (Kd.R_far (p := ⟨gb117, 9, none⟩) (Kd.R_far (p := ⟨gb117, 8, none⟩) (Kd.R_far (p := ⟨gb117, 7, none⟩) (Kd.R_far (p := ⟨gb117, 6, none⟩) (Kd.R_far (p := ⟨gb117, 5, none⟩) (Kd.R_far (p := ⟨gb117, 4, none⟩) (Kd.R_far (p := ⟨gb117, 3, none⟩) (Kd.R_far (p := ⟨gb117, 2, none⟩) (Kd.R_far (p := ⟨gb117, 1, none⟩) (Kd.R_far (p := ⟨gb117, 0, none⟩) (Kd.R_types HO_3.out BK117.out (by decide)) (fun _ hk => hk.2) (.string ((rd_T101 l0 x14_1).f0.f0))) (fun _ hk => hk.2) (.string ((rd_T101 l0 x14_1).f0.f1))) (fun _ hk => hk.2) (.int .i64 ((rd_T101 l0 x14_1).f0.f2))) (fun _ hk => hk.2) (.string ((rd_T101 l0 x14_1).f0.f3))) (fun _ hk => hk.2) (.int .i64 ((rd_T101 l0 x14_1).f1.f0))) (fun _ hk => hk.2) (.bool true)) (fun _ hk => hk.2) (.int .i64 ((rd_T101 l0 x14_1).f1.f2))) (fun _ hk => hk.2) (.int .i64 ((rd_T101 l0 x14_1).f1.f3.f0))) (fun _ hk => hk.2) (.int .i64 ((rd_T101 l0 x14_1).f1.f3.f1))) (fun _ hk => hk.2) (.string ((rd_T101 l0 x14_1).f1.f3.f2))) (fun _ hk => trivial)⟩
                have n1_ : Aside0 (((((((((((w19.setCell ⟨gb117, 0, none⟩ (.string ((rd_T101 l0 x14_1).f0.f0))).setCell ⟨gb117, 1, none⟩ (.string ((rd_T101 l0 x14_1).f0.f1))).setCell ⟨gb117, 2, none⟩ (.int .i64 ((rd_T101 l0 x14_1).f0.f2))).setCell ⟨gb117, 3, none⟩ (.string ((rd_T101 l0 x14_1).f0.f3))).setCell ⟨gb117, 4, none⟩ (.int .i64 ((rd_T101 l0 x14_1).f1.f0))).setCell ⟨gb117, 5, none⟩ (.bool true)).setCell ⟨gb117, 6, none⟩ (.int .i64 ((rd_T101 l0 x14_1).f1.f2))).setCell ⟨gb117, 7, none⟩ (.int .i64 ((rd_T101 l0 x14_1).f1.f3.f0))).setCell ⟨gb117, 8, none⟩ (.int .i64 ((rd_T101 l0 x14_1).f1.f3.f1))).setCell ⟨gb117, 9, none⟩ (.string ((rd_T101 l0 x14_1).f1.f3.f2))).heap[gb117]? = some (.cells #[.string ((rd_T101 l0 x14_1).f0.f0), .string ((rd_T101 l0 x14_1).f0.f1), .int .i64 ((rd_T101 l0 x14_1).f0.f2), .string ((rd_T101 l0 x14_1).f0.f3), .int .i64 ((rd_T101 l0 x14_1).f1.f0), .bool true, .int .i64 ((rd_T101 l0 x14_1).f1.f2), .int .i64 ((rd_T101 l0 x14_1).f1.f3.f0), .int .i64 ((rd_T101 l0 x14_1).f1.f3.f1), .string ((rd_T101 l0 x14_1).f1.f3.f2)] 101 (0, 0))) := ⟨by (with_reducible repeat (first | refine blk_drewN ?_ _ | refine blk_drew ?_ | refine blk_alloc ?_ _)); refine blk_put (cs := #[.string ((rd_T101 l0 x14_1).f0.f0), .string ((rd_T101 l0 x14_1).f0.f1), .int .i64 ((rd_T101 l0 x14_1).f0.f2), .string ((rd_T101 l0 x14_1).f0.f3), .int .i64 ((rd_T101 l0 x14_1).f1.f0), .bool true, .int .i64 ((rd_T101 l0 x14_1).f1.f2), .int .i64 ((rd_T101 l0 x14_1).f1.f3.f0), .int .i64 ((rd_T101 l0 x14_1).f1.f3.f1), .string (⟨#[]⟩ : ByteArray)]) ?_ 9 _ rfl; (with_reducible repeat (first | refine blk_drewN ?_ _ | refine blk_drew ?_ | refine blk_alloc ?_ _)); refine blk_put (cs := #[.string ((rd_T101 l0 x14_1).f0.f0), .string ((rd_T101 l0 x14_1).f0.f1), .int .i64 ((rd_T101 l0 x14_1).f0.f2), .string ((rd_T101 l0 x14_1).f0.f3), .int .i64 ((rd_T101 l0 x14_1).f1.f0), .bool true, .int .i64 ((rd_T101 l0 x14_1).f1.f2), .int .i64 ((rd_T101 l0 x14_1).f1.f3.f0), .int .i64 0, .string (⟨#[]⟩ : ByteArray)]) ?_ 8 _ rfl; (with_reducible repeat (first | refine blk_drewN ?_ _ | refine blk_drew ?_ | refine blk_alloc ?_ _)); refine blk_put (cs := #[.string ((rd_T101 l0 x14_1).f0.f0), .string ((rd_T101 l0 x14_1).f0.f1), .int .i64 ((rd_T101 l0 x14_1).f0.f2), .string ((rd_T101 l0 x14_1).f0.f3), .int .i64 ((rd_T101 l0 x14_1).f1.f0), .bool true, .int .i64 ((rd_T101 l0 x14_1).f1.f2), .int .i64 0, .int .i64 0, .string (⟨#[]⟩ : ByteArray)]) ?_ 7 _ rfl; (with_reducible repeat (first | refine blk_drewN ?_ _ | refine blk_drew ?_ | refine blk_alloc ?_ _)); refine blk_put (cs := #[.string ((rd_T101 l0 x14_1).f0.f0), .string ((rd_T101 l0 x14_1).f0.f1), .int .i64 ((rd_T101 l0 x14_1).f0.f2), .string ((rd_T101 l0 x14_1).f0.f3), .int .i64 ((rd_T101 l0 x14_1).f1.f0), .bool true, .int .i64 0, .int .i64 0, .int .i64 0, .string (⟨#[]⟩ : ByteArray)]) ?_ 6 _ rfl; (with_reducible repeat (first | refine blk_drewN ?_ _ | refine blk_drew ?_ | refine blk_alloc ?_ _)); refine blk_put (cs := #[.string ((rd_T101 l0 x14_1).f0.f0), .string ((rd_T101 l0 x14_1).f0.f1), .int .i64 ((rd_T101 l0 x14_1).f0.f2), .string ((rd_T101 l0 x14_1).f0.f3), .int .i64 ((rd_T101 l0 x14_1).f1.f0), .bool false, .int .i64 0, .int .i64 0, .int .i64 0, .string (⟨#[]⟩ : ByteArray)]) ?_ 5 _ rfl; (with_reducible repeat (first | refine blk_drewN ?_ _ | refine blk_drew ?_ | refine blk_alloc ?_ _)); refine blk_put (cs := #[.string ((rd_T101 l0 x14_1).f0.f0), .string ((rd_T101 l0 x14_1).f0.f1), .int .i64 ((rd_T101 l0 x14_1).f0.f2), .string ((rd_T101 l0 x14_1).f0.f3), .int .i64 0, .bool false, .int .i64 0, .int .i64 0, .int .i64 0, .string (⟨#[]⟩ : ByteArray)]) ?_ 4 _ rfl; (with_reducible repeat (first | refine blk_drewN ?_ _ | refine blk_drew ?_ | refine blk_alloc ?_ _)); refine blk_put (cs := #[.string ((rd_T101 l0 x14_1).f0.f0), .string ((rd_T101 l0 x14_1).f0.f1), .int .i64 ((rd_T101 l0 x14_1).f0.f2), .string (⟨#[]⟩ : ByteArray), .int .i64 0, .bool false, .int .i64 0, .int .i64 0, .int .i64 0, .string (⟨#[]⟩ : ByteArray)]) ?_ 3 _ rfl; (with_reducible repeat (first | refine blk_drewN ?_ _ | refine blk_drew ?_ | refine blk_alloc ?_ _)); refine blk_put (cs := #[.string ((rd_T101 l0 x14_1).f0.f0), .string ((rd_T101 l0 x14_1).f0.f1), .int .i64 0, .string (⟨#[]⟩ : ByteArray), .int .i64 0, .bool false, .int .i64 0, .int .i64 0, .int .i64 0, .string (⟨#[]⟩ : ByteArray)]) ?_ 2 _ rfl; (with_reducible repeat (first | refine blk_drewN ?_ _ | refine blk_drew ?_ | refine blk_alloc ?_ _)); refine blk_put (cs := #[.string ((rd_T101 l0 x14_1).f0.f0), .string (⟨#[]⟩ : ByteArray), .int .i64 0, .string (⟨#[]⟩ : ByteArray), .int .i64 0, .bool false, .int .i64 0, .int .i64 0, .int .i64 0, .string (⟨#[]⟩ : ByteArray)]) ?_ 1 _ rfl; (with_reducible repeat (first | refine blk_drewN ?_ _ | refine blk_drew ?_ | refine blk_alloc ?_ _)); refine blk_put (cs := #[.string (⟨#[]⟩ : ByteArray), .string (⟨#[]⟩ : ByteArray), .int .i64 0, .string (⟨#[]⟩ : ByteArray), .int .i64 0, .bool false, .int .i64 0, .int .i64 0, .int .i64 0, .string (⟨#[]⟩ : ByteArray)]) ?_ 0 _ rfl; (with_reducible repeat (first | refine blk_drewN ?_ _ | refine blk_drew ?_ | refine blk_alloc ?_ _)); exact BK117.out⟩
                have n2_ : Aside0 (Below w.heap.size w ((((((((((w19.setCell ⟨gb117, 0, none⟩ (.string ((rd_T101 l0 x14_1).f0.f0))).setCell ⟨gb117, 1, none⟩ (.string ((rd_T101 l0 x14_1).f0.f1))).setCell ⟨gb117, 2, none⟩ (.int .i64 ((rd_T101 l0 x14_1).f0.f2))).setCell ⟨gb117, 3, none⟩ (.string ((rd_T101 l0 x14_1).f0.f3))).setCell ⟨gb117, 4, none⟩ (.int .i64 ((rd_T101 l0 x14_1).f1.f0))).setCell ⟨gb117, 5, none⟩ (.bool true)).setCell ⟨gb117, 6, none⟩ (.int .i64 ((rd_T101 l0 x14_1).f1.f2))).setCell ⟨gb117, 7, none⟩ (.int .i64 ((rd_T101 l0 x14_1).f1.f3.f0))).setCell ⟨gb117, 8, none⟩ (.int .i64 ((rd_T101 l0 x14_1).f1.f3.f1))).setCell ⟨gb117, 9, none⟩ (.string ((rd_T101 l0 x14_1).f1.f3.f2)))) := ⟨by repeat (first | (with_reducible first | exact HB.out | apply below_alloc | apply pw_below_drewN | apply below_drew1 | refine below_set ?_ GE117.out) | exact HB.out)⟩
                (try clear HO_3)
                (try clear BK117)
                (try clear HB)
                generalize ((((((((((w19.setCell ⟨gb117, 0, none⟩ (.string ((rd_T101 l0 x14_1).f0.f0))).setCell ⟨gb117, 1, none⟩ (.string ((rd_T101 l0 x14_1).f0.f1))).setCell ⟨gb117, 2, none⟩ (.int .i64 ((rd_T101 l0 x14_1).f0.f2))).setCell ⟨gb117, 3, none⟩ (.string ((rd_T101 l0 x14_1).f0.f3))).setCell ⟨gb117, 4, none⟩ (.int .i64 ((rd_T101 l0 x14_1).f1.f0))).setCell ⟨gb117, 5, none⟩ (.bool true)).setCell ⟨gb117, 6, none⟩ (.int .i64 ((rd_T101 l0 x14_1).f1.f2))).setCell ⟨gb117, 7, none⟩ (.int .i64 ((rd_T101 l0 x14_1).f1.f3.f0))).setCell ⟨gb117, 8, none⟩ (.int .i64 ((rd_T101 l0 x14_1).f1.f3.f1))).setCell ⟨gb117, 9, none⟩ (.string ((rd_T101 l0 x14_1).f1.f3.f2))) = w21 at n0_ n1_ n2_ ⊢
                have HO_3 := n0_
                have BK117 := n1_
                have HB := n2_
                clear n0_ n1_ n2_
                have n0_ := Aside0.mk (Kd.R_drew HO_3.out)
                have n1_ := Aside0.mk (blk_drew BK117.out)
                have n2_ := Aside0.mk (below_drew1 HB.out)
                clear HO_3
                clear BK117
                clear HB
                have HO_3 := n0_
                have BK117 := n1_
                have HB := n2_
                clear n0_ n1_ n2_
                refine start_ (n := 8) (S := fun w' => w'.cell? ⟨gb117, 0, none⟩ = some (.string ((rd_T101 l0 x14_1).f0.f0)) ∧ w'.cell? ⟨gb117, 1, none⟩ = some (.string ((rd_T101 l0 x14_1).f0.f1)) ∧ w'.cell? ⟨gb117, 2, none⟩ = some (.int .i64 ((rd_T101 l0 x14_1).f0.f2)) ∧ w'.cell? ⟨gb117, 3, none⟩ = some (.string ((rd_T101 l0 x14_1).f0.f3)) ∧ w'.cell? ⟨gb117, 4, none⟩ = some (.int .i64 ((rd_T101 l0 x14_1).f1.f0)) ∧ w'.cell? ⟨gb117, 5, none⟩ = some (.bool true) ∧ w'.cell? ⟨gb117, 6, none⟩ = some (.int .i64 ((rd_T101 l0 x14_1).f1.f2)) ∧ w'.cell? ⟨gb117, 7, none⟩ = some (.int .i64 ((rd_T101 l0 x14_1).f1.f3.f0)) ∧ w'.cell? ⟨gb117, 8, none⟩ = some (.int .i64 ((rd_T101 l0 x14_1).f1.f3.f1)) ∧ w'.cell? ⟨gb117, 9, none⟩ = some (.string ((rd_T101 l0 x14_1).f1.f3.f2))) (ds := []) #[false, false, false, false, false, false, false, false] (by kernel_rfl) rfl rfl ⟨(blk_cell BK117.out 0).trans rfl, (blk_cell BK117.out 1).trans rfl, (blk_cell BK117.out 2).trans rfl, (blk_cell BK117.out 3).trans rfl, (blk_cell BK117.out 4).trans rfl, (blk_cell BK117.out 5).trans rfl, (blk_cell BK117.out 6).trans rfl, (blk_cell BK117.out 7).trans rfl, (blk_cell BK117.out 8).trans rfl, (blk_cell BK117.out 9).trans rfl⟩ (fun hHeld => ?_); refine with_tabW codec_Cells.tab5 codec_Cells.bits5 (fun HT_ HW_ => ?_)
                generalize w21.drew = w22 at HO_3 BK117 HB hHeld ⊢
                refine pure_ (i := 0) (N := some 18) (v := ?_) (a' := ?_) #[true, false, false, false, false, false, false, false] rfl rfl (any_of HT_.out (by kernel_rfl)) (fun _ _ _ h => h) (Or.inl ⟨by rfl, ?_⟩) ?_ ?_
                rotate_left
                · intro w'
                  go_simp
                  with_reducible rfl
                rotate_left
                · simp only [Act.put, List.setIfInBounds_toArray, List.set_cons_zero, List.set_cons_succ, i64_w, i32_w]
                  rfl
                refine pure_ (i := 2) (N := some 20) (v := ?_) (a' := ?_) #[true, false, true, false, false, false, false, false] rfl rfl (any_of HT_.out (by kernel_rfl)) (fun _ _ _ h => h) (Or.inl ⟨by rfl, ?_⟩) ?_ ?_
                rotate_left
                · intro w'
                  go_simp
                  with_reducible rfl
                rotate_left
                · simp only [Act.put, List.setIfInBounds_toArray, List.set_cons_zero, List.set_cons_succ, i64_w, i32_w]
                  rfl
                refine take_ (i := 1) (N := some 19) (v := ?_) (a' := ?_) #[true, true, true, false, false, false, false, false] rfl rfl (take_ofW HT_.out HW_.out (by kernel_rfl)) (fun _ _ _ h => h) (Or.inl ⟨by rfl, ?_⟩) hHeld ?_ ?_
                rotate_left
                · rintro w' ⟨s0, s1, s2, s3, s4, s5, s6, s7, s8, s9⟩
                  go_simp
                  with_reducible rfl
                rotate_left
                · simp only [Act.put, List.setIfInBounds_toArray, List.set_cons_zero, List.set_cons_succ, i64_w, i32_w]
                  rfl
                refine take_ (i := 3) (N := some 21) (v := ?_) (a' := ?_) #[true, true, true, true, false, false, false, false] rfl rfl (take_ofW HT_.out HW_.out (by kernel_rfl)) (fun _ _ _ h => h) (Or.inl ⟨by rfl, ?_⟩) hHeld ?_ ?_
                rotate_left
                · rintro w' ⟨s0, s1, s2, s3, s4, s5, s6, s7, s8, s9⟩
                  go_simp
                  with_reducible rfl
                rotate_left
                · simp only [Act.put, List.setIfInBounds_toArray, List.set_cons_zero, List.set_cons_succ, i64_w, i32_w]
                  rfl
                refine join_ (σ := Nat × Nat) 2 #[true, true, true, true, true, true, false, false] (fun s_ => [(6, .pointer (some ⟨s_.1, 0, none⟩)), (7, .pointer (some ⟨s_.2, 0, none⟩))]) (fun s_ w' => (w'.cell? ⟨gb117, 0, none⟩ = some (.string ((rd_T101 l0 x14_1).f0.f0)) ∧ w'.cell? ⟨gb117, 1, none⟩ = some (.string ((rd_T101 l0 x14_1).f0.f1)) ∧ w'.cell? ⟨gb117, 2, none⟩ = some (.int .i64 ((rd_T101 l0 x14_1).f0.f2)) ∧ w'.cell? ⟨gb117, 3, none⟩ = some (.string ((rd_T101 l0 x14_1).f0.f3)) ∧ w'.cell? ⟨gb117, 4, none⟩ = some (.int .i64 ((rd_T101 l0 x14_1).f1.f0)) ∧ w'.cell? ⟨gb117, 5, none⟩ = some (.bool true) ∧ w'.cell? ⟨gb117, 6, none⟩ = some (.int .i64 ((rd_T101 l0 x14_1).f1.f2)) ∧ w'.cell? ⟨gb117, 7, none⟩ = some (.int .i64 ((rd_T101 l0 x14_1).f1.f3.f0)) ∧ w'.cell? ⟨gb117, 8, none⟩ = some (.int .i64 ((rd_T101 l0 x14_1).f1.f3.f1)) ∧ w'.cell? ⟨gb117, 9, none⟩ = some (.string ((rd_T101 l0 x14_1).f1.f3.f2))) ∧ (Kd.R (Kd.int .u8) 5 w' w.heap.size (fun _ => True) u3 x3_1) ∧ (w'.heap[gb117]? = some (.cells #[.string ((rd_T101 l0 x14_1).f0.f0), .string ((rd_T101 l0 x14_1).f0.f1), .int .i64 ((rd_T101 l0 x14_1).f0.f2), .string ((rd_T101 l0 x14_1).f0.f3), .int .i64 ((rd_T101 l0 x14_1).f1.f0), .bool true, .int .i64 ((rd_T101 l0 x14_1).f1.f2), .int .i64 ((rd_T101 l0 x14_1).f1.f3.f0), .int .i64 ((rd_T101 l0 x14_1).f1.f3.f1), .string ((rd_T101 l0 x14_1).f1.f3.f2)] 101 (0, 0))) ∧ (w'.heap[s_.1]? = some (.cells #[.string (⟨#[]⟩ : ByteArray), .string (⟨#[]⟩ : ByteArray), .int .i64 0, .string (⟨#[]⟩ : ByteArray)] 95 (0, 0))) ∧ (w'.heap[s_.2]? = some (.cells #[.int .i64 0, .bool false, .int .i64 0, .int .i64 0, .int .i64 0, .string (⟨#[]⟩ : ByteArray)] 99 (0, 0))) ∧ (w.heap.size ≤ s_.1) ∧ (w.heap.size ≤ s_.1) ∧ (gb117 ≠ s_.1) ∧ (s_.1 ≠ gb117) ∧ (s_.2 ≠ s_.1) ∧ (s_.1 ≠ s_.2) ∧ (w.heap.size ≤ s_.2) ∧ (w.heap.size ≤ s_.2) ∧ (gb117 ≠ s_.2) ∧ (s_.2 ≠ gb117) ∧ (Below w.heap.size w w')) ?_ ?_
                rotate_left
                · intro hCont
                  refine two_ (i := 4) (j := 5) (Ni := some 6) (Nj := some 7) #[true, true, true, true, true, false, false, false] #[true, true, true, true, false, true, false, false] rfl rfl rfl rfl (two_of HT_.out (by kernel_rfl)) (by decide) (by decide) (fun K hK => ?_) (fun K hK => ?_)
                  · skip
                    refine box_step ?hg (N := 6) ?hd (cs := #[.string (⟨#[]⟩ : ByteArray), .string (⟨#[]⟩ : ByteArray), .int .i64 0, .string (⟨#[]⟩ : ByteArray)]) (t := 95) ?hr ?_; (case hd => rfl); (case hg => rfl); (case hr => first | (go_simp; done) | (go_simp; rfl))
                    intro gb118 hg w23 hbox hb
                    have n0_ := Aside0.mk (Kd.R_below (by (with_reducible repeat (first | apply Kd.R_alloc | apply Kd.R_drewN | apply Kd.R_drew)); exact HO_3.out) hb)
                    have n1_ := Aside0.mk (blk_below (g := gb117) (o := .cells #[.string ((rd_T101 l0 x14_1).f0.f0), .string ((rd_T101 l0 x14_1).f0.f1), .int .i64 ((rd_T101 l0 x14_1).f0.f2), .string ((rd_T101 l0 x14_1).f0.f3), .int .i64 ((rd_T101 l0 x14_1).f1.f0), .bool true, .int .i64 ((rd_T101 l0 x14_1).f1.f2), .int .i64 ((rd_T101 l0 x14_1).f1.f3.f0), .int .i64 ((rd_T101 l0 x14_1).f1.f3.f1), .string ((rd_T101 l0 x14_1).f1.f3.f2)] 101 (0, 0)) (by first | (with_reducible exact BK117.out) | (with_reducible exact blk_drewN BK117.out _) | (with_reducible exact blk_drew BK117.out) | (with_reducible exact blk_alloc BK117.out _) | ((with_reducible repeat (first | refine blk_drewN ?_ _ | refine blk_drew ?_ | refine blk_alloc ?_ _)); exact BK117.out)) hb)
                    have n2_ := Aside0.mk (below_step (by repeat (first | (with_reducible first | exact HB.out | apply below_alloc | apply pw_below_drewN | apply below_drew1 | refine below_set ?_ GE117.out) | exact HB.out)) hb)
                    have n3_ := Aside0.mk (hbox)
                    have n4_ := Aside0.mk ((by rw [hg]; exact (below_size (by repeat (first | (with_reducible first | exact HB.out | apply below_alloc | apply pw_below_drewN | apply below_drew1 | refine below_set ?_ GE117.out) | exact HB.out))) : w.heap.size ≤ gb118))
                    have n5_ := Aside0.mk ((by rw [hg]; exact (below_size (by repeat (first | (with_reducible first | exact HB.out | apply below_alloc | apply pw_below_drewN | apply below_drew1 | refine below_set ?_ GE117.out) | exact HB.out))) : w.heap.size ≤ gb118))
                    have n6_ := Aside0.mk ((by rw [hg]; exact Nat.ne_of_lt (blk_lt (g := gb117) (o := .cells #[.string ((rd_T101 l0 x14_1).f0.f0), .string ((rd_T101 l0 x14_1).f0.f1), .int .i64 ((rd_T101 l0 x14_1).f0.f2), .string ((rd_T101 l0 x14_1).f0.f3), .int .i64 ((rd_T101 l0 x14_1).f1.f0), .bool true, .int .i64 ((rd_T101 l0 x14_1).f1.f2), .int .i64 ((rd_T101 l0 x14_1).f1.f3.f0), .int .i64 ((rd_T101 l0 x14_1).f1.f3.f1), .string ((rd_T101 l0 x14_1).f1.f3.f2)] 101 (0, 0)) (by first | (with_reducible exact BK117.out) | (with_reducible exact blk_drewN BK117.out _) | (with_reducible exact blk_drew BK117.out) | (with_reducible exact blk_alloc BK117.out _) | ((with_reducible repeat (first | refine blk_drewN ?_ _ | refine blk_drew ?_ | refine blk_alloc ?_ _)); exact BK117.out))) : gb117 ≠ gb118))
                    have n7_ := Aside0.mk ((by rw [hg]; exact Nat.ne_of_gt (blk_lt (g := gb117) (o := .cells #[.string ((rd_T101 l0 x14_1).f0.f0), .string ((rd_T101 l0 x14_1).f0.f1), .int .i64 ((rd_T101 l0 x14_1).f0.f2), .string ((rd_T101 l0 x14_1).f0.f3), .int .i64 ((rd_T101 l0 x14_1).f1.f0), .bool true, .int .i64 ((rd_T101 l0 x14_1).f1.f2), .int .i64 ((rd_T101 l0 x14_1).f1.f3.f0), .int .i64 ((rd_T101 l0 x14_1).f1.f3.f1), .string ((rd_T101 l0 x14_1).f1.f3.f2)] 101 (0, 0)) (by first | (with_reducible exact BK117.out) | (with_reducible exact blk_drewN BK117.out _) | (with_reducible exact blk_drew BK117.out) | (with_reducible exact blk_alloc BK117.out _) | ((with_reducible repeat (first | refine blk_drewN ?_ _ | refine blk_drew ?_ | refine blk_alloc ?_ _)); exact BK117.out))) : gb118 ≠ gb117))
                    clear HO_3
                    clear BK117
                    clear HB
                    have HO_3 := n0_
                    have BK117 := n1_
                    have HB := n2_
                    have BK118 := n3_
                    have GW118 := n4_
                    have GE118 := n5_
                    have NB117_118 := n6_
                    have NB118_117 := n7_
                    clear n0_ n1_ n2_ n3_ n4_ n5_ n6_ n7_
                    clear hb hbox hg
                    refine hK.out _ _ ⟨(blk_cell BK117.out 0).trans rfl, (blk_cell BK117.out 1).trans rfl, (blk_cell BK117.out 2).trans rfl, (blk_cell BK117.out 3).trans rfl, (blk_cell BK117.out 4).trans rfl, (blk_cell BK117.out 5).trans rfl, (blk_cell BK117.out 6).trans rfl, (blk_cell BK117.out 7).trans rfl, (blk_cell BK117.out 8).trans rfl, (blk_cell BK117.out 9).trans rfl⟩ (fun hHeld => ?_)
                    clear hK K
                    refine norm_ (a' := ?_) ?_ ?_
                    rotate_left
                    · show Act.put _ (some 6) _ = _
                      simp only [Act.put, List.setIfInBounds_toArray, List.set_cons_zero, List.set_cons_succ, i64_w, i32_w]
                      rfl
                    refine one_ (i := 5) (N := some 7) #[true, true, true, true, true, true, false, false] rfl rfl (one_of HT_.out (by kernel_rfl)) (by decide) (fun K hK => ?_)
                    refine box_step ?hg (N := 7) ?hd (cs := #[.int .i64 0, .bool false, .int .i64 0, .int .i64 0, .int .i64 0, .string (⟨#[]⟩ : ByteArray)]) (t := 99) ?hr ?_; (case hd => rfl); (case hg => rfl); (case hr => first | (go_simp; done) | (go_simp; rfl))
                    intro gb119 hg w24 hbox hb
                    have n0_ := Aside0.mk (Kd.R_below (by (with_reducible repeat (first | apply Kd.R_alloc | apply Kd.R_drewN | apply Kd.R_drew)); exact HO_3.out) hb)
                    have n1_ := Aside0.mk (blk_below (g := gb117) (o := .cells #[.string ((rd_T101 l0 x14_1).f0.f0), .string ((rd_T101 l0 x14_1).f0.f1), .int .i64 ((rd_T101 l0 x14_1).f0.f2), .string ((rd_T101 l0 x14_1).f0.f3), .int .i64 ((rd_T101 l0 x14_1).f1.f0), .bool true, .int .i64 ((rd_T101 l0 x14_1).f1.f2), .int .i64 ((rd_T101 l0 x14_1).f1.f3.f0), .int .i64 ((rd_T101 l0 x14_1).f1.f3.f1), .string ((rd_T101 l0 x14_1).f1.f3.f2)] 101 (0, 0)) (by first | (with_reducible exact BK117.out) | (with_reducible exact blk_drewN BK117.out _) | (with_reducible exact blk_drew BK117.out) | (with_reducible exact blk_alloc BK117.out _) | ((with_reducible repeat (first | refine blk_drewN ?_ _ | refine blk_drew ?_ | refine blk_alloc ?_ _)); exact BK117.out)) hb)
                    have n2_ := Aside0.mk (blk_below (g := gb118) (o := .cells #[.string (⟨#[]⟩ : ByteArray), .string (⟨#[]⟩ : ByteArray), .int .i64 0, .string (⟨#[]⟩ : ByteArray)] 95 (0, 0)) (by first | (with_reducible exact BK118.out) | (with_reducible exact blk_drewN BK118.out _) | (with_reducible exact blk_drew BK118.out) | (with_reducible exact blk_alloc BK118.out _) | ((with_reducible repeat (first | refine blk_drewN ?_ _ | refine blk_drew ?_ | refine blk_alloc ?_ _)); exact BK118.out)) hb)
                    have n3_ := Aside0.mk (below_step (by repeat (first | (with_reducible first | exact HB.out | apply below_alloc | apply pw_below_drewN | apply below_drew1 | refine below_set ?_ GE117.out | refine below_set ?_ GE118.out) | exact HB.out)) hb)
                    have n4_ := Aside0.mk (hbox)
                    have n5_ := Aside0.mk ((by rw [hg]; exact (below_size (by repeat (first | (with_reducible first | exact HB.out | apply below_alloc | apply pw_below_drewN | apply below_drew1 | refine below_set ?_ GE117.out | refine below_set ?_ GE118.out) | exact HB.out))) : w.heap.size ≤ gb119))
                    have n6_ := Aside0.mk ((by rw [hg]; exact (below_size (by repeat (first | (with_reducible first | exact HB.out | apply below_alloc | apply pw_below_drewN | apply below_drew1 | refine below_set ?_ GE117.out | refine below_set ?_ GE118.out) | exact HB.out))) : w.heap.size ≤ gb119))
                    have n7_ := Aside0.mk ((by rw [hg]; exact Nat.ne_of_lt (blk_lt (g := gb117) (o := .cells #[.string ((rd_T101 l0 x14_1).f0.f0), .string ((rd_T101 l0 x14_1).f0.f1), .int .i64 ((rd_T101 l0 x14_1).f0.f2), .string ((rd_T101 l0 x14_1).f0.f3), .int .i64 ((rd_T101 l0 x14_1).f1.f0), .bool true, .int .i64 ((rd_T101 l0 x14_1).f1.f2), .int .i64 ((rd_T101 l0 x14_1).f1.f3.f0), .int .i64 ((rd_T101 l0 x14_1).f1.f3.f1), .string ((rd_T101 l0 x14_1).f1.f3.f2)] 101 (0, 0)) (by first | (with_reducible exact BK117.out) | (with_reducible exact blk_drewN BK117.out _) | (with_reducible exact blk_drew BK117.out) | (with_reducible exact blk_alloc BK117.out _) | ((with_reducible repeat (first | refine blk_drewN ?_ _ | refine blk_drew ?_ | refine blk_alloc ?_ _)); exact BK117.out))) : gb117 ≠ gb119))
                    have n8_ := Aside0.mk ((by rw [hg]; exact Nat.ne_of_gt (blk_lt (g := gb117) (o := .cells #[.string ((rd_T101 l0 x14_1).f0.f0), .string ((rd_T101 l0 x14_1).f0.f1), .int .i64 ((rd_T101 l0 x14_1).f0.f2), .string ((rd_T101 l0 x14_1).f0.f3), .int .i64 ((rd_T101 l0 x14_1).f1.f0), .bool true, .int .i64 ((rd_T101 l0 x14_1).f1.f2), .int .i64 ((rd_T101 l0 x14_1).f1.f3.f0), .int .i64 ((rd_T101 l0 x14_1).f1.f3.f1), .string ((rd_T101 l0 x14_1).f1.f3.f2)] 101 (0, 0)) (by first | (with_reducible exact BK117.out) | (with_reducible exact blk_drewN BK117.out _) | (with_reducible exact blk_drew BK117.out) | (with_reducible exact blk_alloc BK117.out _) | ((with_reducible repeat (first | refine blk_drewN ?_ _ | refine blk_drew ?_ | refine blk_alloc ?_ _)); exact BK117.out))) : gb119 ≠ gb117))
                    have n9_ := Aside0.mk ((by rw [hg]; exact Nat.ne_of_lt (blk_lt (g := gb118) (o := .cells #[.string (⟨#[]⟩ : ByteArray), .string (⟨#[]⟩ : ByteArray), .int .i64 0, .string (⟨#[]⟩ : ByteArray)] 95 (0, 0)) (by first | (with_reducible exact BK118.out) | (with_reducible exact blk_drewN BK118.out _) | (with_reducible exact blk_drew BK118.out) | (with_reducible exact blk_alloc BK118.out _) | ((with_reducible repeat (first | refine blk_drewN ?_ _ | refine blk_drew ?_ | refine blk_alloc ?_ _)); exact BK118.out))) : gb118 ≠ gb119))
                    have n10_ := Aside0.mk ((by rw [hg]; exact Nat.ne_of_gt (blk_lt (g := gb118) (o := .cells #[.string (⟨#[]⟩ : ByteArray), .string (⟨#[]⟩ : ByteArray), .int .i64 0, .string (⟨#[]⟩ : ByteArray)] 95 (0, 0)) (by first | (with_reducible exact BK118.out) | (with_reducible exact blk_drewN BK118.out _) | (with_reducible exact blk_drew BK118.out) | (with_reducible exact blk_alloc BK118.out _) | ((with_reducible repeat (first | refine blk_drewN ?_ _ | refine blk_drew ?_ | refine blk_alloc ?_ _)); exact BK118.out))) : gb119 ≠ gb118))
                    clear HO_3
                    clear BK117
                    clear BK118
                    clear HB
                    have HO_3 := n0_
                    have BK117 := n1_
                    have BK118 := n2_
                    have HB := n3_
                    have BK119 := n4_
                    have GW119 := n5_
                    have GE119 := n6_
                    have NB117_119 := n7_
                    have NB119_117 := n8_
                    have NB118_119 := n9_
                    have NB119_118 := n10_
                    clear n0_ n1_ n2_ n3_ n4_ n5_ n6_ n7_ n8_ n9_ n10_
                    clear hb hbox hg
                    refine hK.out _ _ ⟨(blk_cell BK117.out 0).trans rfl, (blk_cell BK117.out 1).trans rfl, (blk_cell BK117.out 2).trans rfl, (blk_cell BK117.out 3).trans rfl, (blk_cell BK117.out 4).trans rfl, (blk_cell BK117.out 5).trans rfl, (blk_cell BK117.out 6).trans rfl, (blk_cell BK117.out 7).trans rfl, (blk_cell BK117.out 8).trans rfl, (blk_cell BK117.out 9).trans rfl⟩ (fun hHeld => ?_)
                    clear hK K
                    refine norm_ (a' := ?_) ?_ ?_
                    rotate_left
                    · show Act.put _ (some 7) _ = _
                      simp only [Act.put, List.setIfInBounds_toArray, List.set_cons_zero, List.set_cons_succ, i64_w, i32_w]
                      rfl
                    exact norm_ (by simp only [putAll, Act.put, List.setIfInBounds_toArray, List.set_cons_zero, List.set_cons_succ]) (hCont (gb118, gb119) _ ⟨hHeld, (by (with_reducible repeat (first | apply Kd.R_alloc | apply Kd.R_drewN | apply Kd.R_drew)); exact HO_3.out), (by first | (with_reducible exact BK117.out) | (with_reducible exact blk_drewN BK117.out _) | (with_reducible exact blk_drew BK117.out) | (with_reducible exact blk_alloc BK117.out _) | ((with_reducible repeat (first | refine blk_drewN ?_ _ | refine blk_drew ?_ | refine blk_alloc ?_ _)); exact BK117.out)), (by first | (with_reducible exact BK118.out) | (with_reducible exact blk_drewN BK118.out _) | (with_reducible exact blk_drew BK118.out) | (with_reducible exact blk_alloc BK118.out _) | ((with_reducible repeat (first | refine blk_drewN ?_ _ | refine blk_drew ?_ | refine blk_alloc ?_ _)); exact BK118.out)), (by first | (with_reducible exact BK119.out) | (with_reducible exact blk_drewN BK119.out _) | (with_reducible exact blk_drew BK119.out) | (with_reducible exact blk_alloc BK119.out _) | ((with_reducible repeat (first | refine blk_drewN ?_ _ | refine blk_drew ?_ | refine blk_alloc ?_ _)); exact BK119.out)), GW118.out, GE118.out, NB117_118.out, NB118_117.out, NB119_118.out, NB118_119.out, GW119.out, GE119.out, NB117_119.out, NB119_117.out, (by repeat (first | (with_reducible first | exact HB.out | apply below_alloc | apply pw_below_drewN | apply below_drew1 | refine below_set ?_ GE117.out | refine below_set ?_ GE118.out | refine below_set ?_ GE119.out) | exact HB.out))⟩)
                  · skip
                    refine box_step ?hg (N := 7) ?hd (cs := #[.int .i64 0, .bool false, .int .i64 0, .int .i64 0, .int .i64 0, .string (⟨#[]⟩ : ByteArray)]) (t := 99) ?hr ?_; (case hd => rfl); (case hg => rfl); (case hr => first | (go_simp; done) | (go_simp; rfl))
                    intro gb119 hg w23 hbox hb
                    have n0_ := Aside0.mk (Kd.R_below (by (with_reducible repeat (first | apply Kd.R_alloc | apply Kd.R_drewN | apply Kd.R_drew)); exact HO_3.out) hb)
                    have n1_ := Aside0.mk (blk_below (g := gb117) (o := .cells #[.string ((rd_T101 l0 x14_1).f0.f0), .string ((rd_T101 l0 x14_1).f0.f1), .int .i64 ((rd_T101 l0 x14_1).f0.f2), .string ((rd_T101 l0 x14_1).f0.f3), .int .i64 ((rd_T101 l0 x14_1).f1.f0), .bool true, .int .i64 ((rd_T101 l0 x14_1).f1.f2), .int .i64 ((rd_T101 l0 x14_1).f1.f3.f0), .int .i64 ((rd_T101 l0 x14_1).f1.f3.f1), .string ((rd_T101 l0 x14_1).f1.f3.f2)] 101 (0, 0)) (by first | (with_reducible exact BK117.out) | (with_reducible exact blk_drewN BK117.out _) | (with_reducible exact blk_drew BK117.out) | (with_reducible exact blk_alloc BK117.out _) | ((with_reducible repeat (first | refine blk_drewN ?_ _ | refine blk_drew ?_ | refine blk_alloc ?_ _)); exact BK117.out)) hb)
                    have n2_ := Aside0.mk (below_step (by repeat (first | (with_reducible first | exact HB.out | apply below_alloc | apply pw_below_drewN | apply below_drew1 | refine below_set ?_ GE117.out) | exact HB.out)) hb)
                    have n3_ := Aside0.mk (hbox)
                    have n4_ := Aside0.mk ((by rw [hg]; exact (below_size (by repeat (first | (with_reducible first | exact HB.out | apply below_alloc | apply pw_below_drewN | apply below_drew1 | refine below_set ?_ GE117.out) | exact HB.out))) : w.heap.size ≤ gb119))
                    have n5_ := Aside0.mk ((by rw [hg]; exact (below_size (by repeat (first | (with_reducible first | exact HB.out | apply below_alloc | apply pw_below_drewN | apply below_drew1 | refine below_set ?_ GE117.out) | exact HB.out))) : w.heap.size ≤ gb119))
                    have n6_ := Aside0.mk ((by rw [hg]; exact Nat.ne_of_lt (blk_lt (g := gb117) (o := .cells #[.string ((rd_T101 l0 x14_1).f0.f0), .string ((rd_T101 l0 x14_1).f0.f1), .int .i64 ((rd_T101 l0 x14_1).f0.f2), .string ((rd_T101 l0 x14_1).f0.f3), .int .i64 ((rd_T101 l0 x14_1).f1.f0), .bool true, .int .i64 ((rd_T101 l0 x14_1).f1.f2), .int .i64 ((rd_T101 l0 x14_1).f1.f3.f0), .int .i64 ((rd_T101 l0 x14_1).f1.f3.f1), .string ((rd_T101 l0 x14_1).f1.f3.f2)] 101 (0, 0)) (by first | (with_reducible exact BK117.out) | (with_reducible exact blk_drewN BK117.out _) | (with_reducible exact blk_drew BK117.out) | (with_reducible exact blk_alloc BK117.out _) | ((with_reducible repeat (first | refine blk_drewN ?_ _ | refine blk_drew ?_ | refine blk_alloc ?_ _)); exact BK117.out))) : gb117 ≠ gb119))
                    have n7_ := Aside0.mk ((by rw [hg]; exact Nat.ne_of_gt (blk_lt (g := gb117) (o := .cells #[.string ((rd_T101 l0 x14_1).f0.f0), .string ((rd_T101 l0 x14_1).f0.f1), .int .i64 ((rd_T101 l0 x14_1).f0.f2), .string ((rd_T101 l0 x14_1).f0.f3), .int .i64 ((rd_T101 l0 x14_1).f1.f0), .bool true, .int .i64 ((rd_T101 l0 x14_1).f1.f2), .int .i64 ((rd_T101 l0 x14_1).f1.f3.f0), .int .i64 ((rd_T101 l0 x14_1).f1.f3.f1), .string ((rd_T101 l0 x14_1).f1.f3.f2)] 101 (0, 0)) (by first | (with_reducible exact BK117.out) | (with_reducible exact blk_drewN BK117.out _) | (with_reducible exact blk_drew BK117.out) | (with_reducible exact blk_alloc BK117.out _) | ((with_reducible repeat (first | refine blk_drewN ?_ _ | refine blk_drew ?_ | refine blk_alloc ?_ _)); exact BK117.out))) : gb119 ≠ gb117))
                    clear HO_3
                    clear BK117
                    clear HB
                    have HO_3 := n0_
                    have BK117 := n1_
                    have HB := n2_
                    have BK119 := n3_
                    have GW119 := n4_
                    have GE119 := n5_
                    have NB117_119 := n6_
                    have NB119_117 := n7_
                    clear n0_ n1_ n2_ n3_ n4_ n5_ n6_ n7_
                    clear hb hbox hg
                    refine hK.out _ _ ⟨(blk_cell BK117.out 0).trans rfl, (blk_cell BK117.out 1).trans rfl, (blk_cell BK117.out 2).trans rfl, (blk_cell BK117.out 3).trans rfl, (blk_cell BK117.out 4).trans rfl, (blk_cell BK117.out 5).trans rfl, (blk_cell BK117.out 6).trans rfl, (blk_cell BK117.out 7).trans rfl, (blk_cell BK117.out 8).trans rfl, (blk_cell BK117.out 9).trans rfl⟩ (fun hHeld => ?_)
                    clear hK K
                    refine norm_ (a' := ?_) ?_ ?_
                    rotate_left
                    · show Act.put _ (some 7) _ = _
                      simp only [Act.put, List.setIfInBounds_toArray, List.set_cons_zero, List.set_cons_succ, i64_w, i32_w]
                      rfl
                    refine one_ (i := 4) (N := some 6) #[true, true, true, true, true, true, false, false] rfl rfl (one_of HT_.out (by kernel_rfl)) (by decide) (fun K hK => ?_)
                    refine box_step ?hg (N := 6) ?hd (cs := #[.string (⟨#[]⟩ : ByteArray), .string (⟨#[]⟩ : ByteArray), .int .i64 0, .string (⟨#[]⟩ : ByteArray)]) (t := 95) ?hr ?_; (case hd => rfl); (case hg => rfl); (case hr => first | (go_simp; done) | (go_simp; rfl))
                    intro gb118 hg w24 hbox hb
                    have n0_ := Aside0.mk (Kd.R_below (by (with_reducible repeat (first | apply Kd.R_alloc | apply Kd.R_drewN | apply Kd.R_drew)); exact HO_3.out) hb)
                    have n1_ := Aside0.mk (blk_below (g := gb117) (o := .cells #[.string ((rd_T101 l0 x14_1).f0.f0), .string ((rd_T101 l0 x14_1).f0.f1), .int .i64 ((rd_T101 l0 x14_1).f0.f2), .string ((rd_T101 l0 x14_1).f0.f3), .int .i64 ((rd_T101 l0 x14_1).f1.f0), .bool true, .int .i64 ((rd_T101 l0 x14_1).f1.f2), .int .i64 ((rd_T101 l0 x14_1).f1.f3.f0), .int .i64 ((rd_T101 l0 x14_1).f1.f3.f1), .string ((rd_T101 l0 x14_1).f1.f3.f2)] 101 (0, 0)) (by first | (with_reducible exact BK117.out) | (with_reducible exact blk_drewN BK117.out _) | (with_reducible exact blk_drew BK117.out) | (with_reducible exact blk_alloc BK117.out _) | ((with_reducible repeat (first | refine blk_drewN ?_ _ | refine blk_drew ?_ | refine blk_alloc ?_ _)); exact BK117.out)) hb)
                    have n2_ := Aside0.mk (blk_below (g := gb119) (o := .cells #[.int .i64 0, .bool false, .int .i64 0, .int .i64 0, .int .i64 0, .string (⟨#[]⟩ : ByteArray)] 99 (0, 0)) (by first | (with_reducible exact BK119.out) | (with_reducible exact blk_drewN BK119.out _) | (with_reducible exact blk_drew BK119.out) | (with_reducible exact blk_alloc BK119.out _) | ((with_reducible repeat (first | refine blk_drewN ?_ _ | refine blk_drew ?_ | refine blk_alloc ?_ _)); exact BK119.out)) hb)
                    have n3_ := Aside0.mk (below_step (by repeat (first | (with_reducible first | exact HB.out | apply below_alloc | apply pw_below_drewN | apply below_drew1 | refine below_set ?_ GE117.out | refine below_set ?_ GE119.out) | exact HB.out)) hb)
                    have n4_ := Aside0.mk (hbox)
                    have n5_ := Aside0.mk ((by rw [hg]; exact (below_size (by repeat (first | (with_reducible first | exact HB.out | apply below_alloc | apply pw_below_drewN | apply below_drew1 | refine below_set ?_ GE117.out | refine below_set ?_ GE119.out) | exact HB.out))) : w.heap.size ≤ gb118))
                    have n6_ := Aside0.mk ((by rw [hg]; exact (below_size (by repeat (first | (with_reducible first | exact HB.out | apply below_alloc | apply pw_below_drewN | apply below_drew1 | refine below_set ?_ GE117.out | refine below_set ?_ GE119.out) | exact HB.out))) : w.heap.size ≤ gb118))
                    have n7_ := Aside0.mk ((by rw [hg]; exact Nat.ne_of_lt (blk_lt (g := gb117) (o := .cells #[.string ((rd_T101 l0 x14_1).f0.f0), .string ((rd_T101 l0 x14_1).f0.f1), .int .i64 ((rd_T101 l0 x14_1).f0.f2), .string ((rd_T101 l0 x14_1).f0.f3), .int .i64 ((rd_T101 l0 x14_1).f1.f0), .bool true, .int .i64 ((rd_T101 l0 x14_1).f1.f2), .int .i64 ((rd_T101 l0 x14_1).f1.f3.f0), .int .i64 ((rd_T101 l0 x14_1).f1.f3.f1), .string ((rd_T101 l0 x14_1).f1.f3.f2)] 101 (0, 0)) (by first | (with_reducible exact BK117.out) | (with_reducible exact blk_drewN BK117.out _) | (with_reducible exact blk_drew BK117.out) | (with_reducible exact blk_alloc BK117.out _) | ((with_reducible repeat (first | refine blk_drewN ?_ _ | refine blk_drew ?_ | refine blk_alloc ?_ _)); exact BK117.out))) : gb117 ≠ gb118))
                    have n8_ := Aside0.mk ((by rw [hg]; exact Nat.ne_of_gt (blk_lt (g := gb117) (o := .cells #[.string ((rd_T101 l0 x14_1).f0.f0), .string ((rd_T101 l0 x14_1).f0.f1), .int .i64 ((rd_T101 l0 x14_1).f0.f2), .string ((rd_T101 l0 x14_1).f0.f3), .int .i64 ((rd_T101 l0 x14_1).f1.f0), .bool true, .int .i64 ((rd_T101 l0 x14_1).f1.f2), .int .i64 ((rd_T101 l0 x14_1).f1.f3.f0), .int .i64 ((rd_T101 l0 x14_1).f1.f3.f1), .string ((rd_T101 l0 x14_1).f1.f3.f2)] 101 (0, 0)) (by first | (with_reducible exact BK117.out) | (with_reducible exact blk_drewN BK117.out _) | (with_reducible exact blk_drew BK117.out) | (with_reducible exact blk_alloc BK117.out _) | ((with_reducible repeat (first | refine blk_drewN ?_ _ | refine blk_drew ?_ | refine blk_alloc ?_ _)); exact BK117.out))) : gb118 ≠ gb117))
                    have n9_ := Aside0.mk ((by rw [hg]; exact Nat.ne_of_lt (blk_lt (g := gb119) (o := .cells #[.int .i64 0, .bool false, .int .i64 0, .int .i64 0, .int .i64 0, .string (⟨#[]⟩ : ByteArray)] 99 (0, 0)) (by first | (with_reducible exact BK119.out) | (with_reducible exact blk_drewN BK119.out _) | (with_reducible exact blk_drew BK119.out) | (with_reducible exact blk_alloc BK119.out _) | ((with_reducible repeat (first | refine blk_drewN ?_ _ | refine blk_drew ?_ | refine blk_alloc ?_ _)); exact BK119.out))) : gb119 ≠ gb118))
                    have n10_ := Aside0.mk ((by rw [hg]; exact Nat.ne_of_gt (blk_lt (g := gb119) (o := .cells #[.int .i64 0, .bool false, .int .i64 0, .int .i64 0, .int .i64 0, .string (⟨#[]⟩ : ByteArray)] 99 (0, 0)) (by first | (with_reducible exact BK119.out) | (with_reducible exact blk_drewN BK119.out _) | (with_reducible exact blk_drew BK119.out) | (with_reducible exact blk_alloc BK119.out _) | ((with_reducible repeat (first | refine blk_drewN ?_ _ | refine blk_drew ?_ | refine blk_alloc ?_ _)); exact BK119.out))) : gb118 ≠ gb119))
                    clear HO_3
                    clear BK117
                    clear BK119
                    clear HB
                    have HO_3 := n0_
                    have BK117 := n1_
                    have BK119 := n2_
                    have HB := n3_
                    have BK118 := n4_
                    have GW118 := n5_
                    have GE118 := n6_
                    have NB117_118 := n7_
                    have NB118_117 := n8_
                    have NB119_118 := n9_
                    have NB118_119 := n10_
                    clear n0_ n1_ n2_ n3_ n4_ n5_ n6_ n7_ n8_ n9_ n10_
                    clear hb hbox hg
                    refine hK.out _ _ ⟨(blk_cell BK117.out 0).trans rfl, (blk_cell BK117.out 1).trans rfl, (blk_cell BK117.out 2).trans rfl, (blk_cell BK117.out 3).trans rfl, (blk_cell BK117.out 4).trans rfl, (blk_cell BK117.out 5).trans rfl, (blk_cell BK117.out 6).trans rfl, (blk_cell BK117.out 7).trans rfl, (blk_cell BK117.out 8).trans rfl, (blk_cell BK117.out 9).trans rfl⟩ (fun hHeld => ?_)
                    clear hK K
                    refine norm_ (a' := ?_) ?_ ?_
                    rotate_left
                    · show Act.put _ (some 6) _ = _
                      simp only [Act.put, List.setIfInBounds_toArray, List.set_cons_zero, List.set_cons_succ, i64_w, i32_w]
                      rfl
                    exact norm_ (by simp only [putAll, Act.put, List.setIfInBounds_toArray, List.set_cons_zero, List.set_cons_succ]) (hCont (gb118, gb119) _ ⟨hHeld, (by (with_reducible repeat (first | apply Kd.R_alloc | apply Kd.R_drewN | apply Kd.R_drew)); exact HO_3.out), (by first | (with_reducible exact BK117.out) | (with_reducible exact blk_drewN BK117.out _) | (with_reducible exact blk_drew BK117.out) | (with_reducible exact blk_alloc BK117.out _) | ((with_reducible repeat (first | refine blk_drewN ?_ _ | refine blk_drew ?_ | refine blk_alloc ?_ _)); exact BK117.out)), (by first | (with_reducible exact BK118.out) | (with_reducible exact blk_drewN BK118.out _) | (with_reducible exact blk_drew BK118.out) | (with_reducible exact blk_alloc BK118.out _) | ((with_reducible repeat (first | refine blk_drewN ?_ _ | refine blk_drew ?_ | refine blk_alloc ?_ _)); exact BK118.out)), (by first | (with_reducible exact BK119.out) | (with_reducible exact blk_drewN BK119.out _) | (with_reducible exact blk_drew BK119.out) | (with_reducible exact blk_alloc BK119.out _) | ((with_reducible repeat (first | refine blk_drewN ?_ _ | refine blk_drew ?_ | refine blk_alloc ?_ _)); exact BK119.out)), GW118.out, GE118.out, NB117_118.out, NB118_117.out, NB119_118.out, NB118_119.out, GW119.out, GE119.out, NB117_119.out, NB119_117.out, (by repeat (first | (with_reducible first | exact HB.out | apply below_alloc | apply pw_below_drewN | apply below_drew1 | refine below_set ?_ GE117.out | refine below_set ?_ GE119.out | refine below_set ?_ GE118.out) | exact HB.out))⟩)
                rintro ⟨gb118, gb119⟩ w25 ⟨hS_, h0_, h1_, h2_, h3_, h4_, h5_, h6_, h7_, h8_, h9_, h10_, h11_, h12_, h13_, h14_⟩
                have n0_ : Aside0 (Kd.R (Kd.int .u8) 5 w25 w.heap.size (fun _ => True) u3 x3_1) := ⟨h0_⟩
                have n1_ : Aside0 (w25.heap[gb117]? = some (.cells #[.string ((rd_T101 l0 x14_1).f0.f0), .string ((rd_T101 l0 x14_1).f0.f1), .int .i64 ((rd_T101 l0 x14_1).f0.f2), .string ((rd_T101 l0 x14_1).f0.f3), .int .i64 ((rd_T101 l0 x14_1).f1.f0), .bool true, .int .i64 ((rd_T101 l0 x14_1).f1.f2), .int .i64 ((rd_T101 l0 x14_1).f1.f3.f0), .int .i64 ((rd_T101 l0 x14_1).f1.f3.f1), .string ((rd_T101 l0 x14_1).f1.f3.f2)] 101 (0, 0))) := ⟨h1_⟩
                have n2_ : Aside0 (w25.heap[gb118]? = some (.cells #[.string (⟨#[]⟩ : ByteArray), .string (⟨#[]⟩ : ByteArray), .int .i64 0, .string (⟨#[]⟩ : ByteArray)] 95 (0, 0))) := ⟨h2_⟩
                have n3_ : Aside0 (w25.heap[gb119]? = some (.cells #[.int .i64 0, .bool false, .int .i64 0, .int .i64 0, .int .i64 0, .string (⟨#[]⟩ : ByteArray)] 99 (0, 0))) := ⟨h3_⟩
                have n4_ : Aside0 (w.heap.size ≤ gb118) := ⟨h4_⟩
                have n5_ : Aside0 (w.heap.size ≤ gb118) := ⟨h5_⟩
                have n6_ : Aside0 (gb117 ≠ gb118) := ⟨h6_⟩
                have n7_ : Aside0 (gb118 ≠ gb117) := ⟨h7_⟩
                have n8_ : Aside0 (gb119 ≠ gb118) := ⟨h8_⟩
                have n9_ : Aside0 (gb118 ≠ gb119) := ⟨h9_⟩
                have n10_ : Aside0 (w.heap.size ≤ gb119) := ⟨h10_⟩
                have n11_ : Aside0 (w.heap.size ≤ gb119) := ⟨h11_⟩
                have n12_ : Aside0 (gb117 ≠ gb119) := ⟨h12_⟩
                have n13_ : Aside0 (gb119 ≠ gb117) := ⟨h13_⟩
                have n14_ : Aside0 (Below w.heap.size w w25) := ⟨h14_⟩
                clear HO_3
                clear BK117
                clear HB
                clear h0_ h1_ h2_ h3_ h4_ h5_ h6_ h7_ h8_ h9_ h10_ h11_ h12_ h13_ h14_
                have HO_3 := n0_
                have BK117 := n1_
                have BK118 := n2_
                have BK119 := n3_
                have GW118 := n4_
                have GE118 := n5_
                have NB117_118 := n6_
                have NB118_117 := n7_
                have NB119_118 := n8_
                have NB118_119 := n9_
                have GW119 := n10_
                have GE119 := n11_
                have NB117_119 := n12_
                have NB119_117 := n13_
                have HB := n14_
                clear n0_ n1_ n2_ n3_ n4_ n5_ n6_ n7_ n8_ n9_ n10_ n11_ n12_ n13_ n14_
                have hHeld : w25.cell? ⟨gb117, 0, none⟩ = some (.string ((rd_T101 l0 x14_1).f0.f0)) ∧ w25.cell? ⟨gb117, 1, none⟩ = some (.string ((rd_T101 l0 x14_1).f0.f1)) ∧ w25.cell? ⟨gb117, 2, none⟩ = some (.int .i64 ((rd_T101 l0 x14_1).f0.f2)) ∧ w25.cell? ⟨gb117, 3, none⟩ = some (.string ((rd_T101 l0 x14_1).f0.f3)) ∧ w25.cell? ⟨gb117, 4, none⟩ = some (.int .i64 ((rd_T101 l0 x14_1).f1.f0)) ∧ w25.cell? ⟨gb117, 5, none⟩ = some (.bool true) ∧ w25.cell? ⟨gb117, 6, none⟩ = some (.int .i64 ((rd_T101 l0 x14_1).f1.f2)) ∧ w25.cell? ⟨gb117, 7, none⟩ = some (.int .i64 ((rd_T101 l0 x14_1).f1.f3.f0)) ∧ w25.cell? ⟨gb117, 8, none⟩ = some (.int .i64 ((rd_T101 l0 x14_1).f1.f3.f1)) ∧ w25.cell? ⟨gb117, 9, none⟩ = some (.string ((rd_T101 l0 x14_1).f1.f3.f2)) := hS_
                refine norm_ (a' := ?_) ?_ ?_
                rotate_left
                · simp only [putAll, Act.put, List.setIfInBounds_toArray, List.set_cons_zero, List.set_cons_succ]
                  rfl
                refine one_ (i := 6) (N := none) #[true, true, true, true, true, true, true, false] rfl rfl (one_of HT_.out (by kernel_rfl)) (by decide) (fun K hK => ?_)
                have hs26 : w25.cell? ⟨gb118, 0, none⟩ = some (.string (⟨#[]⟩ : ByteArray)) := (blk_cell BK118.out 0).trans rfl
                have hfs26 := blk_frozen BK118.out 0
                have hns26_0 := NB117_118.out
                have hns26_2 := NB119_118.out
                have hms26_0 := NB118_117.out
                have hms26_2 := NB118_119.out
                have hs27 : w25.cell? ⟨gb118, 1, none⟩ = some (.string (⟨#[]⟩ : ByteArray)) := (blk_cell BK118.out 1).trans rfl
                have hfs27 := blk_frozen BK118.out 1
                have hns27_0 := NB117_118.out
                have hns27_2 := NB119_118.out
                have hms27_0 := NB118_117.out
                have hms27_2 := NB118_119.out
                have hs28 : w25.cell? ⟨gb118, 2, none⟩ = some (.int .i64 0) := (blk_cell BK118.out 2).trans rfl
                have hfs28 := blk_frozen BK118.out 2
                have hns28_0 := NB117_118.out
                have hns28_2 := NB119_118.out
                have hms28_0 := NB118_117.out
                have hms28_2 := NB118_119.out
                have hs29 : w25.cell? ⟨gb118, 3, none⟩ = some (.string (⟨#[]⟩ : ByteArray)) := (blk_cell BK118.out 3).trans rfl
                have hfs29 := blk_frozen BK118.out 3
                have hns29_0 := NB117_118.out
                have hns29_2 := NB119_118.out
                have hms29_0 := NB118_117.out
                have hms29_2 := NB118_119.out
                refine skip_ (w1 := ?_) (by rfl) rfl ?_ ?_
                rotate_left
                · go_simp
                  rfl
                refine hK.out _ _ ⟨((cell_far (p := ⟨gb118, _, none⟩) NB117_118.out _).trans (((cell_far (p := ⟨gb118, _, none⟩) NB117_118.out _).trans (((cell_far (p := ⟨gb118, _, none⟩) NB117_118.out _).trans (((cell_far (p := ⟨gb118, _, none⟩) NB117_118.out _).trans (hHeld.1)))))))), ((cell_far (p := ⟨gb118, _, none⟩) NB117_118.out _).trans (((cell_far (p := ⟨gb118, _, none⟩) NB117_118.out _).trans (((cell_far (p := ⟨gb118, _, none⟩) NB117_118.out _).trans (((cell_far (p := ⟨gb118, _, none⟩) NB117_118.out _).trans (hHeld.2.1)))))))), ((cell_far (p := ⟨gb118, _, none⟩) NB117_118.out _).trans (((cell_far (p := ⟨gb118, _, none⟩) NB117_118.out _).trans (((cell_far (p := ⟨gb118, _, none⟩) NB117_118.out _).trans (((cell_far (p := ⟨gb118, _, none⟩) NB117_118.out _).trans (hHeld.2.2.1)))))))), ((cell_far (p := ⟨gb118, _, none⟩) NB117_118.out _).trans (((cell_far (p := ⟨gb118, _, none⟩) NB117_118.out _).trans (((cell_far (p := ⟨gb118, _, none⟩) NB117_118.out _).trans (((cell_far (p := ⟨gb118, _, none⟩) NB117_118.out _).trans (hHeld.2.2.2.1)))))))), ((cell_far (p := ⟨gb118, _, none⟩) NB117_118.out _).trans (((cell_far (p := ⟨gb118, _, none⟩) NB117_118.out _).trans (((cell_far (p := ⟨gb118, _, none⟩) NB117_118.out _).trans (((cell_far (p := ⟨gb118, _, none⟩) NB117_118.out _).trans (hHeld.2.2.2.2.1)))))))), ((cell_far (p := ⟨gb118, _, none⟩) NB117_118.out _).trans (((cell_far (p := ⟨gb118, _, none⟩) NB117_118.out _).trans (((cell_far (p := ⟨gb118, _, none⟩) NB117_118.out _).trans (((cell_far (p := ⟨gb118, _, none⟩) NB117_118.out _).trans (hHeld.2.2.2.2.2.1)))))))), ((cell_far (p := ⟨gb118, _, none⟩) NB117_118.out _).trans (((cell_far (p := ⟨gb118, _, none⟩) NB117_118.out _).trans (((cell_far (p := ⟨gb118, _, none⟩) NB117_118.out _).trans (((cell_far (p := ⟨gb118, _, none⟩) NB117_118.out _).trans (hHeld.2.2.2.2.2.2.1)))))))), ((cell_far (p := ⟨gb118, _, none⟩) NB117_118.out _).trans (((cell_far (p := ⟨gb118, _, none⟩) NB117_118.out _).trans (((cell_far (p := ⟨gb118, _, none⟩) NB117_118.out _).trans (((cell_far (p := ⟨gb118, _, none⟩) NB117_118.out _).trans (hHeld.2.2.2.2.2.2.2.1)))))))), ((cell_far (p := ⟨gb118, _, none⟩) NB117_118.out _).trans (((cell_far (p := ⟨gb118, _, none⟩) NB117_118.out _).trans (((cell_far (p := ⟨gb118, _, none⟩) NB117_118.out _).trans (((cell_far (p := ⟨gb118, _, none⟩) NB117_118.out _).trans (hHeld.2.2.2.2.2.2.2.2.1)))))))), ((cell_far (p := ⟨gb118, _, none⟩) NB117_118.out _).trans (((cell_far (p := ⟨gb118, _, none⟩) NB117_118.out _).trans (((cell_far (p := ⟨gb118, _, none⟩) NB117_118.out _).trans (((cell_far (p := ⟨gb118, _, none⟩) NB117_118.out _).trans (hHeld.2.2.2.2.2.2.2.2.2))))))))⟩ (fun hHeld => ?_)
                clear hK K
                refine one_ (i := 7) (N := none) #[true, true, true, true, true, true, true, true] rfl rfl (one_of HT_.out (by kernel_rfl)) (by decide) (fun K hK => ?_)
                have hs30 : w25.cell? ⟨gb119, 0, none⟩ = some (.int .i64 0) := (blk_cell BK119.out 0).trans rfl
                have hfs30 := blk_frozen BK119.out 0
                have hns30_0 := NB117_119.out
                have hns30_1 := NB118_119.out
                have hms30_0 := NB119_117.out
                have hms30_1 := NB119_118.out
                have hs31 : w25.cell? ⟨gb119, 1, none⟩ = some (.bool false) := (blk_cell BK119.out 1).trans rfl
                have hfs31 := blk_frozen BK119.out 1
                have hns31_0 := NB117_119.out
                have hns31_1 := NB118_119.out
                have hms31_0 := NB119_117.out
                have hms31_1 := NB119_118.out
                have hs32 : w25.cell? ⟨gb119, 2, none⟩ = some (.int .i64 0) := (blk_cell BK119.out 2).trans rfl
                have hfs32 := blk_frozen BK119.out 2
                have hns32_0 := NB117_119.out
                have hns32_1 := NB118_119.out
                have hms32_0 := NB119_117.out
                have hms32_1 := NB119_118.out
                have hs33 : w25.cell? ⟨gb119, 3, none⟩ = some (.int .i64 0) := (blk_cell BK119.out 3).trans rfl
                have hfs33 := blk_frozen BK119.out 3
                have hns33_0 := NB117_119.out
                have hns33_1 := NB118_119.out
                have hms33_0 := NB119_117.out
                have hms33_1 := NB119_118.out
                have hs34 : w25.cell? ⟨gb119, 4, none⟩ = some (.int .i64 0) := (blk_cell BK119.out 4).trans rfl
                have hfs34 := blk_frozen BK119.out 4
                have hns34_0 := NB117_119.out
                have hns34_1 := NB118_119.out
                have hms34_0 := NB119_117.out
                have hms34_1 := NB119_118.out
                have hs35 : w25.cell? ⟨gb119, 5, none⟩ = some (.string (⟨#[]⟩ : ByteArray)) := (blk_cell BK119.out 5).trans rfl
                have hfs35 := blk_frozen BK119.out 5
                have hns35_0 := NB117_119.out
                have hns35_1 := NB118_119.out
                have hms35_0 := NB119_117.out
                have hms35_1 := NB119_118.out
                refine skip_ (w1 := ?_) (by rfl) rfl ?_ ?_
                rotate_left
                · go_simp
                  rfl
                refine hK.out _ _ ⟨((cell_far (p := ⟨gb119, _, none⟩) NB117_119.out _).trans (((cell_far (p := ⟨gb119, _, none⟩) NB117_119.out _).trans (((cell_far (p := ⟨gb119, _, none⟩) NB117_119.out _).trans (((cell_far (p := ⟨gb119, _, none⟩) NB117_119.out _).trans (((cell_far (p := ⟨gb119, _, none⟩) NB117_119.out _).trans (((cell_far (p := ⟨gb119, _, none⟩) NB117_119.out _).trans (hHeld.1)))))))))))), ((cell_far (p := ⟨gb119, _, none⟩) NB117_119.out _).trans (((cell_far (p := ⟨gb119, _, none⟩) NB117_119.out _).trans (((cell_far (p := ⟨gb119, _, none⟩) NB117_119.out _).trans (((cell_far (p := ⟨gb119, _, none⟩) NB117_119.out _).trans (((cell_far (p := ⟨gb119, _, none⟩) NB117_119.out _).trans (((cell_far (p := ⟨gb119, _, none⟩) NB117_119.out _).trans (hHeld.2.1)))))))))))), ((cell_far (p := ⟨gb119, _, none⟩) NB117_119.out _).trans (((cell_far (p := ⟨gb119, _, none⟩) NB117_119.out _).trans (((cell_far (p := ⟨gb119, _, none⟩) NB117_119.out _).trans (((cell_far (p := ⟨gb119, _, none⟩) NB117_119.out _).trans (((cell_far (p := ⟨gb119, _, none⟩) NB117_119.out _).trans (((cell_far (p := ⟨gb119, _, none⟩) NB117_119.out _).trans (hHeld.2.2.1)))))))))))), ((cell_far (p := ⟨gb119, _, none⟩) NB117_119.out _).trans (((cell_far (p := ⟨gb119, _, none⟩) NB117_119.out _).trans (((cell_far (p := ⟨gb119, _, none⟩) NB117_119.out _).trans (((cell_far (p := ⟨gb119, _, none⟩) NB117_119.out _).trans (((cell_far (p := ⟨gb119, _, none⟩) NB117_119.out _).trans (((cell_far (p := ⟨gb119, _, none⟩) NB117_119.out _).trans (hHeld.2.2.2.1)))))))))))), ((cell_far (p := ⟨gb119, _, none⟩) NB117_119.out _).trans (((cell_far (p := ⟨gb119, _, none⟩) NB117_119.out _).trans (((cell_far (p := ⟨gb119, _, none⟩) NB117_119.out _).trans (((cell_far (p := ⟨gb119, _, none⟩) NB117_119.out _).trans (((cell_far (p := ⟨gb119, _, none⟩) NB117_119.out _).trans (((cell_far (p := ⟨gb119, _, none⟩) NB117_119.out _).trans (hHeld.2.2.2.2.1)))))))))))), ((cell_far (p := ⟨gb119, _, none⟩) NB117_119.out _).trans (((cell_far (p := ⟨gb119, _, none⟩) NB117_119.out _).trans (((cell_far (p := ⟨gb119, _, none⟩) NB117_119.out _).trans (((cell_far (p := ⟨gb119, _, none⟩) NB117_119.out _).trans (((cell_far (p := ⟨gb119, _, none⟩) NB117_119.out _).trans (((cell_far (p := ⟨gb119, _, none⟩) NB117_119.out _).trans (hHeld.2.2.2.2.2.1)))))))))))), ((cell_far (p := ⟨gb119, _, none⟩) NB117_119.out _).trans (((cell_far (p := ⟨gb119, _, none⟩) NB117_119.out _).trans (((cell_far (p := ⟨gb119, _, none⟩) NB117_119.out _).trans (((cell_far (p := ⟨gb119, _, none⟩) NB117_119.out _).trans (((cell_far (p := ⟨gb119, _, none⟩) NB117_119.out _).trans (((cell_far (p := ⟨gb119, _, none⟩) NB117_119.out _).trans (hHeld.2.2.2.2.2.2.1)))))))))))), ((cell_far (p := ⟨gb119, _, none⟩) NB117_119.out _).trans (((cell_far (p := ⟨gb119, _, none⟩) NB117_119.out _).trans (((cell_far (p := ⟨gb119, _, none⟩) NB117_119.out _).trans (((cell_far (p := ⟨gb119, _, none⟩) NB117_119.out _).trans (((cell_far (p := ⟨gb119, _, none⟩) NB117_119.out _).trans (((cell_far (p := ⟨gb119, _, none⟩) NB117_119.out _).trans (hHeld.2.2.2.2.2.2.2.1)))))))))))), ((cell_far (p := ⟨gb119, _, none⟩) NB117_119.out _).trans (((cell_far (p := ⟨gb119, _, none⟩) NB117_119.out _).trans (((cell_far (p := ⟨gb119, _, none⟩) NB117_119.out _).trans (((cell_far (p := ⟨gb119, _, none⟩) NB117_119.out _).trans (((cell_far (p := ⟨gb119, _, none⟩) NB117_119.out _).trans (((cell_far (p := ⟨gb119, _, none⟩) NB117_119.out _).trans (hHeld.2.2.2.2.2.2.2.2.1)))))))))))), ((cell_far (p := ⟨gb119, _, none⟩) NB117_119.out _).trans (((cell_far (p := ⟨gb119, _, none⟩) NB117_119.out _).trans (((cell_far (p := ⟨gb119, _, none⟩) NB117_119.out _).trans (((cell_far (p := ⟨gb119, _, none⟩) NB117_119.out _).trans (((cell_far (p := ⟨gb119, _, none⟩) NB117_119.out _).trans (((cell_far (p := ⟨gb119, _, none⟩) NB117_119.out _).trans (hHeld.2.2.2.2.2.2.2.2.2))))))))))))⟩ (fun hHeld => ?_)
                clear hK K
                refine done_ (done_of HT_.out (by kernel_rfl)) ?_
                try go_wp2
                have n0_ : Aside0 (Kd.R (Kd.int .u8) 5 ((((((((((w25.setCell ⟨gb118, 0, none⟩ (.string ((rd_T101 l0 x14_1).f0.f0))).setCell ⟨gb118, 1, none⟩ (.string ((rd_T101 l0 x14_1).f0.f1))).setCell ⟨gb118, 2, none⟩ (.int .i64 ((rd_T101 l0 x14_1).f0.f2))).setCell ⟨gb118, 3, none⟩ (.string ((rd_T101 l0 x14_1).f0.f3))).setCell ⟨gb119, 0, none⟩ (.int .i64 ((rd_T101 l0 x14_1).f1.f0))).setCell ⟨gb119, 1, none⟩ (.bool true)).setCell ⟨gb119, 2, none⟩ (.int .i64 ((rd_T101 l0 x14_1).f1.f2))).setCell ⟨gb119, 3, none⟩ (.int .i64 ((rd_T101 l0 x14_1).f1.f3.f0))).setCell ⟨gb119, 4, none⟩ (.int .i64 ((rd_T101 l0 x14_1).f1.f3.f1))).setCell ⟨gb119, 5, none⟩ (.string ((rd_T101 l0 x14_1).f1.f3.f2))) w.heap.size (fun _ => True) u3 x3_1) := ⟨by (with_reducible repeat (first | apply Kd.R_alloc | apply Kd.R_drewN | apply Kd.R_drew)); exact Kd.R_mono (Kd.R_far (p := ⟨gb119, 5, none⟩) (Kd.R_far (p := ⟨gb119, 4, none⟩) (Kd.R_far (p := ⟨gb119, 3, none⟩) (Kd.R_far (p := ⟨gb119, 2, none⟩) (Kd.R_far (p := ⟨gb119, 1, none⟩) (Kd.R_far (p := ⟨gb119, 0, none⟩) (Kd.R_far (p := ⟨gb118, 3, none⟩) (Kd.R_far (p := ⟨gb118, 2, none⟩) (Kd.R_far (p := ⟨gb118, 1, none⟩) (Kd.R_far (p := ⟨gb118, 0, none⟩) (Kd.R_types (Kd.R_types HO_3.out BK118.out (by decide)) BK119.out (by decide)) (fun _ hk => hk.1.2) (.string ((rd_T101 l0 x14_1).f0.f0))) (fun _ hk => hk.1.2) (.string ((rd_T101 l0 x14_1).f0.f1))) (fun _ hk => hk.1.2) (.int .i64 ((rd_T101 l0 x14_1).f0.f2))) (fun _ hk => hk.1.2) (.string ((rd_T101 l0 x14_1).f0.f3))) (fun _ hk => hk.2) (.int .i64 ((rd_T101 l0 x14_1).f1.f0))) (fun _ hk => hk.2) (.bool true)) (fun _ hk => hk.2) (.int .i64 ((rd_T101 l0 x14_1).f1.f2))) (fun _ hk => hk.2) (.int .i64 ((rd_T101 l0 x14_1).f1.f3.f0))) (fun _ hk => hk.2) (.int .i64 ((rd_T101 l0 x14_1).f1.f3.f1))) (fun _ hk => hk.2) (.string ((rd_T101 l0 x14_1).f1.f3.f2))) (fun _ hk => trivial)⟩
                have n1_ : Aside0 (((((((((((w25.setCell ⟨gb118, 0, none⟩ (.string ((rd_T101 l0 x14_1).f0.f0))).setCell ⟨gb118, 1, none⟩ (.string ((rd_T101 l0 x14_1).f0.f1))).setCell ⟨gb118, 2, none⟩ (.int .i64 ((rd_T101 l0 x14_1).f0.f2))).setCell ⟨gb118, 3, none⟩ (.string ((rd_T101 l0 x14_1).f0.f3))).setCell ⟨gb119, 0, none⟩ (.int .i64 ((rd_T101 l0 x14_1).f1.f0))).setCell ⟨gb119, 1, none⟩ (.bool true)).setCell ⟨gb119, 2, none⟩ (.int .i64 ((rd_T101 l0 x14_1).f1.f2))).setCell ⟨gb119, 3, none⟩ (.int .i64 ((rd_T101 l0 x14_1).f1.f3.f0))).setCell ⟨gb119, 4, none⟩ (.int .i64 ((rd_T101 l0 x14_1).f1.f3.f1))).setCell ⟨gb119, 5, none⟩ (.string ((rd_T101 l0 x14_1).f1.f3.f2))).heap[gb117]? = some (.cells #[.string ((rd_T101 l0 x14_1).f0.f0), .string ((rd_T101 l0 x14_1).f0.f1), .int .i64 ((rd_T101 l0 x14_1).f0.f2), .string ((rd_T101 l0 x14_1).f0.f3), .int .i64 ((rd_T101 l0 x14_1).f1.f0), .bool true, .int .i64 ((rd_T101 l0 x14_1).f1.f2), .int .i64 ((rd_T101 l0 x14_1).f1.f3.f0), .int .i64 ((rd_T101 l0 x14_1).f1.f3.f1), .string ((rd_T101 l0 x14_1).f1.f3.f2)] 101 (0, 0))) := ⟨by (with_reducible repeat (first | refine blk_drewN ?_ _ | refine blk_drew ?_ | refine blk_alloc ?_ _)); refine blk_far ?_ NB117_119.out _; (with_reducible repeat (first | refine blk_drewN ?_ _ | refine blk_drew ?_ | refine blk_alloc ?_ _)); refine blk_far ?_ NB117_119.out _; (with_reducible repeat (first | refine blk_drewN ?_ _ | refine blk_drew ?_ | refine blk_alloc ?_ _)); refine blk_far ?_ NB117_119.out _; (with_reducible repeat (first | refine blk_drewN ?_ _ | refine blk_drew ?_ | refine blk_alloc ?_ _)); refine blk_far ?_ NB117_119.out _; (with_reducible repeat (first | refine blk_drewN ?_ _ | refine blk_drew ?_ | refine blk_alloc ?_ _)); refine blk_far ?_ NB117_119.out _; (with_reducible repeat (first | refine blk_drewN ?_ _ | refine blk_drew ?_ | refine blk_alloc ?_ _)); refine blk_far ?_ NB117_119.out _; (with_reducible repeat (first | refine blk_drewN ?_ _ | refine blk_drew ?_ | refine blk_alloc ?_ _)); refine blk_far ?_ NB117_118.out _; (with_reducible repeat (first | refine blk_drewN ?_ _ | refine blk_drew ?_ | refine blk_alloc ?_ _)); refine blk_far ?_ NB117_118.out _; (with_reducible repeat (first | refine blk_drewN ?_ _ | refine blk_drew ?_ | refine blk_alloc ?_ _)); refine blk_far ?_ NB117_118.out _; (with_reducible repeat (first | refine blk_drewN ?_ _ | refine blk_drew ?_ | refine blk_alloc ?_ _)); refine blk_far ?_ NB117_118.out _; (with_reducible repeat (first | refine blk_drewN ?_ _ | refine blk_drew ?_ | refine blk_alloc ?_ _)); exact BK117.out⟩
                have n2_ : Aside0 (((((((((((w25.setCell ⟨gb118, 0, none⟩ (.string ((rd_T101 l0 x14_1).f0.f0))).setCell ⟨gb118, 1, none⟩ (.string ((rd_T101 l0 x14_1).f0.f1))).setCell ⟨gb118, 2, none⟩ (.int .i64 ((rd_T101 l0 x14_1).f0.f2))).setCell ⟨gb118, 3, none⟩ (.string ((rd_T101 l0 x14_1).f0.f3))).setCell ⟨gb119, 0, none⟩ (.int .i64 ((rd_T101 l0 x14_1).f1.f0))).setCell ⟨gb119, 1, none⟩ (.bool true)).setCell ⟨gb119, 2, none⟩ (.int .i64 ((rd_T101 l0 x14_1).f1.f2))).setCell ⟨gb119, 3, none⟩ (.int .i64 ((rd_T101 l0 x14_1).f1.f3.f0))).setCell ⟨gb119, 4, none⟩ (.int .i64 ((rd_T101 l0 x14_1).f1.f3.f1))).setCell ⟨gb119, 5, none⟩ (.string ((rd_T101 l0 x14_1).f1.f3.f2))).heap[gb118]? = some (.cells #[.string ((rd_T101 l0 x14_1).f0.f0), .string ((rd_T101 l0 x14_1).f0.f1), .int .i64 ((rd_T101 l0 x14_1).f0.f2), .string ((rd_T101 l0 x14_1).f0.f3)] 95 (0, 0))) := ⟨by (with_reducible repeat (first | refine blk_drewN ?_ _ | refine blk_drew ?_ | refine blk_alloc ?_ _)); refine blk_far ?_ NB118_119.out _; (with_reducible repeat (first | refine blk_drewN ?_ _ | refine blk_drew ?_ | refine blk_alloc ?_ _)); refine blk_far ?_ NB118_119.out _; (with_reducible repeat (first | refine blk_drewN ?_ _ | refine blk_drew ?_ | refine blk_alloc ?_ _)); refine blk_far ?_ NB118_119.out _; (with_reducible repeat (first | refine blk_drewN ?_ _ | refine blk_drew ?_ | refine blk_alloc ?_ _)); refine blk_far ?_ NB118_119.out _; (with_reducible repeat (first | refine blk_drewN ?_ _ | refine blk_drew ?_ | refine blk_alloc ?_ _)); refine blk_far ?_ NB118_119.out _; (with_reducible repeat (first | refine blk_drewN ?_ _ | refine blk_drew ?_ | refine blk_alloc ?_ _)); refine blk_far ?_ NB118_119.out _; (with_reducible repeat (first | refine blk_drewN ?_ _ | refine blk_drew ?_ | refine blk_alloc ?_ _)); refine blk_put (cs := #[.string ((rd_T101 l0 x14_1).f0.f0), .string ((rd_T101 l0 x14_1).f0.f1), .int .i64 ((rd_T101 l0 x14_1).f0.f2), .string (⟨#[]⟩ : ByteArray)]) ?_ 3 _ rfl; (with_reducible repeat (first | refine blk_drewN ?_ _ | refine blk_drew ?_ | refine blk_alloc ?_ _)); refine blk_put (cs := #[.string ((rd_T101 l0 x14_1).f0.f0), .string ((rd_T101 l0 x14_1).f0.f1), .int .i64 0, .string (⟨#[]⟩ : ByteArray)]) ?_ 2 _ rfl; (with_reducible repeat (first | refine blk_drewN ?_ _ | refine blk_drew ?_ | refine blk_alloc ?_ _)); refine blk_put (cs := #[.string ((rd_T101 l0 x14_1).f0.f0), .string (⟨#[]⟩ : ByteArray), .int .i64 0, .string (⟨#[]⟩ : ByteArray)]) ?_ 1 _ rfl; (with_reducible repeat (first | refine blk_drewN ?_ _ | refine blk_drew ?_ | refine blk_alloc ?_ _)); refine blk_put (cs := #[.string (⟨#[]⟩ : ByteArray), .string (⟨#[]⟩ : ByteArray), .int .i64 0, .string (⟨#[]⟩ : ByteArray)]) ?_ 0 _ rfl; (with_reducible repeat (first | refine blk_drewN ?_ _ | refine blk_drew ?_ | refine blk_alloc ?_ _)); exact BK118.out⟩
                have n3_ : Aside0 (((((((((((w25.setCell ⟨gb118, 0, none⟩ (.string ((rd_T101 l0 x14_1).f0.f0))).setCell ⟨gb118, 1, none⟩ (.string ((rd_T101 l0 x14_1).f0.f1))).setCell ⟨gb118, 2, none⟩ (.int .i64 ((rd_T101 l0 x14_1).f0.f2))).setCell ⟨gb118, 3, none⟩ (.string ((rd_T101 l0 x14_1).f0.f3))).setCell ⟨gb119, 0, none⟩ (.int .i64 ((rd_T101 l0 x14_1).f1.f0))).setCell ⟨gb119, 1, none⟩ (.bool true)).setCell ⟨gb119, 2, none⟩ (.int .i64 ((rd_T101 l0 x14_1).f1.f2))).setCell ⟨gb119, 3, none⟩ (.int .i64 ((rd_T101 l0 x14_1).f1.f3.f0))).setCell ⟨gb119, 4, none⟩ (.int .i64 ((rd_T101 l0 x14_1).f1.f3.f1))).setCell ⟨gb119, 5, none⟩ (.string ((rd_T101 l0 x14_1).f1.f3.f2))).heap[gb119]? = some (.cells #[.int .i64 ((rd_T101 l0 x14_1).f1.f0), .bool true, .int .i64 ((rd_T101 l0 x14_1).f1.f2), .int .i64 ((rd_T101 l0 x14_1).f1.f3.f0), .int .i64 ((rd_T101 l0 x14_1).f1.f3.f1), .string ((rd_T101 l0 x14_1).f1.f3.f2)] 99 (0, 0))) := ⟨by (with_reducible repeat (first | refine blk_drewN ?_ _ | refine blk_drew ?_ | refine blk_alloc ?_ _)); refine blk_put (cs := #[.int .i64 ((rd_T101 l0 x14_1).f1.f0), .bool true, .int .i64 ((rd_T101 l0 x14_1).f1.f2), .int .i64 ((rd_T101 l0 x14_1).f1.f3.f0), .int .i64 ((rd_T101 l0 x14_1).f1.f3.f1), .string (⟨#[]⟩ : ByteArray)]) ?_ 5 _ rfl; (with_reducible repeat (first | refine blk_drewN ?_ _ | refine blk_drew ?_ | refine blk_alloc ?_ _)); refine blk_put (cs := #[.int .i64 ((rd_T101 l0 x14_1).f1.f0), .bool true, .int .i64 ((rd_T101 l0 x14_1).f1.f2), .int .i64 ((rd_T101 l0 x14_1).f1.f3.f0), .int .i64 0, .string (⟨#[]⟩ : ByteArray)]) ?_ 4 _ rfl; (with_reducible repeat (first | refine blk_drewN ?_ _ | refine blk_drew ?_ | refine blk_alloc ?_ _)); refine blk_put (cs := #[.int .i64 ((rd_T101 l0 x14_1).f1.f0), .bool true, .int .i64 ((rd_T101 l0 x14_1).f1.f2), .int .i64 0, .int .i64 0, .string (⟨#[]⟩ : ByteArray)]) ?_ 3 _ rfl; (with_reducible repeat (first | refine blk_drewN ?_ _ | refine blk_drew ?_ | refine blk_alloc ?_ _)); refine blk_put (cs := #[.int .i64 ((rd_T101 l0 x14_1).f1.f0), .bool true, .int .i64 0, .int .i64 0, .int .i64 0, .string (⟨#[]⟩ : ByteArray)]) ?_ 2 _ rfl; (with_reducible repeat (first | refine blk_drewN ?_ _ | refine blk_drew ?_ | refine blk_alloc ?_ _)); refine blk_put (cs := #[.int .i64 ((rd_T101 l0 x14_1).f1.f0), .bool false, .int .i64 0, .int .i64 0, .int .i64 0, .string (⟨#[]⟩ : ByteArray)]) ?_ 1 _ rfl; (with_reducible repeat (first | refine blk_drewN ?_ _ | refine blk_drew ?_ | refine blk_alloc ?_ _)); refine blk_put (cs := #[.int .i64 0, .bool false, .int .i64 0, .int .i64 0, .int .i64 0, .string (⟨#[]⟩ : ByteArray)]) ?_ 0 _ rfl; (with_reducible repeat (first | refine blk_drewN ?_ _ | refine blk_drew ?_ | refine blk_alloc ?_ _)); refine blk_far ?_ NB119_118.out _; (with_reducible repeat (first | refine blk_drewN ?_ _ | refine blk_drew ?_ | refine blk_alloc ?_ _)); refine blk_far ?_ NB119_118.out _; (with_reducible repeat (first | refine blk_drewN ?_ _ | refine blk_drew ?_ | refine blk_alloc ?_ _)); refine blk_far ?_ NB119_118.out _; (with_reducible repeat (first | refine blk_drewN ?_ _ | refine blk_drew ?_ | refine blk_alloc ?_ _)); refine blk_far ?_ NB119_118.out _; (with_reducible repeat (first | refine blk_drewN ?_ _ | refine blk_drew ?_ | refine blk_alloc ?_ _)); exact BK119.out⟩
                have n4_ : Aside0 (Below w.heap.size w ((((((((((w25.setCell ⟨gb118, 0, none⟩ (.string ((rd_T101 l0 x14_1).f0.f0))).setCell ⟨gb118, 1, none⟩ (.string ((rd_T101 l0 x14_1).f0.f1))).setCell ⟨gb118, 2, none⟩ (.int .i64 ((rd_T101 l0 x14_1).f0.f2))).setCell ⟨gb118, 3, none⟩ (.string ((rd_T101 l0 x14_1).f0.f3))).setCell ⟨gb119, 0, none⟩ (.int .i64 ((rd_T101 l0 x14_1).f1.f0))).setCell ⟨gb119, 1, none⟩ (.bool true)).setCell ⟨gb119, 2, none⟩ (.int .i64 ((rd_T101 l0 x14_1).f1.f2))).setCell ⟨gb119, 3, none⟩ (.int .i64 ((rd_T101 l0 x14_1).f1.f3.f0))).setCell ⟨gb119, 4, none⟩ (.int .i64 ((rd_T101 l0 x14_1).f1.f3.f1))).setCell ⟨gb119, 5, none⟩ (.string ((rd_T101 l0 x14_1).f1.f3.f2)))) := ⟨by repeat (first | (with_reducible first | exact HB.out | apply below_alloc | apply pw_below_drewN | apply below_drew1 | refine below_set ?_ GE117.out | refine below_set ?_ GE118.out | refine below_set ?_ GE119.out) | exact HB.out)⟩
                (try clear HO_3)
                (try clear BK117)
                (try clear BK118)
                (try clear BK119)
                (try clear HB)
                generalize ((((((((((w25.setCell ⟨gb118, 0, none⟩ (.string ((rd_T101 l0 x14_1).f0.f0))).setCell ⟨gb118, 1, none⟩ (.string ((rd_T101 l0 x14_1).f0.f1))).setCell ⟨gb118, 2, none⟩ (.int .i64 ((rd_T101 l0 x14_1).f0.f2))).setCell ⟨gb118, 3, none⟩ (.string ((rd_T101 l0 x14_1).f0.f3))).setCell ⟨gb119, 0, none⟩ (.int .i64 ((rd_T101 l0 x14_1).f1.f0))).setCell ⟨gb119, 1, none⟩ (.bool true)).setCell ⟨gb119, 2, none⟩ (.int .i64 ((rd_T101 l0 x14_1).f1.f2))).setCell ⟨gb119, 3, none⟩ (.int .i64 ((rd_T101 l0 x14_1).f1.f3.f0))).setCell ⟨gb119, 4, none⟩ (.int .i64 ((rd_T101 l0 x14_1).f1.f3.f1))).setCell ⟨gb119, 5, none⟩ (.string ((rd_T101 l0 x14_1).f1.f3.f2))) = w36 at n0_ n1_ n2_ n3_ n4_ ⊢
                have HO_3 := n0_
                have BK117 := n1_
                have BK118 := n2_
                have BK119 := n3_
                have HB := n4_
                clear n0_ n1_ n2_ n3_ n4_
                have n0_ := Aside0.mk (Kd.R_drew HO_3.out)
                have n1_ := Aside0.mk (blk_drew BK117.out)
                have n2_ := Aside0.mk (blk_drew BK118.out)
                have n3_ := Aside0.mk (blk_drew BK119.out)
                have n4_ := Aside0.mk (below_drew1 HB.out)
                clear HO_3
                clear BK117
                clear BK118
                clear BK119
                clear HB
                have HO_3 := n0_
                have BK117 := n1_
                have BK118 := n2_
                have BK119 := n3_
                have HB := n4_
                clear n0_ n1_ n2_ n3_ n4_
                obtain ⟨Ao38, co38, eo38⟩ := Kd.R_slice HO_3.out
                (first | subst eo38 | (injection eo38 with f1_ f2_ f3_; have f4_ := f1_.symm; have f5_ := f3_.symm; clear f1_ f2_ f3_; subst f4_; subst f5_))
                refine start_ (n := 15) (S := fun w' => w'.cell? ⟨gb118, 0, none⟩ = some (.string ((rd_T101 l0 x14_1).f0.f0)) ∧ w'.cell? ⟨gb118, 1, none⟩ = some (.string ((rd_T101 l0 x14_1).f0.f1)) ∧ w'.cell? ⟨gb118, 2, none⟩ = some (.int .i64 ((rd_T101 l0 x14_1).f0.f2)) ∧ w'.cell? ⟨gb118, 3, none⟩ = some (.string ((rd_T101 l0 x14_1).f0.f3))) (ds := []) #[false, false, false, false, false, false, false, false, false, false, false, false, false, false, false] (by kernel_rfl) rfl rfl ⟨(blk_cell BK118.out 0).trans rfl, (blk_cell BK118.out 1).trans rfl, (blk_cell BK118.out 2).trans rfl, (blk_cell BK118.out 3).trans rfl⟩ (fun hHeld => ?_); refine with_tabW codec_Cells.tab6 codec_Cells.bits6 (fun HT_ HW_ => ?_)
                generalize w36.drew = w37 at HO_3 BK117 BK118 BK119 HB hHeld ⊢
                refine pure_ (i := 0) (N := some 22) (v := ?_) (a' := ?_) #[true, false, false, false, false, false, false, false, false, false, false, false, false, false, false] rfl rfl (any_of HT_.out (by kernel_rfl)) (fun _ _ _ h => h) (Or.inl ⟨by rfl, ?_⟩) ?_ ?_
                rotate_left
                · intro w'
                  go_simp
                  with_reducible rfl
                rotate_left
                · simp only [Act.put, List.setIfInBounds_toArray, List.set_cons_zero, List.set_cons_succ, i64_w, i32_w]
                  rfl
                refine pure_ (i := 1) (N := some 23) (v := ?_) (a' := ?_) #[true, true, false, false, false, false, false, false, false, false, false, false, false, false, false] rfl rfl (any_of HT_.out (by kernel_rfl)) (fun _ _ _ h => h) (Or.inl ⟨by rfl, ?_⟩) ?_ ?_
                rotate_left
                · intro w'
                  go_simp
                  with_reducible rfl
                rotate_left
                · simp only [Act.put, List.setIfInBounds_toArray, List.set_cons_zero, List.set_cons_succ, i64_w, i32_w]
                  rfl
                refine pure_ (i := 4) (N := some 26) (v := ?_) (a' := ?_) #[true, true, false, false, true, false, false, false, false, false, false, false, false, false, false] rfl rfl (any_of HT_.out (by kernel_rfl)) (fun _ _ _ h => h) (Or.inl ⟨by rfl, ?_⟩) ?_ ?_
                rotate_left
                · intro w'
                  go_simp
                  with_reducible rfl
                rotate_left
                · simp only [Act.put, List.setIfInBounds_toArray, List.set_cons_zero, List.set_cons_succ, i64_w, i32_w]
                  rfl
                refine pure_ (i := 7) (N := some 29) (v := ?_) (a' := ?_) #[true, true, false, false, true, false, false, true, false, false, false, false, false, false, false] rfl rfl (any_of HT_.out (by kernel_rfl)) (fun _ _ _ h => h) (Or.inl ⟨by rfl, ?_⟩) ?_ ?_
                rotate_left
                · intro w'
                  go_simp
                  with_reducible rfl
                rotate_left
                · simp only [Act.put, List.setIfInBounds_toArray, List.set_cons_zero, List.set_cons_succ, i64_w, i32_w]
                  rfl
                refine pure_ (i := 11) (N := some 33) (v := ?_) (a' := ?_) #[true, true, false, false, true, false, false, true, false, false, false, true, false, false, false] rfl rfl (any_of HT_.out (by kernel_rfl)) (fun _ _ _ h => h) (Or.inl ⟨by rfl, ?_⟩) ?_ ?_
                rotate_left
                · intro w'
                  go_simp
                  with_reducible rfl
                rotate_left
                · simp only [Act.put, List.setIfInBounds_toArray, List.set_cons_zero, List.set_cons_succ, i64_w, i32_w]
                  rfl
                refine take_ (i := 2) (N := some 24) (v := ?_) (a' := ?_) #[true, true, true, false, true, false, false, true, false, false, false, true, false, false, false] rfl rfl (take_ofW HT_.out HW_.out (by kernel_rfl)) (fun _ _ _ h => h) (Or.inl ⟨by rfl, ?_⟩) hHeld ?_ ?_
                rotate_left
                · rintro w' ⟨s0, s1, s2, s3⟩
                  go_simp
                  with_reducible rfl
                rotate_left
                · simp only [Act.put, List.setIfInBounds_toArray, List.set_cons_zero, List.set_cons_succ, i64_w, i32_w]
                  rfl
                refine take_ (i := 5) (N := some 27) (v := ?_) (a' := ?_) #[true, true, true, false, true, true, false, true, false, false, false, true, false, false, false] rfl rfl (take_ofW HT_.out HW_.out (by kernel_rfl)) (fun _ _ _ h => h) (Or.inl ⟨by rfl, ?_⟩) hHeld ?_ ?_
                rotate_left
                · rintro w' ⟨s0, s1, s2, s3⟩
                  go_simp
                  with_reducible rfl
                rotate_left
                · simp only [Act.put, List.setIfInBounds_toArray, List.set_cons_zero, List.set_cons_succ, i64_w, i32_w]
                  rfl
                refine take_ (i := 8) (N := some 30) (v := ?_) (a' := ?_) #[true, true, true, false, true, true, false, true, true, false, false, true, false, false, false] rfl rfl (take_ofW HT_.out HW_.out (by kernel_rfl)) (fun _ _ _ h => h) (Or.inl ⟨by rfl, ?_⟩) hHeld ?_ ?_
                rotate_left
                · rintro w' ⟨s0, s1, s2, s3⟩
                  go_simp
                  with_reducible rfl
                rotate_left
                · simp only [Act.put, List.setIfInBounds_toArray, List.set_cons_zero, List.set_cons_succ, i64_w, i32_w]
                  rfl
                refine take_ (i := 12) (N := some 34) (v := ?_) (a' := ?_) #[true, true, true, false, true, true, false, true, true, false, false, true, true, false, false] rfl rfl (take_ofW HT_.out HW_.out (by kernel_rfl)) (fun _ _ _ h => h) (Or.inl ⟨by rfl, ?_⟩) hHeld ?_ ?_
                rotate_left
                · rintro w' ⟨s0, s1, s2, s3⟩
                  go_simp
                  with_reducible rfl
                rotate_left
                · simp only [Act.put, List.setIfInBounds_toArray, List.set_cons_zero, List.set_cons_succ, i64_w, i32_w]
                  rfl
                refine one_ (i := 3) (N := some 25) #[true, true, true, true, true, true, false, true, true, false, false, true, true, false, false] rfl rfl (one_of HT_.out (by kernel_rfl)) (by decide) (fun K hK => ?_)
                refine goes_ Try.func74 (by kernel_rfl) rfl #[.slice Ao38 x3_1.length co38, .string ((rd_T101 l0 x14_1).f0.f0)] (by rfl) rfl rfl (by (try simp only [List.map_toArray, List.map_cons, List.map_nil]); first | done | rfl | (simp only [List.length_drop, List.length_take]; rfl)) ?_
                with_reducible refine (codec_text.calls k1 (fun k_ => some k_ = (.slice Ao38 x3_1.length co38 : Value).ownBlock) (.slice Ao38 x3_1.length co38) x3_1 ((rd_T101 l0 x14_1).f0.f0) t120 w _ ?side1 ?side2 A7.out).mono ?_
                (case side1 => repeat (first | (with_reducible first | exact HB.out | apply below_alloc | apply pw_below_drewN | apply below_drew1 | refine below_set ?_ GE117.out | refine below_set ?_ GE118.out | refine below_set ?_ GE119.out) | exact HB.out))
                (case side2 => exact Kd.R_tight rfl HO_3.out)
                rintro e w39 ⟨v121, rfl, ho0, hb, hkp⟩
                refine ⟨_, rfl, ?_⟩
                have n0_ := Aside0.mk (blk_kept (by first | (with_reducible exact BK117.out) | (with_reducible exact blk_drewN BK117.out _) | (with_reducible exact blk_drew BK117.out) | (with_reducible exact blk_alloc BK117.out _) | ((with_reducible repeat (first | refine blk_drewN ?_ _ | refine blk_drew ?_ | refine blk_alloc ?_ _)); exact BK117.out)) hkp (fun hs_ => (fun e_ => (Kd.R_ne HO_3.out BK117.out (by decide)) e_) hs_))
                have n1_ := Aside0.mk (blk_kept (by first | (with_reducible exact BK118.out) | (with_reducible exact blk_drewN BK118.out _) | (with_reducible exact blk_drew BK118.out) | (with_reducible exact blk_alloc BK118.out _) | ((with_reducible repeat (first | refine blk_drewN ?_ _ | refine blk_drew ?_ | refine blk_alloc ?_ _)); exact BK118.out)) hkp (fun hs_ => (fun e_ => (Kd.R_ne HO_3.out BK118.out (by decide)) e_) hs_))
                have n2_ := Aside0.mk (blk_kept (by first | (with_reducible exact BK119.out) | (with_reducible exact blk_drewN BK119.out _) | (with_reducible exact blk_drew BK119.out) | (with_reducible exact blk_alloc BK119.out _) | ((with_reducible repeat (first | refine blk_drewN ?_ _ | refine blk_drew ?_ | refine blk_alloc ?_ _)); exact BK119.out)) hkp (fun hs_ => (fun e_ => (Kd.R_ne HO_3.out BK119.out (by decide)) e_) hs_))
                have n3_ := Aside0.mk (Kd.R_mono (ok' := fun k_ => True) ho0 (fun k_ hk_ => trivial))
                have n4_ := Aside0.mk (hb)
                clear BK117
                clear BK118
                clear BK119
                clear HB
                clear HO_3
                have BK117 := n0_
                have BK118 := n1_
                have BK119 := n2_
                have HO122 := n3_
                have HB := n4_
                clear n0_ n1_ n2_ n3_ n4_
                (try clear hb)
                (try clear hkp)
                (try clear ho0)
                obtain ⟨Ao40, co40, eo40⟩ := Kd.R_slice HO122.out
                (first | subst eo40 | (injection eo40 with f1_ f2_ f3_; have f4_ := f1_.symm; have f5_ := f3_.symm; clear f1_ f2_ f3_; subst f4_; subst f5_))
                refine hK.out _ _ ⟨(blk_cell BK118.out 0).trans rfl, (blk_cell BK118.out 1).trans rfl, (blk_cell BK118.out 2).trans rfl, (blk_cell BK118.out 3).trans rfl⟩ (fun hHeld => ?_)
                clear hK K
                refine norm_ (a' := ?_) ?_ ?_
                rotate_left
                · show Act.put _ (some 25) _ = _
                  simp only [Act.put, List.setIfInBounds_toArray, List.set_cons_zero, List.set_cons_succ, i64_w, i32_w]
                  rfl
                refine one_ (i := 6) (N := some 28) #[true, true, true, true, true, true, true, true, true, false, false, true, true, false, false] rfl rfl (one_of HT_.out (by kernel_rfl)) (by decide) (fun K hK => ?_)
                refine goes_ Try.func74 (by kernel_rfl) rfl #[.slice Ao40 t120.length co40, .string ((rd_T101 l0 x14_1).f0.f1)] (by rfl) rfl rfl (by (try simp only [List.map_toArray, List.map_cons, List.map_nil]); first | done | rfl | (simp only [List.length_drop, List.length_take]; rfl)) ?_
                with_reducible refine (codec_text.calls k1 (fun k_ => some k_ = (.slice Ao40 t120.length co40 : Value).ownBlock) (.slice Ao40 t120.length co40) t120 ((rd_T101 l0 x14_1).f0.f1) t123 w _ ?side1 ?side2 A8.out).mono ?_
                (case side1 => repeat (first | (with_reducible first | exact HB.out | apply below_alloc | apply pw_below_drewN | apply below_drew1 | refine below_set ?_ GE117.out | refine below_set ?_ GE118.out | refine below_set ?_ GE119.out) | exact HB.out))
                (case side2 => exact Kd.R_tight rfl HO122.out)
                rintro e w41 ⟨v124, rfl, ho0, hb, hkp⟩
                refine ⟨_, rfl, ?_⟩
                have n0_ := Aside0.mk (blk_kept (by first | (with_reducible exact BK117.out) | (with_reducible exact blk_drewN BK117.out _) | (with_reducible exact blk_drew BK117.out) | (with_reducible exact blk_alloc BK117.out _) | ((with_reducible repeat (first | refine blk_drewN ?_ _ | refine blk_drew ?_ | refine blk_alloc ?_ _)); exact BK117.out)) hkp (fun hs_ => (fun e_ => (Kd.R_ne HO122.out BK117.out (by decide)) e_) hs_))
                have n1_ := Aside0.mk (blk_kept (by first | (with_reducible exact BK118.out) | (with_reducible exact blk_drewN BK118.out _) | (with_reducible exact blk_drew BK118.out) | (with_reducible exact blk_alloc BK118.out _) | ((with_reducible repeat (first | refine blk_drewN ?_ _ | refine blk_drew ?_ | refine blk_alloc ?_ _)); exact BK118.out)) hkp (fun hs_ => (fun e_ => (Kd.R_ne HO122.out BK118.out (by decide)) e_) hs_))
                have n2_ := Aside0.mk (blk_kept (by first | (with_reducible exact BK119.out) | (with_reducible exact blk_drewN BK119.out _) | (with_reducible exact blk_drew BK119.out) | (with_reducible exact blk_alloc BK119.out _) | ((with_reducible repeat (first | refine blk_drewN ?_ _ | refine blk_drew ?_ | refine blk_alloc ?_ _)); exact BK119.out)) hkp (fun hs_ => (fun e_ => (Kd.R_ne HO122.out BK119.out (by decide)) e_) hs_))
                have n3_ := Aside0.mk (Kd.R_mono (ok' := fun k_ => True) ho0 (fun k_ hk_ => trivial))
                have n4_ := Aside0.mk (hb)
                clear BK117
                clear BK118
                clear BK119
                clear HB
                clear HO122
                have BK117 := n0_
                have BK118 := n1_
                have BK119 := n2_
                have HO125 := n3_
                have HB := n4_
                clear n0_ n1_ n2_ n3_ n4_
                (try clear hb)
                (try clear hkp)
                (try clear ho0)
                refine hK.out _ _ ⟨(blk_cell BK118.out 0).trans rfl, (blk_cell BK118.out 1).trans rfl, (blk_cell BK118.out 2).trans rfl, (blk_cell BK118.out 3).trans rfl⟩ (fun hHeld => ?_)
                clear hK K
                refine norm_ (a' := ?_) ?_ ?_
                rotate_left
                · show Act.put _ (some 28) _ = _
                  simp only [Act.put, List.setIfInBounds_toArray, List.set_cons_zero, List.set_cons_succ, i64_w, i32_w]
                  rfl
                refine one_ (i := 9) (N := some 31) #[true, true, true, true, true, true, true, true, true, true, false, true, true, false, false] rfl rfl (one_of HT_.out (by kernel_rfl)) (by decide) (fun K hK => ?_)
                refine goes_ Try.func21 (by kernel_rfl) rfl #[.int .i64 ((rd_T101 l0 x14_1).f0.f2)] (by rfl) rfl rfl (by (try simp only [List.map_toArray, List.map_cons, List.map_nil]); first | done | rfl | (simp only [List.length_drop, List.length_take]; rfl)) ?_
                with_reducible refine (codec_Zig.calls ((rd_T101 l0 x14_1).f0.f2) t126 _ A9.out).mono ?_
                rintro e w' ⟨rfl, ⟨nd, rfl⟩⟩
                refine ⟨_, rfl, ?_⟩
                obtain ⟨Ao42, co42, eo42⟩ := Kd.R_slice HO125.out
                (first | subst eo42 | (injection eo42 with f1_ f2_ f3_; have f4_ := f1_.symm; have f5_ := f3_.symm; clear f1_ f2_ f3_; subst f4_; subst f5_))
                refine hK.out _ _ ⟨(blk_cell BK118.out 0).trans rfl, (blk_cell BK118.out 1).trans rfl, (blk_cell BK118.out 2).trans rfl, (blk_cell BK118.out 3).trans rfl⟩ (fun hHeld => ?_)
                clear hK K
                refine norm_ (a' := ?_) ?_ ?_
                rotate_left
                · show Act.put _ (some 31) _ = _
                  simp only [Act.put, List.setIfInBounds_toArray, List.set_cons_zero, List.set_cons_succ, i64_w, i32_w]
                  rfl
                refine one_ (i := 10) (N := some 32) #[true, true, true, true, true, true, true, true, true, true, true, true, true, false, false] rfl rfl (one_of HT_.out (by kernel_rfl)) (by decide) (fun K hK => ?_)
                refine goes_ Try.func73 (by kernel_rfl) rfl #[.slice Ao42 t123.length co42, .int .u64 t126] (by rfl) rfl rfl (by (try simp only [List.map_toArray, List.map_cons, List.map_nil]); first | done | rfl | (simp only [List.length_drop, List.length_take]; rfl)) ?_
                with_reducible refine (codec_put.calls k1 (fun k_ => some k_ = (.slice Ao42 t123.length co42 : Value).ownBlock) (.slice Ao42 t123.length co42) t123 t126 t127 w _ ?side1 ?side2 A10.out).mono ?_
                (case side1 => repeat (first | (with_reducible first | exact HB.out | apply below_alloc | apply pw_below_drewN | apply below_drew1 | refine below_set ?_ GE117.out | refine below_set ?_ GE118.out | refine below_set ?_ GE119.out) | exact HB.out))
                (case side2 => exact Kd.R_tight rfl HO125.out)
                rintro e w43 ⟨v128, rfl, ho0, hb, hkp⟩
                refine ⟨_, rfl, ?_⟩
                have n0_ := Aside0.mk (blk_kept (by first | (with_reducible exact BK117.out) | (with_reducible exact blk_drewN BK117.out _) | (with_reducible exact blk_drew BK117.out) | (with_reducible exact blk_alloc BK117.out _) | ((with_reducible repeat (first | refine blk_drewN ?_ _ | refine blk_drew ?_ | refine blk_alloc ?_ _)); exact BK117.out)) hkp (fun hs_ => (fun e_ => (Kd.R_ne HO125.out BK117.out (by decide)) e_) hs_))
                have n1_ := Aside0.mk (blk_kept (by first | (with_reducible exact BK118.out) | (with_reducible exact blk_drewN BK118.out _) | (with_reducible exact blk_drew BK118.out) | (with_reducible exact blk_alloc BK118.out _) | ((with_reducible repeat (first | refine blk_drewN ?_ _ | refine blk_drew ?_ | refine blk_alloc ?_ _)); exact BK118.out)) hkp (fun hs_ => (fun e_ => (Kd.R_ne HO125.out BK118.out (by decide)) e_) hs_))
                have n2_ := Aside0.mk (blk_kept (by first | (with_reducible exact BK119.out) | (with_reducible exact blk_drewN BK119.out _) | (with_reducible exact blk_drew BK119.out) | (with_reducible exact blk_alloc BK119.out _) | ((with_reducible repeat (first | refine blk_drewN ?_ _ | refine blk_drew ?_ | refine blk_alloc ?_ _)); exact BK119.out)) hkp (fun hs_ => (fun e_ => (Kd.R_ne HO125.out BK119.out (by decide)) e_) hs_))
                have n3_ := Aside0.mk (Kd.R_mono (ok' := fun k_ => True) ho0 (fun k_ hk_ => trivial))
                have n4_ := Aside0.mk (hb)
                clear BK117
                clear BK118
                clear BK119
                clear HB
                clear HO125
                have BK117 := n0_
                have BK118 := n1_
                have BK119 := n2_
                have HO129 := n3_
                have HB := n4_
                clear n0_ n1_ n2_ n3_ n4_
                (try clear hb)
                (try clear hkp)
                (try clear ho0)
                obtain ⟨Ao44, co44, eo44⟩ := Kd.R_slice HO129.out
                (first | subst eo44 | (injection eo44 with f1_ f2_ f3_; have f4_ := f1_.symm; have f5_ := f3_.symm; clear f1_ f2_ f3_; subst f4_; subst f5_))
                refine hK.out _ _ ⟨(blk_cell BK118.out 0).trans rfl, (blk_cell BK118.out 1).trans rfl, (blk_cell BK118.out 2).trans rfl, (blk_cell BK118.out 3).trans rfl⟩ (fun hHeld => ?_)
                clear hK K
                refine norm_ (a' := ?_) ?_ ?_
                rotate_left
                · show Act.put _ (some 32) _ = _
                  simp only [Act.put, List.setIfInBounds_toArray, List.set_cons_zero, List.set_cons_succ, i64_w, i32_w]
                  rfl
                refine one_ (i := 13) (N := some 35) #[true, true, true, true, true, true, true, true, true, true, true, true, true, true, false] rfl rfl (one_of HT_.out (by kernel_rfl)) (by decide) (fun K hK => ?_)
                refine goes_ Try.func74 (by kernel_rfl) rfl #[.slice Ao44 t127.length co44, .string ((rd_T101 l0 x14_1).f0.f3)] (by rfl) rfl rfl (by (try simp only [List.map_toArray, List.map_cons, List.map_nil]); first | done | rfl | (simp only [List.length_drop, List.length_take]; rfl)) ?_
                with_reducible refine (codec_text.calls k1 (fun k_ => some k_ = (.slice Ao44 t127.length co44 : Value).ownBlock) (.slice Ao44 t127.length co44) t127 ((rd_T101 l0 x14_1).f0.f3) t130 w _ ?side1 ?side2 A11.out).mono ?_
                (case side1 => repeat (first | (with_reducible first | exact HB.out | apply below_alloc | apply pw_below_drewN | apply below_drew1 | refine below_set ?_ GE117.out | refine below_set ?_ GE118.out | refine below_set ?_ GE119.out) | exact HB.out))
                (case side2 => exact Kd.R_tight rfl HO129.out)
                rintro e w45 ⟨v131, rfl, ho0, hb, hkp⟩
                refine ⟨_, rfl, ?_⟩
                have n0_ := Aside0.mk (blk_kept (by first | (with_reducible exact BK117.out) | (with_reducible exact blk_drewN BK117.out _) | (with_reducible exact blk_drew BK117.out) | (with_reducible exact blk_alloc BK117.out _) | ((with_reducible repeat (first | refine blk_drewN ?_ _ | refine blk_drew ?_ | refine blk_alloc ?_ _)); exact BK117.out)) hkp (fun hs_ => (fun e_ => (Kd.R_ne HO129.out BK117.out (by decide)) e_) hs_))
                have n1_ := Aside0.mk (blk_kept (by first | (with_reducible exact BK118.out) | (with_reducible exact blk_drewN BK118.out _) | (with_reducible exact blk_drew BK118.out) | (with_reducible exact blk_alloc BK118.out _) | ((with_reducible repeat (first | refine blk_drewN ?_ _ | refine blk_drew ?_ | refine blk_alloc ?_ _)); exact BK118.out)) hkp (fun hs_ => (fun e_ => (Kd.R_ne HO129.out BK118.out (by decide)) e_) hs_))
                have n2_ := Aside0.mk (blk_kept (by first | (with_reducible exact BK119.out) | (with_reducible exact blk_drewN BK119.out _) | (with_reducible exact blk_drew BK119.out) | (with_reducible exact blk_alloc BK119.out _) | ((with_reducible repeat (first | refine blk_drewN ?_ _ | refine blk_drew ?_ | refine blk_alloc ?_ _)); exact BK119.out)) hkp (fun hs_ => (fun e_ => (Kd.R_ne HO129.out BK119.out (by decide)) e_) hs_))
                have n3_ := Aside0.mk (Kd.R_mono (ok' := fun k_ => True) ho0 (fun k_ hk_ => trivial))
                have n4_ := Aside0.mk (hb)
                clear BK117
                clear BK118
                clear BK119
                clear HB
                clear HO129
                have BK117 := n0_
                have BK118 := n1_
                have BK119 := n2_
                have HO132 := n3_
                have HB := n4_
                clear n0_ n1_ n2_ n3_ n4_
                (try clear hb)
                (try clear hkp)
                (try clear ho0)
                refine hK.out _ _ ⟨(blk_cell BK118.out 0).trans rfl, (blk_cell BK118.out 1).trans rfl, (blk_cell BK118.out 2).trans rfl, (blk_cell BK118.out 3).trans rfl⟩ (fun hHeld => ?_)
                clear hK K
                refine norm_ (a' := ?_) ?_ ?_
                rotate_left
                · show Act.put _ (some 35) _ = _
                  simp only [Act.put, List.setIfInBounds_toArray, List.set_cons_zero, List.set_cons_succ, i64_w, i32_w]
                  rfl
                refine pure_ (i := 14) (N := some 3) (v := ?_) (a' := ?_) #[true, true, true, true, true, true, true, true, true, true, true, true, true, true, true] rfl rfl (any_of HT_.out (by kernel_rfl)) (fun _ _ _ h => h) (Or.inl ⟨by rfl, ?_⟩) ?_ ?_
                rotate_left
                · intro w'
                  go_simp
                  with_reducible rfl
                rotate_left
                · simp only [Act.put, List.setIfInBounds_toArray, List.set_cons_zero, List.set_cons_succ, i64_w, i32_w]
                  rfl
                refine done_ (done_of HT_.out (by kernel_rfl)) ?_
                have hnb46 := NB119_117.out
                have hnc46 := NB117_119.out
                have hnb47 := NB119_118.out
                have hnc47 := NB118_119.out
                have hcz48_0 : w45.cell? ⟨gb119, 0, none⟩ = some (.int .i64 ((rd_T101 l0 x14_1).f1.f0)) := (blk_cell BK119.out 0).trans rfl
                have hcz48_1 : w45.cell? ⟨gb119, 1, none⟩ = some (.bool true) := (blk_cell BK119.out 1).trans rfl
                have hcz48_2 : w45.cell? ⟨gb119, 2, none⟩ = some (.int .i64 ((rd_T101 l0 x14_1).f1.f2)) := (blk_cell BK119.out 2).trans rfl
                have hcz48_3 : w45.cell? ⟨gb119, 3, none⟩ = some (.int .i64 ((rd_T101 l0 x14_1).f1.f3.f0)) := (blk_cell BK119.out 3).trans rfl
                have hcz48_4 : w45.cell? ⟨gb119, 4, none⟩ = some (.int .i64 ((rd_T101 l0 x14_1).f1.f3.f1)) := (blk_cell BK119.out 4).trans rfl
                have hcz48_5 : w45.cell? ⟨gb119, 5, none⟩ = some (.string ((rd_T101 l0 x14_1).f1.f3.f2)) := (blk_cell BK119.out 5).trans rfl
                have hfz48_0 := blk_frozen BK119.out 0
                have hfz48_1 := blk_frozen BK119.out 1
                have hfz48_2 := blk_frozen BK119.out 2
                have hfz48_3 := blk_frozen BK119.out 3
                have hfz48_4 := blk_frozen BK119.out 4
                have hfz48_5 := blk_frozen BK119.out 5
                try go_wp2_with (first | ((with_reducible refine gate_callee (f := 21) rfl ?_); refine goesL_ (some 39) rfl rfl Try.func21 (by kernel_rfl) rfl #[.int .i64 ((rd_T101 l0 x14_1).f1.f0)] rfl (by (try simp only [List.map_toArray, List.map_cons, List.map_nil]); first | done | rfl | (simp only [List.length_drop, List.length_take]; rfl)) ?_; (with_reducible refine (codec_Zig.calls ((rd_T101 l0 x14_1).f1.f0) t133 _ A12.out).mono ?_); rintro e w' ⟨rfl, ⟨nd, rfl⟩⟩; refine ⟨_, rfl, ?_⟩; obtain ⟨Ao49, co49, eo49⟩ := Kd.R_slice HO132.out; subst eo49) | ((with_reducible refine gate_callee (f := 73) rfl ?_); refine goesL_ (some 40) rfl rfl Try.func73 (by kernel_rfl) rfl #[.slice Ao49 t130.length co49, .int .u64 t133] rfl (by (try simp only [List.map_toArray, List.map_cons, List.map_nil]); first | done | rfl | (simp only [List.length_drop, List.length_take]; rfl)) ?_; (with_reducible refine (codec_put.calls k1 (fun k_ => some k_ = (.slice Ao49 t130.length co49 : Value).ownBlock) (.slice Ao49 t130.length co49) t130 t133 t134 w _ ?side1 ?side2 A13.out).mono ?_); (case side1 => repeat (first | (with_reducible first | exact HB.out | apply below_alloc | apply pw_below_drewN | apply below_drew1 | refine below_set ?_ GE117.out | refine below_set ?_ GE118.out | refine below_set ?_ GE119.out) | exact HB.out)); (case side2 => exact Kd.R_tight rfl HO132.out); rintro e w50 ⟨v135, rfl, ho0, hb, hkp⟩; refine ⟨_, rfl, ?_⟩; have n0_ := Aside0.mk (blk_kept (by first | (with_reducible exact BK117.out) | (with_reducible exact blk_drewN BK117.out _) | (with_reducible exact blk_drew BK117.out) | (with_reducible exact blk_alloc BK117.out _) | ((with_reducible repeat (first | refine blk_drewN ?_ _ | refine blk_drew ?_ | refine blk_alloc ?_ _)); exact BK117.out)) hkp (fun hs_ => (fun e_ => (Kd.R_ne HO132.out BK117.out (by decide)) e_) hs_)); have n1_ := Aside0.mk (blk_kept (by first | (with_reducible exact BK118.out) | (with_reducible exact blk_drewN BK118.out _) | (with_reducible exact blk_drew BK118.out) | (with_reducible exact blk_alloc BK118.out _) | ((with_reducible repeat (first | refine blk_drewN ?_ _ | refine blk_drew ?_ | refine blk_alloc ?_ _)); exact BK118.out)) hkp (fun hs_ => (fun e_ => (Kd.R_ne HO132.out BK118.out (by decide)) e_) hs_)); have n2_ := Aside0.mk (blk_kept (by first | (with_reducible exact BK119.out) | (with_reducible exact blk_drewN BK119.out _) | (with_reducible exact blk_drew BK119.out) | (with_reducible exact blk_alloc BK119.out _) | ((with_reducible repeat (first | refine blk_drewN ?_ _ | refine blk_drew ?_ | refine blk_alloc ?_ _)); exact BK119.out)) hkp (fun hs_ => (fun e_ => (Kd.R_ne HO132.out BK119.out (by decide)) e_) hs_)); have n3_ := Aside0.mk (Kd.R_mono (ok' := fun k_ => True) ho0 (fun k_ hk_ => trivial)); have n4_ := Aside0.mk (hb); clear BK117; clear BK118; clear BK119; clear HB; clear HO132; have BK117 := n0_; have BK118 := n1_; have BK119 := n2_; have HO136 := n3_; have HB := n4_; clear n0_ n1_ n2_ n3_ n4_; (try clear hb); (try clear hkp); (try clear ho0); have hcz51_0 : w50.cell? ⟨gb119, 0, none⟩ = some (.int .i64 ((rd_T101 l0 x14_1).f1.f0)) := (blk_cell BK119.out 0).trans rfl; have hcz51_1 : w50.cell? ⟨gb119, 1, none⟩ = some (.bool true) := (blk_cell BK119.out 1).trans rfl; have hcz51_2 : w50.cell? ⟨gb119, 2, none⟩ = some (.int .i64 ((rd_T101 l0 x14_1).f1.f2)) := (blk_cell BK119.out 2).trans rfl; have hcz51_3 : w50.cell? ⟨gb119, 3, none⟩ = some (.int .i64 ((rd_T101 l0 x14_1).f1.f3.f0)) := (blk_cell BK119.out 3).trans rfl; have hcz51_4 : w50.cell? ⟨gb119, 4, none⟩ = some (.int .i64 ((rd_T101 l0 x14_1).f1.f3.f1)) := (blk_cell BK119.out 4).trans rfl; have hcz51_5 : w50.cell? ⟨gb119, 5, none⟩ = some (.string ((rd_T101 l0 x14_1).f1.f3.f2)) := (blk_cell BK119.out 5).trans rfl; have hfz51_0 := blk_frozen BK119.out 0; have hfz51_1 := blk_frozen BK119.out 1; have hfz51_2 := blk_frozen BK119.out 2; have hfz51_3 := blk_frozen BK119.out 3; have hfz51_4 := blk_frozen BK119.out 4; have hfz51_5 := blk_frozen BK119.out 5))
                have n0_ := Aside0.mk (Kd.R_drew HO136.out)
                have n1_ := Aside0.mk (blk_drew BK117.out)
                have n2_ := Aside0.mk (blk_drew BK118.out)
                have n3_ := Aside0.mk (blk_drew BK119.out)
                have n4_ := Aside0.mk (below_drew1 HB.out)
                clear HO136
                clear BK117
                clear BK118
                clear BK119
                clear HB
                have HO136 := n0_
                have BK117 := n1_
                have BK118 := n2_
                have BK119 := n3_
                have HB := n4_
                clear n0_ n1_ n2_ n3_ n4_
                refine start_ (n := 8) (S := fun w' => w'.cell? ⟨gb119, 0, none⟩ = some (.int .i64 ((rd_T101 l0 x14_1).f1.f0)) ∧ w'.cell? ⟨gb119, 1, none⟩ = some (.bool true) ∧ w'.cell? ⟨gb119, 2, none⟩ = some (.int .i64 ((rd_T101 l0 x14_1).f1.f2)) ∧ w'.cell? ⟨gb119, 3, none⟩ = some (.int .i64 ((rd_T101 l0 x14_1).f1.f3.f0)) ∧ w'.cell? ⟨gb119, 4, none⟩ = some (.int .i64 ((rd_T101 l0 x14_1).f1.f3.f1)) ∧ w'.cell? ⟨gb119, 5, none⟩ = some (.string ((rd_T101 l0 x14_1).f1.f3.f2))) (ds := []) #[false, false, false, false, false, false, false, false] (by kernel_rfl) rfl rfl ⟨(blk_cell BK119.out 0).trans rfl, (blk_cell BK119.out 1).trans rfl, (blk_cell BK119.out 2).trans rfl, (blk_cell BK119.out 3).trans rfl, (blk_cell BK119.out 4).trans rfl, (blk_cell BK119.out 5).trans rfl⟩ (fun hHeld => ?_); refine with_tabW codec_Cells.tab9 codec_Cells.bits9 (fun HT_ HW_ => ?_)
                generalize w50.drew = w52 at HO136 BK117 BK118 BK119 HB hHeld ⊢
                refine pure_ (i := 0) (N := some 43) (v := ?_) (a' := ?_) #[true, false, false, false, false, false, false, false] rfl rfl (any_of HT_.out (by kernel_rfl)) (fun _ _ _ h => h) (Or.inl ⟨by rfl, ?_⟩) ?_ ?_
                rotate_left
                · intro w'
                  go_simp
                  with_reducible rfl
                rotate_left
                · simp only [Act.put, List.setIfInBounds_toArray, List.set_cons_zero, List.set_cons_succ, i64_w, i32_w]
                  rfl
                refine pure_ (i := 3) (N := some 46) (v := ?_) (a' := ?_) #[true, false, false, true, false, false, false, false] rfl rfl (any_of HT_.out (by kernel_rfl)) (fun _ _ _ h => h) (Or.inl ⟨by rfl, ?_⟩) ?_ ?_
                rotate_left
                · intro w'
                  go_simp
                  with_reducible rfl
                rotate_left
                · simp only [Act.put, List.setIfInBounds_toArray, List.set_cons_zero, List.set_cons_succ, i64_w, i32_w]
                  rfl
                refine take_ (i := 4) (N := some 47) (v := ?_) (a' := ?_) #[true, false, false, true, true, false, false, false] rfl rfl (take_ofW HT_.out HW_.out (by kernel_rfl)) (fun _ _ _ h => h) (Or.inl ⟨by rfl, ?_⟩) hHeld ?_ ?_
                rotate_left
                · rintro w' ⟨s0, s1, s2, s3, s4, s5⟩
                  go_simp
                  with_reducible rfl
                rotate_left
                · simp only [Act.put, List.setIfInBounds_toArray, List.set_cons_zero, List.set_cons_succ, i64_w, i32_w]
                  rfl
                refine one_ (i := 1) (N := some 44) #[true, true, false, true, true, false, false, false] rfl rfl (one_of HT_.out (by kernel_rfl)) (by decide) (fun K hK => ?_)
                refine value_ (w1 := ?_) (v := ?_) (by rfl) rfl ?_ ?_
                rotate_left 2
                · go_simp
                  constructor
                  · rfl
                  · rfl
                refine hK.out _ _ ⟨(blk_cell (blk_alloc BK119.out _) 0).trans rfl, (blk_cell (blk_alloc BK119.out _) 1).trans rfl, (blk_cell (blk_alloc BK119.out _) 2).trans rfl, (blk_cell (blk_alloc BK119.out _) 3).trans rfl, (blk_cell (blk_alloc BK119.out _) 4).trans rfl, (blk_cell (blk_alloc BK119.out _) 5).trans rfl⟩ (fun hHeld => ?_)
                clear hK K
                refine norm_ (a' := ?_) ?_ ?_
                rotate_left
                · show Act.put _ (some 44) _ = _
                  simp only [Act.put, List.setIfInBounds_toArray, List.set_cons_zero, List.set_cons_succ, i64_w, i32_w]
                  rfl
                refine one_ (i := 2) (N := some 45) #[true, true, true, true, true, false, false, false] rfl rfl (one_of HT_.out (by kernel_rfl)) (by decide) (fun K hK => ?_)
                refine Kd.R_append_step (Kd.int .u8) (w0 := w) w.heap.size (by rfl) (.tmp 43) (.tmp 44) 27 5 (.int .u8 0) 1 rfl Try.underlying27 info5 rfl (by decide) (by omega) v135 t134 1 [.int .u8 1] (fun _ => True) (fun _ => False) rfl rfl ?aP (fun _ hk => hk.elim) ?aF ?aO ?aB ?aS ?aL ?_
                (case aP => exact rfl)
                (case aB => exact (by repeat (first | (with_reducible first | exact HB.out | apply below_alloc | apply pw_below_drewN | apply below_drew1 | refine below_set ?_ GE117.out | refine below_set ?_ GE118.out | refine below_set ?_ GE119.out) | exact HB.out)))
                (case aF => exact (fun _ _ => trivial))
                (case aO => exact (by (with_reducible repeat (first | apply Kd.R_alloc | apply Kd.R_drewN | apply Kd.R_drew)); exact HO136.out))
                (case aS => exact (below_size (by repeat (first | (with_reducible first | exact HB.out | apply below_alloc | apply pw_below_drewN | apply below_drew1 | refine below_set ?_ GE117.out | refine below_set ?_ GE118.out | refine below_set ?_ GE119.out) | exact HB.out))))
                (case aL => have := LMc16.out; omega)
                intro v138 w53 ho hb hg hat
                rw [← Ny137.out] at ho
                have n0_ := Aside0.mk (blk_grown (g := gb117) (o := .cells #[.string ((rd_T101 l0 x14_1).f0.f0), .string ((rd_T101 l0 x14_1).f0.f1), .int .i64 ((rd_T101 l0 x14_1).f0.f2), .string ((rd_T101 l0 x14_1).f0.f3), .int .i64 ((rd_T101 l0 x14_1).f1.f0), .bool true, .int .i64 ((rd_T101 l0 x14_1).f1.f2), .int .i64 ((rd_T101 l0 x14_1).f1.f3.f0), .int .i64 ((rd_T101 l0 x14_1).f1.f3.f1), .string ((rd_T101 l0 x14_1).f1.f3.f2)] 101 (0, 0)) (by first | (with_reducible exact BK117.out) | (with_reducible exact blk_drewN BK117.out _) | (with_reducible exact blk_drew BK117.out) | (with_reducible exact blk_alloc BK117.out _) | ((with_reducible repeat (first | refine blk_drewN ?_ _ | refine blk_drew ?_ | refine blk_alloc ?_ _)); exact BK117.out)) hg (Kd.R_ne HO136.out BK117.out (by decide)))
                have n1_ := Aside0.mk (blk_grown (g := gb118) (o := .cells #[.string ((rd_T101 l0 x14_1).f0.f0), .string ((rd_T101 l0 x14_1).f0.f1), .int .i64 ((rd_T101 l0 x14_1).f0.f2), .string ((rd_T101 l0 x14_1).f0.f3)] 95 (0, 0)) (by first | (with_reducible exact BK118.out) | (with_reducible exact blk_drewN BK118.out _) | (with_reducible exact blk_drew BK118.out) | (with_reducible exact blk_alloc BK118.out _) | ((with_reducible repeat (first | refine blk_drewN ?_ _ | refine blk_drew ?_ | refine blk_alloc ?_ _)); exact BK118.out)) hg (Kd.R_ne HO136.out BK118.out (by decide)))
                have n2_ := Aside0.mk (blk_grown (g := gb119) (o := .cells #[.int .i64 ((rd_T101 l0 x14_1).f1.f0), .bool true, .int .i64 ((rd_T101 l0 x14_1).f1.f2), .int .i64 ((rd_T101 l0 x14_1).f1.f3.f0), .int .i64 ((rd_T101 l0 x14_1).f1.f3.f1), .string ((rd_T101 l0 x14_1).f1.f3.f2)] 99 (0, 0)) (by first | (with_reducible exact BK119.out) | (with_reducible exact blk_drewN BK119.out _) | (with_reducible exact blk_drew BK119.out) | (with_reducible exact blk_alloc BK119.out _) | ((with_reducible repeat (first | refine blk_drewN ?_ _ | refine blk_drew ?_ | refine blk_alloc ?_ _)); exact BK119.out)) hg (Kd.R_ne HO136.out BK119.out (by decide)))
                have n3_ := Aside0.mk (hb)
                have n4_ := Aside0.mk (ho)
                clear BK117
                clear BK118
                clear BK119
                clear HB
                clear HO136
                have BK117 := n0_
                have BK118 := n1_
                have BK119 := n2_
                have HB := n3_
                have HO139 := n4_
                clear n0_ n1_ n2_ n3_ n4_
                clear ho hb hg hat
                refine hK.out _ _ ⟨(blk_cell BK119.out 0).trans rfl, (blk_cell BK119.out 1).trans rfl, (blk_cell BK119.out 2).trans rfl, (blk_cell BK119.out 3).trans rfl, (blk_cell BK119.out 4).trans rfl, (blk_cell BK119.out 5).trans rfl⟩ (fun hHeld => ?_)
                clear hK K
                refine norm_ (a' := ?_) ?_ ?_
                rotate_left
                · show Act.put _ (some 45) _ = _
                  simp only [Act.put, List.setIfInBounds_toArray, List.set_cons_zero, List.set_cons_succ, i64_w, i32_w]
                  rfl
                refine one_ (i := 5) (N := some 48) #[true, true, true, true, true, true, false, false] rfl rfl (one_of HT_.out (by kernel_rfl)) (by decide) (fun K hK => ?_)
                refine goes_ Try.func21 (by kernel_rfl) rfl #[.int .i64 ((rd_T101 l0 x14_1).f1.f2)] (by rfl) rfl rfl (by (try simp only [List.map_toArray, List.map_cons, List.map_nil]); first | done | rfl | (simp only [List.length_drop, List.length_take]; rfl)) ?_
                with_reducible refine (codec_Zig.calls ((rd_T101 l0 x14_1).f1.f2) t140 _ A17.out).mono ?_
                rintro e w' ⟨rfl, ⟨nd, rfl⟩⟩
                refine ⟨_, rfl, ?_⟩
                obtain ⟨Ao54, co54, eo54⟩ := Kd.R_slice HO139.out
                (first | subst eo54 | (injection eo54 with f1_ f2_ f3_; have f4_ := f1_.symm; have f5_ := f3_.symm; clear f1_ f2_ f3_; subst f4_; subst f5_))
                refine hK.out _ _ ⟨(blk_cell BK119.out 0).trans rfl, (blk_cell BK119.out 1).trans rfl, (blk_cell BK119.out 2).trans rfl, (blk_cell BK119.out 3).trans rfl, (blk_cell BK119.out 4).trans rfl, (blk_cell BK119.out 5).trans rfl⟩ (fun hHeld => ?_)
                clear hK K
                refine norm_ (a' := ?_) ?_ ?_
                rotate_left
                · show Act.put _ (some 48) _ = _
                  simp only [Act.put, List.setIfInBounds_toArray, List.set_cons_zero, List.set_cons_succ, i64_w, i32_w]
                  rfl
                refine one_ (i := 6) (N := some 49) #[true, true, true, true, true, true, true, false] rfl rfl (one_of HT_.out (by kernel_rfl)) (by decide) (fun K hK => ?_)
                refine goes_ Try.func73 (by kernel_rfl) rfl #[.slice Ao54 y137.length co54, .int .u64 t140] (by rfl) rfl rfl (by (try simp only [List.map_toArray, List.map_cons, List.map_nil]); first | done | rfl | (simp only [List.length_drop, List.length_take]; rfl)) ?_
                with_reducible refine (codec_put.calls k1 (fun k_ => some k_ = (.slice Ao54 y137.length co54 : Value).ownBlock) (.slice Ao54 y137.length co54) y137 t140 t141 w _ ?side1 ?side2 A18.out).mono ?_
                (case side1 => repeat (first | (with_reducible first | exact HB.out | apply below_alloc | apply pw_below_drewN | apply below_drew1 | refine below_set ?_ GE117.out | refine below_set ?_ GE118.out | refine below_set ?_ GE119.out) | exact HB.out))
                (case side2 => exact Kd.R_tight rfl HO139.out)
                rintro e w55 ⟨v142, rfl, ho0, hb, hkp⟩
                refine ⟨_, rfl, ?_⟩
                have n0_ := Aside0.mk (blk_kept (by first | (with_reducible exact BK117.out) | (with_reducible exact blk_drewN BK117.out _) | (with_reducible exact blk_drew BK117.out) | (with_reducible exact blk_alloc BK117.out _) | ((with_reducible repeat (first | refine blk_drewN ?_ _ | refine blk_drew ?_ | refine blk_alloc ?_ _)); exact BK117.out)) hkp (fun hs_ => (fun e_ => (Kd.R_ne HO139.out BK117.out (by decide)) e_) hs_))
                have n1_ := Aside0.mk (blk_kept (by first | (with_reducible exact BK118.out) | (with_reducible exact blk_drewN BK118.out _) | (with_reducible exact blk_drew BK118.out) | (with_reducible exact blk_alloc BK118.out _) | ((with_reducible repeat (first | refine blk_drewN ?_ _ | refine blk_drew ?_ | refine blk_alloc ?_ _)); exact BK118.out)) hkp (fun hs_ => (fun e_ => (Kd.R_ne HO139.out BK118.out (by decide)) e_) hs_))
                have n2_ := Aside0.mk (blk_kept (by first | (with_reducible exact BK119.out) | (with_reducible exact blk_drewN BK119.out _) | (with_reducible exact blk_drew BK119.out) | (with_reducible exact blk_alloc BK119.out _) | ((with_reducible repeat (first | refine blk_drewN ?_ _ | refine blk_drew ?_ | refine blk_alloc ?_ _)); exact BK119.out)) hkp (fun hs_ => (fun e_ => (Kd.R_ne HO139.out BK119.out (by decide)) e_) hs_))
                have n3_ := Aside0.mk (Kd.R_mono (ok' := fun k_ => True) ho0 (fun k_ hk_ => trivial))
                have n4_ := Aside0.mk (hb)
                clear BK117
                clear BK118
                clear BK119
                clear HB
                clear HO139
                have BK117 := n0_
                have BK118 := n1_
                have BK119 := n2_
                have HO143 := n3_
                have HB := n4_
                clear n0_ n1_ n2_ n3_ n4_
                (try clear hb)
                (try clear hkp)
                (try clear ho0)
                refine hK.out _ _ ⟨(blk_cell BK119.out 0).trans rfl, (blk_cell BK119.out 1).trans rfl, (blk_cell BK119.out 2).trans rfl, (blk_cell BK119.out 3).trans rfl, (blk_cell BK119.out 4).trans rfl, (blk_cell BK119.out 5).trans rfl⟩ (fun hHeld => ?_)
                clear hK K
                refine norm_ (a' := ?_) ?_ ?_
                rotate_left
                · show Act.put _ (some 49) _ = _
                  simp only [Act.put, List.setIfInBounds_toArray, List.set_cons_zero, List.set_cons_succ, i64_w, i32_w]
                  rfl
                refine pure_ (i := 7) (N := some 3) (v := ?_) (a' := ?_) #[true, true, true, true, true, true, true, true] rfl rfl (any_of HT_.out (by kernel_rfl)) (fun _ _ _ h => h) (Or.inl ⟨by rfl, ?_⟩) ?_ ?_
                rotate_left
                · intro w'
                  go_simp
                  with_reducible rfl
                rotate_left
                · simp only [Act.put, List.setIfInBounds_toArray, List.set_cons_zero, List.set_cons_succ, i64_w, i32_w]
                  rfl
                refine done_ (done_of HT_.out (by kernel_rfl)) ?_
                try go_wp2
                go_roundg k1
                case measure => have := HK1.out; omega
                case rel => exact ⟨(t141), (wrap64 (x14_1 + 1)), (by first | rfl | (simp; done) | (simp [*]; done)), H', ⟨by have := HK1.out; omega⟩, ⟨by (with_reducible repeat (first | apply Kd.R_alloc | apply Kd.R_drewN | apply Kd.R_drew)); exact HO143.out⟩, ⟨by repeat (first | (with_reducible first | exact HB.out | apply below_alloc | apply pw_below_drewN | apply below_drew1 | refine below_set ?_ GE117.out | refine below_set ?_ GE118.out | refine below_set ?_ GE119.out) | exact HB.out)⟩⟩
              · rw [if_neg c16] at H
                exact absurd H (by simp)
            · replace c15 := Bool.eq_false_iff.mpr c15
              subst c15
              have H1 : (if t134.length < 140737488355328 then ((codec_put.f k1 (t134 ++ [0]) (IntKind.u64.wrap ((rd_T101 l0 x14_1).f1.f3.f0))).bind fun t147 => ((codec_Zig.f ((rd_T101 l0 x14_1).f1.f3.f1)).bind fun t150 => ((codec_put.f k1 t147 t150).bind fun t151 => ((codec_text.f k1 t151 ((rd_T101 l0 x14_1).f1.f3.f2)).bind fun t154 => (codec_Cells.l0 k1 t154 l0 (l0.length : Int) (wrap64 (x14_1 + 1))))))) else (none)) = some r := by rw [if_neg (show ¬ (false = true) by decide)] at H; exact H
              clear H
              have H := H1
              clear H1
              by_cases c56 : t134.length < 140737488355328
              · rw [if_pos c56] at H
                have LMc56 := Aside0.mk c56
                clear c56
                obtain ⟨y144, hy144⟩ : ∃ y_ : List Int, y_ = (t134 ++ [0]) := ⟨_, rfl⟩
                replace H : ((codec_put.f k1 y144 (IntKind.u64.wrap ((rd_T101 l0 x14_1).f1.f3.f0))).bind fun t147 => ((codec_Zig.f ((rd_T101 l0 x14_1).f1.f3.f1)).bind fun t150 => ((codec_put.f k1 t147 t150).bind fun t151 => ((codec_text.f k1 t151 ((rd_T101 l0 x14_1).f1.f3.f2)).bind fun t154 => (codec_Cells.l0 k1 t154 l0 (l0.length : Int) (wrap64 (x14_1 + 1))))))) = some r := by first | (rw [hy144]; with_reducible exact H) | (have H2_ := (Option.bind_some _ _).symm.trans H; rw [hy144]; with_reducible exact H2_) | (have H2_ := (Option.bind_some _ _).symm.trans H; with_reducible exact H2_) | with_reducible exact H | (rw [hy144]; exact H) | exact H
                have Ny144 := Aside0.mk hy144
                clear hy144
                replace H := Option.bind_eq_some_iff.mp H
                obtain ⟨t147, A570, H⟩ := H
                replace H : ((codec_Zig.f ((rd_T101 l0 x14_1).f1.f3.f1)).bind fun t150 => ((codec_put.f k1 t147 t150).bind fun t151 => ((codec_text.f k1 t151 ((rd_T101 l0 x14_1).f1.f3.f2)).bind fun t154 => (codec_Cells.l0 k1 t154 l0 (l0.length : Int) (wrap64 (x14_1 + 1)))))) = some r := H
                have A57 := Aside0.mk A570
                clear A570
                replace H := Option.bind_eq_some_iff.mp H
                obtain ⟨t150, A580, H⟩ := H
                replace H : ((codec_put.f k1 t147 t150).bind fun t151 => ((codec_text.f k1 t151 ((rd_T101 l0 x14_1).f1.f3.f2)).bind fun t154 => (codec_Cells.l0 k1 t154 l0 (l0.length : Int) (wrap64 (x14_1 + 1))))) = some r := H
                have A58 := Aside0.mk A580
                clear A580
                replace H := Option.bind_eq_some_iff.mp H
                obtain ⟨t151, A590, H⟩ := H
                replace H : ((codec_text.f k1 t151 ((rd_T101 l0 x14_1).f1.f3.f2)).bind fun t154 => (codec_Cells.l0 k1 t154 l0 (l0.length : Int) (wrap64 (x14_1 + 1)))) = some r := H
                have A59 := Aside0.mk A590
                clear A590
                replace H := Option.bind_eq_some_iff.mp H
                obtain ⟨t154, A600, H⟩ := H
                replace H : (codec_Cells.l0 k1 t154 l0 (l0.length : Int) (wrap64 (x14_1 + 1))) = some r := H
                have A60 := Aside0.mk A600
                clear A600
                have H' := Aside0.mk H
                clear H
                have p116 : 0 ≤ (x14_1 : Int) := of_decide_eq_true (by first | (with_reducible assumption) | assumption)
                have q116 : x14_1 < (l0.length : Int) := of_decide_eq_true (by first | (with_reducible assumption) | assumption)
                obtain ⟨ad116, e116, hx116_0, hx116_1, hx116_2, hx116_3, hx116_4, hx116_5, hx116_6, hx116_7, hx116_8, hx116_9⟩ := at_T101 HR0.out x14_1 p116 q116
                (try rw [← Nbq14.out] at hx116_5)
                cases e116
                replace hx116_0 := (HB.out.cell (World.block_lt_of_cell? w _ hx116_0)).trans hx116_0
                replace hx116_1 := (HB.out.cell (World.block_lt_of_cell? w _ hx116_1)).trans hx116_1
                replace hx116_2 := (HB.out.cell (World.block_lt_of_cell? w _ hx116_2)).trans hx116_2
                replace hx116_3 := (HB.out.cell (World.block_lt_of_cell? w _ hx116_3)).trans hx116_3
                replace hx116_4 := (HB.out.cell (World.block_lt_of_cell? w _ hx116_4)).trans hx116_4
                replace hx116_5 := (HB.out.cell (World.block_lt_of_cell? w _ hx116_5)).trans hx116_5
                replace hx116_6 := (HB.out.cell (World.block_lt_of_cell? w _ hx116_6)).trans hx116_6
                replace hx116_7 := (HB.out.cell (World.block_lt_of_cell? w _ hx116_7)).trans hx116_7
                replace hx116_8 := (HB.out.cell (World.block_lt_of_cell? w _ hx116_8)).trans hx116_8
                replace hx116_9 := (HB.out.cell (World.block_lt_of_cell? w _ hx116_9)).trans hx116_9
                replace p116 := eq_true p116
                replace q116 := eq_true q116
                try go_wp2_with (first | ((with_reducible refine gate_dst (N := 5) rfl ?_); refine box_event ?hg (N := 5) ?hd (cs := #[.string (⟨#[]⟩ : ByteArray), .string (⟨#[]⟩ : ByteArray), .int .i64 0, .string (⟨#[]⟩ : ByteArray), .int .i64 0, .bool false, .int .i64 0, .int .i64 0, .int .i64 0, .string (⟨#[]⟩ : ByteArray)]) (t := 101) ?hr ?_; (case hd => rfl); (case hg => rfl); (case hr => first | (go_simp; done) | (go_simp; rfl)); intro gb117 hg w61 hbox hb; have n0_ := Aside0.mk (Kd.R_below (by (with_reducible repeat (first | apply Kd.R_alloc | apply Kd.R_drewN | apply Kd.R_drew)); exact HO_3.out) hb); have n1_ := Aside0.mk (below_step (by repeat (first | (with_reducible first | exact HB.out | apply below_alloc | apply pw_below_drewN | apply below_drew1) | exact HB.out)) hb); have n2_ := Aside0.mk (hbox); have n3_ := Aside0.mk ((by rw [hg]; exact (below_size (by repeat (first | (with_reducible first | exact HB.out | apply below_alloc | apply pw_below_drewN | apply below_drew1) | exact HB.out))) : w.heap.size ≤ gb117)); have n4_ := Aside0.mk ((by rw [hg]; exact (below_size (by repeat (first | (with_reducible first | exact HB.out | apply below_alloc | apply pw_below_drewN | apply below_drew1) | exact HB.out))) : w.heap.size ≤ gb117)); clear HO_3; clear HB; have HO_3 := n0_; have HB := n1_; have BK117 := n2_; have GW117 := n3_; have GE117 := n4_; clear n0_ n1_ n2_ n3_ n4_; clear hb hbox hg; have hcz62_0 : w61.cell? ⟨gb117, 0, none⟩ = some (.string (⟨#[]⟩ : ByteArray)) := (blk_cell BK117.out 0).trans rfl; have hcz62_1 : w61.cell? ⟨gb117, 1, none⟩ = some (.string (⟨#[]⟩ : ByteArray)) := (blk_cell BK117.out 1).trans rfl; have hcz62_2 : w61.cell? ⟨gb117, 2, none⟩ = some (.int .i64 0) := (blk_cell BK117.out 2).trans rfl; have hcz62_3 : w61.cell? ⟨gb117, 3, none⟩ = some (.string (⟨#[]⟩ : ByteArray)) := (blk_cell BK117.out 3).trans rfl; have hcz62_4 : w61.cell? ⟨gb117, 4, none⟩ = some (.int .i64 0) := (blk_cell BK117.out 4).trans rfl; have hcz62_5 : w61.cell? ⟨gb117, 5, none⟩ = some (.bool false) := (blk_cell BK117.out 5).trans rfl; have hcz62_6 : w61.cell? ⟨gb117, 6, none⟩ = some (.int .i64 0) := (blk_cell BK117.out 6).trans rfl; have hcz62_7 : w61.cell? ⟨gb117, 7, none⟩ = some (.int .i64 0) := (blk_cell BK117.out 7).trans rfl; have hcz62_8 : w61.cell? ⟨gb117, 8, none⟩ = some (.int .i64 0) := (blk_cell BK117.out 8).trans rfl; have hcz62_9 : w61.cell? ⟨gb117, 9, none⟩ = some (.string (⟨#[]⟩ : ByteArray)) := (blk_cell BK117.out 9).trans rfl; have hfz62_0 := blk_frozen BK117.out 0; have hfz62_1 := blk_frozen BK117.out 1; have hfz62_2 := blk_frozen BK117.out 2; have hfz62_3 := blk_frozen BK117.out 3; have hfz62_4 := blk_frozen BK117.out 4; have hfz62_5 := blk_frozen BK117.out 5; have hfz62_6 := blk_frozen BK117.out 6; have hfz62_7 := blk_frozen BK117.out 7; have hfz62_8 := blk_frozen BK117.out 8; have hfz62_9 := blk_frozen BK117.out 9))
                have n0_ : Aside0 (Kd.R (Kd.int .u8) 5 ((((((((((w61.setCell ⟨gb117, 0, none⟩ (.string ((rd_T101 l0 x14_1).f0.f0))).setCell ⟨gb117, 1, none⟩ (.string ((rd_T101 l0 x14_1).f0.f1))).setCell ⟨gb117, 2, none⟩ (.int .i64 ((rd_T101 l0 x14_1).f0.f2))).setCell ⟨gb117, 3, none⟩ (.string ((rd_T101 l0 x14_1).f0.f3))).setCell ⟨gb117, 4, none⟩ (.int .i64 ((rd_T101 l0 x14_1).f1.f0))).setCell ⟨gb117, 5, none⟩ (.bool false)).setCell ⟨gb117, 6, none⟩ (.int .i64 ((rd_T101 l0 x14_1).f1.f2))).setCell ⟨gb117, 7, none⟩ (.int .i64 ((rd_T101 l0 x14_1).f1.f3.f0))).setCell ⟨gb117, 8, none⟩ (.int .i64 ((rd_T101 l0 x14_1).f1.f3.f1))).setCell ⟨gb117, 9, none⟩ (.string ((rd_T101 l0 x14_1).f1.f3.f2))) w.heap.size (fun _ => True) u3 x3_1) := ⟨by (with_reducible repeat (first | apply Kd.R_alloc | apply Kd.R_drewN | apply Kd.R_drew)); exact Kd.R_mono (Kd.R_far (p := ⟨gb117, 9, none⟩) (Kd.R_far (p := ⟨gb117, 8, none⟩) (Kd.R_far (p := ⟨gb117, 7, none⟩) (Kd.R_far (p := ⟨gb117, 6, none⟩) (Kd.R_far (p := ⟨gb117, 5, none⟩) (Kd.R_far (p := ⟨gb117, 4, none⟩) (Kd.R_far (p := ⟨gb117, 3, none⟩) (Kd.R_far (p := ⟨gb117, 2, none⟩) (Kd.R_far (p := ⟨gb117, 1, none⟩) (Kd.R_far (p := ⟨gb117, 0, none⟩) (Kd.R_types HO_3.out BK117.out (by decide)) (fun _ hk => hk.2) (.string ((rd_T101 l0 x14_1).f0.f0))) (fun _ hk => hk.2) (.string ((rd_T101 l0 x14_1).f0.f1))) (fun _ hk => hk.2) (.int .i64 ((rd_T101 l0 x14_1).f0.f2))) (fun _ hk => hk.2) (.string ((rd_T101 l0 x14_1).f0.f3))) (fun _ hk => hk.2) (.int .i64 ((rd_T101 l0 x14_1).f1.f0))) (fun _ hk => hk.2) (.bool false)) (fun _ hk => hk.2) (.int .i64 ((rd_T101 l0 x14_1).f1.f2))) (fun _ hk => hk.2) (.int .i64 ((rd_T101 l0 x14_1).f1.f3.f0))) (fun _ hk => hk.2) (.int .i64 ((rd_T101 l0 x14_1).f1.f3.f1))) (fun _ hk => hk.2) (.string ((rd_T101 l0 x14_1).f1.f3.f2))) (fun _ hk => trivial)⟩
                have n1_ : Aside0 (((((((((((w61.setCell ⟨gb117, 0, none⟩ (.string ((rd_T101 l0 x14_1).f0.f0))).setCell ⟨gb117, 1, none⟩ (.string ((rd_T101 l0 x14_1).f0.f1))).setCell ⟨gb117, 2, none⟩ (.int .i64 ((rd_T101 l0 x14_1).f0.f2))).setCell ⟨gb117, 3, none⟩ (.string ((rd_T101 l0 x14_1).f0.f3))).setCell ⟨gb117, 4, none⟩ (.int .i64 ((rd_T101 l0 x14_1).f1.f0))).setCell ⟨gb117, 5, none⟩ (.bool false)).setCell ⟨gb117, 6, none⟩ (.int .i64 ((rd_T101 l0 x14_1).f1.f2))).setCell ⟨gb117, 7, none⟩ (.int .i64 ((rd_T101 l0 x14_1).f1.f3.f0))).setCell ⟨gb117, 8, none⟩ (.int .i64 ((rd_T101 l0 x14_1).f1.f3.f1))).setCell ⟨gb117, 9, none⟩ (.string ((rd_T101 l0 x14_1).f1.f3.f2))).heap[gb117]? = some (.cells #[.string ((rd_T101 l0 x14_1).f0.f0), .string ((rd_T101 l0 x14_1).f0.f1), .int .i64 ((rd_T101 l0 x14_1).f0.f2), .string ((rd_T101 l0 x14_1).f0.f3), .int .i64 ((rd_T101 l0 x14_1).f1.f0), .bool false, .int .i64 ((rd_T101 l0 x14_1).f1.f2), .int .i64 ((rd_T101 l0 x14_1).f1.f3.f0), .int .i64 ((rd_T101 l0 x14_1).f1.f3.f1), .string ((rd_T101 l0 x14_1).f1.f3.f2)] 101 (0, 0))) := ⟨by (with_reducible repeat (first | refine blk_drewN ?_ _ | refine blk_drew ?_ | refine blk_alloc ?_ _)); refine blk_put (cs := #[.string ((rd_T101 l0 x14_1).f0.f0), .string ((rd_T101 l0 x14_1).f0.f1), .int .i64 ((rd_T101 l0 x14_1).f0.f2), .string ((rd_T101 l0 x14_1).f0.f3), .int .i64 ((rd_T101 l0 x14_1).f1.f0), .bool false, .int .i64 ((rd_T101 l0 x14_1).f1.f2), .int .i64 ((rd_T101 l0 x14_1).f1.f3.f0), .int .i64 ((rd_T101 l0 x14_1).f1.f3.f1), .string (⟨#[]⟩ : ByteArray)]) ?_ 9 _ rfl; (with_reducible repeat (first | refine blk_drewN ?_ _ | refine blk_drew ?_ | refine blk_alloc ?_ _)); refine blk_put (cs := #[.string ((rd_T101 l0 x14_1).f0.f0), .string ((rd_T101 l0 x14_1).f0.f1), .int .i64 ((rd_T101 l0 x14_1).f0.f2), .string ((rd_T101 l0 x14_1).f0.f3), .int .i64 ((rd_T101 l0 x14_1).f1.f0), .bool false, .int .i64 ((rd_T101 l0 x14_1).f1.f2), .int .i64 ((rd_T101 l0 x14_1).f1.f3.f0), .int .i64 0, .string (⟨#[]⟩ : ByteArray)]) ?_ 8 _ rfl; (with_reducible repeat (first | refine blk_drewN ?_ _ | refine blk_drew ?_ | refine blk_alloc ?_ _)); refine blk_put (cs := #[.string ((rd_T101 l0 x14_1).f0.f0), .string ((rd_T101 l0 x14_1).f0.f1), .int .i64 ((rd_T101 l0 x14_1).f0.f2), .string ((rd_T101 l0 x14_1).f0.f3), .int .i64 ((rd_T101 l0 x14_1).f1.f0), .bool false, .int .i64 ((rd_T101 l0 x14_1).f1.f2), .int .i64 0, .int .i64 0, .string (⟨#[]⟩ : ByteArray)]) ?_ 7 _ rfl; (with_reducible repeat (first | refine blk_drewN ?_ _ | refine blk_drew ?_ | refine blk_alloc ?_ _)); refine blk_put (cs := #[.string ((rd_T101 l0 x14_1).f0.f0), .string ((rd_T101 l0 x14_1).f0.f1), .int .i64 ((rd_T101 l0 x14_1).f0.f2), .string ((rd_T101 l0 x14_1).f0.f3), .int .i64 ((rd_T101 l0 x14_1).f1.f0), .bool false, .int .i64 0, .int .i64 0, .int .i64 0, .string (⟨#[]⟩ : ByteArray)]) ?_ 6 _ rfl; (with_reducible repeat (first | refine blk_drewN ?_ _ | refine blk_drew ?_ | refine blk_alloc ?_ _)); refine blk_put (cs := #[.string ((rd_T101 l0 x14_1).f0.f0), .string ((rd_T101 l0 x14_1).f0.f1), .int .i64 ((rd_T101 l0 x14_1).f0.f2), .string ((rd_T101 l0 x14_1).f0.f3), .int .i64 ((rd_T101 l0 x14_1).f1.f0), .bool false, .int .i64 0, .int .i64 0, .int .i64 0, .string (⟨#[]⟩ : ByteArray)]) ?_ 5 _ rfl; (with_reducible repeat (first | refine blk_drewN ?_ _ | refine blk_drew ?_ | refine blk_alloc ?_ _)); refine blk_put (cs := #[.string ((rd_T101 l0 x14_1).f0.f0), .string ((rd_T101 l0 x14_1).f0.f1), .int .i64 ((rd_T101 l0 x14_1).f0.f2), .string ((rd_T101 l0 x14_1).f0.f3), .int .i64 0, .bool false, .int .i64 0, .int .i64 0, .int .i64 0, .string (⟨#[]⟩ : ByteArray)]) ?_ 4 _ rfl; (with_reducible repeat (first | refine blk_drewN ?_ _ | refine blk_drew ?_ | refine blk_alloc ?_ _)); refine blk_put (cs := #[.string ((rd_T101 l0 x14_1).f0.f0), .string ((rd_T101 l0 x14_1).f0.f1), .int .i64 ((rd_T101 l0 x14_1).f0.f2), .string (⟨#[]⟩ : ByteArray), .int .i64 0, .bool false, .int .i64 0, .int .i64 0, .int .i64 0, .string (⟨#[]⟩ : ByteArray)]) ?_ 3 _ rfl; (with_reducible repeat (first | refine blk_drewN ?_ _ | refine blk_drew ?_ | refine blk_alloc ?_ _)); refine blk_put (cs := #[.string ((rd_T101 l0 x14_1).f0.f0), .string ((rd_T101 l0 x14_1).f0.f1), .int .i64 0, .string (⟨#[]⟩ : ByteArray), .int .i64 0, .bool false, .int .i64 0, .int .i64 0, .int .i64 0, .string (⟨#[]⟩ : ByteArray)]) ?_ 2 _ rfl; (with_reducible repeat (first | refine blk_drewN ?_ _ | refine blk_drew ?_ | refine blk_alloc ?_ _)); refine blk_put (cs := #[.string ((rd_T101 l0 x14_1).f0.f0), .string (⟨#[]⟩ : ByteArray), .int .i64 0, .string (⟨#[]⟩ : ByteArray), .int .i64 0, .bool false, .int .i64 0, .int .i64 0, .int .i64 0, .string (⟨#[]⟩ : ByteArray)]) ?_ 1 _ rfl; (with_reducible repeat (first | refine blk_drewN ?_ _ | refine blk_drew ?_ | refine blk_alloc ?_ _)); refine blk_put (cs := #[.string (⟨#[]⟩ : ByteArray), .string (⟨#[]⟩ : ByteArray), .int .i64 0, .string (⟨#[]⟩ : ByteArray), .int .i64 0, .bool false, .int .i64 0, .int .i64 0, .int .i64 0, .string (⟨#[]⟩ : ByteArray)]) ?_ 0 _ rfl; (with_reducible repeat (first | refine blk_drewN ?_ _ | refine blk_drew ?_ | refine blk_alloc ?_ _)); exact BK117.out⟩
                have n2_ : Aside0 (Below w.heap.size w ((((((((((w61.setCell ⟨gb117, 0, none⟩ (.string ((rd_T101 l0 x14_1).f0.f0))).setCell ⟨gb117, 1, none⟩ (.string ((rd_T101 l0 x14_1).f0.f1))).setCell ⟨gb117, 2, none⟩ (.int .i64 ((rd_T101 l0 x14_1).f0.f2))).setCell ⟨gb117, 3, none⟩ (.string ((rd_T101 l0 x14_1).f0.f3))).setCell ⟨gb117, 4, none⟩ (.int .i64 ((rd_T101 l0 x14_1).f1.f0))).setCell ⟨gb117, 5, none⟩ (.bool false)).setCell ⟨gb117, 6, none⟩ (.int .i64 ((rd_T101 l0 x14_1).f1.f2))).setCell ⟨gb117, 7, none⟩ (.int .i64 ((rd_T101 l0 x14_1).f1.f3.f0))).setCell ⟨gb117, 8, none⟩ (.int .i64 ((rd_T101 l0 x14_1).f1.f3.f1))).setCell ⟨gb117, 9, none⟩ (.string ((rd_T101 l0 x14_1).f1.f3.f2)))) := ⟨by repeat (first | (with_reducible first | exact HB.out | apply below_alloc | apply pw_below_drewN | apply below_drew1 | refine below_set ?_ GE117.out) | exact HB.out)⟩
                (try clear HO_3)
                (try clear BK117)
                (try clear HB)
                generalize ((((((((((w61.setCell ⟨gb117, 0, none⟩ (.string ((rd_T101 l0 x14_1).f0.f0))).setCell ⟨gb117, 1, none⟩ (.string ((rd_T101 l0 x14_1).f0.f1))).setCell ⟨gb117, 2, none⟩ (.int .i64 ((rd_T101 l0 x14_1).f0.f2))).setCell ⟨gb117, 3, none⟩ (.string ((rd_T101 l0 x14_1).f0.f3))).setCell ⟨gb117, 4, none⟩ (.int .i64 ((rd_T101 l0 x14_1).f1.f0))).setCell ⟨gb117, 5, none⟩ (.bool false)).setCell ⟨gb117, 6, none⟩ (.int .i64 ((rd_T101 l0 x14_1).f1.f2))).setCell ⟨gb117, 7, none⟩ (.int .i64 ((rd_T101 l0 x14_1).f1.f3.f0))).setCell ⟨gb117, 8, none⟩ (.int .i64 ((rd_T101 l0 x14_1).f1.f3.f1))).setCell ⟨gb117, 9, none⟩ (.string ((rd_T101 l0 x14_1).f1.f3.f2))) = w63 at n0_ n1_ n2_ ⊢
                have HO_3 := n0_
                have BK117 := n1_
                have HB := n2_
                clear n0_ n1_ n2_
                have n0_ := Aside0.mk (Kd.R_drew HO_3.out)
                have n1_ := Aside0.mk (blk_drew BK117.out)
                have n2_ := Aside0.mk (below_drew1 HB.out)
                clear HO_3
                clear BK117
                clear HB
                have HO_3 := n0_
                have BK117 := n1_
                have HB := n2_
                clear n0_ n1_ n2_
                refine start_ (n := 8) (S := fun w' => w'.cell? ⟨gb117, 0, none⟩ = some (.string ((rd_T101 l0 x14_1).f0.f0)) ∧ w'.cell? ⟨gb117, 1, none⟩ = some (.string ((rd_T101 l0 x14_1).f0.f1)) ∧ w'.cell? ⟨gb117, 2, none⟩ = some (.int .i64 ((rd_T101 l0 x14_1).f0.f2)) ∧ w'.cell? ⟨gb117, 3, none⟩ = some (.string ((rd_T101 l0 x14_1).f0.f3)) ∧ w'.cell? ⟨gb117, 4, none⟩ = some (.int .i64 ((rd_T101 l0 x14_1).f1.f0)) ∧ w'.cell? ⟨gb117, 5, none⟩ = some (.bool false) ∧ w'.cell? ⟨gb117, 6, none⟩ = some (.int .i64 ((rd_T101 l0 x14_1).f1.f2)) ∧ w'.cell? ⟨gb117, 7, none⟩ = some (.int .i64 ((rd_T101 l0 x14_1).f1.f3.f0)) ∧ w'.cell? ⟨gb117, 8, none⟩ = some (.int .i64 ((rd_T101 l0 x14_1).f1.f3.f1)) ∧ w'.cell? ⟨gb117, 9, none⟩ = some (.string ((rd_T101 l0 x14_1).f1.f3.f2))) (ds := []) #[false, false, false, false, false, false, false, false] (by kernel_rfl) rfl rfl ⟨(blk_cell BK117.out 0).trans rfl, (blk_cell BK117.out 1).trans rfl, (blk_cell BK117.out 2).trans rfl, (blk_cell BK117.out 3).trans rfl, (blk_cell BK117.out 4).trans rfl, (blk_cell BK117.out 5).trans rfl, (blk_cell BK117.out 6).trans rfl, (blk_cell BK117.out 7).trans rfl, (blk_cell BK117.out 8).trans rfl, (blk_cell BK117.out 9).trans rfl⟩ (fun hHeld => ?_); refine with_tabW codec_Cells.tab5 codec_Cells.bits5 (fun HT_ HW_ => ?_)
                generalize w63.drew = w64 at HO_3 BK117 HB hHeld ⊢
                refine pure_ (i := 0) (N := some 18) (v := ?_) (a' := ?_) #[true, false, false, false, false, false, false, false] rfl rfl (any_of HT_.out (by kernel_rfl)) (fun _ _ _ h => h) (Or.inl ⟨by rfl, ?_⟩) ?_ ?_
                rotate_left
                · intro w'
                  go_simp
                  with_reducible rfl
                rotate_left
                · simp only [Act.put, List.setIfInBounds_toArray, List.set_cons_zero, List.set_cons_succ, i64_w, i32_w]
                  rfl
                refine pure_ (i := 2) (N := some 20) (v := ?_) (a' := ?_) #[true, false, true, false, false, false, false, false] rfl rfl (any_of HT_.out (by kernel_rfl)) (fun _ _ _ h => h) (Or.inl ⟨by rfl, ?_⟩) ?_ ?_
                rotate_left
                · intro w'
                  go_simp
                  with_reducible rfl
                rotate_left
                · simp only [Act.put, List.setIfInBounds_toArray, List.set_cons_zero, List.set_cons_succ, i64_w, i32_w]
                  rfl
                refine take_ (i := 1) (N := some 19) (v := ?_) (a' := ?_) #[true, true, true, false, false, false, false, false] rfl rfl (take_ofW HT_.out HW_.out (by kernel_rfl)) (fun _ _ _ h => h) (Or.inl ⟨by rfl, ?_⟩) hHeld ?_ ?_
                rotate_left
                · rintro w' ⟨s0, s1, s2, s3, s4, s5, s6, s7, s8, s9⟩
                  go_simp
                  with_reducible rfl
                rotate_left
                · simp only [Act.put, List.setIfInBounds_toArray, List.set_cons_zero, List.set_cons_succ, i64_w, i32_w]
                  rfl
                refine take_ (i := 3) (N := some 21) (v := ?_) (a' := ?_) #[true, true, true, true, false, false, false, false] rfl rfl (take_ofW HT_.out HW_.out (by kernel_rfl)) (fun _ _ _ h => h) (Or.inl ⟨by rfl, ?_⟩) hHeld ?_ ?_
                rotate_left
                · rintro w' ⟨s0, s1, s2, s3, s4, s5, s6, s7, s8, s9⟩
                  go_simp
                  with_reducible rfl
                rotate_left
                · simp only [Act.put, List.setIfInBounds_toArray, List.set_cons_zero, List.set_cons_succ, i64_w, i32_w]
                  rfl
                refine join_ (σ := Nat × Nat) 2 #[true, true, true, true, true, true, false, false] (fun s_ => [(6, .pointer (some ⟨s_.1, 0, none⟩)), (7, .pointer (some ⟨s_.2, 0, none⟩))]) (fun s_ w' => (w'.cell? ⟨gb117, 0, none⟩ = some (.string ((rd_T101 l0 x14_1).f0.f0)) ∧ w'.cell? ⟨gb117, 1, none⟩ = some (.string ((rd_T101 l0 x14_1).f0.f1)) ∧ w'.cell? ⟨gb117, 2, none⟩ = some (.int .i64 ((rd_T101 l0 x14_1).f0.f2)) ∧ w'.cell? ⟨gb117, 3, none⟩ = some (.string ((rd_T101 l0 x14_1).f0.f3)) ∧ w'.cell? ⟨gb117, 4, none⟩ = some (.int .i64 ((rd_T101 l0 x14_1).f1.f0)) ∧ w'.cell? ⟨gb117, 5, none⟩ = some (.bool false) ∧ w'.cell? ⟨gb117, 6, none⟩ = some (.int .i64 ((rd_T101 l0 x14_1).f1.f2)) ∧ w'.cell? ⟨gb117, 7, none⟩ = some (.int .i64 ((rd_T101 l0 x14_1).f1.f3.f0)) ∧ w'.cell? ⟨gb117, 8, none⟩ = some (.int .i64 ((rd_T101 l0 x14_1).f1.f3.f1)) ∧ w'.cell? ⟨gb117, 9, none⟩ = some (.string ((rd_T101 l0 x14_1).f1.f3.f2))) ∧ (Kd.R (Kd.int .u8) 5 w' w.heap.size (fun _ => True) u3 x3_1) ∧ (w'.heap[gb117]? = some (.cells #[.string ((rd_T101 l0 x14_1).f0.f0), .string ((rd_T101 l0 x14_1).f0.f1), .int .i64 ((rd_T101 l0 x14_1).f0.f2), .string ((rd_T101 l0 x14_1).f0.f3), .int .i64 ((rd_T101 l0 x14_1).f1.f0), .bool false, .int .i64 ((rd_T101 l0 x14_1).f1.f2), .int .i64 ((rd_T101 l0 x14_1).f1.f3.f0), .int .i64 ((rd_T101 l0 x14_1).f1.f3.f1), .string ((rd_T101 l0 x14_1).f1.f3.f2)] 101 (0, 0))) ∧ (w'.heap[s_.1]? = some (.cells #[.string (⟨#[]⟩ : ByteArray), .string (⟨#[]⟩ : ByteArray), .int .i64 0, .string (⟨#[]⟩ : ByteArray)] 95 (0, 0))) ∧ (w'.heap[s_.2]? = some (.cells #[.int .i64 0, .bool false, .int .i64 0, .int .i64 0, .int .i64 0, .string (⟨#[]⟩ : ByteArray)] 99 (0, 0))) ∧ (w.heap.size ≤ s_.1) ∧ (w.heap.size ≤ s_.1) ∧ (gb117 ≠ s_.1) ∧ (s_.1 ≠ gb117) ∧ (s_.2 ≠ s_.1) ∧ (s_.1 ≠ s_.2) ∧ (w.heap.size ≤ s_.2) ∧ (w.heap.size ≤ s_.2) ∧ (gb117 ≠ s_.2) ∧ (s_.2 ≠ gb117) ∧ (Below w.heap.size w w')) ?_ ?_
                rotate_left
                · intro hCont
                  refine two_ (i := 4) (j := 5) (Ni := some 6) (Nj := some 7) #[true, true, true, true, true, false, false, false] #[true, true, true, true, false, true, false, false] rfl rfl rfl rfl (two_of HT_.out (by kernel_rfl)) (by decide) (by decide) (fun K hK => ?_) (fun K hK => ?_)
                  · skip
                    refine box_step ?hg (N := 6) ?hd (cs := #[.string (⟨#[]⟩ : ByteArray), .string (⟨#[]⟩ : ByteArray), .int .i64 0, .string (⟨#[]⟩ : ByteArray)]) (t := 95) ?hr ?_; (case hd => rfl); (case hg => rfl); (case hr => first | (go_simp; done) | (go_simp; rfl))
                    intro gb118 hg w65 hbox hb
                    have n0_ := Aside0.mk (Kd.R_below (by (with_reducible repeat (first | apply Kd.R_alloc | apply Kd.R_drewN | apply Kd.R_drew)); exact HO_3.out) hb)
                    have n1_ := Aside0.mk (blk_below (g := gb117) (o := .cells #[.string ((rd_T101 l0 x14_1).f0.f0), .string ((rd_T101 l0 x14_1).f0.f1), .int .i64 ((rd_T101 l0 x14_1).f0.f2), .string ((rd_T101 l0 x14_1).f0.f3), .int .i64 ((rd_T101 l0 x14_1).f1.f0), .bool false, .int .i64 ((rd_T101 l0 x14_1).f1.f2), .int .i64 ((rd_T101 l0 x14_1).f1.f3.f0), .int .i64 ((rd_T101 l0 x14_1).f1.f3.f1), .string ((rd_T101 l0 x14_1).f1.f3.f2)] 101 (0, 0)) (by first | (with_reducible exact BK117.out) | (with_reducible exact blk_drewN BK117.out _) | (with_reducible exact blk_drew BK117.out) | (with_reducible exact blk_alloc BK117.out _) | ((with_reducible repeat (first | refine blk_drewN ?_ _ | refine blk_drew ?_ | refine blk_alloc ?_ _)); exact BK117.out)) hb)
                    have n2_ := Aside0.mk (below_step (by repeat (first | (with_reducible first | exact HB.out | apply below_alloc | apply pw_below_drewN | apply below_drew1 | refine below_set ?_ GE117.out) | exact HB.out)) hb)
                    have n3_ := Aside0.mk (hbox)
                    have n4_ := Aside0.mk ((by rw [hg]; exact (below_size (by repeat (first | (with_reducible first | exact HB.out | apply below_alloc | apply pw_below_drewN | apply below_drew1 | refine below_set ?_ GE117.out) | exact HB.out))) : w.heap.size ≤ gb118))
                    have n5_ := Aside0.mk ((by rw [hg]; exact (below_size (by repeat (first | (with_reducible first | exact HB.out | apply below_alloc | apply pw_below_drewN | apply below_drew1 | refine below_set ?_ GE117.out) | exact HB.out))) : w.heap.size ≤ gb118))
                    have n6_ := Aside0.mk ((by rw [hg]; exact Nat.ne_of_lt (blk_lt (g := gb117) (o := .cells #[.string ((rd_T101 l0 x14_1).f0.f0), .string ((rd_T101 l0 x14_1).f0.f1), .int .i64 ((rd_T101 l0 x14_1).f0.f2), .string ((rd_T101 l0 x14_1).f0.f3), .int .i64 ((rd_T101 l0 x14_1).f1.f0), .bool false, .int .i64 ((rd_T101 l0 x14_1).f1.f2), .int .i64 ((rd_T101 l0 x14_1).f1.f3.f0), .int .i64 ((rd_T101 l0 x14_1).f1.f3.f1), .string ((rd_T101 l0 x14_1).f1.f3.f2)] 101 (0, 0)) (by first | (with_reducible exact BK117.out) | (with_reducible exact blk_drewN BK117.out _) | (with_reducible exact blk_drew BK117.out) | (with_reducible exact blk_alloc BK117.out _) | ((with_reducible repeat (first | refine blk_drewN ?_ _ | refine blk_drew ?_ | refine blk_alloc ?_ _)); exact BK117.out))) : gb117 ≠ gb118))
                    have n7_ := Aside0.mk ((by rw [hg]; exact Nat.ne_of_gt (blk_lt (g := gb117) (o := .cells #[.string ((rd_T101 l0 x14_1).f0.f0), .string ((rd_T101 l0 x14_1).f0.f1), .int .i64 ((rd_T101 l0 x14_1).f0.f2), .string ((rd_T101 l0 x14_1).f0.f3), .int .i64 ((rd_T101 l0 x14_1).f1.f0), .bool false, .int .i64 ((rd_T101 l0 x14_1).f1.f2), .int .i64 ((rd_T101 l0 x14_1).f1.f3.f0), .int .i64 ((rd_T101 l0 x14_1).f1.f3.f1), .string ((rd_T101 l0 x14_1).f1.f3.f2)] 101 (0, 0)) (by first | (with_reducible exact BK117.out) | (with_reducible exact blk_drewN BK117.out _) | (with_reducible exact blk_drew BK117.out) | (with_reducible exact blk_alloc BK117.out _) | ((with_reducible repeat (first | refine blk_drewN ?_ _ | refine blk_drew ?_ | refine blk_alloc ?_ _)); exact BK117.out))) : gb118 ≠ gb117))
                    clear HO_3
                    clear BK117
                    clear HB
                    have HO_3 := n0_
                    have BK117 := n1_
                    have HB := n2_
                    have BK118 := n3_
                    have GW118 := n4_
                    have GE118 := n5_
                    have NB117_118 := n6_
                    have NB118_117 := n7_
                    clear n0_ n1_ n2_ n3_ n4_ n5_ n6_ n7_
                    clear hb hbox hg
                    refine hK.out _ _ ⟨(blk_cell BK117.out 0).trans rfl, (blk_cell BK117.out 1).trans rfl, (blk_cell BK117.out 2).trans rfl, (blk_cell BK117.out 3).trans rfl, (blk_cell BK117.out 4).trans rfl, (blk_cell BK117.out 5).trans rfl, (blk_cell BK117.out 6).trans rfl, (blk_cell BK117.out 7).trans rfl, (blk_cell BK117.out 8).trans rfl, (blk_cell BK117.out 9).trans rfl⟩ (fun hHeld => ?_)
                    clear hK K
                    refine norm_ (a' := ?_) ?_ ?_
                    rotate_left
                    · show Act.put _ (some 6) _ = _
                      simp only [Act.put, List.setIfInBounds_toArray, List.set_cons_zero, List.set_cons_succ, i64_w, i32_w]
                      rfl
                    refine one_ (i := 5) (N := some 7) #[true, true, true, true, true, true, false, false] rfl rfl (one_of HT_.out (by kernel_rfl)) (by decide) (fun K hK => ?_)
                    refine box_step ?hg (N := 7) ?hd (cs := #[.int .i64 0, .bool false, .int .i64 0, .int .i64 0, .int .i64 0, .string (⟨#[]⟩ : ByteArray)]) (t := 99) ?hr ?_; (case hd => rfl); (case hg => rfl); (case hr => first | (go_simp; done) | (go_simp; rfl))
                    intro gb119 hg w66 hbox hb
                    have n0_ := Aside0.mk (Kd.R_below (by (with_reducible repeat (first | apply Kd.R_alloc | apply Kd.R_drewN | apply Kd.R_drew)); exact HO_3.out) hb)
                    have n1_ := Aside0.mk (blk_below (g := gb117) (o := .cells #[.string ((rd_T101 l0 x14_1).f0.f0), .string ((rd_T101 l0 x14_1).f0.f1), .int .i64 ((rd_T101 l0 x14_1).f0.f2), .string ((rd_T101 l0 x14_1).f0.f3), .int .i64 ((rd_T101 l0 x14_1).f1.f0), .bool false, .int .i64 ((rd_T101 l0 x14_1).f1.f2), .int .i64 ((rd_T101 l0 x14_1).f1.f3.f0), .int .i64 ((rd_T101 l0 x14_1).f1.f3.f1), .string ((rd_T101 l0 x14_1).f1.f3.f2)] 101 (0, 0)) (by first | (with_reducible exact BK117.out) | (with_reducible exact blk_drewN BK117.out _) | (with_reducible exact blk_drew BK117.out) | (with_reducible exact blk_alloc BK117.out _) | ((with_reducible repeat (first | refine blk_drewN ?_ _ | refine blk_drew ?_ | refine blk_alloc ?_ _)); exact BK117.out)) hb)
                    have n2_ := Aside0.mk (blk_below (g := gb118) (o := .cells #[.string (⟨#[]⟩ : ByteArray), .string (⟨#[]⟩ : ByteArray), .int .i64 0, .string (⟨#[]⟩ : ByteArray)] 95 (0, 0)) (by first | (with_reducible exact BK118.out) | (with_reducible exact blk_drewN BK118.out _) | (with_reducible exact blk_drew BK118.out) | (with_reducible exact blk_alloc BK118.out _) | ((with_reducible repeat (first | refine blk_drewN ?_ _ | refine blk_drew ?_ | refine blk_alloc ?_ _)); exact BK118.out)) hb)
                    have n3_ := Aside0.mk (below_step (by repeat (first | (with_reducible first | exact HB.out | apply below_alloc | apply pw_below_drewN | apply below_drew1 | refine below_set ?_ GE117.out | refine below_set ?_ GE118.out) | exact HB.out)) hb)
                    have n4_ := Aside0.mk (hbox)
                    have n5_ := Aside0.mk ((by rw [hg]; exact (below_size (by repeat (first | (with_reducible first | exact HB.out | apply below_alloc | apply pw_below_drewN | apply below_drew1 | refine below_set ?_ GE117.out | refine below_set ?_ GE118.out) | exact HB.out))) : w.heap.size ≤ gb119))
                    have n6_ := Aside0.mk ((by rw [hg]; exact (below_size (by repeat (first | (with_reducible first | exact HB.out | apply below_alloc | apply pw_below_drewN | apply below_drew1 | refine below_set ?_ GE117.out | refine below_set ?_ GE118.out) | exact HB.out))) : w.heap.size ≤ gb119))
                    have n7_ := Aside0.mk ((by rw [hg]; exact Nat.ne_of_lt (blk_lt (g := gb117) (o := .cells #[.string ((rd_T101 l0 x14_1).f0.f0), .string ((rd_T101 l0 x14_1).f0.f1), .int .i64 ((rd_T101 l0 x14_1).f0.f2), .string ((rd_T101 l0 x14_1).f0.f3), .int .i64 ((rd_T101 l0 x14_1).f1.f0), .bool false, .int .i64 ((rd_T101 l0 x14_1).f1.f2), .int .i64 ((rd_T101 l0 x14_1).f1.f3.f0), .int .i64 ((rd_T101 l0 x14_1).f1.f3.f1), .string ((rd_T101 l0 x14_1).f1.f3.f2)] 101 (0, 0)) (by first | (with_reducible exact BK117.out) | (with_reducible exact blk_drewN BK117.out _) | (with_reducible exact blk_drew BK117.out) | (with_reducible exact blk_alloc BK117.out _) | ((with_reducible repeat (first | refine blk_drewN ?_ _ | refine blk_drew ?_ | refine blk_alloc ?_ _)); exact BK117.out))) : gb117 ≠ gb119))
                    have n8_ := Aside0.mk ((by rw [hg]; exact Nat.ne_of_gt (blk_lt (g := gb117) (o := .cells #[.string ((rd_T101 l0 x14_1).f0.f0), .string ((rd_T101 l0 x14_1).f0.f1), .int .i64 ((rd_T101 l0 x14_1).f0.f2), .string ((rd_T101 l0 x14_1).f0.f3), .int .i64 ((rd_T101 l0 x14_1).f1.f0), .bool false, .int .i64 ((rd_T101 l0 x14_1).f1.f2), .int .i64 ((rd_T101 l0 x14_1).f1.f3.f0), .int .i64 ((rd_T101 l0 x14_1).f1.f3.f1), .string ((rd_T101 l0 x14_1).f1.f3.f2)] 101 (0, 0)) (by first | (with_reducible exact BK117.out) | (with_reducible exact blk_drewN BK117.out _) | (with_reducible exact blk_drew BK117.out) | (with_reducible exact blk_alloc BK117.out _) | ((with_reducible repeat (first | refine blk_drewN ?_ _ | refine blk_drew ?_ | refine blk_alloc ?_ _)); exact BK117.out))) : gb119 ≠ gb117))
                    have n9_ := Aside0.mk ((by rw [hg]; exact Nat.ne_of_lt (blk_lt (g := gb118) (o := .cells #[.string (⟨#[]⟩ : ByteArray), .string (⟨#[]⟩ : ByteArray), .int .i64 0, .string (⟨#[]⟩ : ByteArray)] 95 (0, 0)) (by first | (with_reducible exact BK118.out) | (with_reducible exact blk_drewN BK118.out _) | (with_reducible exact blk_drew BK118.out) | (with_reducible exact blk_alloc BK118.out _) | ((with_reducible repeat (first | refine blk_drewN ?_ _ | refine blk_drew ?_ | refine blk_alloc ?_ _)); exact BK118.out))) : gb118 ≠ gb119))
                    have n10_ := Aside0.mk ((by rw [hg]; exact Nat.ne_of_gt (blk_lt (g := gb118) (o := .cells #[.string (⟨#[]⟩ : ByteArray), .string (⟨#[]⟩ : ByteArray), .int .i64 0, .string (⟨#[]⟩ : ByteArray)] 95 (0, 0)) (by first | (with_reducible exact BK118.out) | (with_reducible exact blk_drewN BK118.out _) | (with_reducible exact blk_drew BK118.out) | (with_reducible exact blk_alloc BK118.out _) | ((with_reducible repeat (first | refine blk_drewN ?_ _ | refine blk_drew ?_ | refine blk_alloc ?_ _)); exact BK118.out))) : gb119 ≠ gb118))
                    clear HO_3
                    clear BK117
                    clear BK118
                    clear HB
                    have HO_3 := n0_
                    have BK117 := n1_
                    have BK118 := n2_
                    have HB := n3_
                    have BK119 := n4_
                    have GW119 := n5_
                    have GE119 := n6_
                    have NB117_119 := n7_
                    have NB119_117 := n8_
                    have NB118_119 := n9_
                    have NB119_118 := n10_
                    clear n0_ n1_ n2_ n3_ n4_ n5_ n6_ n7_ n8_ n9_ n10_
                    clear hb hbox hg
                    refine hK.out _ _ ⟨(blk_cell BK117.out 0).trans rfl, (blk_cell BK117.out 1).trans rfl, (blk_cell BK117.out 2).trans rfl, (blk_cell BK117.out 3).trans rfl, (blk_cell BK117.out 4).trans rfl, (blk_cell BK117.out 5).trans rfl, (blk_cell BK117.out 6).trans rfl, (blk_cell BK117.out 7).trans rfl, (blk_cell BK117.out 8).trans rfl, (blk_cell BK117.out 9).trans rfl⟩ (fun hHeld => ?_)
                    clear hK K
                    refine norm_ (a' := ?_) ?_ ?_
                    rotate_left
                    · show Act.put _ (some 7) _ = _
                      simp only [Act.put, List.setIfInBounds_toArray, List.set_cons_zero, List.set_cons_succ, i64_w, i32_w]
                      rfl
                    exact norm_ (by simp only [putAll, Act.put, List.setIfInBounds_toArray, List.set_cons_zero, List.set_cons_succ]) (hCont (gb118, gb119) _ ⟨hHeld, (by (with_reducible repeat (first | apply Kd.R_alloc | apply Kd.R_drewN | apply Kd.R_drew)); exact HO_3.out), (by first | (with_reducible exact BK117.out) | (with_reducible exact blk_drewN BK117.out _) | (with_reducible exact blk_drew BK117.out) | (with_reducible exact blk_alloc BK117.out _) | ((with_reducible repeat (first | refine blk_drewN ?_ _ | refine blk_drew ?_ | refine blk_alloc ?_ _)); exact BK117.out)), (by first | (with_reducible exact BK118.out) | (with_reducible exact blk_drewN BK118.out _) | (with_reducible exact blk_drew BK118.out) | (with_reducible exact blk_alloc BK118.out _) | ((with_reducible repeat (first | refine blk_drewN ?_ _ | refine blk_drew ?_ | refine blk_alloc ?_ _)); exact BK118.out)), (by first | (with_reducible exact BK119.out) | (with_reducible exact blk_drewN BK119.out _) | (with_reducible exact blk_drew BK119.out) | (with_reducible exact blk_alloc BK119.out _) | ((with_reducible repeat (first | refine blk_drewN ?_ _ | refine blk_drew ?_ | refine blk_alloc ?_ _)); exact BK119.out)), GW118.out, GE118.out, NB117_118.out, NB118_117.out, NB119_118.out, NB118_119.out, GW119.out, GE119.out, NB117_119.out, NB119_117.out, (by repeat (first | (with_reducible first | exact HB.out | apply below_alloc | apply pw_below_drewN | apply below_drew1 | refine below_set ?_ GE117.out | refine below_set ?_ GE118.out | refine below_set ?_ GE119.out) | exact HB.out))⟩)
                  · skip
                    refine box_step ?hg (N := 7) ?hd (cs := #[.int .i64 0, .bool false, .int .i64 0, .int .i64 0, .int .i64 0, .string (⟨#[]⟩ : ByteArray)]) (t := 99) ?hr ?_; (case hd => rfl); (case hg => rfl); (case hr => first | (go_simp; done) | (go_simp; rfl))
                    intro gb119 hg w65 hbox hb
                    have n0_ := Aside0.mk (Kd.R_below (by (with_reducible repeat (first | apply Kd.R_alloc | apply Kd.R_drewN | apply Kd.R_drew)); exact HO_3.out) hb)
                    have n1_ := Aside0.mk (blk_below (g := gb117) (o := .cells #[.string ((rd_T101 l0 x14_1).f0.f0), .string ((rd_T101 l0 x14_1).f0.f1), .int .i64 ((rd_T101 l0 x14_1).f0.f2), .string ((rd_T101 l0 x14_1).f0.f3), .int .i64 ((rd_T101 l0 x14_1).f1.f0), .bool false, .int .i64 ((rd_T101 l0 x14_1).f1.f2), .int .i64 ((rd_T101 l0 x14_1).f1.f3.f0), .int .i64 ((rd_T101 l0 x14_1).f1.f3.f1), .string ((rd_T101 l0 x14_1).f1.f3.f2)] 101 (0, 0)) (by first | (with_reducible exact BK117.out) | (with_reducible exact blk_drewN BK117.out _) | (with_reducible exact blk_drew BK117.out) | (with_reducible exact blk_alloc BK117.out _) | ((with_reducible repeat (first | refine blk_drewN ?_ _ | refine blk_drew ?_ | refine blk_alloc ?_ _)); exact BK117.out)) hb)
                    have n2_ := Aside0.mk (below_step (by repeat (first | (with_reducible first | exact HB.out | apply below_alloc | apply pw_below_drewN | apply below_drew1 | refine below_set ?_ GE117.out) | exact HB.out)) hb)
                    have n3_ := Aside0.mk (hbox)
                    have n4_ := Aside0.mk ((by rw [hg]; exact (below_size (by repeat (first | (with_reducible first | exact HB.out | apply below_alloc | apply pw_below_drewN | apply below_drew1 | refine below_set ?_ GE117.out) | exact HB.out))) : w.heap.size ≤ gb119))
                    have n5_ := Aside0.mk ((by rw [hg]; exact (below_size (by repeat (first | (with_reducible first | exact HB.out | apply below_alloc | apply pw_below_drewN | apply below_drew1 | refine below_set ?_ GE117.out) | exact HB.out))) : w.heap.size ≤ gb119))
                    have n6_ := Aside0.mk ((by rw [hg]; exact Nat.ne_of_lt (blk_lt (g := gb117) (o := .cells #[.string ((rd_T101 l0 x14_1).f0.f0), .string ((rd_T101 l0 x14_1).f0.f1), .int .i64 ((rd_T101 l0 x14_1).f0.f2), .string ((rd_T101 l0 x14_1).f0.f3), .int .i64 ((rd_T101 l0 x14_1).f1.f0), .bool false, .int .i64 ((rd_T101 l0 x14_1).f1.f2), .int .i64 ((rd_T101 l0 x14_1).f1.f3.f0), .int .i64 ((rd_T101 l0 x14_1).f1.f3.f1), .string ((rd_T101 l0 x14_1).f1.f3.f2)] 101 (0, 0)) (by first | (with_reducible exact BK117.out) | (with_reducible exact blk_drewN BK117.out _) | (with_reducible exact blk_drew BK117.out) | (with_reducible exact blk_alloc BK117.out _) | ((with_reducible repeat (first | refine blk_drewN ?_ _ | refine blk_drew ?_ | refine blk_alloc ?_ _)); exact BK117.out))) : gb117 ≠ gb119))
                    have n7_ := Aside0.mk ((by rw [hg]; exact Nat.ne_of_gt (blk_lt (g := gb117) (o := .cells #[.string ((rd_T101 l0 x14_1).f0.f0), .string ((rd_T101 l0 x14_1).f0.f1), .int .i64 ((rd_T101 l0 x14_1).f0.f2), .string ((rd_T101 l0 x14_1).f0.f3), .int .i64 ((rd_T101 l0 x14_1).f1.f0), .bool false, .int .i64 ((rd_T101 l0 x14_1).f1.f2), .int .i64 ((rd_T101 l0 x14_1).f1.f3.f0), .int .i64 ((rd_T101 l0 x14_1).f1.f3.f1), .string ((rd_T101 l0 x14_1).f1.f3.f2)] 101 (0, 0)) (by first | (with_reducible exact BK117.out) | (with_reducible exact blk_drewN BK117.out _) | (with_reducible exact blk_drew BK117.out) | (with_reducible exact blk_alloc BK117.out _) | ((with_reducible repeat (first | refine blk_drewN ?_ _ | refine blk_drew ?_ | refine blk_alloc ?_ _)); exact BK117.out))) : gb119 ≠ gb117))
                    clear HO_3
                    clear BK117
                    clear HB
                    have HO_3 := n0_
                    have BK117 := n1_
                    have HB := n2_
                    have BK119 := n3_
                    have GW119 := n4_
                    have GE119 := n5_
                    have NB117_119 := n6_
                    have NB119_117 := n7_
                    clear n0_ n1_ n2_ n3_ n4_ n5_ n6_ n7_
                    clear hb hbox hg
                    refine hK.out _ _ ⟨(blk_cell BK117.out 0).trans rfl, (blk_cell BK117.out 1).trans rfl, (blk_cell BK117.out 2).trans rfl, (blk_cell BK117.out 3).trans rfl, (blk_cell BK117.out 4).trans rfl, (blk_cell BK117.out 5).trans rfl, (blk_cell BK117.out 6).trans rfl, (blk_cell BK117.out 7).trans rfl, (blk_cell BK117.out 8).trans rfl, (blk_cell BK117.out 9).trans rfl⟩ (fun hHeld => ?_)
                    clear hK K
                    refine norm_ (a' := ?_) ?_ ?_
                    rotate_left
                    · show Act.put _ (some 7) _ = _
                      simp only [Act.put, List.setIfInBounds_toArray, List.set_cons_zero, List.set_cons_succ, i64_w, i32_w]
                      rfl
                    refine one_ (i := 4) (N := some 6) #[true, true, true, true, true, true, false, false] rfl rfl (one_of HT_.out (by kernel_rfl)) (by decide) (fun K hK => ?_)
                    refine box_step ?hg (N := 6) ?hd (cs := #[.string (⟨#[]⟩ : ByteArray), .string (⟨#[]⟩ : ByteArray), .int .i64 0, .string (⟨#[]⟩ : ByteArray)]) (t := 95) ?hr ?_; (case hd => rfl); (case hg => rfl); (case hr => first | (go_simp; done) | (go_simp; rfl))
                    intro gb118 hg w66 hbox hb
                    have n0_ := Aside0.mk (Kd.R_below (by (with_reducible repeat (first | apply Kd.R_alloc | apply Kd.R_drewN | apply Kd.R_drew)); exact HO_3.out) hb)
                    have n1_ := Aside0.mk (blk_below (g := gb117) (o := .cells #[.string ((rd_T101 l0 x14_1).f0.f0), .string ((rd_T101 l0 x14_1).f0.f1), .int .i64 ((rd_T101 l0 x14_1).f0.f2), .string ((rd_T101 l0 x14_1).f0.f3), .int .i64 ((rd_T101 l0 x14_1).f1.f0), .bool false, .int .i64 ((rd_T101 l0 x14_1).f1.f2), .int .i64 ((rd_T101 l0 x14_1).f1.f3.f0), .int .i64 ((rd_T101 l0 x14_1).f1.f3.f1), .string ((rd_T101 l0 x14_1).f1.f3.f2)] 101 (0, 0)) (by first | (with_reducible exact BK117.out) | (with_reducible exact blk_drewN BK117.out _) | (with_reducible exact blk_drew BK117.out) | (with_reducible exact blk_alloc BK117.out _) | ((with_reducible repeat (first | refine blk_drewN ?_ _ | refine blk_drew ?_ | refine blk_alloc ?_ _)); exact BK117.out)) hb)
                    have n2_ := Aside0.mk (blk_below (g := gb119) (o := .cells #[.int .i64 0, .bool false, .int .i64 0, .int .i64 0, .int .i64 0, .string (⟨#[]⟩ : ByteArray)] 99 (0, 0)) (by first | (with_reducible exact BK119.out) | (with_reducible exact blk_drewN BK119.out _) | (with_reducible exact blk_drew BK119.out) | (with_reducible exact blk_alloc BK119.out _) | ((with_reducible repeat (first | refine blk_drewN ?_ _ | refine blk_drew ?_ | refine blk_alloc ?_ _)); exact BK119.out)) hb)
                    have n3_ := Aside0.mk (below_step (by repeat (first | (with_reducible first | exact HB.out | apply below_alloc | apply pw_below_drewN | apply below_drew1 | refine below_set ?_ GE117.out | refine below_set ?_ GE119.out) | exact HB.out)) hb)
                    have n4_ := Aside0.mk (hbox)
                    have n5_ := Aside0.mk ((by rw [hg]; exact (below_size (by repeat (first | (with_reducible first | exact HB.out | apply below_alloc | apply pw_below_drewN | apply below_drew1 | refine below_set ?_ GE117.out | refine below_set ?_ GE119.out) | exact HB.out))) : w.heap.size ≤ gb118))
                    have n6_ := Aside0.mk ((by rw [hg]; exact (below_size (by repeat (first | (with_reducible first | exact HB.out | apply below_alloc | apply pw_below_drewN | apply below_drew1 | refine below_set ?_ GE117.out | refine below_set ?_ GE119.out) | exact HB.out))) : w.heap.size ≤ gb118))
                    have n7_ := Aside0.mk ((by rw [hg]; exact Nat.ne_of_lt (blk_lt (g := gb117) (o := .cells #[.string ((rd_T101 l0 x14_1).f0.f0), .string ((rd_T101 l0 x14_1).f0.f1), .int .i64 ((rd_T101 l0 x14_1).f0.f2), .string ((rd_T101 l0 x14_1).f0.f3), .int .i64 ((rd_T101 l0 x14_1).f1.f0), .bool false, .int .i64 ((rd_T101 l0 x14_1).f1.f2), .int .i64 ((rd_T101 l0 x14_1).f1.f3.f0), .int .i64 ((rd_T101 l0 x14_1).f1.f3.f1), .string ((rd_T101 l0 x14_1).f1.f3.f2)] 101 (0, 0)) (by first | (with_reducible exact BK117.out) | (with_reducible exact blk_drewN BK117.out _) | (with_reducible exact blk_drew BK117.out) | (with_reducible exact blk_alloc BK117.out _) | ((with_reducible repeat (first | refine blk_drewN ?_ _ | refine blk_drew ?_ | refine blk_alloc ?_ _)); exact BK117.out))) : gb117 ≠ gb118))
                    have n8_ := Aside0.mk ((by rw [hg]; exact Nat.ne_of_gt (blk_lt (g := gb117) (o := .cells #[.string ((rd_T101 l0 x14_1).f0.f0), .string ((rd_T101 l0 x14_1).f0.f1), .int .i64 ((rd_T101 l0 x14_1).f0.f2), .string ((rd_T101 l0 x14_1).f0.f3), .int .i64 ((rd_T101 l0 x14_1).f1.f0), .bool false, .int .i64 ((rd_T101 l0 x14_1).f1.f2), .int .i64 ((rd_T101 l0 x14_1).f1.f3.f0), .int .i64 ((rd_T101 l0 x14_1).f1.f3.f1), .string ((rd_T101 l0 x14_1).f1.f3.f2)] 101 (0, 0)) (by first | (with_reducible exact BK117.out) | (with_reducible exact blk_drewN BK117.out _) | (with_reducible exact blk_drew BK117.out) | (with_reducible exact blk_alloc BK117.out _) | ((with_reducible repeat (first | refine blk_drewN ?_ _ | refine blk_drew ?_ | refine blk_alloc ?_ _)); exact BK117.out))) : gb118 ≠ gb117))
                    have n9_ := Aside0.mk ((by rw [hg]; exact Nat.ne_of_lt (blk_lt (g := gb119) (o := .cells #[.int .i64 0, .bool false, .int .i64 0, .int .i64 0, .int .i64 0, .string (⟨#[]⟩ : ByteArray)] 99 (0, 0)) (by first | (with_reducible exact BK119.out) | (with_reducible exact blk_drewN BK119.out _) | (with_reducible exact blk_drew BK119.out) | (with_reducible exact blk_alloc BK119.out _) | ((with_reducible repeat (first | refine blk_drewN ?_ _ | refine blk_drew ?_ | refine blk_alloc ?_ _)); exact BK119.out))) : gb119 ≠ gb118))
                    have n10_ := Aside0.mk ((by rw [hg]; exact Nat.ne_of_gt (blk_lt (g := gb119) (o := .cells #[.int .i64 0, .bool false, .int .i64 0, .int .i64 0, .int .i64 0, .string (⟨#[]⟩ : ByteArray)] 99 (0, 0)) (by first | (with_reducible exact BK119.out) | (with_reducible exact blk_drewN BK119.out _) | (with_reducible exact blk_drew BK119.out) | (with_reducible exact blk_alloc BK119.out _) | ((with_reducible repeat (first | refine blk_drewN ?_ _ | refine blk_drew ?_ | refine blk_alloc ?_ _)); exact BK119.out))) : gb118 ≠ gb119))
                    clear HO_3
                    clear BK117
                    clear BK119
                    clear HB
                    have HO_3 := n0_
                    have BK117 := n1_
                    have BK119 := n2_
                    have HB := n3_
                    have BK118 := n4_
                    have GW118 := n5_
                    have GE118 := n6_
                    have NB117_118 := n7_
                    have NB118_117 := n8_
                    have NB119_118 := n9_
                    have NB118_119 := n10_
                    clear n0_ n1_ n2_ n3_ n4_ n5_ n6_ n7_ n8_ n9_ n10_
                    clear hb hbox hg
                    refine hK.out _ _ ⟨(blk_cell BK117.out 0).trans rfl, (blk_cell BK117.out 1).trans rfl, (blk_cell BK117.out 2).trans rfl, (blk_cell BK117.out 3).trans rfl, (blk_cell BK117.out 4).trans rfl, (blk_cell BK117.out 5).trans rfl, (blk_cell BK117.out 6).trans rfl, (blk_cell BK117.out 7).trans rfl, (blk_cell BK117.out 8).trans rfl, (blk_cell BK117.out 9).trans rfl⟩ (fun hHeld => ?_)
                    clear hK K
                    refine norm_ (a' := ?_) ?_ ?_
                    rotate_left
                    · show Act.put _ (some 6) _ = _
                      simp only [Act.put, List.setIfInBounds_toArray, List.set_cons_zero, List.set_cons_succ, i64_w, i32_w]
                      rfl
                    exact norm_ (by simp only [putAll, Act.put, List.setIfInBounds_toArray, List.set_cons_zero, List.set_cons_succ]) (hCont (gb118, gb119) _ ⟨hHeld, (by (with_reducible repeat (first | apply Kd.R_alloc | apply Kd.R_drewN | apply Kd.R_drew)); exact HO_3.out), (by first | (with_reducible exact BK117.out) | (with_reducible exact blk_drewN BK117.out _) | (with_reducible exact blk_drew BK117.out) | (with_reducible exact blk_alloc BK117.out _) | ((with_reducible repeat (first | refine blk_drewN ?_ _ | refine blk_drew ?_ | refine blk_alloc ?_ _)); exact BK117.out)), (by first | (with_reducible exact BK118.out) | (with_reducible exact blk_drewN BK118.out _) | (with_reducible exact blk_drew BK118.out) | (with_reducible exact blk_alloc BK118.out _) | ((with_reducible repeat (first | refine blk_drewN ?_ _ | refine blk_drew ?_ | refine blk_alloc ?_ _)); exact BK118.out)), (by first | (with_reducible exact BK119.out) | (with_reducible exact blk_drewN BK119.out _) | (with_reducible exact blk_drew BK119.out) | (with_reducible exact blk_alloc BK119.out _) | ((with_reducible repeat (first | refine blk_drewN ?_ _ | refine blk_drew ?_ | refine blk_alloc ?_ _)); exact BK119.out)), GW118.out, GE118.out, NB117_118.out, NB118_117.out, NB119_118.out, NB118_119.out, GW119.out, GE119.out, NB117_119.out, NB119_117.out, (by repeat (first | (with_reducible first | exact HB.out | apply below_alloc | apply pw_below_drewN | apply below_drew1 | refine below_set ?_ GE117.out | refine below_set ?_ GE119.out | refine below_set ?_ GE118.out) | exact HB.out))⟩)
                rintro ⟨gb118, gb119⟩ w67 ⟨hS_, h0_, h1_, h2_, h3_, h4_, h5_, h6_, h7_, h8_, h9_, h10_, h11_, h12_, h13_, h14_⟩
                have n0_ : Aside0 (Kd.R (Kd.int .u8) 5 w67 w.heap.size (fun _ => True) u3 x3_1) := ⟨h0_⟩
                have n1_ : Aside0 (w67.heap[gb117]? = some (.cells #[.string ((rd_T101 l0 x14_1).f0.f0), .string ((rd_T101 l0 x14_1).f0.f1), .int .i64 ((rd_T101 l0 x14_1).f0.f2), .string ((rd_T101 l0 x14_1).f0.f3), .int .i64 ((rd_T101 l0 x14_1).f1.f0), .bool false, .int .i64 ((rd_T101 l0 x14_1).f1.f2), .int .i64 ((rd_T101 l0 x14_1).f1.f3.f0), .int .i64 ((rd_T101 l0 x14_1).f1.f3.f1), .string ((rd_T101 l0 x14_1).f1.f3.f2)] 101 (0, 0))) := ⟨h1_⟩
                have n2_ : Aside0 (w67.heap[gb118]? = some (.cells #[.string (⟨#[]⟩ : ByteArray), .string (⟨#[]⟩ : ByteArray), .int .i64 0, .string (⟨#[]⟩ : ByteArray)] 95 (0, 0))) := ⟨h2_⟩
                have n3_ : Aside0 (w67.heap[gb119]? = some (.cells #[.int .i64 0, .bool false, .int .i64 0, .int .i64 0, .int .i64 0, .string (⟨#[]⟩ : ByteArray)] 99 (0, 0))) := ⟨h3_⟩
                have n4_ : Aside0 (w.heap.size ≤ gb118) := ⟨h4_⟩
                have n5_ : Aside0 (w.heap.size ≤ gb118) := ⟨h5_⟩
                have n6_ : Aside0 (gb117 ≠ gb118) := ⟨h6_⟩
                have n7_ : Aside0 (gb118 ≠ gb117) := ⟨h7_⟩
                have n8_ : Aside0 (gb119 ≠ gb118) := ⟨h8_⟩
                have n9_ : Aside0 (gb118 ≠ gb119) := ⟨h9_⟩
                have n10_ : Aside0 (w.heap.size ≤ gb119) := ⟨h10_⟩
                have n11_ : Aside0 (w.heap.size ≤ gb119) := ⟨h11_⟩
                have n12_ : Aside0 (gb117 ≠ gb119) := ⟨h12_⟩
                have n13_ : Aside0 (gb119 ≠ gb117) := ⟨h13_⟩
                have n14_ : Aside0 (Below w.heap.size w w67) := ⟨h14_⟩
                clear HO_3
                clear BK117
                clear HB
                clear h0_ h1_ h2_ h3_ h4_ h5_ h6_ h7_ h8_ h9_ h10_ h11_ h12_ h13_ h14_
                have HO_3 := n0_
                have BK117 := n1_
                have BK118 := n2_
                have BK119 := n3_
                have GW118 := n4_
                have GE118 := n5_
                have NB117_118 := n6_
                have NB118_117 := n7_
                have NB119_118 := n8_
                have NB118_119 := n9_
                have GW119 := n10_
                have GE119 := n11_
                have NB117_119 := n12_
                have NB119_117 := n13_
                have HB := n14_
                clear n0_ n1_ n2_ n3_ n4_ n5_ n6_ n7_ n8_ n9_ n10_ n11_ n12_ n13_ n14_
                have hHeld : w67.cell? ⟨gb117, 0, none⟩ = some (.string ((rd_T101 l0 x14_1).f0.f0)) ∧ w67.cell? ⟨gb117, 1, none⟩ = some (.string ((rd_T101 l0 x14_1).f0.f1)) ∧ w67.cell? ⟨gb117, 2, none⟩ = some (.int .i64 ((rd_T101 l0 x14_1).f0.f2)) ∧ w67.cell? ⟨gb117, 3, none⟩ = some (.string ((rd_T101 l0 x14_1).f0.f3)) ∧ w67.cell? ⟨gb117, 4, none⟩ = some (.int .i64 ((rd_T101 l0 x14_1).f1.f0)) ∧ w67.cell? ⟨gb117, 5, none⟩ = some (.bool false) ∧ w67.cell? ⟨gb117, 6, none⟩ = some (.int .i64 ((rd_T101 l0 x14_1).f1.f2)) ∧ w67.cell? ⟨gb117, 7, none⟩ = some (.int .i64 ((rd_T101 l0 x14_1).f1.f3.f0)) ∧ w67.cell? ⟨gb117, 8, none⟩ = some (.int .i64 ((rd_T101 l0 x14_1).f1.f3.f1)) ∧ w67.cell? ⟨gb117, 9, none⟩ = some (.string ((rd_T101 l0 x14_1).f1.f3.f2)) := hS_
                refine norm_ (a' := ?_) ?_ ?_
                rotate_left
                · simp only [putAll, Act.put, List.setIfInBounds_toArray, List.set_cons_zero, List.set_cons_succ]
                  rfl
                refine one_ (i := 6) (N := none) #[true, true, true, true, true, true, true, false] rfl rfl (one_of HT_.out (by kernel_rfl)) (by decide) (fun K hK => ?_)
                have hs68 : w67.cell? ⟨gb118, 0, none⟩ = some (.string (⟨#[]⟩ : ByteArray)) := (blk_cell BK118.out 0).trans rfl
                have hfs68 := blk_frozen BK118.out 0
                have hns68_0 := NB117_118.out
                have hns68_2 := NB119_118.out
                have hms68_0 := NB118_117.out
                have hms68_2 := NB118_119.out
                have hs69 : w67.cell? ⟨gb118, 1, none⟩ = some (.string (⟨#[]⟩ : ByteArray)) := (blk_cell BK118.out 1).trans rfl
                have hfs69 := blk_frozen BK118.out 1
                have hns69_0 := NB117_118.out
                have hns69_2 := NB119_118.out
                have hms69_0 := NB118_117.out
                have hms69_2 := NB118_119.out
                have hs70 : w67.cell? ⟨gb118, 2, none⟩ = some (.int .i64 0) := (blk_cell BK118.out 2).trans rfl
                have hfs70 := blk_frozen BK118.out 2
                have hns70_0 := NB117_118.out
                have hns70_2 := NB119_118.out
                have hms70_0 := NB118_117.out
                have hms70_2 := NB118_119.out
                have hs71 : w67.cell? ⟨gb118, 3, none⟩ = some (.string (⟨#[]⟩ : ByteArray)) := (blk_cell BK118.out 3).trans rfl
                have hfs71 := blk_frozen BK118.out 3
                have hns71_0 := NB117_118.out
                have hns71_2 := NB119_118.out
                have hms71_0 := NB118_117.out
                have hms71_2 := NB118_119.out
                refine skip_ (w1 := ?_) (by rfl) rfl ?_ ?_
                rotate_left
                · go_simp
                  rfl
                refine hK.out _ _ ⟨((cell_far (p := ⟨gb118, _, none⟩) NB117_118.out _).trans (((cell_far (p := ⟨gb118, _, none⟩) NB117_118.out _).trans (((cell_far (p := ⟨gb118, _, none⟩) NB117_118.out _).trans (((cell_far (p := ⟨gb118, _, none⟩) NB117_118.out _).trans (hHeld.1)))))))), ((cell_far (p := ⟨gb118, _, none⟩) NB117_118.out _).trans (((cell_far (p := ⟨gb118, _, none⟩) NB117_118.out _).trans (((cell_far (p := ⟨gb118, _, none⟩) NB117_118.out _).trans (((cell_far (p := ⟨gb118, _, none⟩) NB117_118.out _).trans (hHeld.2.1)))))))), ((cell_far (p := ⟨gb118, _, none⟩) NB117_118.out _).trans (((cell_far (p := ⟨gb118, _, none⟩) NB117_118.out _).trans (((cell_far (p := ⟨gb118, _, none⟩) NB117_118.out _).trans (((cell_far (p := ⟨gb118, _, none⟩) NB117_118.out _).trans (hHeld.2.2.1)))))))), ((cell_far (p := ⟨gb118, _, none⟩) NB117_118.out _).trans (((cell_far (p := ⟨gb118, _, none⟩) NB117_118.out _).trans (((cell_far (p := ⟨gb118, _, none⟩) NB117_118.out _).trans (((cell_far (p := ⟨gb118, _, none⟩) NB117_118.out _).trans (hHeld.2.2.2.1)))))))), ((cell_far (p := ⟨gb118, _, none⟩) NB117_118.out _).trans (((cell_far (p := ⟨gb118, _, none⟩) NB117_118.out _).trans (((cell_far (p := ⟨gb118, _, none⟩) NB117_118.out _).trans (((cell_far (p := ⟨gb118, _, none⟩) NB117_118.out _).trans (hHeld.2.2.2.2.1)))))))), ((cell_far (p := ⟨gb118, _, none⟩) NB117_118.out _).trans (((cell_far (p := ⟨gb118, _, none⟩) NB117_118.out _).trans (((cell_far (p := ⟨gb118, _, none⟩) NB117_118.out _).trans (((cell_far (p := ⟨gb118, _, none⟩) NB117_118.out _).trans (hHeld.2.2.2.2.2.1)))))))), ((cell_far (p := ⟨gb118, _, none⟩) NB117_118.out _).trans (((cell_far (p := ⟨gb118, _, none⟩) NB117_118.out _).trans (((cell_far (p := ⟨gb118, _, none⟩) NB117_118.out _).trans (((cell_far (p := ⟨gb118, _, none⟩) NB117_118.out _).trans (hHeld.2.2.2.2.2.2.1)))))))), ((cell_far (p := ⟨gb118, _, none⟩) NB117_118.out _).trans (((cell_far (p := ⟨gb118, _, none⟩) NB117_118.out _).trans (((cell_far (p := ⟨gb118, _, none⟩) NB117_118.out _).trans (((cell_far (p := ⟨gb118, _, none⟩) NB117_118.out _).trans (hHeld.2.2.2.2.2.2.2.1)))))))), ((cell_far (p := ⟨gb118, _, none⟩) NB117_118.out _).trans (((cell_far (p := ⟨gb118, _, none⟩) NB117_118.out _).trans (((cell_far (p := ⟨gb118, _, none⟩) NB117_118.out _).trans (((cell_far (p := ⟨gb118, _, none⟩) NB117_118.out _).trans (hHeld.2.2.2.2.2.2.2.2.1)))))))), ((cell_far (p := ⟨gb118, _, none⟩) NB117_118.out _).trans (((cell_far (p := ⟨gb118, _, none⟩) NB117_118.out _).trans (((cell_far (p := ⟨gb118, _, none⟩) NB117_118.out _).trans (((cell_far (p := ⟨gb118, _, none⟩) NB117_118.out _).trans (hHeld.2.2.2.2.2.2.2.2.2))))))))⟩ (fun hHeld => ?_)
                clear hK K
                refine one_ (i := 7) (N := none) #[true, true, true, true, true, true, true, true] rfl rfl (one_of HT_.out (by kernel_rfl)) (by decide) (fun K hK => ?_)
                have hs72 : w67.cell? ⟨gb119, 0, none⟩ = some (.int .i64 0) := (blk_cell BK119.out 0).trans rfl
                have hfs72 := blk_frozen BK119.out 0
                have hns72_0 := NB117_119.out
                have hns72_1 := NB118_119.out
                have hms72_0 := NB119_117.out
                have hms72_1 := NB119_118.out
                have hs73 : w67.cell? ⟨gb119, 1, none⟩ = some (.bool false) := (blk_cell BK119.out 1).trans rfl
                have hfs73 := blk_frozen BK119.out 1
                have hns73_0 := NB117_119.out
                have hns73_1 := NB118_119.out
                have hms73_0 := NB119_117.out
                have hms73_1 := NB119_118.out
                have hs74 : w67.cell? ⟨gb119, 2, none⟩ = some (.int .i64 0) := (blk_cell BK119.out 2).trans rfl
                have hfs74 := blk_frozen BK119.out 2
                have hns74_0 := NB117_119.out
                have hns74_1 := NB118_119.out
                have hms74_0 := NB119_117.out
                have hms74_1 := NB119_118.out
                have hs75 : w67.cell? ⟨gb119, 3, none⟩ = some (.int .i64 0) := (blk_cell BK119.out 3).trans rfl
                have hfs75 := blk_frozen BK119.out 3
                have hns75_0 := NB117_119.out
                have hns75_1 := NB118_119.out
                have hms75_0 := NB119_117.out
                have hms75_1 := NB119_118.out
                have hs76 : w67.cell? ⟨gb119, 4, none⟩ = some (.int .i64 0) := (blk_cell BK119.out 4).trans rfl
                have hfs76 := blk_frozen BK119.out 4
                have hns76_0 := NB117_119.out
                have hns76_1 := NB118_119.out
                have hms76_0 := NB119_117.out
                have hms76_1 := NB119_118.out
                have hs77 : w67.cell? ⟨gb119, 5, none⟩ = some (.string (⟨#[]⟩ : ByteArray)) := (blk_cell BK119.out 5).trans rfl
                have hfs77 := blk_frozen BK119.out 5
                have hns77_0 := NB117_119.out
                have hns77_1 := NB118_119.out
                have hms77_0 := NB119_117.out
                have hms77_1 := NB119_118.out
                refine skip_ (w1 := ?_) (by rfl) rfl ?_ ?_
                rotate_left
                · go_simp
                  rfl
                refine hK.out _ _ ⟨((cell_far (p := ⟨gb119, _, none⟩) NB117_119.out _).trans (((cell_far (p := ⟨gb119, _, none⟩) NB117_119.out _).trans (((cell_far (p := ⟨gb119, _, none⟩) NB117_119.out _).trans (((cell_far (p := ⟨gb119, _, none⟩) NB117_119.out _).trans (((cell_far (p := ⟨gb119, _, none⟩) NB117_119.out _).trans (((cell_far (p := ⟨gb119, _, none⟩) NB117_119.out _).trans (hHeld.1)))))))))))), ((cell_far (p := ⟨gb119, _, none⟩) NB117_119.out _).trans (((cell_far (p := ⟨gb119, _, none⟩) NB117_119.out _).trans (((cell_far (p := ⟨gb119, _, none⟩) NB117_119.out _).trans (((cell_far (p := ⟨gb119, _, none⟩) NB117_119.out _).trans (((cell_far (p := ⟨gb119, _, none⟩) NB117_119.out _).trans (((cell_far (p := ⟨gb119, _, none⟩) NB117_119.out _).trans (hHeld.2.1)))))))))))), ((cell_far (p := ⟨gb119, _, none⟩) NB117_119.out _).trans (((cell_far (p := ⟨gb119, _, none⟩) NB117_119.out _).trans (((cell_far (p := ⟨gb119, _, none⟩) NB117_119.out _).trans (((cell_far (p := ⟨gb119, _, none⟩) NB117_119.out _).trans (((cell_far (p := ⟨gb119, _, none⟩) NB117_119.out _).trans (((cell_far (p := ⟨gb119, _, none⟩) NB117_119.out _).trans (hHeld.2.2.1)))))))))))), ((cell_far (p := ⟨gb119, _, none⟩) NB117_119.out _).trans (((cell_far (p := ⟨gb119, _, none⟩) NB117_119.out _).trans (((cell_far (p := ⟨gb119, _, none⟩) NB117_119.out _).trans (((cell_far (p := ⟨gb119, _, none⟩) NB117_119.out _).trans (((cell_far (p := ⟨gb119, _, none⟩) NB117_119.out _).trans (((cell_far (p := ⟨gb119, _, none⟩) NB117_119.out _).trans (hHeld.2.2.2.1)))))))))))), ((cell_far (p := ⟨gb119, _, none⟩) NB117_119.out _).trans (((cell_far (p := ⟨gb119, _, none⟩) NB117_119.out _).trans (((cell_far (p := ⟨gb119, _, none⟩) NB117_119.out _).trans (((cell_far (p := ⟨gb119, _, none⟩) NB117_119.out _).trans (((cell_far (p := ⟨gb119, _, none⟩) NB117_119.out _).trans (((cell_far (p := ⟨gb119, _, none⟩) NB117_119.out _).trans (hHeld.2.2.2.2.1)))))))))))), ((cell_far (p := ⟨gb119, _, none⟩) NB117_119.out _).trans (((cell_far (p := ⟨gb119, _, none⟩) NB117_119.out _).trans (((cell_far (p := ⟨gb119, _, none⟩) NB117_119.out _).trans (((cell_far (p := ⟨gb119, _, none⟩) NB117_119.out _).trans (((cell_far (p := ⟨gb119, _, none⟩) NB117_119.out _).trans (((cell_far (p := ⟨gb119, _, none⟩) NB117_119.out _).trans (hHeld.2.2.2.2.2.1)))))))))))), ((cell_far (p := ⟨gb119, _, none⟩) NB117_119.out _).trans (((cell_far (p := ⟨gb119, _, none⟩) NB117_119.out _).trans (((cell_far (p := ⟨gb119, _, none⟩) NB117_119.out _).trans (((cell_far (p := ⟨gb119, _, none⟩) NB117_119.out _).trans (((cell_far (p := ⟨gb119, _, none⟩) NB117_119.out _).trans (((cell_far (p := ⟨gb119, _, none⟩) NB117_119.out _).trans (hHeld.2.2.2.2.2.2.1)))))))))))), ((cell_far (p := ⟨gb119, _, none⟩) NB117_119.out _).trans (((cell_far (p := ⟨gb119, _, none⟩) NB117_119.out _).trans (((cell_far (p := ⟨gb119, _, none⟩) NB117_119.out _).trans (((cell_far (p := ⟨gb119, _, none⟩) NB117_119.out _).trans (((cell_far (p := ⟨gb119, _, none⟩) NB117_119.out _).trans (((cell_far (p := ⟨gb119, _, none⟩) NB117_119.out _).trans (hHeld.2.2.2.2.2.2.2.1)))))))))))), ((cell_far (p := ⟨gb119, _, none⟩) NB117_119.out _).trans (((cell_far (p := ⟨gb119, _, none⟩) NB117_119.out _).trans (((cell_far (p := ⟨gb119, _, none⟩) NB117_119.out _).trans (((cell_far (p := ⟨gb119, _, none⟩) NB117_119.out _).trans (((cell_far (p := ⟨gb119, _, none⟩) NB117_119.out _).trans (((cell_far (p := ⟨gb119, _, none⟩) NB117_119.out _).trans (hHeld.2.2.2.2.2.2.2.2.1)))))))))))), ((cell_far (p := ⟨gb119, _, none⟩) NB117_119.out _).trans (((cell_far (p := ⟨gb119, _, none⟩) NB117_119.out _).trans (((cell_far (p := ⟨gb119, _, none⟩) NB117_119.out _).trans (((cell_far (p := ⟨gb119, _, none⟩) NB117_119.out _).trans (((cell_far (p := ⟨gb119, _, none⟩) NB117_119.out _).trans (((cell_far (p := ⟨gb119, _, none⟩) NB117_119.out _).trans (hHeld.2.2.2.2.2.2.2.2.2))))))))))))⟩ (fun hHeld => ?_)
                clear hK K
                refine done_ (done_of HT_.out (by kernel_rfl)) ?_
                try go_wp2
                have n0_ : Aside0 (Kd.R (Kd.int .u8) 5 ((((((((((w67.setCell ⟨gb118, 0, none⟩ (.string ((rd_T101 l0 x14_1).f0.f0))).setCell ⟨gb118, 1, none⟩ (.string ((rd_T101 l0 x14_1).f0.f1))).setCell ⟨gb118, 2, none⟩ (.int .i64 ((rd_T101 l0 x14_1).f0.f2))).setCell ⟨gb118, 3, none⟩ (.string ((rd_T101 l0 x14_1).f0.f3))).setCell ⟨gb119, 0, none⟩ (.int .i64 ((rd_T101 l0 x14_1).f1.f0))).setCell ⟨gb119, 1, none⟩ (.bool false)).setCell ⟨gb119, 2, none⟩ (.int .i64 ((rd_T101 l0 x14_1).f1.f2))).setCell ⟨gb119, 3, none⟩ (.int .i64 ((rd_T101 l0 x14_1).f1.f3.f0))).setCell ⟨gb119, 4, none⟩ (.int .i64 ((rd_T101 l0 x14_1).f1.f3.f1))).setCell ⟨gb119, 5, none⟩ (.string ((rd_T101 l0 x14_1).f1.f3.f2))) w.heap.size (fun _ => True) u3 x3_1) := ⟨by (with_reducible repeat (first | apply Kd.R_alloc | apply Kd.R_drewN | apply Kd.R_drew)); exact Kd.R_mono (Kd.R_far (p := ⟨gb119, 5, none⟩) (Kd.R_far (p := ⟨gb119, 4, none⟩) (Kd.R_far (p := ⟨gb119, 3, none⟩) (Kd.R_far (p := ⟨gb119, 2, none⟩) (Kd.R_far (p := ⟨gb119, 1, none⟩) (Kd.R_far (p := ⟨gb119, 0, none⟩) (Kd.R_far (p := ⟨gb118, 3, none⟩) (Kd.R_far (p := ⟨gb118, 2, none⟩) (Kd.R_far (p := ⟨gb118, 1, none⟩) (Kd.R_far (p := ⟨gb118, 0, none⟩) (Kd.R_types (Kd.R_types HO_3.out BK118.out (by decide)) BK119.out (by decide)) (fun _ hk => hk.1.2) (.string ((rd_T101 l0 x14_1).f0.f0))) (fun _ hk => hk.1.2) (.string ((rd_T101 l0 x14_1).f0.f1))) (fun _ hk => hk.1.2) (.int .i64 ((rd_T101 l0 x14_1).f0.f2))) (fun _ hk => hk.1.2) (.string ((rd_T101 l0 x14_1).f0.f3))) (fun _ hk => hk.2) (.int .i64 ((rd_T101 l0 x14_1).f1.f0))) (fun _ hk => hk.2) (.bool false)) (fun _ hk => hk.2) (.int .i64 ((rd_T101 l0 x14_1).f1.f2))) (fun _ hk => hk.2) (.int .i64 ((rd_T101 l0 x14_1).f1.f3.f0))) (fun _ hk => hk.2) (.int .i64 ((rd_T101 l0 x14_1).f1.f3.f1))) (fun _ hk => hk.2) (.string ((rd_T101 l0 x14_1).f1.f3.f2))) (fun _ hk => trivial)⟩
                have n1_ : Aside0 (((((((((((w67.setCell ⟨gb118, 0, none⟩ (.string ((rd_T101 l0 x14_1).f0.f0))).setCell ⟨gb118, 1, none⟩ (.string ((rd_T101 l0 x14_1).f0.f1))).setCell ⟨gb118, 2, none⟩ (.int .i64 ((rd_T101 l0 x14_1).f0.f2))).setCell ⟨gb118, 3, none⟩ (.string ((rd_T101 l0 x14_1).f0.f3))).setCell ⟨gb119, 0, none⟩ (.int .i64 ((rd_T101 l0 x14_1).f1.f0))).setCell ⟨gb119, 1, none⟩ (.bool false)).setCell ⟨gb119, 2, none⟩ (.int .i64 ((rd_T101 l0 x14_1).f1.f2))).setCell ⟨gb119, 3, none⟩ (.int .i64 ((rd_T101 l0 x14_1).f1.f3.f0))).setCell ⟨gb119, 4, none⟩ (.int .i64 ((rd_T101 l0 x14_1).f1.f3.f1))).setCell ⟨gb119, 5, none⟩ (.string ((rd_T101 l0 x14_1).f1.f3.f2))).heap[gb117]? = some (.cells #[.string ((rd_T101 l0 x14_1).f0.f0), .string ((rd_T101 l0 x14_1).f0.f1), .int .i64 ((rd_T101 l0 x14_1).f0.f2), .string ((rd_T101 l0 x14_1).f0.f3), .int .i64 ((rd_T101 l0 x14_1).f1.f0), .bool false, .int .i64 ((rd_T101 l0 x14_1).f1.f2), .int .i64 ((rd_T101 l0 x14_1).f1.f3.f0), .int .i64 ((rd_T101 l0 x14_1).f1.f3.f1), .string ((rd_T101 l0 x14_1).f1.f3.f2)] 101 (0, 0))) := ⟨by (with_reducible repeat (first | refine blk_drewN ?_ _ | refine blk_drew ?_ | refine blk_alloc ?_ _)); refine blk_far ?_ NB117_119.out _; (with_reducible repeat (first | refine blk_drewN ?_ _ | refine blk_drew ?_ | refine blk_alloc ?_ _)); refine blk_far ?_ NB117_119.out _; (with_reducible repeat (first | refine blk_drewN ?_ _ | refine blk_drew ?_ | refine blk_alloc ?_ _)); refine blk_far ?_ NB117_119.out _; (with_reducible repeat (first | refine blk_drewN ?_ _ | refine blk_drew ?_ | refine blk_alloc ?_ _)); refine blk_far ?_ NB117_119.out _; (with_reducible repeat (first | refine blk_drewN ?_ _ | refine blk_drew ?_ | refine blk_alloc ?_ _)); refine blk_far ?_ NB117_119.out _; (with_reducible repeat (first | refine blk_drewN ?_ _ | refine blk_drew ?_ | refine blk_alloc ?_ _)); refine blk_far ?_ NB117_119.out _; (with_reducible repeat (first | refine blk_drewN ?_ _ | refine blk_drew ?_ | refine blk_alloc ?_ _)); refine blk_far ?_ NB117_118.out _; (with_reducible repeat (first | refine blk_drewN ?_ _ | refine blk_drew ?_ | refine blk_alloc ?_ _)); refine blk_far ?_ NB117_118.out _; (with_reducible repeat (first | refine blk_drewN ?_ _ | refine blk_drew ?_ | refine blk_alloc ?_ _)); refine blk_far ?_ NB117_118.out _; (with_reducible repeat (first | refine blk_drewN ?_ _ | refine blk_drew ?_ | refine blk_alloc ?_ _)); refine blk_far ?_ NB117_118.out _; (with_reducible repeat (first | refine blk_drewN ?_ _ | refine blk_drew ?_ | refine blk_alloc ?_ _)); exact BK117.out⟩
                have n2_ : Aside0 (((((((((((w67.setCell ⟨gb118, 0, none⟩ (.string ((rd_T101 l0 x14_1).f0.f0))).setCell ⟨gb118, 1, none⟩ (.string ((rd_T101 l0 x14_1).f0.f1))).setCell ⟨gb118, 2, none⟩ (.int .i64 ((rd_T101 l0 x14_1).f0.f2))).setCell ⟨gb118, 3, none⟩ (.string ((rd_T101 l0 x14_1).f0.f3))).setCell ⟨gb119, 0, none⟩ (.int .i64 ((rd_T101 l0 x14_1).f1.f0))).setCell ⟨gb119, 1, none⟩ (.bool false)).setCell ⟨gb119, 2, none⟩ (.int .i64 ((rd_T101 l0 x14_1).f1.f2))).setCell ⟨gb119, 3, none⟩ (.int .i64 ((rd_T101 l0 x14_1).f1.f3.f0))).setCell ⟨gb119, 4, none⟩ (.int .i64 ((rd_T101 l0 x14_1).f1.f3.f1))).setCell ⟨gb119, 5, none⟩ (.string ((rd_T101 l0 x14_1).f1.f3.f2))).heap[gb118]? = some (.cells #[.string ((rd_T101 l0 x14_1).f0.f0), .string ((rd_T101 l0 x14_1).f0.f1), .int .i64 ((rd_T101 l0 x14_1).f0.f2), .string ((rd_T101 l0 x14_1).f0.f3)] 95 (0, 0))) := ⟨by (with_reducible repeat (first | refine blk_drewN ?_ _ | refine blk_drew ?_ | refine blk_alloc ?_ _)); refine blk_far ?_ NB118_119.out _; (with_reducible repeat (first | refine blk_drewN ?_ _ | refine blk_drew ?_ | refine blk_alloc ?_ _)); refine blk_far ?_ NB118_119.out _; (with_reducible repeat (first | refine blk_drewN ?_ _ | refine blk_drew ?_ | refine blk_alloc ?_ _)); refine blk_far ?_ NB118_119.out _; (with_reducible repeat (first | refine blk_drewN ?_ _ | refine blk_drew ?_ | refine blk_alloc ?_ _)); refine blk_far ?_ NB118_119.out _; (with_reducible repeat (first | refine blk_drewN ?_ _ | refine blk_drew ?_ | refine blk_alloc ?_ _)); refine blk_far ?_ NB118_119.out _; (with_reducible repeat (first | refine blk_drewN ?_ _ | refine blk_drew ?_ | refine blk_alloc ?_ _)); refine blk_far ?_ NB118_119.out _; (with_reducible repeat (first | refine blk_drewN ?_ _ | refine blk_drew ?_ | refine blk_alloc ?_ _)); refine blk_put (cs := #[.string ((rd_T101 l0 x14_1).f0.f0), .string ((rd_T101 l0 x14_1).f0.f1), .int .i64 ((rd_T101 l0 x14_1).f0.f2), .string (⟨#[]⟩ : ByteArray)]) ?_ 3 _ rfl; (with_reducible repeat (first | refine blk_drewN ?_ _ | refine blk_drew ?_ | refine blk_alloc ?_ _)); refine blk_put (cs := #[.string ((rd_T101 l0 x14_1).f0.f0), .string ((rd_T101 l0 x14_1).f0.f1), .int .i64 0, .string (⟨#[]⟩ : ByteArray)]) ?_ 2 _ rfl; (with_reducible repeat (first | refine blk_drewN ?_ _ | refine blk_drew ?_ | refine blk_alloc ?_ _)); refine blk_put (cs := #[.string ((rd_T101 l0 x14_1).f0.f0), .string (⟨#[]⟩ : ByteArray), .int .i64 0, .string (⟨#[]⟩ : ByteArray)]) ?_ 1 _ rfl; (with_reducible repeat (first | refine blk_drewN ?_ _ | refine blk_drew ?_ | refine blk_alloc ?_ _)); refine blk_put (cs := #[.string (⟨#[]⟩ : ByteArray), .string (⟨#[]⟩ : ByteArray), .int .i64 0, .string (⟨#[]⟩ : ByteArray)]) ?_ 0 _ rfl; (with_reducible repeat (first | refine blk_drewN ?_ _ | refine blk_drew ?_ | refine blk_alloc ?_ _)); exact BK118.out⟩
                have n3_ : Aside0 (((((((((((w67.setCell ⟨gb118, 0, none⟩ (.string ((rd_T101 l0 x14_1).f0.f0))).setCell ⟨gb118, 1, none⟩ (.string ((rd_T101 l0 x14_1).f0.f1))).setCell ⟨gb118, 2, none⟩ (.int .i64 ((rd_T101 l0 x14_1).f0.f2))).setCell ⟨gb118, 3, none⟩ (.string ((rd_T101 l0 x14_1).f0.f3))).setCell ⟨gb119, 0, none⟩ (.int .i64 ((rd_T101 l0 x14_1).f1.f0))).setCell ⟨gb119, 1, none⟩ (.bool false)).setCell ⟨gb119, 2, none⟩ (.int .i64 ((rd_T101 l0 x14_1).f1.f2))).setCell ⟨gb119, 3, none⟩ (.int .i64 ((rd_T101 l0 x14_1).f1.f3.f0))).setCell ⟨gb119, 4, none⟩ (.int .i64 ((rd_T101 l0 x14_1).f1.f3.f1))).setCell ⟨gb119, 5, none⟩ (.string ((rd_T101 l0 x14_1).f1.f3.f2))).heap[gb119]? = some (.cells #[.int .i64 ((rd_T101 l0 x14_1).f1.f0), .bool false, .int .i64 ((rd_T101 l0 x14_1).f1.f2), .int .i64 ((rd_T101 l0 x14_1).f1.f3.f0), .int .i64 ((rd_T101 l0 x14_1).f1.f3.f1), .string ((rd_T101 l0 x14_1).f1.f3.f2)] 99 (0, 0))) := ⟨by (with_reducible repeat (first | refine blk_drewN ?_ _ | refine blk_drew ?_ | refine blk_alloc ?_ _)); refine blk_put (cs := #[.int .i64 ((rd_T101 l0 x14_1).f1.f0), .bool false, .int .i64 ((rd_T101 l0 x14_1).f1.f2), .int .i64 ((rd_T101 l0 x14_1).f1.f3.f0), .int .i64 ((rd_T101 l0 x14_1).f1.f3.f1), .string (⟨#[]⟩ : ByteArray)]) ?_ 5 _ rfl; (with_reducible repeat (first | refine blk_drewN ?_ _ | refine blk_drew ?_ | refine blk_alloc ?_ _)); refine blk_put (cs := #[.int .i64 ((rd_T101 l0 x14_1).f1.f0), .bool false, .int .i64 ((rd_T101 l0 x14_1).f1.f2), .int .i64 ((rd_T101 l0 x14_1).f1.f3.f0), .int .i64 0, .string (⟨#[]⟩ : ByteArray)]) ?_ 4 _ rfl; (with_reducible repeat (first | refine blk_drewN ?_ _ | refine blk_drew ?_ | refine blk_alloc ?_ _)); refine blk_put (cs := #[.int .i64 ((rd_T101 l0 x14_1).f1.f0), .bool false, .int .i64 ((rd_T101 l0 x14_1).f1.f2), .int .i64 0, .int .i64 0, .string (⟨#[]⟩ : ByteArray)]) ?_ 3 _ rfl; (with_reducible repeat (first | refine blk_drewN ?_ _ | refine blk_drew ?_ | refine blk_alloc ?_ _)); refine blk_put (cs := #[.int .i64 ((rd_T101 l0 x14_1).f1.f0), .bool false, .int .i64 0, .int .i64 0, .int .i64 0, .string (⟨#[]⟩ : ByteArray)]) ?_ 2 _ rfl; (with_reducible repeat (first | refine blk_drewN ?_ _ | refine blk_drew ?_ | refine blk_alloc ?_ _)); refine blk_put (cs := #[.int .i64 ((rd_T101 l0 x14_1).f1.f0), .bool false, .int .i64 0, .int .i64 0, .int .i64 0, .string (⟨#[]⟩ : ByteArray)]) ?_ 1 _ rfl; (with_reducible repeat (first | refine blk_drewN ?_ _ | refine blk_drew ?_ | refine blk_alloc ?_ _)); refine blk_put (cs := #[.int .i64 0, .bool false, .int .i64 0, .int .i64 0, .int .i64 0, .string (⟨#[]⟩ : ByteArray)]) ?_ 0 _ rfl; (with_reducible repeat (first | refine blk_drewN ?_ _ | refine blk_drew ?_ | refine blk_alloc ?_ _)); refine blk_far ?_ NB119_118.out _; (with_reducible repeat (first | refine blk_drewN ?_ _ | refine blk_drew ?_ | refine blk_alloc ?_ _)); refine blk_far ?_ NB119_118.out _; (with_reducible repeat (first | refine blk_drewN ?_ _ | refine blk_drew ?_ | refine blk_alloc ?_ _)); refine blk_far ?_ NB119_118.out _; (with_reducible repeat (first | refine blk_drewN ?_ _ | refine blk_drew ?_ | refine blk_alloc ?_ _)); refine blk_far ?_ NB119_118.out _; (with_reducible repeat (first | refine blk_drewN ?_ _ | refine blk_drew ?_ | refine blk_alloc ?_ _)); exact BK119.out⟩
                have n4_ : Aside0 (Below w.heap.size w ((((((((((w67.setCell ⟨gb118, 0, none⟩ (.string ((rd_T101 l0 x14_1).f0.f0))).setCell ⟨gb118, 1, none⟩ (.string ((rd_T101 l0 x14_1).f0.f1))).setCell ⟨gb118, 2, none⟩ (.int .i64 ((rd_T101 l0 x14_1).f0.f2))).setCell ⟨gb118, 3, none⟩ (.string ((rd_T101 l0 x14_1).f0.f3))).setCell ⟨gb119, 0, none⟩ (.int .i64 ((rd_T101 l0 x14_1).f1.f0))).setCell ⟨gb119, 1, none⟩ (.bool false)).setCell ⟨gb119, 2, none⟩ (.int .i64 ((rd_T101 l0 x14_1).f1.f2))).setCell ⟨gb119, 3, none⟩ (.int .i64 ((rd_T101 l0 x14_1).f1.f3.f0))).setCell ⟨gb119, 4, none⟩ (.int .i64 ((rd_T101 l0 x14_1).f1.f3.f1))).setCell ⟨gb119, 5, none⟩ (.string ((rd_T101 l0 x14_1).f1.f3.f2)))) := ⟨by repeat (first | (with_reducible first | exact HB.out | apply below_alloc | apply pw_below_drewN | apply below_drew1 | refine below_set ?_ GE117.out | refine below_set ?_ GE118.out | refine below_set ?_ GE119.out) | exact HB.out)⟩
                (try clear HO_3)
                (try clear BK117)
                (try clear BK118)
                (try clear BK119)
                (try clear HB)
                generalize ((((((((((w67.setCell ⟨gb118, 0, none⟩ (.string ((rd_T101 l0 x14_1).f0.f0))).setCell ⟨gb118, 1, none⟩ (.string ((rd_T101 l0 x14_1).f0.f1))).setCell ⟨gb118, 2, none⟩ (.int .i64 ((rd_T101 l0 x14_1).f0.f2))).setCell ⟨gb118, 3, none⟩ (.string ((rd_T101 l0 x14_1).f0.f3))).setCell ⟨gb119, 0, none⟩ (.int .i64 ((rd_T101 l0 x14_1).f1.f0))).setCell ⟨gb119, 1, none⟩ (.bool false)).setCell ⟨gb119, 2, none⟩ (.int .i64 ((rd_T101 l0 x14_1).f1.f2))).setCell ⟨gb119, 3, none⟩ (.int .i64 ((rd_T101 l0 x14_1).f1.f3.f0))).setCell ⟨gb119, 4, none⟩ (.int .i64 ((rd_T101 l0 x14_1).f1.f3.f1))).setCell ⟨gb119, 5, none⟩ (.string ((rd_T101 l0 x14_1).f1.f3.f2))) = w78 at n0_ n1_ n2_ n3_ n4_ ⊢
                have HO_3 := n0_
                have BK117 := n1_
                have BK118 := n2_
                have BK119 := n3_
                have HB := n4_
                clear n0_ n1_ n2_ n3_ n4_
                have n0_ := Aside0.mk (Kd.R_drew HO_3.out)
                have n1_ := Aside0.mk (blk_drew BK117.out)
                have n2_ := Aside0.mk (blk_drew BK118.out)
                have n3_ := Aside0.mk (blk_drew BK119.out)
                have n4_ := Aside0.mk (below_drew1 HB.out)
                clear HO_3
                clear BK117
                clear BK118
                clear BK119
                clear HB
                have HO_3 := n0_
                have BK117 := n1_
                have BK118 := n2_
                have BK119 := n3_
                have HB := n4_
                clear n0_ n1_ n2_ n3_ n4_
                obtain ⟨Ao80, co80, eo80⟩ := Kd.R_slice HO_3.out
                (first | subst eo80 | (injection eo80 with f1_ f2_ f3_; have f4_ := f1_.symm; have f5_ := f3_.symm; clear f1_ f2_ f3_; subst f4_; subst f5_))
                refine start_ (n := 15) (S := fun w' => w'.cell? ⟨gb118, 0, none⟩ = some (.string ((rd_T101 l0 x14_1).f0.f0)) ∧ w'.cell? ⟨gb118, 1, none⟩ = some (.string ((rd_T101 l0 x14_1).f0.f1)) ∧ w'.cell? ⟨gb118, 2, none⟩ = some (.int .i64 ((rd_T101 l0 x14_1).f0.f2)) ∧ w'.cell? ⟨gb118, 3, none⟩ = some (.string ((rd_T101 l0 x14_1).f0.f3))) (ds := []) #[false, false, false, false, false, false, false, false, false, false, false, false, false, false, false] (by kernel_rfl) rfl rfl ⟨(blk_cell BK118.out 0).trans rfl, (blk_cell BK118.out 1).trans rfl, (blk_cell BK118.out 2).trans rfl, (blk_cell BK118.out 3).trans rfl⟩ (fun hHeld => ?_); refine with_tabW codec_Cells.tab6 codec_Cells.bits6 (fun HT_ HW_ => ?_)
                generalize w78.drew = w79 at HO_3 BK117 BK118 BK119 HB hHeld ⊢
                refine pure_ (i := 0) (N := some 22) (v := ?_) (a' := ?_) #[true, false, false, false, false, false, false, false, false, false, false, false, false, false, false] rfl rfl (any_of HT_.out (by kernel_rfl)) (fun _ _ _ h => h) (Or.inl ⟨by rfl, ?_⟩) ?_ ?_
                rotate_left
                · intro w'
                  go_simp
                  with_reducible rfl
                rotate_left
                · simp only [Act.put, List.setIfInBounds_toArray, List.set_cons_zero, List.set_cons_succ, i64_w, i32_w]
                  rfl
                refine pure_ (i := 1) (N := some 23) (v := ?_) (a' := ?_) #[true, true, false, false, false, false, false, false, false, false, false, false, false, false, false] rfl rfl (any_of HT_.out (by kernel_rfl)) (fun _ _ _ h => h) (Or.inl ⟨by rfl, ?_⟩) ?_ ?_
                rotate_left
                · intro w'
                  go_simp
                  with_reducible rfl
                rotate_left
                · simp only [Act.put, List.setIfInBounds_toArray, List.set_cons_zero, List.set_cons_succ, i64_w, i32_w]
                  rfl
                refine pure_ (i := 4) (N := some 26) (v := ?_) (a' := ?_) #[true, true, false, false, true, false, false, false, false, false, false, false, false, false, false] rfl rfl (any_of HT_.out (by kernel_rfl)) (fun _ _ _ h => h) (Or.inl ⟨by rfl, ?_⟩) ?_ ?_
                rotate_left
                · intro w'
                  go_simp
                  with_reducible rfl
                rotate_left
                · simp only [Act.put, List.setIfInBounds_toArray, List.set_cons_zero, List.set_cons_succ, i64_w, i32_w]
                  rfl
                refine pure_ (i := 7) (N := some 29) (v := ?_) (a' := ?_) #[true, true, false, false, true, false, false, true, false, false, false, false, false, false, false] rfl rfl (any_of HT_.out (by kernel_rfl)) (fun _ _ _ h => h) (Or.inl ⟨by rfl, ?_⟩) ?_ ?_
                rotate_left
                · intro w'
                  go_simp
                  with_reducible rfl
                rotate_left
                · simp only [Act.put, List.setIfInBounds_toArray, List.set_cons_zero, List.set_cons_succ, i64_w, i32_w]
                  rfl
                refine pure_ (i := 11) (N := some 33) (v := ?_) (a' := ?_) #[true, true, false, false, true, false, false, true, false, false, false, true, false, false, false] rfl rfl (any_of HT_.out (by kernel_rfl)) (fun _ _ _ h => h) (Or.inl ⟨by rfl, ?_⟩) ?_ ?_
                rotate_left
                · intro w'
                  go_simp
                  with_reducible rfl
                rotate_left
                · simp only [Act.put, List.setIfInBounds_toArray, List.set_cons_zero, List.set_cons_succ, i64_w, i32_w]
                  rfl
                refine take_ (i := 2) (N := some 24) (v := ?_) (a' := ?_) #[true, true, true, false, true, false, false, true, false, false, false, true, false, false, false] rfl rfl (take_ofW HT_.out HW_.out (by kernel_rfl)) (fun _ _ _ h => h) (Or.inl ⟨by rfl, ?_⟩) hHeld ?_ ?_
                rotate_left
                · rintro w' ⟨s0, s1, s2, s3⟩
                  go_simp
                  with_reducible rfl
                rotate_left
                · simp only [Act.put, List.setIfInBounds_toArray, List.set_cons_zero, List.set_cons_succ, i64_w, i32_w]
                  rfl
                refine take_ (i := 5) (N := some 27) (v := ?_) (a' := ?_) #[true, true, true, false, true, true, false, true, false, false, false, true, false, false, false] rfl rfl (take_ofW HT_.out HW_.out (by kernel_rfl)) (fun _ _ _ h => h) (Or.inl ⟨by rfl, ?_⟩) hHeld ?_ ?_
                rotate_left
                · rintro w' ⟨s0, s1, s2, s3⟩
                  go_simp
                  with_reducible rfl
                rotate_left
                · simp only [Act.put, List.setIfInBounds_toArray, List.set_cons_zero, List.set_cons_succ, i64_w, i32_w]
                  rfl
                refine take_ (i := 8) (N := some 30) (v := ?_) (a' := ?_) #[true, true, true, false, true, true, false, true, true, false, false, true, false, false, false] rfl rfl (take_ofW HT_.out HW_.out (by kernel_rfl)) (fun _ _ _ h => h) (Or.inl ⟨by rfl, ?_⟩) hHeld ?_ ?_
                rotate_left
                · rintro w' ⟨s0, s1, s2, s3⟩
                  go_simp
                  with_reducible rfl
                rotate_left
                · simp only [Act.put, List.setIfInBounds_toArray, List.set_cons_zero, List.set_cons_succ, i64_w, i32_w]
                  rfl
                refine take_ (i := 12) (N := some 34) (v := ?_) (a' := ?_) #[true, true, true, false, true, true, false, true, true, false, false, true, true, false, false] rfl rfl (take_ofW HT_.out HW_.out (by kernel_rfl)) (fun _ _ _ h => h) (Or.inl ⟨by rfl, ?_⟩) hHeld ?_ ?_
                rotate_left
                · rintro w' ⟨s0, s1, s2, s3⟩
                  go_simp
                  with_reducible rfl
                rotate_left
                · simp only [Act.put, List.setIfInBounds_toArray, List.set_cons_zero, List.set_cons_succ, i64_w, i32_w]
                  rfl
                refine one_ (i := 3) (N := some 25) #[true, true, true, true, true, true, false, true, true, false, false, true, true, false, false] rfl rfl (one_of HT_.out (by kernel_rfl)) (by decide) (fun K hK => ?_)
                refine goes_ Try.func74 (by kernel_rfl) rfl #[.slice Ao80 x3_1.length co80, .string ((rd_T101 l0 x14_1).f0.f0)] (by rfl) rfl rfl (by (try simp only [List.map_toArray, List.map_cons, List.map_nil]); first | done | rfl | (simp only [List.length_drop, List.length_take]; rfl)) ?_
                with_reducible refine (codec_text.calls k1 (fun k_ => some k_ = (.slice Ao80 x3_1.length co80 : Value).ownBlock) (.slice Ao80 x3_1.length co80) x3_1 ((rd_T101 l0 x14_1).f0.f0) t120 w _ ?side1 ?side2 A7.out).mono ?_
                (case side1 => repeat (first | (with_reducible first | exact HB.out | apply below_alloc | apply pw_below_drewN | apply below_drew1 | refine below_set ?_ GE117.out | refine below_set ?_ GE118.out | refine below_set ?_ GE119.out) | exact HB.out))
                (case side2 => exact Kd.R_tight rfl HO_3.out)
                rintro e w81 ⟨v121, rfl, ho0, hb, hkp⟩
                refine ⟨_, rfl, ?_⟩
                have n0_ := Aside0.mk (blk_kept (by first | (with_reducible exact BK117.out) | (with_reducible exact blk_drewN BK117.out _) | (with_reducible exact blk_drew BK117.out) | (with_reducible exact blk_alloc BK117.out _) | ((with_reducible repeat (first | refine blk_drewN ?_ _ | refine blk_drew ?_ | refine blk_alloc ?_ _)); exact BK117.out)) hkp (fun hs_ => (fun e_ => (Kd.R_ne HO_3.out BK117.out (by decide)) e_) hs_))
                have n1_ := Aside0.mk (blk_kept (by first | (with_reducible exact BK118.out) | (with_reducible exact blk_drewN BK118.out _) | (with_reducible exact blk_drew BK118.out) | (with_reducible exact blk_alloc BK118.out _) | ((with_reducible repeat (first | refine blk_drewN ?_ _ | refine blk_drew ?_ | refine blk_alloc ?_ _)); exact BK118.out)) hkp (fun hs_ => (fun e_ => (Kd.R_ne HO_3.out BK118.out (by decide)) e_) hs_))
                have n2_ := Aside0.mk (blk_kept (by first | (with_reducible exact BK119.out) | (with_reducible exact blk_drewN BK119.out _) | (with_reducible exact blk_drew BK119.out) | (with_reducible exact blk_alloc BK119.out _) | ((with_reducible repeat (first | refine blk_drewN ?_ _ | refine blk_drew ?_ | refine blk_alloc ?_ _)); exact BK119.out)) hkp (fun hs_ => (fun e_ => (Kd.R_ne HO_3.out BK119.out (by decide)) e_) hs_))
                have n3_ := Aside0.mk (Kd.R_mono (ok' := fun k_ => True) ho0 (fun k_ hk_ => trivial))
                have n4_ := Aside0.mk (hb)
                clear BK117
                clear BK118
                clear BK119
                clear HB
                clear HO_3
                have BK117 := n0_
                have BK118 := n1_
                have BK119 := n2_
                have HO122 := n3_
                have HB := n4_
                clear n0_ n1_ n2_ n3_ n4_
                (try clear hb)
                (try clear hkp)
                (try clear ho0)
                obtain ⟨Ao82, co82, eo82⟩ := Kd.R_slice HO122.out
                (first | subst eo82 | (injection eo82 with f1_ f2_ f3_; have f4_ := f1_.symm; have f5_ := f3_.symm; clear f1_ f2_ f3_; subst f4_; subst f5_))
                refine hK.out _ _ ⟨(blk_cell BK118.out 0).trans rfl, (blk_cell BK118.out 1).trans rfl, (blk_cell BK118.out 2).trans rfl, (blk_cell BK118.out 3).trans rfl⟩ (fun hHeld => ?_)
                clear hK K
                refine norm_ (a' := ?_) ?_ ?_
                rotate_left
                · show Act.put _ (some 25) _ = _
                  simp only [Act.put, List.setIfInBounds_toArray, List.set_cons_zero, List.set_cons_succ, i64_w, i32_w]
                  rfl
                refine one_ (i := 6) (N := some 28) #[true, true, true, true, true, true, true, true, true, false, false, true, true, false, false] rfl rfl (one_of HT_.out (by kernel_rfl)) (by decide) (fun K hK => ?_)
                refine goes_ Try.func74 (by kernel_rfl) rfl #[.slice Ao82 t120.length co82, .string ((rd_T101 l0 x14_1).f0.f1)] (by rfl) rfl rfl (by (try simp only [List.map_toArray, List.map_cons, List.map_nil]); first | done | rfl | (simp only [List.length_drop, List.length_take]; rfl)) ?_
                with_reducible refine (codec_text.calls k1 (fun k_ => some k_ = (.slice Ao82 t120.length co82 : Value).ownBlock) (.slice Ao82 t120.length co82) t120 ((rd_T101 l0 x14_1).f0.f1) t123 w _ ?side1 ?side2 A8.out).mono ?_
                (case side1 => repeat (first | (with_reducible first | exact HB.out | apply below_alloc | apply pw_below_drewN | apply below_drew1 | refine below_set ?_ GE117.out | refine below_set ?_ GE118.out | refine below_set ?_ GE119.out) | exact HB.out))
                (case side2 => exact Kd.R_tight rfl HO122.out)
                rintro e w83 ⟨v124, rfl, ho0, hb, hkp⟩
                refine ⟨_, rfl, ?_⟩
                have n0_ := Aside0.mk (blk_kept (by first | (with_reducible exact BK117.out) | (with_reducible exact blk_drewN BK117.out _) | (with_reducible exact blk_drew BK117.out) | (with_reducible exact blk_alloc BK117.out _) | ((with_reducible repeat (first | refine blk_drewN ?_ _ | refine blk_drew ?_ | refine blk_alloc ?_ _)); exact BK117.out)) hkp (fun hs_ => (fun e_ => (Kd.R_ne HO122.out BK117.out (by decide)) e_) hs_))
                have n1_ := Aside0.mk (blk_kept (by first | (with_reducible exact BK118.out) | (with_reducible exact blk_drewN BK118.out _) | (with_reducible exact blk_drew BK118.out) | (with_reducible exact blk_alloc BK118.out _) | ((with_reducible repeat (first | refine blk_drewN ?_ _ | refine blk_drew ?_ | refine blk_alloc ?_ _)); exact BK118.out)) hkp (fun hs_ => (fun e_ => (Kd.R_ne HO122.out BK118.out (by decide)) e_) hs_))
                have n2_ := Aside0.mk (blk_kept (by first | (with_reducible exact BK119.out) | (with_reducible exact blk_drewN BK119.out _) | (with_reducible exact blk_drew BK119.out) | (with_reducible exact blk_alloc BK119.out _) | ((with_reducible repeat (first | refine blk_drewN ?_ _ | refine blk_drew ?_ | refine blk_alloc ?_ _)); exact BK119.out)) hkp (fun hs_ => (fun e_ => (Kd.R_ne HO122.out BK119.out (by decide)) e_) hs_))
                have n3_ := Aside0.mk (Kd.R_mono (ok' := fun k_ => True) ho0 (fun k_ hk_ => trivial))
                have n4_ := Aside0.mk (hb)
                clear BK117
                clear BK118
                clear BK119
                clear HB
                clear HO122
                have BK117 := n0_
                have BK118 := n1_
                have BK119 := n2_
                have HO125 := n3_
                have HB := n4_
                clear n0_ n1_ n2_ n3_ n4_
                (try clear hb)
                (try clear hkp)
                (try clear ho0)
                refine hK.out _ _ ⟨(blk_cell BK118.out 0).trans rfl, (blk_cell BK118.out 1).trans rfl, (blk_cell BK118.out 2).trans rfl, (blk_cell BK118.out 3).trans rfl⟩ (fun hHeld => ?_)
                clear hK K
                refine norm_ (a' := ?_) ?_ ?_
                rotate_left
                · show Act.put _ (some 28) _ = _
                  simp only [Act.put, List.setIfInBounds_toArray, List.set_cons_zero, List.set_cons_succ, i64_w, i32_w]
                  rfl
                refine one_ (i := 9) (N := some 31) #[true, true, true, true, true, true, true, true, true, true, false, true, true, false, false] rfl rfl (one_of HT_.out (by kernel_rfl)) (by decide) (fun K hK => ?_)
                refine goes_ Try.func21 (by kernel_rfl) rfl #[.int .i64 ((rd_T101 l0 x14_1).f0.f2)] (by rfl) rfl rfl (by (try simp only [List.map_toArray, List.map_cons, List.map_nil]); first | done | rfl | (simp only [List.length_drop, List.length_take]; rfl)) ?_
                with_reducible refine (codec_Zig.calls ((rd_T101 l0 x14_1).f0.f2) t126 _ A9.out).mono ?_
                rintro e w' ⟨rfl, ⟨nd, rfl⟩⟩
                refine ⟨_, rfl, ?_⟩
                obtain ⟨Ao84, co84, eo84⟩ := Kd.R_slice HO125.out
                (first | subst eo84 | (injection eo84 with f1_ f2_ f3_; have f4_ := f1_.symm; have f5_ := f3_.symm; clear f1_ f2_ f3_; subst f4_; subst f5_))
                refine hK.out _ _ ⟨(blk_cell BK118.out 0).trans rfl, (blk_cell BK118.out 1).trans rfl, (blk_cell BK118.out 2).trans rfl, (blk_cell BK118.out 3).trans rfl⟩ (fun hHeld => ?_)
                clear hK K
                refine norm_ (a' := ?_) ?_ ?_
                rotate_left
                · show Act.put _ (some 31) _ = _
                  simp only [Act.put, List.setIfInBounds_toArray, List.set_cons_zero, List.set_cons_succ, i64_w, i32_w]
                  rfl
                refine one_ (i := 10) (N := some 32) #[true, true, true, true, true, true, true, true, true, true, true, true, true, false, false] rfl rfl (one_of HT_.out (by kernel_rfl)) (by decide) (fun K hK => ?_)
                refine goes_ Try.func73 (by kernel_rfl) rfl #[.slice Ao84 t123.length co84, .int .u64 t126] (by rfl) rfl rfl (by (try simp only [List.map_toArray, List.map_cons, List.map_nil]); first | done | rfl | (simp only [List.length_drop, List.length_take]; rfl)) ?_
                with_reducible refine (codec_put.calls k1 (fun k_ => some k_ = (.slice Ao84 t123.length co84 : Value).ownBlock) (.slice Ao84 t123.length co84) t123 t126 t127 w _ ?side1 ?side2 A10.out).mono ?_
                (case side1 => repeat (first | (with_reducible first | exact HB.out | apply below_alloc | apply pw_below_drewN | apply below_drew1 | refine below_set ?_ GE117.out | refine below_set ?_ GE118.out | refine below_set ?_ GE119.out) | exact HB.out))
                (case side2 => exact Kd.R_tight rfl HO125.out)
                rintro e w85 ⟨v128, rfl, ho0, hb, hkp⟩
                refine ⟨_, rfl, ?_⟩
                have n0_ := Aside0.mk (blk_kept (by first | (with_reducible exact BK117.out) | (with_reducible exact blk_drewN BK117.out _) | (with_reducible exact blk_drew BK117.out) | (with_reducible exact blk_alloc BK117.out _) | ((with_reducible repeat (first | refine blk_drewN ?_ _ | refine blk_drew ?_ | refine blk_alloc ?_ _)); exact BK117.out)) hkp (fun hs_ => (fun e_ => (Kd.R_ne HO125.out BK117.out (by decide)) e_) hs_))
                have n1_ := Aside0.mk (blk_kept (by first | (with_reducible exact BK118.out) | (with_reducible exact blk_drewN BK118.out _) | (with_reducible exact blk_drew BK118.out) | (with_reducible exact blk_alloc BK118.out _) | ((with_reducible repeat (first | refine blk_drewN ?_ _ | refine blk_drew ?_ | refine blk_alloc ?_ _)); exact BK118.out)) hkp (fun hs_ => (fun e_ => (Kd.R_ne HO125.out BK118.out (by decide)) e_) hs_))
                have n2_ := Aside0.mk (blk_kept (by first | (with_reducible exact BK119.out) | (with_reducible exact blk_drewN BK119.out _) | (with_reducible exact blk_drew BK119.out) | (with_reducible exact blk_alloc BK119.out _) | ((with_reducible repeat (first | refine blk_drewN ?_ _ | refine blk_drew ?_ | refine blk_alloc ?_ _)); exact BK119.out)) hkp (fun hs_ => (fun e_ => (Kd.R_ne HO125.out BK119.out (by decide)) e_) hs_))
                have n3_ := Aside0.mk (Kd.R_mono (ok' := fun k_ => True) ho0 (fun k_ hk_ => trivial))
                have n4_ := Aside0.mk (hb)
                clear BK117
                clear BK118
                clear BK119
                clear HB
                clear HO125
                have BK117 := n0_
                have BK118 := n1_
                have BK119 := n2_
                have HO129 := n3_
                have HB := n4_
                clear n0_ n1_ n2_ n3_ n4_
                (try clear hb)
                (try clear hkp)
                (try clear ho0)
                obtain ⟨Ao86, co86, eo86⟩ := Kd.R_slice HO129.out
                (first | subst eo86 | (injection eo86 with f1_ f2_ f3_; have f4_ := f1_.symm; have f5_ := f3_.symm; clear f1_ f2_ f3_; subst f4_; subst f5_))
                refine hK.out _ _ ⟨(blk_cell BK118.out 0).trans rfl, (blk_cell BK118.out 1).trans rfl, (blk_cell BK118.out 2).trans rfl, (blk_cell BK118.out 3).trans rfl⟩ (fun hHeld => ?_)
                clear hK K
                refine norm_ (a' := ?_) ?_ ?_
                rotate_left
                · show Act.put _ (some 32) _ = _
                  simp only [Act.put, List.setIfInBounds_toArray, List.set_cons_zero, List.set_cons_succ, i64_w, i32_w]
                  rfl
                refine one_ (i := 13) (N := some 35) #[true, true, true, true, true, true, true, true, true, true, true, true, true, true, false] rfl rfl (one_of HT_.out (by kernel_rfl)) (by decide) (fun K hK => ?_)
                refine goes_ Try.func74 (by kernel_rfl) rfl #[.slice Ao86 t127.length co86, .string ((rd_T101 l0 x14_1).f0.f3)] (by rfl) rfl rfl (by (try simp only [List.map_toArray, List.map_cons, List.map_nil]); first | done | rfl | (simp only [List.length_drop, List.length_take]; rfl)) ?_
                with_reducible refine (codec_text.calls k1 (fun k_ => some k_ = (.slice Ao86 t127.length co86 : Value).ownBlock) (.slice Ao86 t127.length co86) t127 ((rd_T101 l0 x14_1).f0.f3) t130 w _ ?side1 ?side2 A11.out).mono ?_
                (case side1 => repeat (first | (with_reducible first | exact HB.out | apply below_alloc | apply pw_below_drewN | apply below_drew1 | refine below_set ?_ GE117.out | refine below_set ?_ GE118.out | refine below_set ?_ GE119.out) | exact HB.out))
                (case side2 => exact Kd.R_tight rfl HO129.out)
                rintro e w87 ⟨v131, rfl, ho0, hb, hkp⟩
                refine ⟨_, rfl, ?_⟩
                have n0_ := Aside0.mk (blk_kept (by first | (with_reducible exact BK117.out) | (with_reducible exact blk_drewN BK117.out _) | (with_reducible exact blk_drew BK117.out) | (with_reducible exact blk_alloc BK117.out _) | ((with_reducible repeat (first | refine blk_drewN ?_ _ | refine blk_drew ?_ | refine blk_alloc ?_ _)); exact BK117.out)) hkp (fun hs_ => (fun e_ => (Kd.R_ne HO129.out BK117.out (by decide)) e_) hs_))
                have n1_ := Aside0.mk (blk_kept (by first | (with_reducible exact BK118.out) | (with_reducible exact blk_drewN BK118.out _) | (with_reducible exact blk_drew BK118.out) | (with_reducible exact blk_alloc BK118.out _) | ((with_reducible repeat (first | refine blk_drewN ?_ _ | refine blk_drew ?_ | refine blk_alloc ?_ _)); exact BK118.out)) hkp (fun hs_ => (fun e_ => (Kd.R_ne HO129.out BK118.out (by decide)) e_) hs_))
                have n2_ := Aside0.mk (blk_kept (by first | (with_reducible exact BK119.out) | (with_reducible exact blk_drewN BK119.out _) | (with_reducible exact blk_drew BK119.out) | (with_reducible exact blk_alloc BK119.out _) | ((with_reducible repeat (first | refine blk_drewN ?_ _ | refine blk_drew ?_ | refine blk_alloc ?_ _)); exact BK119.out)) hkp (fun hs_ => (fun e_ => (Kd.R_ne HO129.out BK119.out (by decide)) e_) hs_))
                have n3_ := Aside0.mk (Kd.R_mono (ok' := fun k_ => True) ho0 (fun k_ hk_ => trivial))
                have n4_ := Aside0.mk (hb)
                clear BK117
                clear BK118
                clear BK119
                clear HB
                clear HO129
                have BK117 := n0_
                have BK118 := n1_
                have BK119 := n2_
                have HO132 := n3_
                have HB := n4_
                clear n0_ n1_ n2_ n3_ n4_
                (try clear hb)
                (try clear hkp)
                (try clear ho0)
                refine hK.out _ _ ⟨(blk_cell BK118.out 0).trans rfl, (blk_cell BK118.out 1).trans rfl, (blk_cell BK118.out 2).trans rfl, (blk_cell BK118.out 3).trans rfl⟩ (fun hHeld => ?_)
                clear hK K
                refine norm_ (a' := ?_) ?_ ?_
                rotate_left
                · show Act.put _ (some 35) _ = _
                  simp only [Act.put, List.setIfInBounds_toArray, List.set_cons_zero, List.set_cons_succ, i64_w, i32_w]
                  rfl
                refine pure_ (i := 14) (N := some 3) (v := ?_) (a' := ?_) #[true, true, true, true, true, true, true, true, true, true, true, true, true, true, true] rfl rfl (any_of HT_.out (by kernel_rfl)) (fun _ _ _ h => h) (Or.inl ⟨by rfl, ?_⟩) ?_ ?_
                rotate_left
                · intro w'
                  go_simp
                  with_reducible rfl
                rotate_left
                · simp only [Act.put, List.setIfInBounds_toArray, List.set_cons_zero, List.set_cons_succ, i64_w, i32_w]
                  rfl
                refine done_ (done_of HT_.out (by kernel_rfl)) ?_
                have hnb88 := NB119_117.out
                have hnc88 := NB117_119.out
                have hnb89 := NB119_118.out
                have hnc89 := NB118_119.out
                have hcz90_0 : w87.cell? ⟨gb119, 0, none⟩ = some (.int .i64 ((rd_T101 l0 x14_1).f1.f0)) := (blk_cell BK119.out 0).trans rfl
                have hcz90_1 : w87.cell? ⟨gb119, 1, none⟩ = some (.bool false) := (blk_cell BK119.out 1).trans rfl
                have hcz90_2 : w87.cell? ⟨gb119, 2, none⟩ = some (.int .i64 ((rd_T101 l0 x14_1).f1.f2)) := (blk_cell BK119.out 2).trans rfl
                have hcz90_3 : w87.cell? ⟨gb119, 3, none⟩ = some (.int .i64 ((rd_T101 l0 x14_1).f1.f3.f0)) := (blk_cell BK119.out 3).trans rfl
                have hcz90_4 : w87.cell? ⟨gb119, 4, none⟩ = some (.int .i64 ((rd_T101 l0 x14_1).f1.f3.f1)) := (blk_cell BK119.out 4).trans rfl
                have hcz90_5 : w87.cell? ⟨gb119, 5, none⟩ = some (.string ((rd_T101 l0 x14_1).f1.f3.f2)) := (blk_cell BK119.out 5).trans rfl
                have hfz90_0 := blk_frozen BK119.out 0
                have hfz90_1 := blk_frozen BK119.out 1
                have hfz90_2 := blk_frozen BK119.out 2
                have hfz90_3 := blk_frozen BK119.out 3
                have hfz90_4 := blk_frozen BK119.out 4
                have hfz90_5 := blk_frozen BK119.out 5
                try go_wp2_with (first | ((with_reducible refine gate_callee (f := 21) rfl ?_); refine goesL_ (some 39) rfl rfl Try.func21 (by kernel_rfl) rfl #[.int .i64 ((rd_T101 l0 x14_1).f1.f0)] rfl (by (try simp only [List.map_toArray, List.map_cons, List.map_nil]); first | done | rfl | (simp only [List.length_drop, List.length_take]; rfl)) ?_; (with_reducible refine (codec_Zig.calls ((rd_T101 l0 x14_1).f1.f0) t133 _ A12.out).mono ?_); rintro e w' ⟨rfl, ⟨nd, rfl⟩⟩; refine ⟨_, rfl, ?_⟩; obtain ⟨Ao91, co91, eo91⟩ := Kd.R_slice HO132.out; subst eo91) | ((with_reducible refine gate_callee (f := 73) rfl ?_); refine goesL_ (some 40) rfl rfl Try.func73 (by kernel_rfl) rfl #[.slice Ao91 t130.length co91, .int .u64 t133] rfl (by (try simp only [List.map_toArray, List.map_cons, List.map_nil]); first | done | rfl | (simp only [List.length_drop, List.length_take]; rfl)) ?_; (with_reducible refine (codec_put.calls k1 (fun k_ => some k_ = (.slice Ao91 t130.length co91 : Value).ownBlock) (.slice Ao91 t130.length co91) t130 t133 t134 w _ ?side1 ?side2 A13.out).mono ?_); (case side1 => repeat (first | (with_reducible first | exact HB.out | apply below_alloc | apply pw_below_drewN | apply below_drew1 | refine below_set ?_ GE117.out | refine below_set ?_ GE118.out | refine below_set ?_ GE119.out) | exact HB.out)); (case side2 => exact Kd.R_tight rfl HO132.out); rintro e w92 ⟨v135, rfl, ho0, hb, hkp⟩; refine ⟨_, rfl, ?_⟩; have n0_ := Aside0.mk (blk_kept (by first | (with_reducible exact BK117.out) | (with_reducible exact blk_drewN BK117.out _) | (with_reducible exact blk_drew BK117.out) | (with_reducible exact blk_alloc BK117.out _) | ((with_reducible repeat (first | refine blk_drewN ?_ _ | refine blk_drew ?_ | refine blk_alloc ?_ _)); exact BK117.out)) hkp (fun hs_ => (fun e_ => (Kd.R_ne HO132.out BK117.out (by decide)) e_) hs_)); have n1_ := Aside0.mk (blk_kept (by first | (with_reducible exact BK118.out) | (with_reducible exact blk_drewN BK118.out _) | (with_reducible exact blk_drew BK118.out) | (with_reducible exact blk_alloc BK118.out _) | ((with_reducible repeat (first | refine blk_drewN ?_ _ | refine blk_drew ?_ | refine blk_alloc ?_ _)); exact BK118.out)) hkp (fun hs_ => (fun e_ => (Kd.R_ne HO132.out BK118.out (by decide)) e_) hs_)); have n2_ := Aside0.mk (blk_kept (by first | (with_reducible exact BK119.out) | (with_reducible exact blk_drewN BK119.out _) | (with_reducible exact blk_drew BK119.out) | (with_reducible exact blk_alloc BK119.out _) | ((with_reducible repeat (first | refine blk_drewN ?_ _ | refine blk_drew ?_ | refine blk_alloc ?_ _)); exact BK119.out)) hkp (fun hs_ => (fun e_ => (Kd.R_ne HO132.out BK119.out (by decide)) e_) hs_)); have n3_ := Aside0.mk (Kd.R_mono (ok' := fun k_ => True) ho0 (fun k_ hk_ => trivial)); have n4_ := Aside0.mk (hb); clear BK117; clear BK118; clear BK119; clear HB; clear HO132; have BK117 := n0_; have BK118 := n1_; have BK119 := n2_; have HO136 := n3_; have HB := n4_; clear n0_ n1_ n2_ n3_ n4_; (try clear hb); (try clear hkp); (try clear ho0); have hcz93_0 : w92.cell? ⟨gb119, 0, none⟩ = some (.int .i64 ((rd_T101 l0 x14_1).f1.f0)) := (blk_cell BK119.out 0).trans rfl; have hcz93_1 : w92.cell? ⟨gb119, 1, none⟩ = some (.bool false) := (blk_cell BK119.out 1).trans rfl; have hcz93_2 : w92.cell? ⟨gb119, 2, none⟩ = some (.int .i64 ((rd_T101 l0 x14_1).f1.f2)) := (blk_cell BK119.out 2).trans rfl; have hcz93_3 : w92.cell? ⟨gb119, 3, none⟩ = some (.int .i64 ((rd_T101 l0 x14_1).f1.f3.f0)) := (blk_cell BK119.out 3).trans rfl; have hcz93_4 : w92.cell? ⟨gb119, 4, none⟩ = some (.int .i64 ((rd_T101 l0 x14_1).f1.f3.f1)) := (blk_cell BK119.out 4).trans rfl; have hcz93_5 : w92.cell? ⟨gb119, 5, none⟩ = some (.string ((rd_T101 l0 x14_1).f1.f3.f2)) := (blk_cell BK119.out 5).trans rfl; have hfz93_0 := blk_frozen BK119.out 0; have hfz93_1 := blk_frozen BK119.out 1; have hfz93_2 := blk_frozen BK119.out 2; have hfz93_3 := blk_frozen BK119.out 3; have hfz93_4 := blk_frozen BK119.out 4; have hfz93_5 := blk_frozen BK119.out 5))
                have n0_ := Aside0.mk (Kd.R_drew HO136.out)
                have n1_ := Aside0.mk (blk_drew BK117.out)
                have n2_ := Aside0.mk (blk_drew BK118.out)
                have n3_ := Aside0.mk (blk_drew BK119.out)
                have n4_ := Aside0.mk (below_drew1 HB.out)
                clear HO136
                clear BK117
                clear BK118
                clear BK119
                clear HB
                have HO136 := n0_
                have BK117 := n1_
                have BK118 := n2_
                have BK119 := n3_
                have HB := n4_
                clear n0_ n1_ n2_ n3_ n4_
                refine start_ (n := 18) (S := fun w' => w'.cell? ⟨gb119, 0, none⟩ = some (.int .i64 ((rd_T101 l0 x14_1).f1.f0)) ∧ w'.cell? ⟨gb119, 1, none⟩ = some (.bool false) ∧ w'.cell? ⟨gb119, 2, none⟩ = some (.int .i64 ((rd_T101 l0 x14_1).f1.f2)) ∧ w'.cell? ⟨gb119, 3, none⟩ = some (.int .i64 ((rd_T101 l0 x14_1).f1.f3.f0)) ∧ w'.cell? ⟨gb119, 4, none⟩ = some (.int .i64 ((rd_T101 l0 x14_1).f1.f3.f1)) ∧ w'.cell? ⟨gb119, 5, none⟩ = some (.string ((rd_T101 l0 x14_1).f1.f3.f2))) (ds := []) #[false, false, false, false, false, false, false, false, false, false, false, false, false, false, false, false, false, false] (by kernel_rfl) rfl rfl ⟨(blk_cell BK119.out 0).trans rfl, (blk_cell BK119.out 1).trans rfl, (blk_cell BK119.out 2).trans rfl, (blk_cell BK119.out 3).trans rfl, (blk_cell BK119.out 4).trans rfl, (blk_cell BK119.out 5).trans rfl⟩ (fun hHeld => ?_); refine with_tabW codec_Cells.tab10 codec_Cells.bits10 (fun HT_ HW_ => ?_)
                generalize w92.drew = w94 at HO136 BK117 BK118 BK119 HB hHeld ⊢
                refine pure_ (i := 0) (N := some 50) (v := ?_) (a' := ?_) #[true, false, false, false, false, false, false, false, false, false, false, false, false, false, false, false, false, false] rfl rfl (any_of HT_.out (by kernel_rfl)) (fun _ _ _ h => h) (Or.inl ⟨by rfl, ?_⟩) ?_ ?_
                rotate_left
                · intro w'
                  go_simp
                  with_reducible rfl
                rotate_left
                · simp only [Act.put, List.setIfInBounds_toArray, List.set_cons_zero, List.set_cons_succ, i64_w, i32_w]
                  rfl
                refine pure_ (i := 3) (N := some 53) (v := ?_) (a' := ?_) #[true, false, false, true, false, false, false, false, false, false, false, false, false, false, false, false, false, false] rfl rfl (any_of HT_.out (by kernel_rfl)) (fun _ _ _ h => h) (Or.inl ⟨by rfl, ?_⟩) ?_ ?_
                rotate_left
                · intro w'
                  go_simp
                  with_reducible rfl
                rotate_left
                · simp only [Act.put, List.setIfInBounds_toArray, List.set_cons_zero, List.set_cons_succ, i64_w, i32_w]
                  rfl
                refine pure_ (i := 4) (N := some 54) (v := ?_) (a' := ?_) #[true, false, false, true, true, false, false, false, false, false, false, false, false, false, false, false, false, false] rfl rfl (any_of HT_.out (by kernel_rfl)) (fun _ _ _ h => h) (Or.inl ⟨by rfl, ?_⟩) ?_ ?_
                rotate_left
                · intro w'
                  go_simp
                  with_reducible rfl
                rotate_left
                · simp only [Act.put, List.setIfInBounds_toArray, List.set_cons_zero, List.set_cons_succ, i64_w, i32_w]
                  rfl
                refine pure_ (i := 8) (N := some 58) (v := ?_) (a' := ?_) #[true, false, false, true, true, false, false, false, true, false, false, false, false, false, false, false, false, false] rfl rfl (any_of HT_.out (by kernel_rfl)) (fun _ _ _ h => h) (Or.inl ⟨by rfl, ?_⟩) ?_ ?_
                rotate_left
                · intro w'
                  go_simp
                  with_reducible rfl
                rotate_left
                · simp only [Act.put, List.setIfInBounds_toArray, List.set_cons_zero, List.set_cons_succ, i64_w, i32_w]
                  rfl
                refine pure_ (i := 9) (N := some 59) (v := ?_) (a' := ?_) #[true, false, false, true, true, false, false, false, true, true, false, false, false, false, false, false, false, false] rfl rfl (any_of HT_.out (by kernel_rfl)) (fun _ _ _ h => h) (Or.inl ⟨by rfl, ?_⟩) ?_ ?_
                rotate_left
                · intro w'
                  go_simp
                  with_reducible rfl
                rotate_left
                · simp only [Act.put, List.setIfInBounds_toArray, List.set_cons_zero, List.set_cons_succ, i64_w, i32_w]
                  rfl
                refine pure_ (i := 13) (N := some 63) (v := ?_) (a' := ?_) #[true, false, false, true, true, false, false, false, true, true, false, false, false, true, false, false, false, false] rfl rfl (any_of HT_.out (by kernel_rfl)) (fun _ _ _ h => h) (Or.inl ⟨by rfl, ?_⟩) ?_ ?_
                rotate_left
                · intro w'
                  go_simp
                  with_reducible rfl
                rotate_left
                · simp only [Act.put, List.setIfInBounds_toArray, List.set_cons_zero, List.set_cons_succ, i64_w, i32_w]
                  rfl
                refine pure_ (i := 14) (N := some 64) (v := ?_) (a' := ?_) #[true, false, false, true, true, false, false, false, true, true, false, false, false, true, true, false, false, false] rfl rfl (any_of HT_.out (by kernel_rfl)) (fun _ _ _ h => h) (Or.inl ⟨by rfl, ?_⟩) ?_ ?_
                rotate_left
                · intro w'
                  go_simp
                  with_reducible rfl
                rotate_left
                · simp only [Act.put, List.setIfInBounds_toArray, List.set_cons_zero, List.set_cons_succ, i64_w, i32_w]
                  rfl
                refine take_ (i := 5) (N := some 55) (v := ?_) (a' := ?_) #[true, false, false, true, true, true, false, false, true, true, false, false, false, true, true, false, false, false] rfl rfl (take_ofW HT_.out HW_.out (by kernel_rfl)) (fun _ _ _ h => h) (Or.inl ⟨by rfl, ?_⟩) hHeld ?_ ?_
                rotate_left
                · rintro w' ⟨s0, s1, s2, s3, s4, s5⟩
                  go_simp
                  with_reducible rfl
                rotate_left
                · simp only [Act.put, List.setIfInBounds_toArray, List.set_cons_zero, List.set_cons_succ, i64_w, i32_w]
                  rfl
                refine pure_ (i := 6) (N := some 56) (v := ?_) (a' := ?_) #[true, false, false, true, true, true, true, false, true, true, false, false, false, true, true, false, false, false] rfl rfl (any_of HT_.out (by kernel_rfl)) (fun _ _ _ h => h) (Or.inl ⟨by rfl, ?_⟩) ?_ ?_
                rotate_left
                · intro w'
                  go_simp
                  with_reducible rfl
                rotate_left
                · simp only [Act.put, List.setIfInBounds_toArray, List.set_cons_zero, List.set_cons_succ, i64_w, i32_w]
                  rfl
                refine take_ (i := 10) (N := some 60) (v := ?_) (a' := ?_) #[true, false, false, true, true, true, true, false, true, true, true, false, false, true, true, false, false, false] rfl rfl (take_ofW HT_.out HW_.out (by kernel_rfl)) (fun _ _ _ h => h) (Or.inl ⟨by rfl, ?_⟩) hHeld ?_ ?_
                rotate_left
                · rintro w' ⟨s0, s1, s2, s3, s4, s5⟩
                  go_simp
                  with_reducible rfl
                rotate_left
                · simp only [Act.put, List.setIfInBounds_toArray, List.set_cons_zero, List.set_cons_succ, i64_w, i32_w]
                  rfl
                refine take_ (i := 15) (N := some 65) (v := ?_) (a' := ?_) #[true, false, false, true, true, true, true, false, true, true, true, false, false, true, true, true, false, false] rfl rfl (take_ofW HT_.out HW_.out (by kernel_rfl)) (fun _ _ _ h => h) (Or.inl ⟨by rfl, ?_⟩) hHeld ?_ ?_
                rotate_left
                · rintro w' ⟨s0, s1, s2, s3, s4, s5⟩
                  go_simp
                  with_reducible rfl
                rotate_left
                · simp only [Act.put, List.setIfInBounds_toArray, List.set_cons_zero, List.set_cons_succ, i64_w, i32_w]
                  rfl
                refine one_ (i := 1) (N := some 51) #[true, true, false, true, true, true, true, false, true, true, true, false, false, true, true, true, false, false] rfl rfl (one_of HT_.out (by kernel_rfl)) (by decide) (fun K hK => ?_)
                refine value_ (w1 := ?_) (v := ?_) (by rfl) rfl ?_ ?_
                rotate_left 2
                · go_simp
                  constructor
                  · rfl
                  · rfl
                refine hK.out _ _ ⟨(blk_cell (blk_alloc BK119.out _) 0).trans rfl, (blk_cell (blk_alloc BK119.out _) 1).trans rfl, (blk_cell (blk_alloc BK119.out _) 2).trans rfl, (blk_cell (blk_alloc BK119.out _) 3).trans rfl, (blk_cell (blk_alloc BK119.out _) 4).trans rfl, (blk_cell (blk_alloc BK119.out _) 5).trans rfl⟩ (fun hHeld => ?_)
                clear hK K
                refine norm_ (a' := ?_) ?_ ?_
                rotate_left
                · show Act.put _ (some 51) _ = _
                  simp only [Act.put, List.setIfInBounds_toArray, List.set_cons_zero, List.set_cons_succ, i64_w, i32_w]
                  rfl
                refine one_ (i := 2) (N := some 52) #[true, true, true, true, true, true, true, false, true, true, true, false, false, true, true, true, false, false] rfl rfl (one_of HT_.out (by kernel_rfl)) (by decide) (fun K hK => ?_)
                refine Kd.R_append_step (Kd.int .u8) (w0 := w) w.heap.size (by rfl) (.tmp 50) (.tmp 51) 27 5 (.int .u8 0) 1 rfl Try.underlying27 info5 rfl (by decide) (by omega) v135 t134 0 [.int .u8 0] (fun _ => True) (fun _ => False) rfl rfl ?aP (fun _ hk => hk.elim) ?aF ?aO ?aB ?aS ?aL ?_
                (case aP => exact rfl)
                (case aB => exact (by repeat (first | (with_reducible first | exact HB.out | apply below_alloc | apply pw_below_drewN | apply below_drew1 | refine below_set ?_ GE117.out | refine below_set ?_ GE118.out | refine below_set ?_ GE119.out) | exact HB.out)))
                (case aF => exact (fun _ _ => trivial))
                (case aO => exact (by (with_reducible repeat (first | apply Kd.R_alloc | apply Kd.R_drewN | apply Kd.R_drew)); exact HO136.out))
                (case aS => exact (below_size (by repeat (first | (with_reducible first | exact HB.out | apply below_alloc | apply pw_below_drewN | apply below_drew1 | refine below_set ?_ GE117.out | refine below_set ?_ GE118.out | refine below_set ?_ GE119.out) | exact HB.out))))
                (case aL => have := LMc56.out; omega)
                intro v145 w95 ho hb hg hat
                rw [← Ny144.out] at ho
                have n0_ := Aside0.mk (blk_grown (g := gb117) (o := .cells #[.string ((rd_T101 l0 x14_1).f0.f0), .string ((rd_T101 l0 x14_1).f0.f1), .int .i64 ((rd_T101 l0 x14_1).f0.f2), .string ((rd_T101 l0 x14_1).f0.f3), .int .i64 ((rd_T101 l0 x14_1).f1.f0), .bool false, .int .i64 ((rd_T101 l0 x14_1).f1.f2), .int .i64 ((rd_T101 l0 x14_1).f1.f3.f0), .int .i64 ((rd_T101 l0 x14_1).f1.f3.f1), .string ((rd_T101 l0 x14_1).f1.f3.f2)] 101 (0, 0)) (by first | (with_reducible exact BK117.out) | (with_reducible exact blk_drewN BK117.out _) | (with_reducible exact blk_drew BK117.out) | (with_reducible exact blk_alloc BK117.out _) | ((with_reducible repeat (first | refine blk_drewN ?_ _ | refine blk_drew ?_ | refine blk_alloc ?_ _)); exact BK117.out)) hg (Kd.R_ne HO136.out BK117.out (by decide)))
                have n1_ := Aside0.mk (blk_grown (g := gb118) (o := .cells #[.string ((rd_T101 l0 x14_1).f0.f0), .string ((rd_T101 l0 x14_1).f0.f1), .int .i64 ((rd_T101 l0 x14_1).f0.f2), .string ((rd_T101 l0 x14_1).f0.f3)] 95 (0, 0)) (by first | (with_reducible exact BK118.out) | (with_reducible exact blk_drewN BK118.out _) | (with_reducible exact blk_drew BK118.out) | (with_reducible exact blk_alloc BK118.out _) | ((with_reducible repeat (first | refine blk_drewN ?_ _ | refine blk_drew ?_ | refine blk_alloc ?_ _)); exact BK118.out)) hg (Kd.R_ne HO136.out BK118.out (by decide)))
                have n2_ := Aside0.mk (blk_grown (g := gb119) (o := .cells #[.int .i64 ((rd_T101 l0 x14_1).f1.f0), .bool false, .int .i64 ((rd_T101 l0 x14_1).f1.f2), .int .i64 ((rd_T101 l0 x14_1).f1.f3.f0), .int .i64 ((rd_T101 l0 x14_1).f1.f3.f1), .string ((rd_T101 l0 x14_1).f1.f3.f2)] 99 (0, 0)) (by first | (with_reducible exact BK119.out) | (with_reducible exact blk_drewN BK119.out _) | (with_reducible exact blk_drew BK119.out) | (with_reducible exact blk_alloc BK119.out _) | ((with_reducible repeat (first | refine blk_drewN ?_ _ | refine blk_drew ?_ | refine blk_alloc ?_ _)); exact BK119.out)) hg (Kd.R_ne HO136.out BK119.out (by decide)))
                have n3_ := Aside0.mk (hb)
                have n4_ := Aside0.mk (ho)
                clear BK117
                clear BK118
                clear BK119
                clear HB
                clear HO136
                have BK117 := n0_
                have BK118 := n1_
                have BK119 := n2_
                have HB := n3_
                have HO146 := n4_
                clear n0_ n1_ n2_ n3_ n4_
                clear ho hb hg hat
                obtain ⟨Ao96, co96, eo96⟩ := Kd.R_slice HO146.out
                (first | subst eo96 | (injection eo96 with f1_ f2_ f3_; have f4_ := f1_.symm; have f5_ := f3_.symm; clear f1_ f2_ f3_; subst f4_; subst f5_))
                refine hK.out _ _ ⟨(blk_cell BK119.out 0).trans rfl, (blk_cell BK119.out 1).trans rfl, (blk_cell BK119.out 2).trans rfl, (blk_cell BK119.out 3).trans rfl, (blk_cell BK119.out 4).trans rfl, (blk_cell BK119.out 5).trans rfl⟩ (fun hHeld => ?_)
                clear hK K
                refine norm_ (a' := ?_) ?_ ?_
                rotate_left
                · show Act.put _ (some 52) _ = _
                  simp only [Act.put, List.setIfInBounds_toArray, List.set_cons_zero, List.set_cons_succ, i64_w, i32_w]
                  rfl
                refine one_ (i := 7) (N := some 57) #[true, true, true, true, true, true, true, true, true, true, true, false, false, true, true, true, false, false] rfl rfl (one_of HT_.out (by kernel_rfl)) (by decide) (fun K hK => ?_)
                refine goes_ Try.func73 (by kernel_rfl) rfl #[.slice Ao96 y144.length co96, .int .u64 (IntKind.u64.wrap ((rd_T101 l0 x14_1).f1.f3.f0))] (by rfl) rfl rfl (by (try simp only [List.map_toArray, List.map_cons, List.map_nil]); first | done | rfl | (simp only [List.length_drop, List.length_take]; rfl)) ?_
                with_reducible refine (codec_put.calls k1 (fun k_ => some k_ = (.slice Ao96 y144.length co96 : Value).ownBlock) (.slice Ao96 y144.length co96) y144 (IntKind.u64.wrap ((rd_T101 l0 x14_1).f1.f3.f0)) t147 w _ ?side1 ?side2 A57.out).mono ?_
                (case side1 => repeat (first | (with_reducible first | exact HB.out | apply below_alloc | apply pw_below_drewN | apply below_drew1 | refine below_set ?_ GE117.out | refine below_set ?_ GE118.out | refine below_set ?_ GE119.out) | exact HB.out))
                (case side2 => exact Kd.R_tight rfl HO146.out)
                rintro e w97 ⟨v148, rfl, ho0, hb, hkp⟩
                refine ⟨_, rfl, ?_⟩
                have n0_ := Aside0.mk (blk_kept (by first | (with_reducible exact BK117.out) | (with_reducible exact blk_drewN BK117.out _) | (with_reducible exact blk_drew BK117.out) | (with_reducible exact blk_alloc BK117.out _) | ((with_reducible repeat (first | refine blk_drewN ?_ _ | refine blk_drew ?_ | refine blk_alloc ?_ _)); exact BK117.out)) hkp (fun hs_ => (fun e_ => (Kd.R_ne HO146.out BK117.out (by decide)) e_) hs_))
                have n1_ := Aside0.mk (blk_kept (by first | (with_reducible exact BK118.out) | (with_reducible exact blk_drewN BK118.out _) | (with_reducible exact blk_drew BK118.out) | (with_reducible exact blk_alloc BK118.out _) | ((with_reducible repeat (first | refine blk_drewN ?_ _ | refine blk_drew ?_ | refine blk_alloc ?_ _)); exact BK118.out)) hkp (fun hs_ => (fun e_ => (Kd.R_ne HO146.out BK118.out (by decide)) e_) hs_))
                have n2_ := Aside0.mk (blk_kept (by first | (with_reducible exact BK119.out) | (with_reducible exact blk_drewN BK119.out _) | (with_reducible exact blk_drew BK119.out) | (with_reducible exact blk_alloc BK119.out _) | ((with_reducible repeat (first | refine blk_drewN ?_ _ | refine blk_drew ?_ | refine blk_alloc ?_ _)); exact BK119.out)) hkp (fun hs_ => (fun e_ => (Kd.R_ne HO146.out BK119.out (by decide)) e_) hs_))
                have n3_ := Aside0.mk (Kd.R_mono (ok' := fun k_ => True) ho0 (fun k_ hk_ => trivial))
                have n4_ := Aside0.mk (hb)
                clear BK117
                clear BK118
                clear BK119
                clear HB
                clear HO146
                have BK117 := n0_
                have BK118 := n1_
                have BK119 := n2_
                have HO149 := n3_
                have HB := n4_
                clear n0_ n1_ n2_ n3_ n4_
                (try clear hb)
                (try clear hkp)
                (try clear ho0)
                refine hK.out _ _ ⟨(blk_cell BK119.out 0).trans rfl, (blk_cell BK119.out 1).trans rfl, (blk_cell BK119.out 2).trans rfl, (blk_cell BK119.out 3).trans rfl, (blk_cell BK119.out 4).trans rfl, (blk_cell BK119.out 5).trans rfl⟩ (fun hHeld => ?_)
                clear hK K
                refine norm_ (a' := ?_) ?_ ?_
                rotate_left
                · show Act.put _ (some 57) _ = _
                  simp only [Act.put, List.setIfInBounds_toArray, List.set_cons_zero, List.set_cons_succ, i64_w, i32_w]
                  rfl
                refine one_ (i := 11) (N := some 61) #[true, true, true, true, true, true, true, true, true, true, true, true, false, true, true, true, false, false] rfl rfl (one_of HT_.out (by kernel_rfl)) (by decide) (fun K hK => ?_)
                refine goes_ Try.func21 (by kernel_rfl) rfl #[.int .i64 ((rd_T101 l0 x14_1).f1.f3.f1)] (by rfl) rfl rfl (by (try simp only [List.map_toArray, List.map_cons, List.map_nil]); first | done | rfl | (simp only [List.length_drop, List.length_take]; rfl)) ?_
                with_reducible refine (codec_Zig.calls ((rd_T101 l0 x14_1).f1.f3.f1) t150 _ A58.out).mono ?_
                rintro e w' ⟨rfl, ⟨nd, rfl⟩⟩
                refine ⟨_, rfl, ?_⟩
                obtain ⟨Ao98, co98, eo98⟩ := Kd.R_slice HO149.out
                (first | subst eo98 | (injection eo98 with f1_ f2_ f3_; have f4_ := f1_.symm; have f5_ := f3_.symm; clear f1_ f2_ f3_; subst f4_; subst f5_))
                refine hK.out _ _ ⟨(blk_cell BK119.out 0).trans rfl, (blk_cell BK119.out 1).trans rfl, (blk_cell BK119.out 2).trans rfl, (blk_cell BK119.out 3).trans rfl, (blk_cell BK119.out 4).trans rfl, (blk_cell BK119.out 5).trans rfl⟩ (fun hHeld => ?_)
                clear hK K
                refine norm_ (a' := ?_) ?_ ?_
                rotate_left
                · show Act.put _ (some 61) _ = _
                  simp only [Act.put, List.setIfInBounds_toArray, List.set_cons_zero, List.set_cons_succ, i64_w, i32_w]
                  rfl
                refine one_ (i := 12) (N := some 62) #[true, true, true, true, true, true, true, true, true, true, true, true, true, true, true, true, false, false] rfl rfl (one_of HT_.out (by kernel_rfl)) (by decide) (fun K hK => ?_)
                refine goes_ Try.func73 (by kernel_rfl) rfl #[.slice Ao98 t147.length co98, .int .u64 t150] (by rfl) rfl rfl (by (try simp only [List.map_toArray, List.map_cons, List.map_nil]); first | done | rfl | (simp only [List.length_drop, List.length_take]; rfl)) ?_
                with_reducible refine (codec_put.calls k1 (fun k_ => some k_ = (.slice Ao98 t147.length co98 : Value).ownBlock) (.slice Ao98 t147.length co98) t147 t150 t151 w _ ?side1 ?side2 A59.out).mono ?_
                (case side1 => repeat (first | (with_reducible first | exact HB.out | apply below_alloc | apply pw_below_drewN | apply below_drew1 | refine below_set ?_ GE117.out | refine below_set ?_ GE118.out | refine below_set ?_ GE119.out) | exact HB.out))
                (case side2 => exact Kd.R_tight rfl HO149.out)
                rintro e w99 ⟨v152, rfl, ho0, hb, hkp⟩
                refine ⟨_, rfl, ?_⟩
                have n0_ := Aside0.mk (blk_kept (by first | (with_reducible exact BK117.out) | (with_reducible exact blk_drewN BK117.out _) | (with_reducible exact blk_drew BK117.out) | (with_reducible exact blk_alloc BK117.out _) | ((with_reducible repeat (first | refine blk_drewN ?_ _ | refine blk_drew ?_ | refine blk_alloc ?_ _)); exact BK117.out)) hkp (fun hs_ => (fun e_ => (Kd.R_ne HO149.out BK117.out (by decide)) e_) hs_))
                have n1_ := Aside0.mk (blk_kept (by first | (with_reducible exact BK118.out) | (with_reducible exact blk_drewN BK118.out _) | (with_reducible exact blk_drew BK118.out) | (with_reducible exact blk_alloc BK118.out _) | ((with_reducible repeat (first | refine blk_drewN ?_ _ | refine blk_drew ?_ | refine blk_alloc ?_ _)); exact BK118.out)) hkp (fun hs_ => (fun e_ => (Kd.R_ne HO149.out BK118.out (by decide)) e_) hs_))
                have n2_ := Aside0.mk (blk_kept (by first | (with_reducible exact BK119.out) | (with_reducible exact blk_drewN BK119.out _) | (with_reducible exact blk_drew BK119.out) | (with_reducible exact blk_alloc BK119.out _) | ((with_reducible repeat (first | refine blk_drewN ?_ _ | refine blk_drew ?_ | refine blk_alloc ?_ _)); exact BK119.out)) hkp (fun hs_ => (fun e_ => (Kd.R_ne HO149.out BK119.out (by decide)) e_) hs_))
                have n3_ := Aside0.mk (Kd.R_mono (ok' := fun k_ => True) ho0 (fun k_ hk_ => trivial))
                have n4_ := Aside0.mk (hb)
                clear BK117
                clear BK118
                clear BK119
                clear HB
                clear HO149
                have BK117 := n0_
                have BK118 := n1_
                have BK119 := n2_
                have HO153 := n3_
                have HB := n4_
                clear n0_ n1_ n2_ n3_ n4_
                (try clear hb)
                (try clear hkp)
                (try clear ho0)
                obtain ⟨Ao100, co100, eo100⟩ := Kd.R_slice HO153.out
                (first | subst eo100 | (injection eo100 with f1_ f2_ f3_; have f4_ := f1_.symm; have f5_ := f3_.symm; clear f1_ f2_ f3_; subst f4_; subst f5_))
                refine hK.out _ _ ⟨(blk_cell BK119.out 0).trans rfl, (blk_cell BK119.out 1).trans rfl, (blk_cell BK119.out 2).trans rfl, (blk_cell BK119.out 3).trans rfl, (blk_cell BK119.out 4).trans rfl, (blk_cell BK119.out 5).trans rfl⟩ (fun hHeld => ?_)
                clear hK K
                refine norm_ (a' := ?_) ?_ ?_
                rotate_left
                · show Act.put _ (some 62) _ = _
                  simp only [Act.put, List.setIfInBounds_toArray, List.set_cons_zero, List.set_cons_succ, i64_w, i32_w]
                  rfl
                refine one_ (i := 16) (N := some 66) #[true, true, true, true, true, true, true, true, true, true, true, true, true, true, true, true, true, false] rfl rfl (one_of HT_.out (by kernel_rfl)) (by decide) (fun K hK => ?_)
                refine goes_ Try.func74 (by kernel_rfl) rfl #[.slice Ao100 t151.length co100, .string ((rd_T101 l0 x14_1).f1.f3.f2)] (by rfl) rfl rfl (by (try simp only [List.map_toArray, List.map_cons, List.map_nil]); first | done | rfl | (simp only [List.length_drop, List.length_take]; rfl)) ?_
                with_reducible refine (codec_text.calls k1 (fun k_ => some k_ = (.slice Ao100 t151.length co100 : Value).ownBlock) (.slice Ao100 t151.length co100) t151 ((rd_T101 l0 x14_1).f1.f3.f2) t154 w _ ?side1 ?side2 A60.out).mono ?_
                (case side1 => repeat (first | (with_reducible first | exact HB.out | apply below_alloc | apply pw_below_drewN | apply below_drew1 | refine below_set ?_ GE117.out | refine below_set ?_ GE118.out | refine below_set ?_ GE119.out) | exact HB.out))
                (case side2 => exact Kd.R_tight rfl HO153.out)
                rintro e w101 ⟨v155, rfl, ho0, hb, hkp⟩
                refine ⟨_, rfl, ?_⟩
                have n0_ := Aside0.mk (blk_kept (by first | (with_reducible exact BK117.out) | (with_reducible exact blk_drewN BK117.out _) | (with_reducible exact blk_drew BK117.out) | (with_reducible exact blk_alloc BK117.out _) | ((with_reducible repeat (first | refine blk_drewN ?_ _ | refine blk_drew ?_ | refine blk_alloc ?_ _)); exact BK117.out)) hkp (fun hs_ => (fun e_ => (Kd.R_ne HO153.out BK117.out (by decide)) e_) hs_))
                have n1_ := Aside0.mk (blk_kept (by first | (with_reducible exact BK118.out) | (with_reducible exact blk_drewN BK118.out _) | (with_reducible exact blk_drew BK118.out) | (with_reducible exact blk_alloc BK118.out _) | ((with_reducible repeat (first | refine blk_drewN ?_ _ | refine blk_drew ?_ | refine blk_alloc ?_ _)); exact BK118.out)) hkp (fun hs_ => (fun e_ => (Kd.R_ne HO153.out BK118.out (by decide)) e_) hs_))
                have n2_ := Aside0.mk (blk_kept (by first | (with_reducible exact BK119.out) | (with_reducible exact blk_drewN BK119.out _) | (with_reducible exact blk_drew BK119.out) | (with_reducible exact blk_alloc BK119.out _) | ((with_reducible repeat (first | refine blk_drewN ?_ _ | refine blk_drew ?_ | refine blk_alloc ?_ _)); exact BK119.out)) hkp (fun hs_ => (fun e_ => (Kd.R_ne HO153.out BK119.out (by decide)) e_) hs_))
                have n3_ := Aside0.mk (Kd.R_mono (ok' := fun k_ => True) ho0 (fun k_ hk_ => trivial))
                have n4_ := Aside0.mk (hb)
                clear BK117
                clear BK118
                clear BK119
                clear HB
                clear HO153
                have BK117 := n0_
                have BK118 := n1_
                have BK119 := n2_
                have HO156 := n3_
                have HB := n4_
                clear n0_ n1_ n2_ n3_ n4_
                (try clear hb)
                (try clear hkp)
                (try clear ho0)
                refine hK.out _ _ ⟨(blk_cell BK119.out 0).trans rfl, (blk_cell BK119.out 1).trans rfl, (blk_cell BK119.out 2).trans rfl, (blk_cell BK119.out 3).trans rfl, (blk_cell BK119.out 4).trans rfl, (blk_cell BK119.out 5).trans rfl⟩ (fun hHeld => ?_)
                clear hK K
                refine norm_ (a' := ?_) ?_ ?_
                rotate_left
                · show Act.put _ (some 66) _ = _
                  simp only [Act.put, List.setIfInBounds_toArray, List.set_cons_zero, List.set_cons_succ, i64_w, i32_w]
                  rfl
                refine pure_ (i := 17) (N := some 3) (v := ?_) (a' := ?_) #[true, true, true, true, true, true, true, true, true, true, true, true, true, true, true, true, true, true] rfl rfl (any_of HT_.out (by kernel_rfl)) (fun _ _ _ h => h) (Or.inl ⟨by rfl, ?_⟩) ?_ ?_
                rotate_left
                · intro w'
                  go_simp
                  with_reducible rfl
                rotate_left
                · simp only [Act.put, List.setIfInBounds_toArray, List.set_cons_zero, List.set_cons_succ, i64_w, i32_w]
                  rfl
                refine done_ (done_of HT_.out (by kernel_rfl)) ?_
                try go_wp2
                go_roundg k1
                case measure => have := HK1.out; omega
                case rel => exact ⟨(t154), (wrap64 (x14_1 + 1)), (by first | rfl | (simp; done) | (simp [*]; done)), H', ⟨by have := HK1.out; omega⟩, ⟨by (with_reducible repeat (first | apply Kd.R_alloc | apply Kd.R_drewN | apply Kd.R_drew)); exact HO156.out⟩, ⟨by repeat (first | (with_reducible first | exact HB.out | apply below_alloc | apply pw_below_drewN | apply below_drew1 | refine below_set ?_ GE117.out | refine below_set ?_ GE118.out | refine below_set ?_ GE119.out) | exact HB.out)⟩⟩
              · rw [if_neg c56] at H
                exact absurd H (by simp)
          · rw [if_neg c6] at H
            exact absurd H (by simp)
        · rw [if_neg c5] at H
          exact absurd H (by simp)
      · rw [if_neg c4] at H
        have c4b0 : decide (x14_1 < (l0.length : Int)) = false := decide_eq_false c4
        clear c4
        obtain rfl := Option.some.inj H
        go_wp2
        go_ret
        exact ⟨_, by first | rfl | (simp [errW_none, errW_some] <;> rfl) | (simp [*, errW_none, errW_some] <;> rfl), by (with_reducible repeat (first | apply Kd.R_alloc | apply Kd.R_drewN | apply Kd.R_drew)); exact HO_3.out, by repeat (first | (with_reducible first | exact HB.out | apply below_alloc | apply pw_below_drewN | apply below_drew1) | exact HB.out)⟩
end Go.Proofs.Ytcopbkdlpfcjpaa.G
namespace Go.Proofs.Ytcopbkdlpfcjpaa.G
open Go.RowKit Go.Proofs.YtcopbkdlpfcjpaaW.PrintWords Go.Proofs.YtcopbkdlpfcjpaaW.PrintLast Go.Proofs.YtcopbkdlpfcjpaaW.PrintMore Go.Proofs.Ytcopbkdlpfcjpaa.B Go.Proofs.Ytcopbkdlpfcjpaa.H
attribute [local go_sem] max2_int min2_int max_two min_two max_three min_three max_four min_four
set_option linter.unusedVariables false
set_option linter.unusedSimpArgs false
theorem eqA95 (d : Nat) (w : World) (x0 y0 : ByteArray) (x1 y1 : ByteArray) (x2 y2 : Int) (x3 y3 : ByteArray) :
    (Op.equalIn (d + 2) 95 (.agg #[.string x0, .string x1, .int .i64 x2, .string x3]) (.agg #[.string y0, .string y1, .int .i64 y2, .string y3])).run Try.prog w = .ok (x0.toList == y0.toList && (x1.toList == y1.toList && (x2 == y2 && (x3.toList == y3.toList)))) w := by
  refine eqA_of Try.underlying95 (by kernel_rfl) ?_
  refine eqf_cons (by rfl) (by go_simp; rfl) (by go_simp; rfl) (by go_simp) ?_
  refine eqf_cons (by rfl) (by go_simp; rfl) (by go_simp; rfl) (by go_simp) ?_
  refine eqf_cons (by rfl) (by go_simp; rfl) (by go_simp; rfl) (by go_simp) ?_
  exact eqf_last (by rfl) (by go_simp; rfl) (by go_simp; rfl) (by go_simp)
theorem eqA97 (d : Nat) (w : World) (x0 y0 : Int) (x1 y1 : Int) (x2 y2 : ByteArray) :
    (Op.equalIn (d + 2) 97 (.agg #[.int .i64 x0, .int .i64 x1, .string x2]) (.agg #[.int .i64 y0, .int .i64 y1, .string y2])).run Try.prog w = .ok (x0 == y0 && (x1 == y1 && (x2.toList == y2.toList))) w := by
  refine eqA_of Try.underlying97 (by kernel_rfl) ?_
  refine eqf_cons (by rfl) (by go_simp; rfl) (by go_simp; rfl) (by go_simp) ?_
  refine eqf_cons (by rfl) (by go_simp; rfl) (by go_simp; rfl) (by go_simp) ?_
  exact eqf_last (by rfl) (by go_simp; rfl) (by go_simp; rfl) (by go_simp)
theorem eqA99 (d : Nat) (w : World) (x0 y0 : Int) (x1 y1 : Bool) (x2 y2 : Int) (x3 y3 : Int) (x4 y4 : Int) (x5 y5 : ByteArray) :
    (Op.equalIn (d + 3) 99 (.agg #[.int .i64 x0, .bool x1, .int .i64 x2, .int .i64 x3, .int .i64 x4, .string x5]) (.agg #[.int .i64 y0, .bool y1, .int .i64 y2, .int .i64 y3, .int .i64 y4, .string y5])).run Try.prog w = .ok (x0 == y0 && (x1 == y1 && (x2 == y2 && ((x3 == y3 && (x4 == y4 && (x5.toList == y5.toList))))))) w := by
  refine eqA_of Try.underlying99 (by kernel_rfl) ?_
  refine eqf_cons (by rfl) (by go_simp; rfl) (by go_simp; rfl) (by go_simp) ?_
  refine eqf_cons (by rfl) (by go_simp; rfl) (by go_simp; rfl) (by go_simp) ?_
  refine eqf_cons (by rfl) (by go_simp; rfl) (by go_simp; rfl) (by go_simp) ?_
  exact eqf_last (by rfl) (by go_simp) (by go_simp) (eqA97 (d + 0) w _ _ _ _ _ _)
theorem eqA101 (d : Nat) (w : World) (x0 y0 : ByteArray) (x1 y1 : ByteArray) (x2 y2 : Int) (x3 y3 : ByteArray) (x4 y4 : Int) (x5 y5 : Bool) (x6 y6 : Int) (x7 y7 : Int) (x8 y8 : Int) (x9 y9 : ByteArray) :
    (Op.equalIn (d + 4) 101 (.agg #[.string x0, .string x1, .int .i64 x2, .string x3, .int .i64 x4, .bool x5, .int .i64 x6, .int .i64 x7, .int .i64 x8, .string x9]) (.agg #[.string y0, .string y1, .int .i64 y2, .string y3, .int .i64 y4, .bool y5, .int .i64 y6, .int .i64 y7, .int .i64 y8, .string y9])).run Try.prog w = .ok ((x0.toList == y0.toList && (x1.toList == y1.toList && (x2 == y2 && (x3.toList == y3.toList)))) && ((x4 == y4 && (x5 == y5 && (x6 == y6 && ((x7 == y7 && (x8 == y8 && (x9.toList == y9.toList))))))))) w := by
  refine eqA_of Try.underlying101 (by kernel_rfl) ?_
  refine eqf_cons (by rfl) (by go_simp) (by go_simp) (eqA95 (d + 1) w _ _ _ _ _ _ _ _) ?_
  exact eqf_last (by rfl) (by go_simp) (by go_simp) (eqA99 (d + 0) w _ _ _ _ _ _ _ _ _ _ _ _)
end Go.Proofs.Ytcopbkdlpfcjpaa.G
