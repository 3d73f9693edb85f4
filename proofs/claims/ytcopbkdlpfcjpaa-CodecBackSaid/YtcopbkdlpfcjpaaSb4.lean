/- Joined by a program of this session (slim.py) out of: Gx5, Gx7, CelJ, CelK, CelL, CelM, CelO, CelP, CelR, CelT: what this claim uses of them. -/
import Derived.ChangeSlices
import Derived.Deep.Slices
import Derived.Deep.Strs
import Derived.Lib.SmallJoins
import Derived.SizedLaws
import Derived.Test.YtcopbkdlpfcjpaaSb1
import Derived.Test.YtcopbkdlpfcjpaaSb2
import Derived.Test.YtcopbkdlpfcjpaaSb3
namespace Go.Proofs.Ytcopbkdlpfcjpaa.G
open Go.RowKit Go.Proofs.YtcopbkdlpfcjpaaW.PrintWords Go.Proofs.YtcopbkdlpfcjpaaW.PrintLast Go.Proofs.YtcopbkdlpfcjpaaW.PrintMore Go.Proofs.Ytcopbkdlpfcjpaa.B Go.Proofs.Ytcopbkdlpfcjpaa.H
attribute [local go_sem] max2_int min2_int max_two min_two max_three min_three max_four min_four
set_option linter.unusedVariables false
set_option linter.unusedSimpArgs false
attribute [local go_sem high] eqA101
def skerryref01_Like.l0 : Nat → List (S101) → List (S101) → Int → Int → Option (Bool)
  | 0, _, _, _, _ => none
  | k + 1, x0, x1, x12, x13 => if x13 < x12 then (if 0 ≤ x13 then (if x13 < (x0.length : Int) then (if x13 < (x1.length : Int) then (if ((!((((rd_T101 x0 x13).f0.f0).toList) == (((rd_T101 x1 x13).f0.f0).toList)) || (!((((rd_T101 x0 x13).f0.f1).toList) == (((rd_T101 x1 x13).f0.f1).toList)) || (!(((rd_T101 x0 x13).f0.f2) == ((rd_T101 x1 x13).f0.f2)) || (!((((rd_T101 x0 x13).f0.f3).toList) == (((rd_T101 x1 x13).f0.f3).toList)))))) || ((!(((rd_T101 x0 x13).f1.f0) == ((rd_T101 x1 x13).f1.f0)) || (!(((rd_T101 x0 x13).f1.f1) == ((rd_T101 x1 x13).f1.f1)) || (!(((rd_T101 x0 x13).f1.f2) == ((rd_T101 x1 x13).f1.f2)) || ((!(((rd_T101 x0 x13).f1.f3.f0) == ((rd_T101 x1 x13).f1.f3.f0)) || (!(((rd_T101 x0 x13).f1.f3.f1) == ((rd_T101 x1 x13).f1.f3.f1)) || (!((((rd_T101 x0 x13).f1.f3.f2).toList) == (((rd_T101 x1 x13).f1.f3.f2).toList))))))))))) = true then (some false) else (skerryref01_Like.l0 k x0 x1 x12 (wrap64 (x13 + 1)))) else (none)) else (none)) else (none)) else (some true)
def skerryref01_Like.f (k : Nat) (l0 : List (S101)) (l1 : List (S101)) : Option (Bool) := if (l0.length : Int) = (l1.length : Int) then (skerryref01_Like.l0 k l0 l1 (l0.length : Int) 0) else (some false)
theorem skerryref01_Like.mono_l : ∀ k, (∀ y0 y1 y2 y3, LeO (skerryref01_Like.l0 k y0 y1 y2 y3) (skerryref01_Like.l0 (k + 1) y0 y1 y2 y3))
  | 0 => fun _ _ _ _ r h => by simp [skerryref01_Like.l0] at h
  | k + 1 => by
    have ih0 := skerryref01_Like.mono_l k
    · intro y0 y1 y2 y3
      unfold skerryref01_Like.l0
      repeat' first
      | (with_reducible exact ih0 _ _ _ _)
      | (with_reducible exact LeO.refl _)
      | (with_reducible exact LeO.none _)
      | (with_reducible refine LeO.ite ?_ ?_)
      | (with_reducible refine LeO.bind ?_ (fun _ => ?_))
      | exact ih0 _ _ _ _
      | exact LeO.none _
      | refine LeO.ite ?_ ?_
      | refine LeO.bind ?_ (fun _ => ?_)
theorem skerryref01_Like.mono : ∀ a0 a1 k, LeO (skerryref01_Like.f k a0 a1) (skerryref01_Like.f (k + 1) a0 a1) := by
  intro a0 a1 k
  have ih0 := skerryref01_Like.mono_l k
  unfold skerryref01_Like.f
  repeat' first
      | (with_reducible exact ih0 _ _ _ _)
      | (with_reducible exact LeO.refl _)
      | (with_reducible exact LeO.none _)
      | (with_reducible refine LeO.ite ?_ ?_)
      | (with_reducible refine LeO.bind ?_ (fun _ => ?_))
      | exact ih0 _ _ _ _
      | exact LeO.none _
      | refine LeO.ite ?_ ?_
      | refine LeO.bind ?_ (fun _ => ?_)
set_option maxHeartbeats 8000000 in
set_option maxRecDepth 100000 in
theorem skerryref01_Like.calls (k : Nat) (A0 : Option Addr) (c0 : Nat) (l0 : List (S101)) (A1 : Option Addr) (c1 : Nat) (l1 : List (S101)) (r : Bool) (w : World) (hr0 : Kd.C k101 w A0 l0.length l0) (hc0 : l0.length ≤ c0) (hr1 : Kd.C k101 w A1 l1.length l1) (hc1 : l1.length ≤ c1) (h : skerryref01_Like.f k l0 l1 = some r) :
    Calls Try.prog 72 #[.slice A0 l0.length c0, .slice A1 l1.length c1] w fun e w' => e = .returned (.bool r) ∧ Drawn0 w w' := by
  have hu101 := Try.underlying101
  have HR0 := Aside0.mk hr0
  have HC0 := Aside0.mk hc0
  clear hr0 hc0
  have HR1 := Aside0.mk hr1
  have HC1 := Aside0.mk hc1
  clear hr1 hc1
  have H : (if (l0.length : Int) = (l1.length : Int) then (skerryref01_Like.l0 k l0 l1 (l0.length : Int) 0) else (some false)) = some r := h
  clear h
  by_cases c3 : (l0.length : Int) = (l1.length : Int)
  · rw [if_pos c3] at H
    have c3b0 : ((l0.length : Int) == (l1.length : Int)) = true := beq_iff_eq.mpr c3
    have c3b1 : ((l0.length : Int) != (l1.length : Int)) = false := bne_eq_false_iff_eq.mpr c3
    have c3b2 : (l0.length == l1.length) = true := by first | simpa using c3 | (simp at c3 ⊢; omega)
    clear c3
    have H' := Aside0.mk H
    clear H
    go_enter Try.func72, Try.ntmps72
    go_wp2
    repeat (go_quiet (fail); try go_wp2)
    go_loopg [13] k (fun kq v13 w' => ∃ (x13_1 : Int), v13 = .int .i64 x13_1 ∧ Aside0 (skerryref01_Like.l0 kq l0 l1 (l0.length : Int) x13_1 = some r) ∧ Aside0 (kq ≤ k) ∧ Drawn0 w w')
    case atStart => exact ⟨(0), (by first | rfl | (simp; done) | (simp [*]; done)), H', ⟨Nat.le_refl _⟩, by repeat (first | exact Drawn0.refl _ | apply Drawn0.step)⟩
    case round =>
      clear H'
      try clear c1
      try clear p2
      try clear c3
      try clear c3b0
      try clear c3b1
      try clear c3b2
      obtain ⟨x13_1, rfl, HA, HK1, ⟨m1, rfl⟩⟩ := hrel
      cases gk with
      | zero => exact absurd HA.out (by simp [skerryref01_Like.l0])
      | succ k1 =>
        have H := HA.out
        clear HA
        simp only [skerryref01_Like.l0] at H
        by_cases c4 : x13_1 < (l0.length : Int)
        · rw [if_pos c4] at H
          have c4b0 : decide (x13_1 < (l0.length : Int)) = true := decide_eq_true c4
          clear c4
          by_cases c5 : 0 ≤ x13_1
          · rw [if_pos c5] at H
            have c5b0 : decide (0 ≤ x13_1) = true := decide_eq_true c5
            clear c5
            by_cases c6 : x13_1 < (l0.length : Int)
            · rw [if_pos c6] at H
              have c6b0 : decide (x13_1 < (l0.length : Int)) = true := decide_eq_true c6
              clear c6
              by_cases c7 : x13_1 < (l1.length : Int)
              · rw [if_pos c7] at H
                have c7b0 : decide (x13_1 < (l1.length : Int)) = true := decide_eq_true c7
                clear c7
                by_cases c8 : ((!((((rd_T101 l0 x13_1).f0.f0).toList) == (((rd_T101 l1 x13_1).f0.f0).toList)) || (!((((rd_T101 l0 x13_1).f0.f1).toList) == (((rd_T101 l1 x13_1).f0.f1).toList)) || (!(((rd_T101 l0 x13_1).f0.f2) == ((rd_T101 l1 x13_1).f0.f2)) || (!((((rd_T101 l0 x13_1).f0.f3).toList) == (((rd_T101 l1 x13_1).f0.f3).toList)))))) || ((!(((rd_T101 l0 x13_1).f1.f0) == ((rd_T101 l1 x13_1).f1.f0)) || (!(((rd_T101 l0 x13_1).f1.f1) == ((rd_T101 l1 x13_1).f1.f1)) || (!(((rd_T101 l0 x13_1).f1.f2) == ((rd_T101 l1 x13_1).f1.f2)) || ((!(((rd_T101 l0 x13_1).f1.f3.f0) == ((rd_T101 l1 x13_1).f1.f3.f0)) || (!(((rd_T101 l0 x13_1).f1.f3.f1) == ((rd_T101 l1 x13_1).f1.f3.f1)) || (!((((rd_T101 l0 x13_1).f1.f3.f2).toList) == (((rd_T101 l1 x13_1).f1.f3.f2).toList))))))))))) = true
                · rw [if_pos c8] at H
                  have c8b0 : ((!((((rd_T101 l0 x13_1).f0.f0).toList) == (((rd_T101 l1 x13_1).f0.f0).toList)) || (!((((rd_T101 l0 x13_1).f0.f1).toList) == (((rd_T101 l1 x13_1).f0.f1).toList)) || (!(((rd_T101 l0 x13_1).f0.f2) == ((rd_T101 l1 x13_1).f0.f2)) || (!((((rd_T101 l0 x13_1).f0.f3).toList) == (((rd_T101 l1 x13_1).f0.f3).toList)))))) || ((!(((rd_T101 l0 x13_1).f1.f0) == ((rd_T101 l1 x13_1).f1.f0)) || (!(((rd_T101 l0 x13_1).f1.f1) == ((rd_T101 l1 x13_1).f1.f1)) || (!(((rd_T101 l0 x13_1).f1.f2) == ((rd_T101 l1 x13_1).f1.f2)) || ((!(((rd_T101 l0 x13_1).f1.f3.f0) == ((rd_T101 l1 x13_1).f1.f3.f0)) || (!(((rd_T101 l0 x13_1).f1.f3.f1) == ((rd_T101 l1 x13_1).f1.f3.f1)) || (!((((rd_T101 l0 x13_1).f1.f3.f2).toList) == (((rd_T101 l1 x13_1).f1.f3.f2).toList))))))))))) = true := c8
                  clear c8
                  obtain rfl := Option.some.inj H
                  have p200 : 0 ≤ (x13_1 : Int) := of_decide_eq_true (by first | (with_reducible assumption) | assumption)
                  have q200 : x13_1 < (l0.length : Int) := of_decide_eq_true (by first | (with_reducible assumption) | assumption)
                  obtain ⟨ad200, e200, hx200_0, hx200_1, hx200_2, hx200_3, hx200_4, hx200_5, hx200_6, hx200_7, hx200_8, hx200_9⟩ := at_T101 HR0.out x13_1 p200 q200
                  cases e200
                  replace p200 := eq_true p200
                  replace q200 := eq_true q200
                  have p201 : 0 ≤ (x13_1 : Int) := of_decide_eq_true (by first | (with_reducible assumption) | assumption)
                  have q201 : x13_1 < (l1.length : Int) := of_decide_eq_true (by first | (with_reducible assumption) | assumption)
                  obtain ⟨ad201, e201, hx201_0, hx201_1, hx201_2, hx201_3, hx201_4, hx201_5, hx201_6, hx201_7, hx201_8, hx201_9⟩ := at_T101 HR1.out x13_1 p201 q201
                  cases e201
                  replace p201 := eq_true p201
                  replace q201 := eq_true q201
                  go_wp2
                  repeat (go_quiet (fail); try go_wp2)
                  go_ret
                  exact ⟨by first | rfl | (simp; done) | (simp [*]; done), by repeat (first | exact Drawn0.refl _ | apply Drawn0.step)⟩
                · rw [if_neg c8] at H
                  have c8b0 : ((!((((rd_T101 l0 x13_1).f0.f0).toList) == (((rd_T101 l1 x13_1).f0.f0).toList)) || (!((((rd_T101 l0 x13_1).f0.f1).toList) == (((rd_T101 l1 x13_1).f0.f1).toList)) || (!(((rd_T101 l0 x13_1).f0.f2) == ((rd_T101 l1 x13_1).f0.f2)) || (!((((rd_T101 l0 x13_1).f0.f3).toList) == (((rd_T101 l1 x13_1).f0.f3).toList)))))) || ((!(((rd_T101 l0 x13_1).f1.f0) == ((rd_T101 l1 x13_1).f1.f0)) || (!(((rd_T101 l0 x13_1).f1.f1) == ((rd_T101 l1 x13_1).f1.f1)) || (!(((rd_T101 l0 x13_1).f1.f2) == ((rd_T101 l1 x13_1).f1.f2)) || ((!(((rd_T101 l0 x13_1).f1.f3.f0) == ((rd_T101 l1 x13_1).f1.f3.f0)) || (!(((rd_T101 l0 x13_1).f1.f3.f1) == ((rd_T101 l1 x13_1).f1.f3.f1)) || (!((((rd_T101 l0 x13_1).f1.f3.f2).toList) == (((rd_T101 l1 x13_1).f1.f3.f2).toList))))))))))) = false := by simpa using c8
                  clear c8
                  have H' := Aside0.mk H
                  clear H
                  have p200 : 0 ≤ (x13_1 : Int) := of_decide_eq_true (by first | (with_reducible assumption) | assumption)
                  have q200 : x13_1 < (l0.length : Int) := of_decide_eq_true (by first | (with_reducible assumption) | assumption)
                  obtain ⟨ad200, e200, hx200_0, hx200_1, hx200_2, hx200_3, hx200_4, hx200_5, hx200_6, hx200_7, hx200_8, hx200_9⟩ := at_T101 HR0.out x13_1 p200 q200
                  cases e200
                  replace p200 := eq_true p200
                  replace q200 := eq_true q200
                  have p201 : 0 ≤ (x13_1 : Int) := of_decide_eq_true (by first | (with_reducible assumption) | assumption)
                  have q201 : x13_1 < (l1.length : Int) := of_decide_eq_true (by first | (with_reducible assumption) | assumption)
                  obtain ⟨ad201, e201, hx201_0, hx201_1, hx201_2, hx201_3, hx201_4, hx201_5, hx201_6, hx201_7, hx201_8, hx201_9⟩ := at_T101 HR1.out x13_1 p201 q201
                  cases e201
                  replace p201 := eq_true p201
                  replace q201 := eq_true q201
                  go_wp2
                  repeat (go_quiet (fail); try go_wp2)
                  go_roundg k1
                  case measure => have := HK1.out; omega
                  case rel => exact ⟨(wrap64 (x13_1 + 1)), (by first | rfl | (simp; done) | (simp [*]; done)), H', ⟨by have := HK1.out; omega⟩, by repeat (first | exact Drawn0.refl _ | apply Drawn0.step)⟩
              · rw [if_neg c7] at H
                exact absurd H (by simp)
            · rw [if_neg c6] at H
              exact absurd H (by simp)
          · rw [if_neg c5] at H
            exact absurd H (by simp)
        · rw [if_neg c4] at H
          have c4b0 : decide (x13_1 < (l0.length : Int)) = false := decide_eq_false c4
          clear c4
          obtain rfl := Option.some.inj H
          go_wp2
          repeat (go_quiet (fail); try go_wp2)
          go_ret
          exact ⟨by first | rfl | (simp; done) | (simp [*]; done), by repeat (first | exact Drawn0.refl _ | apply Drawn0.step)⟩
  · rw [if_neg c3] at H
    have c3b0 : ((l0.length : Int) == (l1.length : Int)) = false := beq_eq_false_iff_ne.mpr c3
    have c3b1 : ((l0.length : Int) != (l1.length : Int)) = true := bne_iff_ne.mpr c3
    have c3b2 : (l0.length == l1.length) = false := by first | simpa using c3 | (simp at c3 ⊢; omega)
    obtain rfl := Option.some.inj H
    go_enter Try.func72, Try.ntmps72
    go_wp2
    repeat (go_quiet (fail); try go_wp2)
    go_ret
    exact ⟨by first | rfl | (simp; done) | (simp [*]; done), by repeat (first | exact Drawn0.refl _ | apply Drawn0.step)⟩
end Go.Proofs.Ytcopbkdlpfcjpaa.G
namespace Go.Proofs.Ytcopbkdlpfcjpaa.G
open Go.RowKit Go.Proofs.YtcopbkdlpfcjpaaW.PrintWords Go.Proofs.YtcopbkdlpfcjpaaW.PrintLast Go.Proofs.YtcopbkdlpfcjpaaW.PrintMore Go.Proofs.Ytcopbkdlpfcjpaa.B Go.Proofs.Ytcopbkdlpfcjpaa.H
attribute [local go_sem] max2_int min2_int max_two min_two max_three min_three max_four min_four
set_option linter.unusedVariables false
set_option linter.unusedSimpArgs false
mutual
def skerrylaw01_CodecBack.j0 : Nat → Int → ByteArray → List (S101) → Bool → Option (Bool)
  | 0, _, _, _, _ => none
  | k + 1, x0, x1, x2, x26 => if x26 = true then ((skerrylaw01_lives.f).bind fun t221 => (some t221)) else ((codec_Put.f k ([] : List Int) x0).bind fun t222 => ((some (([7, 7] : List Int) : List Int)).bind fun y225 => (if t222.length + y225.length < 140737488355328 then ((codec_Get.f k (t222 ++ y225)).bind fun bt231 => ((codec_PutText.f k ([] : List Int) x1).bind fun t233 => (if t233.length < 140737488355328 then ((codec_GetText.f k (t233 ++ [0])).bind fun bt239 => (if bt231.1 = x0 then ((codec_Put.f k ([] : List Int) x0).bind fun t241 => (if bt231.2 = (t241.length : Int) then (if bt239.1.toList = x1.toList then ((codec_PutText.f k ([] : List Int) x1).bind fun t244 => (if bt239.2 = (t244.length : Int) then ((codec_Zig.f (wrap64 (x0))).bind fun t247 => ((codec_Zag.f t247).bind fun t248 => (skerrylaw01_CodecBack.j1 k x2 (t248 != (wrap64 (x0)))))) else (skerrylaw01_CodecBack.j1 k x2 true))) else (skerrylaw01_CodecBack.j1 k x2 true)) else (skerrylaw01_CodecBack.j1 k x2 true))) else (skerrylaw01_CodecBack.j1 k x2 true))) else (none)))) else (none))))
def skerrylaw01_CodecBack.j1 : Nat → List (S101) → Bool → Option (Bool)
  | 0, _, _ => none
  | k + 1, x2, x74 => if x74 = true then (some false) else (skerrylaw01_CodecBack.l0 k x2 ([] : List (S101)) x2 (x2.length : Int) 0)
def skerrylaw01_CodecBack.l0 : Nat → List (S101) → List (S101) → List (S101) → Int → Int → Option (Bool)
  | 0, _, _, _, _, _ => none
  | k + 1, x2, x11, x75, x76, x77 => if x77 < x76 then (if 0 ≤ x77 then (if x77 < (x75.length : Int) then (if (rd_T101 x75 x77).f1.f1 = true then (if x11.length < 1256584717458 then (skerrylaw01_CodecBack.l0 k x2 (x11 ++ [(⟨(⟨(rd_T101 x75 x77).f0.f0, (rd_T101 x75 x77).f0.f1, (rd_T101 x75 x77).f0.f2, (rd_T101 x75 x77).f0.f3⟩ : S95), (⟨(rd_T101 x75 x77).f1.f0, (rd_T101 x75 x77).f1.f1, (rd_T101 x75 x77).f1.f2, (⟨0, 0, (⟨#[]⟩ : ByteArray)⟩ : S97)⟩ : S99)⟩ : S101)]) x75 x76 (wrap64 (x77 + 1))) else (none)) else (if x11.length < 1256584717458 then (skerrylaw01_CodecBack.l0 k x2 (x11 ++ [(⟨(⟨(rd_T101 x75 x77).f0.f0, (rd_T101 x75 x77).f0.f1, (rd_T101 x75 x77).f0.f2, (rd_T101 x75 x77).f0.f3⟩ : S95), (⟨(rd_T101 x75 x77).f1.f0, (rd_T101 x75 x77).f1.f1, 0, (⟨(rd_T101 x75 x77).f1.f3.f0, (rd_T101 x75 x77).f1.f3.f1, (rd_T101 x75 x77).f1.f3.f2⟩ : S97)⟩ : S99)⟩ : S101)]) x75 x76 (wrap64 (x77 + 1))) else (none))) else (none)) else (none)) else ((codec_Cells.f k x2).bind fun t257 => ((codec_ReadCells.f t257).bind fun bt260 => ((some (([] : List Int) : List Int)).bind fun y264 => (if y264.length + t257.length < 140737488355328 then ((some (y264 ++ t257 : List Int)).bind fun y267 => (if y267.length < 140737488355328 then ((codec_ReadCells.f (y267 ++ [0])).bind fun bt273 => (if bt260.2 = 0 then ((skerryref01_Like.f k bt260.1 x11).bind fun t277 => (if t277 = true then (if bt273.2 = 8 then ((skerrylaw01_lives.f).bind fun t278 => (some t278)) else (some false)) else (some false))) else (some false))) else (none))) else (none)))))
end
def skerrylaw01_CodecBack.f (k : Nat) (a0 : Int) (a1 : ByteArray) (l2 : List (S101)) : Option (Bool) := if (a1.size : Int) > 10000 then (skerrylaw01_CodecBack.j0 k a0 a1 l2 true) else ((skerrylaw01_weigh.f k l2 500).bind fun t220 => (skerrylaw01_CodecBack.j0 k a0 a1 l2 (decide (t220 > 500))))
theorem skerrylaw01_CodecBack.mono_l : ∀ k, (∀ y0 y1 y2 y3, LeO (skerrylaw01_CodecBack.j0 k y0 y1 y2 y3) (skerrylaw01_CodecBack.j0 (k + 1) y0 y1 y2 y3)) ∧ (∀ y0 y1, LeO (skerrylaw01_CodecBack.j1 k y0 y1) (skerrylaw01_CodecBack.j1 (k + 1) y0 y1)) ∧ (∀ y0 y1 y2 y3 y4, LeO (skerrylaw01_CodecBack.l0 k y0 y1 y2 y3 y4) (skerrylaw01_CodecBack.l0 (k + 1) y0 y1 y2 y3 y4))
  | 0 => ⟨fun _ _ _ _ r h => by simp [skerrylaw01_CodecBack.j0] at h, fun _ _ r h => by simp [skerrylaw01_CodecBack.j1] at h, fun _ _ _ _ _ r h => by simp [skerrylaw01_CodecBack.l0] at h⟩
  | k + 1 => by
    obtain ⟨ih0, ih1, ih2⟩ := skerrylaw01_CodecBack.mono_l k
    refine ⟨?_, ?_, ?_⟩
    · intro y0 y1 y2 y3
      unfold skerrylaw01_CodecBack.j0
      repeat' first
      | (with_reducible exact ih0 _ _ _ _)
      | (with_reducible exact ih1 _ _)
      | (with_reducible exact ih2 _ _ _ _ _)
      | (with_reducible exact codec_Cells.mono _ _)
      | (with_reducible exact codec_Get.mono _ _)
      | (with_reducible exact codec_GetText.mono _ _)
      | (with_reducible exact codec_Put.mono _ _ _)
      | (with_reducible exact codec_PutText.mono _ _ _)
      | (with_reducible exact skerrylaw01_weigh.mono _ _ _)
      | (with_reducible exact skerryref01_Like.mono _ _ _)
      | (with_reducible exact LeO.refl _)
      | (with_reducible exact LeO.none _)
      | (with_reducible refine LeO.ite ?_ ?_)
      | (with_reducible refine LeO.bind ?_ (fun _ => ?_))
      | exact ih0 _ _ _ _
      | exact ih1 _ _
      | exact ih2 _ _ _ _ _
      | exact codec_Cells.mono _ _
      | exact codec_Get.mono _ _
      | exact codec_GetText.mono _ _
      | exact codec_Put.mono _ _ _
      | exact codec_PutText.mono _ _ _
      | exact skerrylaw01_weigh.mono _ _ _
      | exact skerryref01_Like.mono _ _ _
      | exact LeO.none _
      | refine LeO.ite ?_ ?_
      | refine LeO.bind ?_ (fun _ => ?_)
    · intro y0 y1
      unfold skerrylaw01_CodecBack.j1
      repeat' first
      | (with_reducible exact ih0 _ _ _ _)
      | (with_reducible exact ih1 _ _)
      | (with_reducible exact ih2 _ _ _ _ _)
      | (with_reducible exact codec_Cells.mono _ _)
      | (with_reducible exact codec_Get.mono _ _)
      | (with_reducible exact codec_GetText.mono _ _)
      | (with_reducible exact codec_Put.mono _ _ _)
      | (with_reducible exact codec_PutText.mono _ _ _)
      | (with_reducible exact skerrylaw01_weigh.mono _ _ _)
      | (with_reducible exact skerryref01_Like.mono _ _ _)
      | (with_reducible exact LeO.refl _)
      | (with_reducible exact LeO.none _)
      | (with_reducible refine LeO.ite ?_ ?_)
      | (with_reducible refine LeO.bind ?_ (fun _ => ?_))
      | exact ih0 _ _ _ _
      | exact ih1 _ _
      | exact ih2 _ _ _ _ _
      | exact codec_Cells.mono _ _
      | exact codec_Get.mono _ _
      | exact codec_GetText.mono _ _
      | exact codec_Put.mono _ _ _
      | exact codec_PutText.mono _ _ _
      | exact skerrylaw01_weigh.mono _ _ _
      | exact skerryref01_Like.mono _ _ _
      | exact LeO.none _
      | refine LeO.ite ?_ ?_
      | refine LeO.bind ?_ (fun _ => ?_)
    · intro y0 y1 y2 y3 y4
      unfold skerrylaw01_CodecBack.l0
      repeat' first
      | (with_reducible exact ih0 _ _ _ _)
      | (with_reducible exact ih1 _ _)
      | (with_reducible exact ih2 _ _ _ _ _)
      | (with_reducible exact codec_Cells.mono _ _)
      | (with_reducible exact codec_Get.mono _ _)
      | (with_reducible exact codec_GetText.mono _ _)
      | (with_reducible exact codec_Put.mono _ _ _)
      | (with_reducible exact codec_PutText.mono _ _ _)
      | (with_reducible exact skerrylaw01_weigh.mono _ _ _)
      | (with_reducible exact skerryref01_Like.mono _ _ _)
      | (with_reducible exact LeO.refl _)
      | (with_reducible exact LeO.none _)
      | (with_reducible refine LeO.ite ?_ ?_)
      | (with_reducible refine LeO.bind ?_ (fun _ => ?_))
      | exact ih0 _ _ _ _
      | exact ih1 _ _
      | exact ih2 _ _ _ _ _
      | exact codec_Cells.mono _ _
      | exact codec_Get.mono _ _
      | exact codec_GetText.mono _ _
      | exact codec_Put.mono _ _ _
      | exact codec_PutText.mono _ _ _
      | exact skerrylaw01_weigh.mono _ _ _
      | exact skerryref01_Like.mono _ _ _
      | exact LeO.none _
      | refine LeO.ite ?_ ?_
      | refine LeO.bind ?_ (fun _ => ?_)
theorem skerrylaw01_CodecBack.mono : ∀ a0 a1 a2 k, LeO (skerrylaw01_CodecBack.f k a0 a1 a2) (skerrylaw01_CodecBack.f (k + 1) a0 a1 a2) := by
  intro a0 a1 a2 k
  obtain ⟨ih0, ih1, ih2⟩ := skerrylaw01_CodecBack.mono_l k
  unfold skerrylaw01_CodecBack.f
  repeat' first
      | (with_reducible exact ih0 _ _ _ _)
      | (with_reducible exact ih1 _ _)
      | (with_reducible exact ih2 _ _ _ _ _)
      | (with_reducible exact codec_Cells.mono _ _)
      | (with_reducible exact codec_Get.mono _ _)
      | (with_reducible exact codec_GetText.mono _ _)
      | (with_reducible exact codec_Put.mono _ _ _)
      | (with_reducible exact codec_PutText.mono _ _ _)
      | (with_reducible exact skerrylaw01_weigh.mono _ _ _)
      | (with_reducible exact skerryref01_Like.mono _ _ _)
      | (with_reducible exact LeO.refl _)
      | (with_reducible exact LeO.none _)
      | (with_reducible refine LeO.ite ?_ ?_)
      | (with_reducible refine LeO.bind ?_ (fun _ => ?_))
      | exact ih0 _ _ _ _
      | exact ih1 _ _
      | exact ih2 _ _ _ _ _
      | exact codec_Cells.mono _ _
      | exact codec_Get.mono _ _
      | exact codec_GetText.mono _ _
      | exact codec_Put.mono _ _ _
      | exact codec_PutText.mono _ _ _
      | exact skerrylaw01_weigh.mono _ _ _
      | exact skerryref01_Like.mono _ _ _
      | exact LeO.none _
      | refine LeO.ite ?_ ?_
      | refine LeO.bind ?_ (fun _ => ?_)
set_option maxHeartbeats 8000000 in
set_option maxRecDepth 100000 in
theorem skerrylaw01_CodecBack.calls (k : Nat) (a0 : Int) (a1 : ByteArray) (A2 : Option Addr) (c2 : Nat) (l2 : List (S101)) (r : Bool) (w : World) (hr2 : Kd.C k101 w A2 l2.length l2) (hc2 : l2.length ≤ c2) (h : skerrylaw01_CodecBack.f k a0 a1 l2 = some r) :
    Calls Try.prog 20 #[.int .u64 a0, .string a1, .slice A2 l2.length c2] w fun e w' => e = .returned (.bool r) ∧ Below w.heap.size w w' := by
  have hu101 := Try.underlying101
  have hu97 := Try.underlying97
  have HR2 := Aside0.mk hr2
  have HC2 := Aside0.mk hc2
  clear hr2 hc2
  have HB := Aside0.mk (Below.refl w.heap.size w)
  have H : (if (a1.size : Int) > 10000 then (skerrylaw01_CodecBack.j0 k a0 a1 l2 true) else ((skerrylaw01_weigh.f k l2 500).bind fun t220 => (skerrylaw01_CodecBack.j0 k a0 a1 l2 (decide (t220 > 500))))) = some r := h
  clear h
  have HC4 := Aside0.mk H
  clear H
  go_enter Try.func20, Try.ntmps20
  go_upto_region 1 with (fail)
  go_cut [26] (fun v26 wc => ∃ (kq : Nat) (x26_3 : Bool), v26 = .bool x26_3 ∧ Aside0 (skerrylaw01_CodecBack.j0 kq a0 a1 l2 x26_3 = some r) ∧ Aside0 (kq ≤ k) ∧ Aside0 (Below w.heap.size w wc))
  case first =>
    have H := HC4.out
    clear HC4
    by_cases c5 : (a1.size : Int) > 10000
    · rw [if_pos c5] at H
      have c5b0 : decide (10000 < (a1.size : Int)) = true := decide_eq_true c5
      have c5b1 : decide (10000 < a1.size) = true := decide_eq_true (by omega)
      clear c5
      (first | rw [c5b0] | (simp only [i64_w, i32_w]; rw [c5b0]) | skip)
      have H' := Aside0.mk H
      clear H
      go_wp2
      go_meet
      case rel => exact ⟨_, (true), (by first | rfl | (simp; done) | (simp [*]; done)), H', ⟨by first | omega | exact Nat.le_refl _⟩, ⟨by repeat (first | (with_reducible first | exact HB.out | apply below_alloc | apply pw_below_drewN | apply below_drew1) | exact HB.out)⟩⟩
    · rw [if_neg c5] at H
      have c5b0 : decide (10000 < (a1.size : Int)) = false := decide_eq_false c5
      have c5b1 : decide (10000 < a1.size) = false := decide_eq_false (by omega)
      clear c5
      (first | rw [c5b0] | (simp only [i64_w, i32_w]; rw [c5b0]) | skip)
      replace H := Option.bind_eq_some_iff.mp H
      obtain ⟨t220, A60, H⟩ := H
      replace H : (skerrylaw01_CodecBack.j0 k a0 a1 l2 (decide (t220 > 500))) = some r := H
      have A6 := Aside0.mk A60
      clear A60
      have H' := Aside0.mk H
      clear H
      go_wp2_with (first | (go_at_call 67; (with_reducible refine (skerrylaw01_weigh.calls k _ _ l2 500 t220 _ ?side1 ?side2 A6.out).mono ?_); (case side1 => repeat (first | exact (Kd.C_below HR2.out HB.out) | (with_reducible refine Kd.C_alloc ?_ _) | (with_reducible refine Kd.C_drewN ?_ _) | (with_reducible refine Kd.C_drew ?_))); (case side2 => exact HC2.out); rintro e w7 ⟨rfl, hb⟩; have n0_ := Aside0.mk (below_step (by repeat (first | (with_reducible first | exact HB.out | apply below_alloc | apply pw_below_drewN | apply below_drew1) | exact HB.out)) hb); clear HB; have HB := n0_; clear n0_; (try clear hb); (try clear hb2); (try clear hk); (try clear hi)))
      go_meet
      case rel => exact ⟨_, (decide (t220 > 500)), (by first | rfl | (simp; done) | (simp [*]; done)), H', ⟨by first | omega | exact Nat.le_refl _⟩, ⟨by repeat (first | (with_reducible first | exact HB.out | apply below_alloc | apply pw_below_drewN | apply below_drew1) | exact HB.out)⟩⟩
  case rest =>
    clear HC4
    try clear c2
    try clear p2
    try clear c5
    try clear c5b0
    try clear c5b1
    obtain ⟨kq, x26_3, rfl, HA, HJ3, HB⟩ := hcut
    cases kq with
    | zero => exact absurd HA.out (by simp [skerrylaw01_CodecBack.j0])
    | succ kj3 =>
      have H := HA.out
      clear HA
      simp only [skerrylaw01_CodecBack.j0] at H
      by_cases c8 : x26_3 = true
      · subst c8
        have H1 : ((skerrylaw01_lives.f).bind fun t221 => (some t221)) = some r := by rw [if_pos rfl] at H; exact H
        clear H
        have H := H1
        clear H1
        replace H := Option.bind_eq_some_iff.mp H
        obtain ⟨t221, A90, H⟩ := H
        replace H : (some t221) = some r := H
        have A9 := Aside0.mk A90
        clear A90
        obtain rfl := Option.some.inj H
        go_wp2_with (first | ((with_reducible refine gate_callee (f := 23) rfl ?_); refine goesL_ (some 27) rfl rfl Try.func23 (by kernel_rfl) rfl #[] rfl (by (try simp only [List.map_toArray, List.map_cons, List.map_nil]); first | done | rfl | (simp only [List.length_drop, List.length_take]; rfl)) ?_; (with_reducible refine (skerrylaw01_lives.calls  t221 _ A9.out).mono ?_); rintro e w10 ⟨rfl, hb⟩; refine ⟨_, rfl, ?_⟩; have n0_ := Aside0.mk (below_step (by repeat (first | (with_reducible first | exact HB.out | apply below_alloc | apply pw_below_drewN | apply below_drew1) | exact HB.out)) hb); clear HB; have HB := n0_; clear n0_; (try clear hb); (try clear hb2); (try clear hk); (try clear hi)))
        go_ret
        exact ⟨by first | rfl | (simp [errW_none, errW_some] <;> rfl) | (simp [*, errW_none, errW_some] <;> rfl), by repeat (first | (with_reducible first | exact HB.out | apply below_alloc | apply pw_below_drewN | apply below_drew1) | exact HB.out)⟩
      · replace c8 := Bool.eq_false_iff.mpr c8
        subst c8
        have H1 : ((codec_Put.f kj3 ([] : List Int) a0).bind fun t222 => ((some (([7, 7] : List Int) : List Int)).bind fun y225 => (if t222.length + y225.length < 140737488355328 then ((codec_Get.f kj3 (t222 ++ y225)).bind fun bt231 => ((codec_PutText.f kj3 ([] : List Int) a1).bind fun t233 => (if t233.length < 140737488355328 then ((codec_GetText.f kj3 (t233 ++ [0])).bind fun bt239 => (if bt231.1 = a0 then ((codec_Put.f kj3 ([] : List Int) a0).bind fun t241 => (if bt231.2 = (t241.length : Int) then (if bt239.1.toList = a1.toList then ((codec_PutText.f kj3 ([] : List Int) a1).bind fun t244 => (if bt239.2 = (t244.length : Int) then ((codec_Zig.f (wrap64 (a0))).bind fun t247 => ((codec_Zag.f t247).bind fun t248 => (skerrylaw01_CodecBack.j1 kj3 l2 (t248 != (wrap64 (a0)))))) else (skerrylaw01_CodecBack.j1 kj3 l2 true))) else (skerrylaw01_CodecBack.j1 kj3 l2 true)) else (skerrylaw01_CodecBack.j1 kj3 l2 true))) else (skerrylaw01_CodecBack.j1 kj3 l2 true))) else (none)))) else (none)))) = some r := by rw [if_neg (show ¬ (false = true) by decide)] at H; exact H
        clear H
        have H := H1
        clear H1
        replace H := Option.bind_eq_some_iff.mp H
        obtain ⟨t222, A110, H⟩ := H
        replace H : ((some (([7, 7] : List Int) : List Int)).bind fun y225 => (if t222.length + y225.length < 140737488355328 then ((codec_Get.f kj3 (t222 ++ y225)).bind fun bt231 => ((codec_PutText.f kj3 ([] : List Int) a1).bind fun t233 => (if t233.length < 140737488355328 then ((codec_GetText.f kj3 (t233 ++ [0])).bind fun bt239 => (if bt231.1 = a0 then ((codec_Put.f kj3 ([] : List Int) a0).bind fun t241 => (if bt231.2 = (t241.length : Int) then (if bt239.1.toList = a1.toList then ((codec_PutText.f kj3 ([] : List Int) a1).bind fun t244 => (if bt239.2 = (t244.length : Int) then ((codec_Zig.f (wrap64 (a0))).bind fun t247 => ((codec_Zag.f t247).bind fun t248 => (skerrylaw01_CodecBack.j1 kj3 l2 (t248 != (wrap64 (a0)))))) else (skerrylaw01_CodecBack.j1 kj3 l2 true))) else (skerrylaw01_CodecBack.j1 kj3 l2 true)) else (skerrylaw01_CodecBack.j1 kj3 l2 true))) else (skerrylaw01_CodecBack.j1 kj3 l2 true))) else (none)))) else (none))) = some r := H
        have A11 := Aside0.mk A110
        clear A110
        obtain ⟨y225, hy225⟩ : ∃ y_ : List Int, y_ = (([7, 7] : List Int)) := ⟨_, rfl⟩
        replace H : (if t222.length + y225.length < 140737488355328 then ((codec_Get.f kj3 (t222 ++ y225)).bind fun bt231 => ((codec_PutText.f kj3 ([] : List Int) a1).bind fun t233 => (if t233.length < 140737488355328 then ((codec_GetText.f kj3 (t233 ++ [0])).bind fun bt239 => (if bt231.1 = a0 then ((codec_Put.f kj3 ([] : List Int) a0).bind fun t241 => (if bt231.2 = (t241.length : Int) then (if bt239.1.toList = a1.toList then ((codec_PutText.f kj3 ([] : List Int) a1).bind fun t244 => (if bt239.2 = (t244.length : Int) then ((codec_Zig.f (wrap64 (a0))).bind fun t247 => ((codec_Zag.f t247).bind fun t248 => (skerrylaw01_CodecBack.j1 kj3 l2 (t248 != (wrap64 (a0)))))) else (skerrylaw01_CodecBack.j1 kj3 l2 true))) else (skerrylaw01_CodecBack.j1 kj3 l2 true)) else (skerrylaw01_CodecBack.j1 kj3 l2 true))) else (skerrylaw01_CodecBack.j1 kj3 l2 true))) else (none)))) else (none)) = some r := by first | (rw [hy225]; with_reducible exact H) | (have H2_ := (Option.bind_some _ _).symm.trans H; rw [hy225]; with_reducible exact H2_) | (have H2_ := (Option.bind_some _ _).symm.trans H; with_reducible exact H2_) | with_reducible exact H | (rw [hy225]; exact H) | exact H
        have Ny225 := Aside0.mk hy225
        clear hy225
        by_cases c12 : t222.length + y225.length < 140737488355328
        · rw [if_pos c12] at H
          have LMc12 := Aside0.mk c12
          clear c12
          obtain ⟨y228, hy228⟩ : ∃ y_ : List Int, y_ = (t222 ++ y225) := ⟨_, rfl⟩
          replace H : ((codec_Get.f kj3 y228).bind fun bt231 => ((codec_PutText.f kj3 ([] : List Int) a1).bind fun t233 => (if t233.length < 140737488355328 then ((codec_GetText.f kj3 (t233 ++ [0])).bind fun bt239 => (if bt231.1 = a0 then ((codec_Put.f kj3 ([] : List Int) a0).bind fun t241 => (if bt231.2 = (t241.length : Int) then (if bt239.1.toList = a1.toList then ((codec_PutText.f kj3 ([] : List Int) a1).bind fun t244 => (if bt239.2 = (t244.length : Int) then ((codec_Zig.f (wrap64 (a0))).bind fun t247 => ((codec_Zag.f t247).bind fun t248 => (skerrylaw01_CodecBack.j1 kj3 l2 (t248 != (wrap64 (a0)))))) else (skerrylaw01_CodecBack.j1 kj3 l2 true))) else (skerrylaw01_CodecBack.j1 kj3 l2 true)) else (skerrylaw01_CodecBack.j1 kj3 l2 true))) else (skerrylaw01_CodecBack.j1 kj3 l2 true))) else (none)))) = some r := by first | (rw [hy228]; with_reducible exact H) | (have H2_ := (Option.bind_some _ _).symm.trans H; rw [hy228]; with_reducible exact H2_) | (have H2_ := (Option.bind_some _ _).symm.trans H; with_reducible exact H2_) | with_reducible exact H | (rw [hy228]; exact H) | exact H
          have Ny228 := Aside0.mk hy228
          clear hy228
          replace H := Option.bind_eq_some_iff.mp H
          obtain ⟨⟨t231, t232⟩, A130, H⟩ := H
          replace H : ((codec_PutText.f kj3 ([] : List Int) a1).bind fun t233 => (if t233.length < 140737488355328 then ((codec_GetText.f kj3 (t233 ++ [0])).bind fun bt239 => (if t231 = a0 then ((codec_Put.f kj3 ([] : List Int) a0).bind fun t241 => (if t232 = (t241.length : Int) then (if bt239.1.toList = a1.toList then ((codec_PutText.f kj3 ([] : List Int) a1).bind fun t244 => (if bt239.2 = (t244.length : Int) then ((codec_Zig.f (wrap64 (a0))).bind fun t247 => ((codec_Zag.f t247).bind fun t248 => (skerrylaw01_CodecBack.j1 kj3 l2 (t248 != (wrap64 (a0)))))) else (skerrylaw01_CodecBack.j1 kj3 l2 true))) else (skerrylaw01_CodecBack.j1 kj3 l2 true)) else (skerrylaw01_CodecBack.j1 kj3 l2 true))) else (skerrylaw01_CodecBack.j1 kj3 l2 true))) else (none))) = some r := H
          have A13 := Aside0.mk A130
          clear A130
          replace H := Option.bind_eq_some_iff.mp H
          obtain ⟨t233, A140, H⟩ := H
          replace H : (if t233.length < 140737488355328 then ((codec_GetText.f kj3 (t233 ++ [0])).bind fun bt239 => (if t231 = a0 then ((codec_Put.f kj3 ([] : List Int) a0).bind fun t241 => (if t232 = (t241.length : Int) then (if bt239.1.toList = a1.toList then ((codec_PutText.f kj3 ([] : List Int) a1).bind fun t244 => (if bt239.2 = (t244.length : Int) then ((codec_Zig.f (wrap64 (a0))).bind fun t247 => ((codec_Zag.f t247).bind fun t248 => (skerrylaw01_CodecBack.j1 kj3 l2 (t248 != (wrap64 (a0)))))) else (skerrylaw01_CodecBack.j1 kj3 l2 true))) else (skerrylaw01_CodecBack.j1 kj3 l2 true)) else (skerrylaw01_CodecBack.j1 kj3 l2 true))) else (skerrylaw01_CodecBack.j1 kj3 l2 true))) else (none)) = some r := H
          have A14 := Aside0.mk A140
          clear A140
          by_cases c15 : t233.length < 140737488355328
          · rw [if_pos c15] at H
            have LMc15 := Aside0.mk c15
            clear c15
            obtain ⟨y236, hy236⟩ : ∃ y_ : List Int, y_ = (t233 ++ [0]) := ⟨_, rfl⟩
            replace H : ((codec_GetText.f kj3 y236).bind fun bt239 => (if t231 = a0 then ((codec_Put.f kj3 ([] : List Int) a0).bind fun t241 => (if t232 = (t241.length : Int) then (if bt239.1.toList = a1.toList then ((codec_PutText.f kj3 ([] : List Int) a1).bind fun t244 => (if bt239.2 = (t244.length : Int) then ((codec_Zig.f (wrap64 (a0))).bind fun t247 => ((codec_Zag.f t247).bind fun t248 => (skerrylaw01_CodecBack.j1 kj3 l2 (t248 != (wrap64 (a0)))))) else (skerrylaw01_CodecBack.j1 kj3 l2 true))) else (skerrylaw01_CodecBack.j1 kj3 l2 true)) else (skerrylaw01_CodecBack.j1 kj3 l2 true))) else (skerrylaw01_CodecBack.j1 kj3 l2 true))) = some r := by first | (rw [hy236]; with_reducible exact H) | (have H2_ := (Option.bind_some _ _).symm.trans H; rw [hy236]; with_reducible exact H2_) | (have H2_ := (Option.bind_some _ _).symm.trans H; with_reducible exact H2_) | with_reducible exact H | (rw [hy236]; exact H) | exact H
            have Ny236 := Aside0.mk hy236
            clear hy236
            replace H := Option.bind_eq_some_iff.mp H
            obtain ⟨⟨t239, t240⟩, A160, H⟩ := H
            replace H : (if t231 = a0 then ((codec_Put.f kj3 ([] : List Int) a0).bind fun t241 => (if t232 = (t241.length : Int) then (if t239.toList = a1.toList then ((codec_PutText.f kj3 ([] : List Int) a1).bind fun t244 => (if t240 = (t244.length : Int) then ((codec_Zig.f (wrap64 (a0))).bind fun t247 => ((codec_Zag.f t247).bind fun t248 => (skerrylaw01_CodecBack.j1 kj3 l2 (t248 != (wrap64 (a0)))))) else (skerrylaw01_CodecBack.j1 kj3 l2 true))) else (skerrylaw01_CodecBack.j1 kj3 l2 true)) else (skerrylaw01_CodecBack.j1 kj3 l2 true))) else (skerrylaw01_CodecBack.j1 kj3 l2 true)) = some r := H
            have A16 := Aside0.mk A160
            clear A160
            have HC17 := Aside0.mk H
            clear H
            go_upto_region 5 with (first | ((with_reducible refine gate_callee (f := 24) rfl ?_); refine goesL_ (some 30) rfl rfl Try.func24 (by kernel_rfl) rfl #[.slice none 0 0, .int .u64 a0] rfl (by (try simp only [List.map_toArray, List.map_cons, List.map_nil]); first | done | rfl | (simp only [List.length_drop, List.length_take]; rfl)) ?_; (refine (codec_Put.calls kj3 _ _ ([] : List Int) a0 t222 _ ?side1 ?side2 A11.out).mono ?_); (case side1 => exact Kd.C_nil _ _); (case side2 => exact Nat.le_refl _); rintro e w18 ⟨v223, rfl, ho0, hb⟩; refine ⟨_, rfl, ?_⟩; have n0_ := Aside0.mk (Kd.R_lower ho0 (below_size (by repeat (first | (with_reducible first | exact HB.out | apply below_alloc | apply pw_below_drewN | apply below_drew1) | exact HB.out)))); have n1_ := Aside0.mk (below_step (by repeat (first | (with_reducible first | exact HB.out | apply below_alloc | apply pw_below_drewN | apply below_drew1) | exact HB.out)) hb); clear HB; have HO224 := n0_; have HB := n1_; clear n0_ n1_; (try clear hb); (try clear hb2); (try clear hk); (try clear hi); (try clear ho0)) | ((with_reducible refine gate_dst (N := 31) rfl ?_); (try (refine gate_guard (by rfl) ?_; dsimp only)); refine Kd.R_lit (Kd.int .u8) _ 5 ?hg (N := 31) ?hd (xs := ([7, 7] : List Int)) (inner := [.int .u8 7, .int .u8 7]) (ok := fun _ => True) (okp := fun _ => True) ?hr ?hp (fun _ hk => hk) trivial (Below.refl _ _) (Nat.le_refl _) (by simp) ?_; (case hd => rfl); (case hg => rfl); (case hr => first | (go_simp; done) | (go_simp; rfl)); (case hp => exact (Reps.one (show Kd.M (Kd.int .u8) _ _ _ 7 [.int .u8 7] from rfl) (Reps.one (show Kd.M (Kd.int .u8) _ _ _ 7 [.int .u8 7] from rfl) (Reps.none _ _)))); intro v226 w19 ho20 hb hg_ hnew_; clear hg_ hnew_; (first | rw [← Ny225.out] at ho20 | (simp only [Int.reduceToNat] at ho20; rw [← Ny225.out] at ho20)); have n0_ := Aside0.mk (Kd.R_elder' (by (with_reducible repeat (first | apply Kd.R_alloc | apply Kd.R_drewN | apply Kd.R_drew)); exact HO224.out) (Kd.R_base ho20) hb); have n1_ := Aside0.mk (Kd.R_lower (Kd.R_new' ho20 (Kd.R_lt (by (with_reducible repeat (first | apply Kd.R_alloc | apply Kd.R_drewN | apply Kd.R_drew)); exact HO224.out))) (below_size (by repeat (first | (with_reducible first | exact HB.out | apply below_alloc | apply pw_below_drewN | apply below_drew1) | exact HB.out)))); have n2_ := Aside0.mk (below_step (by repeat (first | (with_reducible first | exact HB.out | apply below_alloc | apply pw_below_drewN | apply below_drew1) | exact HB.out)) hb); clear HO224; clear HB; have HO224 := n0_; have HO227 := n1_; have HB := n2_; clear n0_ n1_ n2_; clear hb ho20; obtain ⟨Ao22, co22, eo22⟩ := Kd.R_slice HO227.out; subst eo22) | ((with_reducible refine gate_builtin (b := .append) (xs := #[.tmp 30, .tmp 31]) rfl ?_); (try (refine gate_guard (by rfl) ?_; dsimp only)); at_builtin; refine Kd.R_append_rows (Kd.int .u8) (w0 := w) w.heap.size rfl (.tmp 30) (.tmp 31) 27 5 (.int .u8 0) 1 rfl Try.underlying27 info5 rfl (by decide) (by omega) v223 t222 y225 _ _ _ (fun k_ => some k_ ≠ (.slice Ao22 y225.length co22 : Value).ownBlock) (fun _ => False) rfl rfl ?aO ?aR (fun _ _ h => h) (fun _ h => h.elim) ?aF ?aB ?aS ?aL ?_; (case aR => repeat (first | exact (Kd.R_reads' HO227.out).2.2 | (with_reducible refine Kd.C_alloc ?_ _) | (with_reducible refine Kd.C_drewN ?_ _) | (with_reducible refine Kd.C_drew ?_))); (case aB => exact (by repeat (first | (with_reducible first | exact HB.out | apply below_alloc | apply pw_below_drewN | apply below_drew1) | exact HB.out))); (case aF => exact (fun k_ hk => Kd.fresh' (Kd.R_lt (by (with_reducible repeat (first | apply Kd.R_alloc | apply Kd.R_drewN | apply Kd.R_drew)); exact HO227.out)) k_ hk)); (case aO => exact (by (with_reducible repeat (first | apply Kd.R_alloc | apply Kd.R_drewN | apply Kd.R_drew)); exact Kd.R_mono HO224.out (fun _ hk => hk.2))); (case aS => exact (below_size (by repeat (first | (with_reducible first | exact HB.out | apply below_alloc | apply pw_below_drewN | apply below_drew1) | exact HB.out)))); (case aL => have := LMc12.out; omega); intro v229 w21 ho hb hg hat; rw [← Ny228.out] at ho; have n0_ := Aside0.mk (Kd.R_after (ok := (fun _ => True)) (by (with_reducible repeat (first | apply Kd.R_alloc | apply Kd.R_drewN | apply Kd.R_drew)); exact HO227.out) hg hat); have n1_ := Aside0.mk (hb); have n2_ := Aside0.mk (ho); clear HO227; clear HB; clear HO224; have HO227 := n0_; have HB := n1_; have HO230 := n2_; clear n0_ n1_ n2_; clear ho hb hg hat; obtain ⟨Ao23, co23, eo23⟩ := Kd.R_slice HO230.out; subst eo23) | ((with_reducible refine gate_callee (f := 25) rfl ?_); refine goesL_ (some 33) rfl rfl Try.func25 (by kernel_rfl) rfl #[.slice Ao23 y228.length co23] rfl (by (try simp only [List.map_toArray, List.map_cons, List.map_nil]); first | done | rfl | (simp only [List.length_drop, List.length_take]; rfl)) ?_; (with_reducible refine (codec_Get.calls kj3 _ _ y228 t231 t232 _ ?side1 ?side2 A13.out).mono ?_); (case side1 => repeat (first | exact (Kd.R_reads' HO230.out).2.2 | (with_reducible refine Kd.C_alloc ?_ _) | (with_reducible refine Kd.C_drewN ?_ _) | (with_reducible refine Kd.C_drew ?_))); (case side2 => exact (Kd.R_reads' HO230.out).2.1); rintro e w' ⟨rfl, ⟨nd, rfl⟩⟩; refine ⟨_, rfl, ?_⟩) | ((with_reducible refine gate_callee (f := 35) rfl ?_); refine goesL_ (some 38) rfl rfl Try.func35 (by kernel_rfl) rfl #[.slice none 0 0, .string a1] rfl (by (try simp only [List.map_toArray, List.map_cons, List.map_nil]); first | done | rfl | (simp only [List.length_drop, List.length_take]; rfl)) ?_; (refine (codec_PutText.calls kj3 _ _ ([] : List Int) a1 t233 _ ?side1 ?side2 A14.out).mono ?_); (case side1 => exact Kd.C_nil _ _); (case side2 => exact Nat.le_refl _); rintro e w24 ⟨v234, rfl, ho0, hb⟩; refine ⟨_, rfl, ?_⟩; have n0_ := Aside0.mk (Kd.R_elder' (by (with_reducible repeat (first | apply Kd.R_alloc | apply Kd.R_drewN | apply Kd.R_drew)); exact HO227.out) (Kd.R_base ho0) hb); have n1_ := Aside0.mk (Kd.R_elder' (by (with_reducible repeat (first | apply Kd.R_alloc | apply Kd.R_drewN | apply Kd.R_drew)); exact HO230.out) (Kd.R_base ho0) hb); have n2_ := Aside0.mk (Kd.R_lower (Kd.R_new' (Kd.R_new' ho0 (Kd.R_lt (by (with_reducible repeat (first | apply Kd.R_alloc | apply Kd.R_drewN | apply Kd.R_drew)); exact HO227.out))) (Kd.R_lt (by (with_reducible repeat (first | apply Kd.R_alloc | apply Kd.R_drewN | apply Kd.R_drew)); exact HO230.out))) (below_size (by repeat (first | (with_reducible first | exact HB.out | apply below_alloc | apply pw_below_drewN | apply below_drew1) | exact HB.out)))); have n3_ := Aside0.mk (below_step (by repeat (first | (with_reducible first | exact HB.out | apply below_alloc | apply pw_below_drewN | apply below_drew1) | exact HB.out)) hb); clear HO227; clear HO230; clear HB; have HO227 := n0_; have HO230 := n1_; have HO235 := n2_; have HB := n3_; clear n0_ n1_ n2_ n3_; (try clear hb); (try clear hb2); (try clear hk); (try clear hi); (try clear ho0)) | ((with_reducible refine gate_builtin (b := .append) (xs := #[.tmp 38, .tmp 39]) rfl ?_); (try (refine gate_guard (by rfl) ?_; dsimp only)); at_builtin; refine Kd.R_append (Kd.int .u8) (w0 := w) w.heap.size rfl (.tmp 38) (.tmp 39) 27 5 (.int .u8 0) 1 rfl Try.underlying27 info5 rfl (by decide) (by omega) v234 t233 0 [.int .u8 0] (fun k_ => some k_ ≠ (.slice Ao22 y225.length co22 : Value).ownBlock ∧ some k_ ≠ (.slice Ao23 y228.length co23 : Value).ownBlock) (fun _ => False) rfl rfl ?aP (fun _ hk => hk.elim) ?aF ?aO ?aB ?aS ?aL ?_; (case aP => exact rfl); (case aB => exact (by repeat (first | (with_reducible first | exact HB.out | apply below_alloc | apply pw_below_drewN | apply below_drew1) | exact HB.out))); (case aF => exact (fun k_ hk => ⟨Kd.fresh' (Kd.R_lt (by (with_reducible repeat (first | apply Kd.R_alloc | apply Kd.R_drewN | apply Kd.R_drew)); exact HO227.out)) k_ hk, Kd.fresh' (Kd.R_lt (by (with_reducible repeat (first | apply Kd.R_alloc | apply Kd.R_drewN | apply Kd.R_drew)); exact HO230.out)) k_ hk⟩)); (case aO => exact (by (with_reducible repeat (first | apply Kd.R_alloc | apply Kd.R_drewN | apply Kd.R_drew)); exact Kd.R_mono HO235.out (fun _ hk => ⟨hk.1.2, hk.2⟩))); (case aS => exact (below_size (by repeat (first | (with_reducible first | exact HB.out | apply below_alloc | apply pw_below_drewN | apply below_drew1) | exact HB.out)))); (case aL => have := LMc15.out; omega); intro v237 w25 ho hb hg hat; rw [← Ny236.out] at ho; have n0_ := Aside0.mk (Kd.R_after (ok := (fun k_ => some k_ ≠ (.slice Ao23 y228.length co23 : Value).ownBlock)) (by (with_reducible repeat (first | apply Kd.R_alloc | apply Kd.R_drewN | apply Kd.R_drew)); exact Kd.R_mono HO227.out (fun _ hk => ⟨hk.1.2, hk.2⟩)) hg hat); have n1_ := Aside0.mk (Kd.R_after (ok := (fun k_ => some k_ ≠ (.slice Ao22 y225.length co22 : Value).ownBlock)) (by (with_reducible repeat (first | apply Kd.R_alloc | apply Kd.R_drewN | apply Kd.R_drew)); exact HO230.out) hg hat); have n2_ := Aside0.mk (hb); have n3_ := Aside0.mk (ho); clear HO227; clear HO230; clear HB; clear HO235; have HO227 := n0_; have HO230 := n1_; have HB := n2_; have HO238 := n3_; clear n0_ n1_ n2_ n3_; clear ho hb hg hat; obtain ⟨Ao26, co26, eo26⟩ := Kd.R_slice HO238.out; subst eo26) | ((with_reducible refine gate_callee (f := 33) rfl ?_); refine goesL_ (some 41) rfl rfl Try.func33 (by kernel_rfl) rfl #[.slice Ao26 y236.length co26] rfl (by (try simp only [List.map_toArray, List.map_cons, List.map_nil]); first | done | rfl | (simp only [List.length_drop, List.length_take]; rfl)) ?_; (with_reducible refine (codec_GetText.calls kj3 _ _ y236 t239 t240 _ ?side1 ?side2 A16.out).mono ?_); (case side1 => repeat (first | exact (Kd.R_reads' HO238.out).2.2 | (with_reducible refine Kd.C_alloc ?_ _) | (with_reducible refine Kd.C_drewN ?_ _) | (with_reducible refine Kd.C_drew ?_))); (case side2 => exact (Kd.R_reads' HO238.out).2.1); rintro e w' ⟨rfl, ⟨nd, rfl⟩⟩; refine ⟨_, rfl, ?_⟩))
            (try simp only [Act.put, List.setIfInBounds_toArray, List.set_cons_zero, List.set_cons_succ])
            go_cut [74] (fun v74 wc => ∃ (kq : Nat) (x74_16 : Bool), v74 = .bool x74_16 ∧ Aside0 (skerrylaw01_CodecBack.j1 kq l2 x74_16 = some r) ∧ Aside0 (kq ≤ kj3) ∧ Aside0 (Below w.heap.size w wc))
            case first =>
              have H := HC17.out
              clear HC17
              by_cases c27 : t231 = a0
              · rw [if_pos c27] at H
                have c27b0 : (t231 == a0) = true := beq_iff_eq.mpr c27
                have c27b1 : (t231 != a0) = false := bne_eq_false_iff_eq.mpr c27
                clear c27
                (first | rw [c27b0] | (simp only [i64_w, i32_w]; rw [c27b0]) | skip)
                replace H := Option.bind_eq_some_iff.mp H
                obtain ⟨t241, A280, H⟩ := H
                replace H : (if t232 = (t241.length : Int) then (if t239.toList = a1.toList then ((codec_PutText.f kj3 ([] : List Int) a1).bind fun t244 => (if t240 = (t244.length : Int) then ((codec_Zig.f (wrap64 (a0))).bind fun t247 => ((codec_Zag.f t247).bind fun t248 => (skerrylaw01_CodecBack.j1 kj3 l2 (t248 != (wrap64 (a0)))))) else (skerrylaw01_CodecBack.j1 kj3 l2 true))) else (skerrylaw01_CodecBack.j1 kj3 l2 true)) else (skerrylaw01_CodecBack.j1 kj3 l2 true)) = some r := H
                have A28 := Aside0.mk A280
                clear A280
                by_cases c29 : t232 = (t241.length : Int)
                · rw [if_pos c29] at H
                  have c29b0 : (t232 == (t241.length : Int)) = true := beq_iff_eq.mpr c29
                  have c29b1 : (t232 != (t241.length : Int)) = false := bne_eq_false_iff_eq.mpr c29
                  clear c29
                  by_cases c30 : t239.toList = a1.toList
                  · rw [if_pos c30] at H
                    have c30b0 : (t239.toList == a1.toList) = true := beq_iff_eq.mpr c30
                    have c30b1 : (t239.toList != a1.toList) = false := bne_eq_false_iff_eq.mpr c30
                    clear c30
                    replace H := Option.bind_eq_some_iff.mp H
                    obtain ⟨t244, A310, H⟩ := H
                    replace H : (if t240 = (t244.length : Int) then ((codec_Zig.f (wrap64 (a0))).bind fun t247 => ((codec_Zag.f t247).bind fun t248 => (skerrylaw01_CodecBack.j1 kj3 l2 (t248 != (wrap64 (a0)))))) else (skerrylaw01_CodecBack.j1 kj3 l2 true)) = some r := H
                    have A31 := Aside0.mk A310
                    clear A310
                    by_cases c32 : t240 = (t244.length : Int)
                    · rw [if_pos c32] at H
                      have c32b0 : (t240 == (t244.length : Int)) = true := beq_iff_eq.mpr c32
                      have c32b1 : (t240 != (t244.length : Int)) = false := bne_eq_false_iff_eq.mpr c32
                      clear c32
                      replace H := Option.bind_eq_some_iff.mp H
                      obtain ⟨t247, A330, H⟩ := H
                      replace H : ((codec_Zag.f t247).bind fun t248 => (skerrylaw01_CodecBack.j1 kj3 l2 (t248 != (wrap64 (a0))))) = some r := H
                      have A33 := Aside0.mk A330
                      clear A330
                      replace H := Option.bind_eq_some_iff.mp H
                      obtain ⟨t248, A340, H⟩ := H
                      replace H : (skerrylaw01_CodecBack.j1 kj3 l2 (t248 != (wrap64 (a0)))) = some r := H
                      have A34 := Aside0.mk A340
                      clear A340
                      have H' := Aside0.mk H
                      clear H
                      go_wp2_with (first | (go_at_call 24; (refine (codec_Put.calls kj3 _ _ ([] : List Int) a0 t241 _ ?side1 ?side2 A28.out).mono ?_); (case side1 => exact Kd.C_nil _ _); (case side2 => exact Nat.le_refl _); rintro e w35 ⟨v242, rfl, ho0, hb⟩; have n0_ := Aside0.mk (Kd.R_elder' (by (with_reducible repeat (first | apply Kd.R_alloc | apply Kd.R_drewN | apply Kd.R_drew)); exact HO227.out) (Kd.R_base ho0) hb); have n1_ := Aside0.mk (Kd.R_elder' (by (with_reducible repeat (first | apply Kd.R_alloc | apply Kd.R_drewN | apply Kd.R_drew)); exact HO230.out) (Kd.R_base ho0) hb); have n2_ := Aside0.mk (Kd.R_elder' (by (with_reducible repeat (first | apply Kd.R_alloc | apply Kd.R_drewN | apply Kd.R_drew)); exact HO238.out) (Kd.R_base ho0) hb); have n3_ := Aside0.mk (Kd.R_lower (Kd.R_new' (Kd.R_new' (Kd.R_new' ho0 (Kd.R_lt (by (with_reducible repeat (first | apply Kd.R_alloc | apply Kd.R_drewN | apply Kd.R_drew)); exact HO227.out))) (Kd.R_lt (by (with_reducible repeat (first | apply Kd.R_alloc | apply Kd.R_drewN | apply Kd.R_drew)); exact HO230.out))) (Kd.R_lt (by (with_reducible repeat (first | apply Kd.R_alloc | apply Kd.R_drewN | apply Kd.R_drew)); exact HO238.out))) (below_size (by repeat (first | (with_reducible first | exact HB.out | apply below_alloc | apply pw_below_drewN | apply below_drew1) | exact HB.out)))); have n4_ := Aside0.mk (below_step (by repeat (first | (with_reducible first | exact HB.out | apply below_alloc | apply pw_below_drewN | apply below_drew1) | exact HB.out)) hb); clear HO227; clear HO230; clear HO238; clear HB; have HO227 := n0_; have HO230 := n1_; have HO238 := n2_; have HO243 := n3_; have HB := n4_; clear n0_ n1_ n2_ n3_ n4_; (try clear hb); (try clear hb2); (try clear hk); (try clear hi); (try clear ho0); obtain ⟨Ao36, co36, eo36⟩ := Kd.R_slice HO243.out; subst eo36) | (go_at_call 35; (refine (codec_PutText.calls kj3 _ _ ([] : List Int) a1 t244 _ ?side1 ?side2 A31.out).mono ?_); (case side1 => exact Kd.C_nil _ _); (case side2 => exact Nat.le_refl _); rintro e w37 ⟨v245, rfl, ho0, hb⟩; have n0_ := Aside0.mk (Kd.R_elder' (by (with_reducible repeat (first | apply Kd.R_alloc | apply Kd.R_drewN | apply Kd.R_drew)); exact HO227.out) (Kd.R_base ho0) hb); have n1_ := Aside0.mk (Kd.R_elder' (by (with_reducible repeat (first | apply Kd.R_alloc | apply Kd.R_drewN | apply Kd.R_drew)); exact HO230.out) (Kd.R_base ho0) hb); have n2_ := Aside0.mk (Kd.R_elder' (by (with_reducible repeat (first | apply Kd.R_alloc | apply Kd.R_drewN | apply Kd.R_drew)); exact HO238.out) (Kd.R_base ho0) hb); have n3_ := Aside0.mk (Kd.R_elder' (by (with_reducible repeat (first | apply Kd.R_alloc | apply Kd.R_drewN | apply Kd.R_drew)); exact HO243.out) (Kd.R_base ho0) hb); have n4_ := Aside0.mk (Kd.R_lower (Kd.R_new' (Kd.R_new' (Kd.R_new' (Kd.R_new' ho0 (Kd.R_lt (by (with_reducible repeat (first | apply Kd.R_alloc | apply Kd.R_drewN | apply Kd.R_drew)); exact HO227.out))) (Kd.R_lt (by (with_reducible repeat (first | apply Kd.R_alloc | apply Kd.R_drewN | apply Kd.R_drew)); exact HO230.out))) (Kd.R_lt (by (with_reducible repeat (first | apply Kd.R_alloc | apply Kd.R_drewN | apply Kd.R_drew)); exact HO238.out))) (Kd.R_lt (by (with_reducible repeat (first | apply Kd.R_alloc | apply Kd.R_drewN | apply Kd.R_drew)); exact HO243.out))) (below_size (by repeat (first | (with_reducible first | exact HB.out | apply below_alloc | apply pw_below_drewN | apply below_drew1) | exact HB.out)))); have n5_ := Aside0.mk (below_step (by repeat (first | (with_reducible first | exact HB.out | apply below_alloc | apply pw_below_drewN | apply below_drew1) | exact HB.out)) hb); clear HO227; clear HO230; clear HO238; clear HO243; clear HB; have HO227 := n0_; have HO230 := n1_; have HO238 := n2_; have HO243 := n3_; have HO246 := n4_; have HB := n5_; clear n0_ n1_ n2_ n3_ n4_ n5_; (try clear hb); (try clear hb2); (try clear hk); (try clear hi); (try clear ho0); obtain ⟨Ao38, co38, eo38⟩ := Kd.R_slice HO246.out; subst eo38) | (go_at_call 21; (with_reducible refine (codec_Zig.calls (wrap64 (a0)) t247 _ A33.out).mono ?_); rintro e w' ⟨rfl, ⟨nd, rfl⟩⟩) | (go_at_call 22; (with_reducible refine (codec_Zag.calls t247 t248 _ A34.out).mono ?_); rintro e w' ⟨rfl, ⟨nd, rfl⟩⟩))
                      go_meet
                      case rel => exact ⟨_, ((t248 != (wrap64 (a0)))), (by first | rfl | (simp; done) | (simp [*]; done)), H', ⟨by have := HJ3.out; first | omega | exact Nat.le_refl _⟩, ⟨by repeat (first | (with_reducible first | exact HB.out | apply below_alloc | apply pw_below_drewN | apply below_drew1) | exact HB.out)⟩⟩
                    · rw [if_neg c32] at H
                      have c32b0 : (t240 == (t244.length : Int)) = false := beq_eq_false_iff_ne.mpr c32
                      have c32b1 : (t240 != (t244.length : Int)) = true := bne_iff_ne.mpr c32
                      have H' := Aside0.mk H
                      clear H
                      go_wp2_with (first | (go_at_call 24; (refine (codec_Put.calls kj3 _ _ ([] : List Int) a0 t241 _ ?side1 ?side2 A28.out).mono ?_); (case side1 => exact Kd.C_nil _ _); (case side2 => exact Nat.le_refl _); rintro e w39 ⟨v242, rfl, ho0, hb⟩; have n0_ := Aside0.mk (Kd.R_elder' (by (with_reducible repeat (first | apply Kd.R_alloc | apply Kd.R_drewN | apply Kd.R_drew)); exact HO227.out) (Kd.R_base ho0) hb); have n1_ := Aside0.mk (Kd.R_elder' (by (with_reducible repeat (first | apply Kd.R_alloc | apply Kd.R_drewN | apply Kd.R_drew)); exact HO230.out) (Kd.R_base ho0) hb); have n2_ := Aside0.mk (Kd.R_elder' (by (with_reducible repeat (first | apply Kd.R_alloc | apply Kd.R_drewN | apply Kd.R_drew)); exact HO238.out) (Kd.R_base ho0) hb); have n3_ := Aside0.mk (Kd.R_lower (Kd.R_new' (Kd.R_new' (Kd.R_new' ho0 (Kd.R_lt (by (with_reducible repeat (first | apply Kd.R_alloc | apply Kd.R_drewN | apply Kd.R_drew)); exact HO227.out))) (Kd.R_lt (by (with_reducible repeat (first | apply Kd.R_alloc | apply Kd.R_drewN | apply Kd.R_drew)); exact HO230.out))) (Kd.R_lt (by (with_reducible repeat (first | apply Kd.R_alloc | apply Kd.R_drewN | apply Kd.R_drew)); exact HO238.out))) (below_size (by repeat (first | (with_reducible first | exact HB.out | apply below_alloc | apply pw_below_drewN | apply below_drew1) | exact HB.out)))); have n4_ := Aside0.mk (below_step (by repeat (first | (with_reducible first | exact HB.out | apply below_alloc | apply pw_below_drewN | apply below_drew1) | exact HB.out)) hb); clear HO227; clear HO230; clear HO238; clear HB; have HO227 := n0_; have HO230 := n1_; have HO238 := n2_; have HO243 := n3_; have HB := n4_; clear n0_ n1_ n2_ n3_ n4_; (try clear hb); (try clear hb2); (try clear hk); (try clear hi); (try clear ho0); obtain ⟨Ao40, co40, eo40⟩ := Kd.R_slice HO243.out; subst eo40) | (go_at_call 35; (refine (codec_PutText.calls kj3 _ _ ([] : List Int) a1 t244 _ ?side1 ?side2 A31.out).mono ?_); (case side1 => exact Kd.C_nil _ _); (case side2 => exact Nat.le_refl _); rintro e w41 ⟨v245, rfl, ho0, hb⟩; have n0_ := Aside0.mk (Kd.R_elder' (by (with_reducible repeat (first | apply Kd.R_alloc | apply Kd.R_drewN | apply Kd.R_drew)); exact HO227.out) (Kd.R_base ho0) hb); have n1_ := Aside0.mk (Kd.R_elder' (by (with_reducible repeat (first | apply Kd.R_alloc | apply Kd.R_drewN | apply Kd.R_drew)); exact HO230.out) (Kd.R_base ho0) hb); have n2_ := Aside0.mk (Kd.R_elder' (by (with_reducible repeat (first | apply Kd.R_alloc | apply Kd.R_drewN | apply Kd.R_drew)); exact HO238.out) (Kd.R_base ho0) hb); have n3_ := Aside0.mk (Kd.R_elder' (by (with_reducible repeat (first | apply Kd.R_alloc | apply Kd.R_drewN | apply Kd.R_drew)); exact HO243.out) (Kd.R_base ho0) hb); have n4_ := Aside0.mk (Kd.R_lower (Kd.R_new' (Kd.R_new' (Kd.R_new' (Kd.R_new' ho0 (Kd.R_lt (by (with_reducible repeat (first | apply Kd.R_alloc | apply Kd.R_drewN | apply Kd.R_drew)); exact HO227.out))) (Kd.R_lt (by (with_reducible repeat (first | apply Kd.R_alloc | apply Kd.R_drewN | apply Kd.R_drew)); exact HO230.out))) (Kd.R_lt (by (with_reducible repeat (first | apply Kd.R_alloc | apply Kd.R_drewN | apply Kd.R_drew)); exact HO238.out))) (Kd.R_lt (by (with_reducible repeat (first | apply Kd.R_alloc | apply Kd.R_drewN | apply Kd.R_drew)); exact HO243.out))) (below_size (by repeat (first | (with_reducible first | exact HB.out | apply below_alloc | apply pw_below_drewN | apply below_drew1) | exact HB.out)))); have n5_ := Aside0.mk (below_step (by repeat (first | (with_reducible first | exact HB.out | apply below_alloc | apply pw_below_drewN | apply below_drew1) | exact HB.out)) hb); clear HO227; clear HO230; clear HO238; clear HO243; clear HB; have HO227 := n0_; have HO230 := n1_; have HO238 := n2_; have HO243 := n3_; have HO246 := n4_; have HB := n5_; clear n0_ n1_ n2_ n3_ n4_ n5_; (try clear hb); (try clear hb2); (try clear hk); (try clear hi); (try clear ho0); obtain ⟨Ao42, co42, eo42⟩ := Kd.R_slice HO246.out; subst eo42))
                      go_meet
                      case rel => exact ⟨_, (true), (by first | rfl | (simp; done) | (simp [*]; done)), H', ⟨by have := HJ3.out; first | omega | exact Nat.le_refl _⟩, ⟨by repeat (first | (with_reducible first | exact HB.out | apply below_alloc | apply pw_below_drewN | apply below_drew1) | exact HB.out)⟩⟩
                  · rw [if_neg c30] at H
                    have c30b0 : (t239.toList == a1.toList) = false := beq_eq_false_iff_ne.mpr c30
                    have c30b1 : (t239.toList != a1.toList) = true := bne_iff_ne.mpr c30
                    have H' := Aside0.mk H
                    clear H
                    go_wp2_with (first | (go_at_call 24; (refine (codec_Put.calls kj3 _ _ ([] : List Int) a0 t241 _ ?side1 ?side2 A28.out).mono ?_); (case side1 => exact Kd.C_nil _ _); (case side2 => exact Nat.le_refl _); rintro e w43 ⟨v242, rfl, ho0, hb⟩; have n0_ := Aside0.mk (Kd.R_elder' (by (with_reducible repeat (first | apply Kd.R_alloc | apply Kd.R_drewN | apply Kd.R_drew)); exact HO227.out) (Kd.R_base ho0) hb); have n1_ := Aside0.mk (Kd.R_elder' (by (with_reducible repeat (first | apply Kd.R_alloc | apply Kd.R_drewN | apply Kd.R_drew)); exact HO230.out) (Kd.R_base ho0) hb); have n2_ := Aside0.mk (Kd.R_elder' (by (with_reducible repeat (first | apply Kd.R_alloc | apply Kd.R_drewN | apply Kd.R_drew)); exact HO238.out) (Kd.R_base ho0) hb); have n3_ := Aside0.mk (Kd.R_lower (Kd.R_new' (Kd.R_new' (Kd.R_new' ho0 (Kd.R_lt (by (with_reducible repeat (first | apply Kd.R_alloc | apply Kd.R_drewN | apply Kd.R_drew)); exact HO227.out))) (Kd.R_lt (by (with_reducible repeat (first | apply Kd.R_alloc | apply Kd.R_drewN | apply Kd.R_drew)); exact HO230.out))) (Kd.R_lt (by (with_reducible repeat (first | apply Kd.R_alloc | apply Kd.R_drewN | apply Kd.R_drew)); exact HO238.out))) (below_size (by repeat (first | (with_reducible first | exact HB.out | apply below_alloc | apply pw_below_drewN | apply below_drew1) | exact HB.out)))); have n4_ := Aside0.mk (below_step (by repeat (first | (with_reducible first | exact HB.out | apply below_alloc | apply pw_below_drewN | apply below_drew1) | exact HB.out)) hb); clear HO227; clear HO230; clear HO238; clear HB; have HO227 := n0_; have HO230 := n1_; have HO238 := n2_; have HO243 := n3_; have HB := n4_; clear n0_ n1_ n2_ n3_ n4_; (try clear hb); (try clear hb2); (try clear hk); (try clear hi); (try clear ho0); obtain ⟨Ao44, co44, eo44⟩ := Kd.R_slice HO243.out; subst eo44))
                    go_meet
                    case rel => exact ⟨_, (true), (by first | rfl | (simp; done) | (simp [*]; done)), H', ⟨by have := HJ3.out; first | omega | exact Nat.le_refl _⟩, ⟨by repeat (first | (with_reducible first | exact HB.out | apply below_alloc | apply pw_below_drewN | apply below_drew1) | exact HB.out)⟩⟩
                · rw [if_neg c29] at H
                  have c29b0 : (t232 == (t241.length : Int)) = false := beq_eq_false_iff_ne.mpr c29
                  have c29b1 : (t232 != (t241.length : Int)) = true := bne_iff_ne.mpr c29
                  have H' := Aside0.mk H
                  clear H
                  go_wp2_with (first | (go_at_call 24; (refine (codec_Put.calls kj3 _ _ ([] : List Int) a0 t241 _ ?side1 ?side2 A28.out).mono ?_); (case side1 => exact Kd.C_nil _ _); (case side2 => exact Nat.le_refl _); rintro e w45 ⟨v242, rfl, ho0, hb⟩; have n0_ := Aside0.mk (Kd.R_elder' (by (with_reducible repeat (first | apply Kd.R_alloc | apply Kd.R_drewN | apply Kd.R_drew)); exact HO227.out) (Kd.R_base ho0) hb); have n1_ := Aside0.mk (Kd.R_elder' (by (with_reducible repeat (first | apply Kd.R_alloc | apply Kd.R_drewN | apply Kd.R_drew)); exact HO230.out) (Kd.R_base ho0) hb); have n2_ := Aside0.mk (Kd.R_elder' (by (with_reducible repeat (first | apply Kd.R_alloc | apply Kd.R_drewN | apply Kd.R_drew)); exact HO238.out) (Kd.R_base ho0) hb); have n3_ := Aside0.mk (Kd.R_lower (Kd.R_new' (Kd.R_new' (Kd.R_new' ho0 (Kd.R_lt (by (with_reducible repeat (first | apply Kd.R_alloc | apply Kd.R_drewN | apply Kd.R_drew)); exact HO227.out))) (Kd.R_lt (by (with_reducible repeat (first | apply Kd.R_alloc | apply Kd.R_drewN | apply Kd.R_drew)); exact HO230.out))) (Kd.R_lt (by (with_reducible repeat (first | apply Kd.R_alloc | apply Kd.R_drewN | apply Kd.R_drew)); exact HO238.out))) (below_size (by repeat (first | (with_reducible first | exact HB.out | apply below_alloc | apply pw_below_drewN | apply below_drew1) | exact HB.out)))); have n4_ := Aside0.mk (below_step (by repeat (first | (with_reducible first | exact HB.out | apply below_alloc | apply pw_below_drewN | apply below_drew1) | exact HB.out)) hb); clear HO227; clear HO230; clear HO238; clear HB; have HO227 := n0_; have HO230 := n1_; have HO238 := n2_; have HO243 := n3_; have HB := n4_; clear n0_ n1_ n2_ n3_ n4_; (try clear hb); (try clear hb2); (try clear hk); (try clear hi); (try clear ho0); obtain ⟨Ao46, co46, eo46⟩ := Kd.R_slice HO243.out; subst eo46))
                  go_meet
                  case rel => exact ⟨_, (true), (by first | rfl | (simp; done) | (simp [*]; done)), H', ⟨by have := HJ3.out; first | omega | exact Nat.le_refl _⟩, ⟨by repeat (first | (with_reducible first | exact HB.out | apply below_alloc | apply pw_below_drewN | apply below_drew1) | exact HB.out)⟩⟩
              · rw [if_neg c27] at H
                have c27b0 : (t231 == a0) = false := beq_eq_false_iff_ne.mpr c27
                have c27b1 : (t231 != a0) = true := bne_iff_ne.mpr c27
                (first | rw [c27b0] | (simp only [i64_w, i32_w]; rw [c27b0]) | skip)
                have H' := Aside0.mk H
                clear H
                go_wp2
                go_meet
                case rel => exact ⟨_, (true), (by first | rfl | (simp; done) | (simp [*]; done)), H', ⟨by have := HJ3.out; first | omega | exact Nat.le_refl _⟩, ⟨by repeat (first | (with_reducible first | exact HB.out | apply below_alloc | apply pw_below_drewN | apply below_drew1) | exact HB.out)⟩⟩
            case rest =>
              clear HC17
              try clear c1
              try clear c2
              try clear p2
              try clear c3
              try clear c5
              try clear c5b0
              try clear c5b1
              try clear p6
              try clear c8
              try clear c12
              try clear c15
              try clear c20
              try clear c23
              try clear c24
              try clear c25
              try clear c27
              try clear c27b0
              try clear c27b1
              try clear c29
              try clear c29b0
              try clear c29b1
              try clear c30
              try clear c30b0
              try clear c30b1
              try clear c32
              try clear c32b0
              try clear c32b1
              try clear c33
              try clear c35
              try clear p2
              obtain ⟨kq, x74_16, rfl, HA, HJ16, HB⟩ := hcut
              cases kq with
              | zero => exact absurd HA.out (by simp [skerrylaw01_CodecBack.j1])
              | succ kj16 =>
                have H := HA.out
                clear HA
                simp only [skerrylaw01_CodecBack.j1] at H
                by_cases c47 : x74_16 = true
                · subst c47
                  have H1 : (some false) = some r := by rw [if_pos rfl] at H; exact H
                  clear H
                  have H := H1
                  clear H1
                  obtain rfl := Option.some.inj H
                  go_wp2
                  go_ret
                  exact ⟨by first | rfl | (simp [errW_none, errW_some] <;> rfl) | (simp [*, errW_none, errW_some] <;> rfl), by repeat (first | (with_reducible first | exact HB.out | apply below_alloc | apply pw_below_drewN | apply below_drew1) | exact HB.out)⟩
                · replace c47 := Bool.eq_false_iff.mpr c47
                  subst c47
                  have H1 : (skerrylaw01_CodecBack.l0 kj16 l2 ([] : List (S101)) l2 (l2.length : Int) 0) = some r := by rw [if_neg (show ¬ (false = true) by decide)] at H; exact H
                  clear H
                  have H := H1
                  clear H1
                  have H' := Aside0.mk H
                  clear H
                  go_wp2
                  go_loopg [11, 77] kj16 (fun kq v11 v77 w' => ∃ (x11_3 : List (S101)) (x77_3 : Int), v77 = .int .i64 x77_3 ∧ Aside0 (skerrylaw01_CodecBack.l0 kq l2 x11_3 l2 (l2.length : Int) x77_3 = some r) ∧ Aside0 (kq ≤ kj16) ∧ Aside0 (Kd.R k101 101 w' w.heap.size (fun _ => True) v11 x11_3) ∧ Aside0 (Below w.heap.size w w'))
                  case atStart => exact ⟨(([] : List (S101))), (0), (by first | rfl | (simp; done) | (simp [*]; done)), H', ⟨Nat.le_refl _⟩, ⟨by first | exact Kd.R_nil _ _ _ _ _ | exact Kd.N_nil _ _ _ _ _ | exact Kd.V_nil _ _ _ _ _ | exact Kd.Q_nil _ _ _ _ _ | exact Kd.S_nil _ _ _ _ _⟩, ⟨by repeat (first | (with_reducible first | exact HB.out | apply below_alloc | apply pw_below_drewN | apply below_drew1) | exact HB.out)⟩⟩
                  case round =>
                    clear H'
                    try clear c1
                    try clear c2
                    try clear p2
                    try clear c3
                    try clear c4
                    try clear c5
                    try clear c5b0
                    try clear c5b1
                    try clear p6
                    try clear c8
                    try clear c12
                    try clear c15
                    try clear c20
                    try clear c23
                    try clear c24
                    try clear c25
                    try clear c27
                    try clear c27b0
                    try clear c27b1
                    try clear c29
                    try clear c29b0
                    try clear c29b1
                    try clear c30
                    try clear c30b0
                    try clear c30b1
                    try clear c32
                    try clear c32b0
                    try clear c32b1
                    try clear c33
                    try clear c35
                    try clear c47
                    try clear p2
                    try clear p6
                    obtain ⟨x11_3, x77_3, rfl, HA, HK3, HO_11, HB⟩ := hrel
                    cases gk with
                    | zero => exact absurd HA.out (by simp [skerrylaw01_CodecBack.l0])
                    | succ k3 =>
                      have H := HA.out
                      clear HA
                      simp only [skerrylaw01_CodecBack.l0] at H
                      by_cases c48 : x77_3 < (l2.length : Int)
                      · rw [if_pos c48] at H
                        have c48b0 : decide (x77_3 < (l2.length : Int)) = true := decide_eq_true c48
                        clear c48
                        by_cases c49 : 0 ≤ x77_3
                        · rw [if_pos c49] at H
                          have c49b0 : decide (0 ≤ x77_3) = true := decide_eq_true c49
                          clear c49
                          by_cases c50 : x77_3 < (l2.length : Int)
                          · rw [if_pos c50] at H
                            have c50b0 : decide (x77_3 < (l2.length : Int)) = true := decide_eq_true c50
                            clear c50
                            obtain ⟨bq51, hbq51⟩ : ∃ b_ : Bool, b_ = ((rd_T101 l2 x77_3).f1.f1) := ⟨_, rfl⟩
                            replace H : (if bq51 = true then (if x11_3.length < 1256584717458 then (skerrylaw01_CodecBack.l0 k3 l2 (x11_3 ++ [(⟨(⟨(rd_T101 l2 x77_3).f0.f0, (rd_T101 l2 x77_3).f0.f1, (rd_T101 l2 x77_3).f0.f2, (rd_T101 l2 x77_3).f0.f3⟩ : S95), (⟨(rd_T101 l2 x77_3).f1.f0, bq51, (rd_T101 l2 x77_3).f1.f2, (⟨0, 0, (⟨#[]⟩ : ByteArray)⟩ : S97)⟩ : S99)⟩ : S101)]) l2 (l2.length : Int) (wrap64 (x77_3 + 1))) else (none)) else (if x11_3.length < 1256584717458 then (skerrylaw01_CodecBack.l0 k3 l2 (x11_3 ++ [(⟨(⟨(rd_T101 l2 x77_3).f0.f0, (rd_T101 l2 x77_3).f0.f1, (rd_T101 l2 x77_3).f0.f2, (rd_T101 l2 x77_3).f0.f3⟩ : S95), (⟨(rd_T101 l2 x77_3).f1.f0, bq51, 0, (⟨(rd_T101 l2 x77_3).f1.f3.f0, (rd_T101 l2 x77_3).f1.f3.f1, (rd_T101 l2 x77_3).f1.f3.f2⟩ : S97)⟩ : S99)⟩ : S101)]) l2 (l2.length : Int) (wrap64 (x77_3 + 1))) else (none))) = some r := by rw [← hbq51] at H; exact H
                            have Nbq51 := Aside0.mk hbq51
                            clear hbq51
                            by_cases c52 : bq51 = true
                            · subst c52
                              have H1 : (if x11_3.length < 1256584717458 then (skerrylaw01_CodecBack.l0 k3 l2 (x11_3 ++ [(⟨(⟨(rd_T101 l2 x77_3).f0.f0, (rd_T101 l2 x77_3).f0.f1, (rd_T101 l2 x77_3).f0.f2, (rd_T101 l2 x77_3).f0.f3⟩ : S95), (⟨(rd_T101 l2 x77_3).f1.f0, true, (rd_T101 l2 x77_3).f1.f2, (⟨0, 0, (⟨#[]⟩ : ByteArray)⟩ : S97)⟩ : S99)⟩ : S101)]) l2 (l2.length : Int) (wrap64 (x77_3 + 1))) else (none)) = some r := by rw [if_pos rfl] at H; exact H
                              clear H
                              have H := H1
                              clear H1
                              by_cases c53 : x11_3.length < 1256584717458
                              · rw [if_pos c53] at H
                                have LMc53 := Aside0.mk c53
                                clear c53
                                obtain ⟨y251, hy251⟩ : ∃ y_ : List (S101), y_ = (x11_3 ++ [(⟨(⟨(rd_T101 l2 x77_3).f0.f0, (rd_T101 l2 x77_3).f0.f1, (rd_T101 l2 x77_3).f0.f2, (rd_T101 l2 x77_3).f0.f3⟩ : S95), (⟨(rd_T101 l2 x77_3).f1.f0, true, (rd_T101 l2 x77_3).f1.f2, (⟨0, 0, (⟨#[]⟩ : ByteArray)⟩ : S97)⟩ : S99)⟩ : S101)]) := ⟨_, rfl⟩
                                replace H : (skerrylaw01_CodecBack.l0 k3 l2 y251 l2 (l2.length : Int) (wrap64 (x77_3 + 1))) = some r := by first | (rw [hy251]; with_reducible exact H) | (have H2_ := (Option.bind_some _ _).symm.trans H; rw [hy251]; with_reducible exact H2_) | (have H2_ := (Option.bind_some _ _).symm.trans H; with_reducible exact H2_) | with_reducible exact H | (rw [hy251]; exact H) | exact H
                                have Ny251 := Aside0.mk hy251
                                clear hy251
                                have H' := Aside0.mk H
                                clear H
                                have p249 : 0 ≤ (x77_3 : Int) := of_decide_eq_true (by first | (with_reducible assumption) | assumption)
                                have q249 : x77_3 < (l2.length : Int) := of_decide_eq_true (by first | (with_reducible assumption) | assumption)
                                obtain ⟨ad249, e249, hx249_0, hx249_1, hx249_2, hx249_3, hx249_4, hx249_5, hx249_6, hx249_7, hx249_8, hx249_9⟩ := at_T101 HR2.out x77_3 p249 q249
                                (try rw [← Nbq51.out] at hx249_5)
                                cases e249
                                replace hx249_0 := (HB.out.cell (World.block_lt_of_cell? w _ hx249_0)).trans hx249_0
                                replace hx249_1 := (HB.out.cell (World.block_lt_of_cell? w _ hx249_1)).trans hx249_1
                                replace hx249_2 := (HB.out.cell (World.block_lt_of_cell? w _ hx249_2)).trans hx249_2
                                replace hx249_3 := (HB.out.cell (World.block_lt_of_cell? w _ hx249_3)).trans hx249_3
                                replace hx249_4 := (HB.out.cell (World.block_lt_of_cell? w _ hx249_4)).trans hx249_4
                                replace hx249_5 := (HB.out.cell (World.block_lt_of_cell? w _ hx249_5)).trans hx249_5
                                replace hx249_6 := (HB.out.cell (World.block_lt_of_cell? w _ hx249_6)).trans hx249_6
                                replace hx249_7 := (HB.out.cell (World.block_lt_of_cell? w _ hx249_7)).trans hx249_7
                                replace hx249_8 := (HB.out.cell (World.block_lt_of_cell? w _ hx249_8)).trans hx249_8
                                replace hx249_9 := (HB.out.cell (World.block_lt_of_cell? w _ hx249_9)).trans hx249_9
                                replace p249 := eq_true p249
                                replace q249 := eq_true q249
                                go_upto_region 11 with (first | ((with_reducible refine gate_dst (N := 13) rfl ?_); (try (refine gate_guard (by rfl) ?_; dsimp only)); refine box_event ?hg (N := 13) ?hd (cs := #[.string (⟨#[]⟩ : ByteArray), .string (⟨#[]⟩ : ByteArray), .int .i64 0, .string (⟨#[]⟩ : ByteArray), .int .i64 0, .bool false, .int .i64 0, .int .i64 0, .int .i64 0, .string (⟨#[]⟩ : ByteArray)]) (t := 101) ?hr ?_; (case hd => rfl); (case hg => rfl); (case hr => first | (go_simp; done) | (go_simp; rfl)); intro gb250 hg w54 hbox hb; have n0_ := Aside0.mk (Kd.R_below (Kd.R_elderB (by (with_reducible repeat (first | apply Kd.R_alloc | apply Kd.R_drewN | apply Kd.R_drew)); exact HO_11.out) gb250 (Nat.le_of_eq hg.symm)) hb); have n1_ := Aside0.mk (below_step (by repeat (first | (with_reducible first | exact HB.out | apply below_alloc | apply pw_below_drewN | apply below_drew1) | exact HB.out)) hb); have n2_ := Aside0.mk (hbox); have n3_ := Aside0.mk ((by rw [hg]; exact (below_size (by repeat (first | (with_reducible first | exact HB.out | apply below_alloc | apply pw_below_drewN | apply below_drew1) | exact HB.out))) : w.heap.size ≤ gb250)); have n4_ := Aside0.mk ((by rw [hg]; exact (below_size (by repeat (first | (with_reducible first | exact HB.out | apply below_alloc | apply pw_below_drewN | apply below_drew1) | exact HB.out))) : w.heap.size ≤ gb250)); clear HO_11; clear HB; have HO_11 := n0_; have HB := n1_; have BK250 := n2_; have GW250 := n3_; have GE250 := n4_; clear n0_ n1_ n2_ n3_ n4_; clear hb hbox hg; have hcz55_0 : w54.cell? ⟨gb250, 0, none⟩ = some (.string (⟨#[]⟩ : ByteArray)) := (blk_cell BK250.out 0).trans rfl; have hcz55_1 : w54.cell? ⟨gb250, 1, none⟩ = some (.string (⟨#[]⟩ : ByteArray)) := (blk_cell BK250.out 1).trans rfl; have hcz55_2 : w54.cell? ⟨gb250, 2, none⟩ = some (.int .i64 0) := (blk_cell BK250.out 2).trans rfl; have hcz55_3 : w54.cell? ⟨gb250, 3, none⟩ = some (.string (⟨#[]⟩ : ByteArray)) := (blk_cell BK250.out 3).trans rfl; have hcz55_4 : w54.cell? ⟨gb250, 4, none⟩ = some (.int .i64 0) := (blk_cell BK250.out 4).trans rfl; have hcz55_5 : w54.cell? ⟨gb250, 5, none⟩ = some (.bool false) := (blk_cell BK250.out 5).trans rfl; have hcz55_6 : w54.cell? ⟨gb250, 6, none⟩ = some (.int .i64 0) := (blk_cell BK250.out 6).trans rfl; have hcz55_7 : w54.cell? ⟨gb250, 7, none⟩ = some (.int .i64 0) := (blk_cell BK250.out 7).trans rfl; have hcz55_8 : w54.cell? ⟨gb250, 8, none⟩ = some (.int .i64 0) := (blk_cell BK250.out 8).trans rfl; have hcz55_9 : w54.cell? ⟨gb250, 9, none⟩ = some (.string (⟨#[]⟩ : ByteArray)) := (blk_cell BK250.out 9).trans rfl; have hfz55_0 := blk_frozen BK250.out 0; have hfz55_1 := blk_frozen BK250.out 1; have hfz55_2 := blk_frozen BK250.out 2; have hfz55_3 := blk_frozen BK250.out 3; have hfz55_4 := blk_frozen BK250.out 4; have hfz55_5 := blk_frozen BK250.out 5; have hfz55_6 := blk_frozen BK250.out 6; have hfz55_7 := blk_frozen BK250.out 7; have hfz55_8 := blk_frozen BK250.out 8; have hfz55_9 := blk_frozen BK250.out 9))
                                have n0_ := Aside0.mk (box_fill BK250.out (.string ((rd_T101 l2 x77_3).f0.f0)) (.string ((rd_T101 l2 x77_3).f0.f1)) (.int .i64 ((rd_T101 l2 x77_3).f0.f2)) (.string ((rd_T101 l2 x77_3).f0.f3)) (.int .i64 ((rd_T101 l2 x77_3).f1.f0)) (.bool true) (.int .i64 ((rd_T101 l2 x77_3).f1.f2)) (.int .i64 ((rd_T101 l2 x77_3).f1.f3.f0)) (.int .i64 ((rd_T101 l2 x77_3).f1.f3.f1)) (.string ((rd_T101 l2 x77_3).f1.f3.f2)))
                                have n1_ := Aside0.mk (below_fill HB.out GE250.out (.string ((rd_T101 l2 x77_3).f0.f0)) (.string ((rd_T101 l2 x77_3).f0.f1)) (.int .i64 ((rd_T101 l2 x77_3).f0.f2)) (.string ((rd_T101 l2 x77_3).f0.f3)) (.int .i64 ((rd_T101 l2 x77_3).f1.f0)) (.bool true) (.int .i64 ((rd_T101 l2 x77_3).f1.f2)) (.int .i64 ((rd_T101 l2 x77_3).f1.f3.f0)) (.int .i64 ((rd_T101 l2 x77_3).f1.f3.f1)) (.string ((rd_T101 l2 x77_3).f1.f3.f2)))
                                have n2_ := Aside0.mk (row_fill (Kd.R_mono HO_11.out (fun _ hk => hk.2)) (.string ((rd_T101 l2 x77_3).f0.f0)) (.string ((rd_T101 l2 x77_3).f0.f1)) (.int .i64 ((rd_T101 l2 x77_3).f0.f2)) (.string ((rd_T101 l2 x77_3).f0.f3)) (.int .i64 ((rd_T101 l2 x77_3).f1.f0)) (.bool true) (.int .i64 ((rd_T101 l2 x77_3).f1.f2)) (.int .i64 ((rd_T101 l2 x77_3).f1.f3.f0)) (.int .i64 ((rd_T101 l2 x77_3).f1.f3.f1)) (.string ((rd_T101 l2 x77_3).f1.f3.f2)))
                                clear BK250 HB HO_11
                                have BK250 := n0_; have HB := n1_; have HO_11 := n2_; clear n0_ n1_ n2_
                                generalize ((((((((((w54.setCell ⟨gb250, 0, none⟩ (.string ((rd_T101 l2 x77_3).f0.f0))).setCell ⟨gb250, 1, none⟩ (.string ((rd_T101 l2 x77_3).f0.f1))).setCell ⟨gb250, 2, none⟩ (.int .i64 ((rd_T101 l2 x77_3).f0.f2))).setCell ⟨gb250, 3, none⟩ (.string ((rd_T101 l2 x77_3).f0.f3))).setCell ⟨gb250, 4, none⟩ (.int .i64 ((rd_T101 l2 x77_3).f1.f0))).setCell ⟨gb250, 5, none⟩ (.bool true)).setCell ⟨gb250, 6, none⟩ (.int .i64 ((rd_T101 l2 x77_3).f1.f2))).setCell ⟨gb250, 7, none⟩ (.int .i64 ((rd_T101 l2 x77_3).f1.f3.f0))).setCell ⟨gb250, 8, none⟩ (.int .i64 ((rd_T101 l2 x77_3).f1.f3.f1))).setCell ⟨gb250, 9, none⟩ (.string ((rd_T101 l2 x77_3).f1.f3.f2))) = wf1_ at BK250 HB HO_11 ⊢
                                have hqwf1__0 : wf1_.cell? ⟨gb250, 0, none⟩ = some (.string ((rd_T101 l2 x77_3).f0.f0)) := (blk_cell BK250.out 0).trans rfl
                                have hqwf1__1 : wf1_.cell? ⟨gb250, 1, none⟩ = some (.string ((rd_T101 l2 x77_3).f0.f1)) := (blk_cell BK250.out 1).trans rfl
                                have hqwf1__2 : wf1_.cell? ⟨gb250, 2, none⟩ = some (.int .i64 ((rd_T101 l2 x77_3).f0.f2)) := (blk_cell BK250.out 2).trans rfl
                                have hqwf1__3 : wf1_.cell? ⟨gb250, 3, none⟩ = some (.string ((rd_T101 l2 x77_3).f0.f3)) := (blk_cell BK250.out 3).trans rfl
                                have hqwf1__4 : wf1_.cell? ⟨gb250, 4, none⟩ = some (.int .i64 ((rd_T101 l2 x77_3).f1.f0)) := (blk_cell BK250.out 4).trans rfl
                                have hqwf1__5 : wf1_.cell? ⟨gb250, 5, none⟩ = some (.bool true) := (blk_cell BK250.out 5).trans rfl
                                have hqwf1__6 : wf1_.cell? ⟨gb250, 6, none⟩ = some (.int .i64 ((rd_T101 l2 x77_3).f1.f2)) := (blk_cell BK250.out 6).trans rfl
                                have hqwf1__7 : wf1_.cell? ⟨gb250, 7, none⟩ = some (.int .i64 ((rd_T101 l2 x77_3).f1.f3.f0)) := (blk_cell BK250.out 7).trans rfl
                                have hqwf1__8 : wf1_.cell? ⟨gb250, 8, none⟩ = some (.int .i64 ((rd_T101 l2 x77_3).f1.f3.f1)) := (blk_cell BK250.out 8).trans rfl
                                have hqwf1__9 : wf1_.cell? ⟨gb250, 9, none⟩ = some (.string ((rd_T101 l2 x77_3).f1.f3.f2)) := (blk_cell BK250.out 9).trans rfl
                                have hzwf1__0 : wf1_.frozen? ⟨gb250, 0, none⟩ = false := blk_frozen BK250.out 0
                                have hzwf1__1 : wf1_.frozen? ⟨gb250, 1, none⟩ = false := blk_frozen BK250.out 1
                                have hzwf1__2 : wf1_.frozen? ⟨gb250, 2, none⟩ = false := blk_frozen BK250.out 2
                                have hzwf1__3 : wf1_.frozen? ⟨gb250, 3, none⟩ = false := blk_frozen BK250.out 3
                                have hzwf1__4 : wf1_.frozen? ⟨gb250, 4, none⟩ = false := blk_frozen BK250.out 4
                                have hzwf1__5 : wf1_.frozen? ⟨gb250, 5, none⟩ = false := blk_frozen BK250.out 5
                                have hzwf1__6 : wf1_.frozen? ⟨gb250, 6, none⟩ = false := blk_frozen BK250.out 6
                                have hzwf1__7 : wf1_.frozen? ⟨gb250, 7, none⟩ = false := blk_frozen BK250.out 7
                                have hzwf1__8 : wf1_.frozen? ⟨gb250, 8, none⟩ = false := blk_frozen BK250.out 8
                                have hzwf1__9 : wf1_.frozen? ⟨gb250, 9, none⟩ = false := blk_frozen BK250.out 9
                                go_upto_region 14 with (fail)
                                have n0_ := Aside0.mk (box_put3 BK250.out)
                                have n1_ := Aside0.mk (below_put3 HB.out GE250.out)
                                have n2_ := Aside0.mk (row_put3 HO_11.out)
                                clear BK250 HB HO_11
                                clear hqwf1__0 hqwf1__1 hqwf1__2 hqwf1__3 hqwf1__4 hqwf1__5 hqwf1__6 hqwf1__7 hqwf1__8 hqwf1__9 hzwf1__0 hzwf1__1 hzwf1__2 hzwf1__3 hzwf1__4 hzwf1__5 hzwf1__6 hzwf1__7 hzwf1__8 hzwf1__9
                                have BK250 := n0_; have HB := n1_; have HO_11 := n2_; clear n0_ n1_ n2_
                                generalize (((wf1_.setCell ⟨gb250, 7, none⟩ (.int .i64 0)).setCell ⟨gb250, 8, none⟩ (.int .i64 0)).setCell ⟨gb250, 9, none⟩ (.string (⟨#[]⟩ : ByteArray))) = wf2_ at BK250 HB HO_11 ⊢
                                have hqwf2__0 : wf2_.cell? ⟨gb250, 0, none⟩ = some (.string ((rd_T101 l2 x77_3).f0.f0)) := (blk_cell BK250.out 0).trans rfl
                                have hqwf2__1 : wf2_.cell? ⟨gb250, 1, none⟩ = some (.string ((rd_T101 l2 x77_3).f0.f1)) := (blk_cell BK250.out 1).trans rfl
                                have hqwf2__2 : wf2_.cell? ⟨gb250, 2, none⟩ = some (.int .i64 ((rd_T101 l2 x77_3).f0.f2)) := (blk_cell BK250.out 2).trans rfl
                                have hqwf2__3 : wf2_.cell? ⟨gb250, 3, none⟩ = some (.string ((rd_T101 l2 x77_3).f0.f3)) := (blk_cell BK250.out 3).trans rfl
                                have hqwf2__4 : wf2_.cell? ⟨gb250, 4, none⟩ = some (.int .i64 ((rd_T101 l2 x77_3).f1.f0)) := (blk_cell BK250.out 4).trans rfl
                                have hqwf2__5 : wf2_.cell? ⟨gb250, 5, none⟩ = some (.bool true) := (blk_cell BK250.out 5).trans rfl
                                have hqwf2__6 : wf2_.cell? ⟨gb250, 6, none⟩ = some (.int .i64 ((rd_T101 l2 x77_3).f1.f2)) := (blk_cell BK250.out 6).trans rfl
                                have hqwf2__7 : wf2_.cell? ⟨gb250, 7, none⟩ = some (.int .i64 0) := (blk_cell BK250.out 7).trans rfl
                                have hqwf2__8 : wf2_.cell? ⟨gb250, 8, none⟩ = some (.int .i64 0) := (blk_cell BK250.out 8).trans rfl
                                have hqwf2__9 : wf2_.cell? ⟨gb250, 9, none⟩ = some (.string (⟨#[]⟩ : ByteArray)) := (blk_cell BK250.out 9).trans rfl
                                have hzwf2__0 : wf2_.frozen? ⟨gb250, 0, none⟩ = false := blk_frozen BK250.out 0
                                have hzwf2__1 : wf2_.frozen? ⟨gb250, 1, none⟩ = false := blk_frozen BK250.out 1
                                have hzwf2__2 : wf2_.frozen? ⟨gb250, 2, none⟩ = false := blk_frozen BK250.out 2
                                have hzwf2__3 : wf2_.frozen? ⟨gb250, 3, none⟩ = false := blk_frozen BK250.out 3
                                have hzwf2__4 : wf2_.frozen? ⟨gb250, 4, none⟩ = false := blk_frozen BK250.out 4
                                have hzwf2__5 : wf2_.frozen? ⟨gb250, 5, none⟩ = false := blk_frozen BK250.out 5
                                have hzwf2__6 : wf2_.frozen? ⟨gb250, 6, none⟩ = false := blk_frozen BK250.out 6
                                have hzwf2__7 : wf2_.frozen? ⟨gb250, 7, none⟩ = false := blk_frozen BK250.out 7
                                have hzwf2__8 : wf2_.frozen? ⟨gb250, 8, none⟩ = false := blk_frozen BK250.out 8
                                have hzwf2__9 : wf2_.frozen? ⟨gb250, 9, none⟩ = false := blk_frozen BK250.out 9
                                go_wp2_with (first | ((with_reducible refine gate_builtin (b := .append) (xs := #[.tmp 89, .tmp 91]) rfl ?_); (try (refine gate_guard (by rfl) ?_; dsimp only)); at_builtin; refine Kd.R_append k101 (w0 := w) w.heap.size rfl (.tmp 89) (.tmp 91) 85 101 (.agg #[(.string ⟨#[]⟩), (.string ⟨#[]⟩), (.int .i64 0), (.string ⟨#[]⟩), (.int .i64 0), (.bool false), (.int .i64 0), (.int .i64 0), (.int .i64 0), (.string ⟨#[]⟩)]) 112 rfl Try.underlying85 info101 rfl (by decide) (by omega) u11 x11_3 (⟨(⟨(rd_T101 l2 x77_3).f0.f0, (rd_T101 l2 x77_3).f0.f1, (rd_T101 l2 x77_3).f0.f2, (rd_T101 l2 x77_3).f0.f3⟩ : S95), (⟨(rd_T101 l2 x77_3).f1.f0, true, (rd_T101 l2 x77_3).f1.f2, (⟨0, 0, (⟨#[]⟩ : ByteArray)⟩ : S97)⟩ : S99)⟩ : S101) [.string ((rd_T101 l2 x77_3).f0.f0), .string ((rd_T101 l2 x77_3).f0.f1), .int .i64 ((rd_T101 l2 x77_3).f0.f2), .string ((rd_T101 l2 x77_3).f0.f3), .int .i64 ((rd_T101 l2 x77_3).f1.f0), .bool true, .int .i64 ((rd_T101 l2 x77_3).f1.f2), .int .i64 0, .int .i64 0, .string (⟨#[]⟩ : ByteArray)] (fun k_ => k_ ≠ gb250) (fun _ => False) rfl (by first | (go_simp; done) | (go_simp; rfl)) ?aP (fun _ hk => hk.elim) ?aF ?aO ?aB ?aS ?aL ?_; (case aP => exact k101_mkM _ _ _ (⟨(⟨(rd_T101 l2 x77_3).f0.f0, (rd_T101 l2 x77_3).f0.f1, (rd_T101 l2 x77_3).f0.f2, (rd_T101 l2 x77_3).f0.f3⟩ : S95), (⟨(rd_T101 l2 x77_3).f1.f0, true, (rd_T101 l2 x77_3).f1.f2, (⟨0, 0, (⟨#[]⟩ : ByteArray)⟩ : S97)⟩ : S99)⟩ : S101)); (case aB => exact (by repeat (first | (with_reducible first | exact HB.out | apply below_alloc | apply pw_below_drewN | apply below_drew1 | refine below_set ?_ GE250.out) | exact HB.out))); (case aF => exact (fun k_ hk => Kd.freshB (g := gb250) (o := .cells #[.string ((rd_T101 l2 x77_3).f0.f0), .string ((rd_T101 l2 x77_3).f0.f1), .int .i64 ((rd_T101 l2 x77_3).f0.f2), .string ((rd_T101 l2 x77_3).f0.f3), .int .i64 ((rd_T101 l2 x77_3).f1.f0), .bool true, .int .i64 ((rd_T101 l2 x77_3).f1.f2), .int .i64 0, .int .i64 0, .string (⟨#[]⟩ : ByteArray)] 101 (0, 0)) (by first | (with_reducible exact BK250.out) | (with_reducible exact blk_alloc BK250.out _) | (with_reducible exact blk_drewN BK250.out _)) k_ hk)); (case aO => exact (by (with_reducible repeat (first | apply Kd.R_alloc | apply Kd.R_drewN | apply Kd.R_drew)); exact HO_11.out)); (case aS => exact (below_size (by repeat (first | (with_reducible first | exact HB.out | apply below_alloc | apply pw_below_drewN | apply below_drew1 | refine below_set ?_ GE250.out) | exact HB.out)))); (case aL => have := LMc53.out; omega); intro v252 w56 ho hb hg hat; rw [← Ny251.out] at ho; clear BK250 HB HO_11; have HB := Aside0.mk hb; have HO253 := Aside0.mk ho; clear ho hb hg hat))
                                go_roundg k3
                                case measure => have := HJ3.out; have := HJ16.out; have := HK3.out; omega
                                case rel => exact ⟨(y251), (wrap64 (x77_3 + 1)), (by first | rfl | (simp; done) | (simp [*]; done)), H', ⟨by have := HJ3.out; have := HJ16.out; have := HK3.out; omega⟩, ⟨by (with_reducible repeat (first | apply Kd.R_alloc | apply Kd.R_drewN | apply Kd.R_drew)); exact Kd.R_mono HO253.out (fun _ hk => trivial)⟩, ⟨by repeat (first | (with_reducible first | exact HB.out | apply below_alloc | apply pw_below_drewN | apply below_drew1 | refine below_set ?_ GE250.out) | exact HB.out)⟩⟩
                              · rw [if_neg c53] at H
                                exact absurd H (by simp)
                            · replace c52 := Bool.eq_false_iff.mpr c52
                              subst c52
                              have H1 : (if x11_3.length < 1256584717458 then (skerrylaw01_CodecBack.l0 k3 l2 (x11_3 ++ [(⟨(⟨(rd_T101 l2 x77_3).f0.f0, (rd_T101 l2 x77_3).f0.f1, (rd_T101 l2 x77_3).f0.f2, (rd_T101 l2 x77_3).f0.f3⟩ : S95), (⟨(rd_T101 l2 x77_3).f1.f0, false, 0, (⟨(rd_T101 l2 x77_3).f1.f3.f0, (rd_T101 l2 x77_3).f1.f3.f1, (rd_T101 l2 x77_3).f1.f3.f2⟩ : S97)⟩ : S99)⟩ : S101)]) l2 (l2.length : Int) (wrap64 (x77_3 + 1))) else (none)) = some r := by rw [if_neg (show ¬ (false = true) by decide)] at H; exact H
                              clear H
                              have H := H1
                              clear H1
                              by_cases c57 : x11_3.length < 1256584717458
                              · rw [if_pos c57] at H
                                have LMc57 := Aside0.mk c57
                                clear c57
                                obtain ⟨y254, hy254⟩ : ∃ y_ : List (S101), y_ = (x11_3 ++ [(⟨(⟨(rd_T101 l2 x77_3).f0.f0, (rd_T101 l2 x77_3).f0.f1, (rd_T101 l2 x77_3).f0.f2, (rd_T101 l2 x77_3).f0.f3⟩ : S95), (⟨(rd_T101 l2 x77_3).f1.f0, false, 0, (⟨(rd_T101 l2 x77_3).f1.f3.f0, (rd_T101 l2 x77_3).f1.f3.f1, (rd_T101 l2 x77_3).f1.f3.f2⟩ : S97)⟩ : S99)⟩ : S101)]) := ⟨_, rfl⟩
                                replace H : (skerrylaw01_CodecBack.l0 k3 l2 y254 l2 (l2.length : Int) (wrap64 (x77_3 + 1))) = some r := by first | (rw [hy254]; with_reducible exact H) | (have H2_ := (Option.bind_some _ _).symm.trans H; rw [hy254]; with_reducible exact H2_) | (have H2_ := (Option.bind_some _ _).symm.trans H; with_reducible exact H2_) | with_reducible exact H | (rw [hy254]; exact H) | exact H
                                have Ny254 := Aside0.mk hy254
                                clear hy254
                                have H' := Aside0.mk H
                                clear H
                                have p249 : 0 ≤ (x77_3 : Int) := of_decide_eq_true (by first | (with_reducible assumption) | assumption)
                                have q249 : x77_3 < (l2.length : Int) := of_decide_eq_true (by first | (with_reducible assumption) | assumption)
                                obtain ⟨ad249, e249, hx249_0, hx249_1, hx249_2, hx249_3, hx249_4, hx249_5, hx249_6, hx249_7, hx249_8, hx249_9⟩ := at_T101 HR2.out x77_3 p249 q249
                                (try rw [← Nbq51.out] at hx249_5)
                                cases e249
                                replace hx249_0 := (HB.out.cell (World.block_lt_of_cell? w _ hx249_0)).trans hx249_0
                                replace hx249_1 := (HB.out.cell (World.block_lt_of_cell? w _ hx249_1)).trans hx249_1
                                replace hx249_2 := (HB.out.cell (World.block_lt_of_cell? w _ hx249_2)).trans hx249_2
                                replace hx249_3 := (HB.out.cell (World.block_lt_of_cell? w _ hx249_3)).trans hx249_3
                                replace hx249_4 := (HB.out.cell (World.block_lt_of_cell? w _ hx249_4)).trans hx249_4
                                replace hx249_5 := (HB.out.cell (World.block_lt_of_cell? w _ hx249_5)).trans hx249_5
                                replace hx249_6 := (HB.out.cell (World.block_lt_of_cell? w _ hx249_6)).trans hx249_6
                                replace hx249_7 := (HB.out.cell (World.block_lt_of_cell? w _ hx249_7)).trans hx249_7
                                replace hx249_8 := (HB.out.cell (World.block_lt_of_cell? w _ hx249_8)).trans hx249_8
                                replace hx249_9 := (HB.out.cell (World.block_lt_of_cell? w _ hx249_9)).trans hx249_9
                                replace p249 := eq_true p249
                                replace q249 := eq_true q249
                                go_upto_region 11 with (first | ((with_reducible refine gate_dst (N := 13) rfl ?_); (try (refine gate_guard (by rfl) ?_; dsimp only)); refine box_event ?hg (N := 13) ?hd (cs := #[.string (⟨#[]⟩ : ByteArray), .string (⟨#[]⟩ : ByteArray), .int .i64 0, .string (⟨#[]⟩ : ByteArray), .int .i64 0, .bool false, .int .i64 0, .int .i64 0, .int .i64 0, .string (⟨#[]⟩ : ByteArray)]) (t := 101) ?hr ?_; (case hd => rfl); (case hg => rfl); (case hr => first | (go_simp; done) | (go_simp; rfl)); intro gb250 hg w58 hbox hb; have n0_ := Aside0.mk (Kd.R_below (Kd.R_elderB (by (with_reducible repeat (first | apply Kd.R_alloc | apply Kd.R_drewN | apply Kd.R_drew)); exact HO_11.out) gb250 (Nat.le_of_eq hg.symm)) hb); have n1_ := Aside0.mk (below_step (by repeat (first | (with_reducible first | exact HB.out | apply below_alloc | apply pw_below_drewN | apply below_drew1) | exact HB.out)) hb); have n2_ := Aside0.mk (hbox); have n3_ := Aside0.mk ((by rw [hg]; exact (below_size (by repeat (first | (with_reducible first | exact HB.out | apply below_alloc | apply pw_below_drewN | apply below_drew1) | exact HB.out))) : w.heap.size ≤ gb250)); have n4_ := Aside0.mk ((by rw [hg]; exact (below_size (by repeat (first | (with_reducible first | exact HB.out | apply below_alloc | apply pw_below_drewN | apply below_drew1) | exact HB.out))) : w.heap.size ≤ gb250)); clear HO_11; clear HB; have HO_11 := n0_; have HB := n1_; have BK250 := n2_; have GW250 := n3_; have GE250 := n4_; clear n0_ n1_ n2_ n3_ n4_; clear hb hbox hg; have hcz59_0 : w58.cell? ⟨gb250, 0, none⟩ = some (.string (⟨#[]⟩ : ByteArray)) := (blk_cell BK250.out 0).trans rfl; have hcz59_1 : w58.cell? ⟨gb250, 1, none⟩ = some (.string (⟨#[]⟩ : ByteArray)) := (blk_cell BK250.out 1).trans rfl; have hcz59_2 : w58.cell? ⟨gb250, 2, none⟩ = some (.int .i64 0) := (blk_cell BK250.out 2).trans rfl; have hcz59_3 : w58.cell? ⟨gb250, 3, none⟩ = some (.string (⟨#[]⟩ : ByteArray)) := (blk_cell BK250.out 3).trans rfl; have hcz59_4 : w58.cell? ⟨gb250, 4, none⟩ = some (.int .i64 0) := (blk_cell BK250.out 4).trans rfl; have hcz59_5 : w58.cell? ⟨gb250, 5, none⟩ = some (.bool false) := (blk_cell BK250.out 5).trans rfl; have hcz59_6 : w58.cell? ⟨gb250, 6, none⟩ = some (.int .i64 0) := (blk_cell BK250.out 6).trans rfl; have hcz59_7 : w58.cell? ⟨gb250, 7, none⟩ = some (.int .i64 0) := (blk_cell BK250.out 7).trans rfl; have hcz59_8 : w58.cell? ⟨gb250, 8, none⟩ = some (.int .i64 0) := (blk_cell BK250.out 8).trans rfl; have hcz59_9 : w58.cell? ⟨gb250, 9, none⟩ = some (.string (⟨#[]⟩ : ByteArray)) := (blk_cell BK250.out 9).trans rfl; have hfz59_0 := blk_frozen BK250.out 0; have hfz59_1 := blk_frozen BK250.out 1; have hfz59_2 := blk_frozen BK250.out 2; have hfz59_3 := blk_frozen BK250.out 3; have hfz59_4 := blk_frozen BK250.out 4; have hfz59_5 := blk_frozen BK250.out 5; have hfz59_6 := blk_frozen BK250.out 6; have hfz59_7 := blk_frozen BK250.out 7; have hfz59_8 := blk_frozen BK250.out 8; have hfz59_9 := blk_frozen BK250.out 9))
                                have n0_ := Aside0.mk (box_fill BK250.out (.string ((rd_T101 l2 x77_3).f0.f0)) (.string ((rd_T101 l2 x77_3).f0.f1)) (.int .i64 ((rd_T101 l2 x77_3).f0.f2)) (.string ((rd_T101 l2 x77_3).f0.f3)) (.int .i64 ((rd_T101 l2 x77_3).f1.f0)) (.bool false) (.int .i64 ((rd_T101 l2 x77_3).f1.f2)) (.int .i64 ((rd_T101 l2 x77_3).f1.f3.f0)) (.int .i64 ((rd_T101 l2 x77_3).f1.f3.f1)) (.string ((rd_T101 l2 x77_3).f1.f3.f2)))
                                have n1_ := Aside0.mk (below_fill HB.out GE250.out (.string ((rd_T101 l2 x77_3).f0.f0)) (.string ((rd_T101 l2 x77_3).f0.f1)) (.int .i64 ((rd_T101 l2 x77_3).f0.f2)) (.string ((rd_T101 l2 x77_3).f0.f3)) (.int .i64 ((rd_T101 l2 x77_3).f1.f0)) (.bool false) (.int .i64 ((rd_T101 l2 x77_3).f1.f2)) (.int .i64 ((rd_T101 l2 x77_3).f1.f3.f0)) (.int .i64 ((rd_T101 l2 x77_3).f1.f3.f1)) (.string ((rd_T101 l2 x77_3).f1.f3.f2)))
                                have n2_ := Aside0.mk (row_fill (Kd.R_mono HO_11.out (fun _ hk => hk.2)) (.string ((rd_T101 l2 x77_3).f0.f0)) (.string ((rd_T101 l2 x77_3).f0.f1)) (.int .i64 ((rd_T101 l2 x77_3).f0.f2)) (.string ((rd_T101 l2 x77_3).f0.f3)) (.int .i64 ((rd_T101 l2 x77_3).f1.f0)) (.bool false) (.int .i64 ((rd_T101 l2 x77_3).f1.f2)) (.int .i64 ((rd_T101 l2 x77_3).f1.f3.f0)) (.int .i64 ((rd_T101 l2 x77_3).f1.f3.f1)) (.string ((rd_T101 l2 x77_3).f1.f3.f2)))
                                clear BK250 HB HO_11
                                have BK250 := n0_; have HB := n1_; have HO_11 := n2_; clear n0_ n1_ n2_
                                generalize ((((((((((w58.setCell ⟨gb250, 0, none⟩ (.string ((rd_T101 l2 x77_3).f0.f0))).setCell ⟨gb250, 1, none⟩ (.string ((rd_T101 l2 x77_3).f0.f1))).setCell ⟨gb250, 2, none⟩ (.int .i64 ((rd_T101 l2 x77_3).f0.f2))).setCell ⟨gb250, 3, none⟩ (.string ((rd_T101 l2 x77_3).f0.f3))).setCell ⟨gb250, 4, none⟩ (.int .i64 ((rd_T101 l2 x77_3).f1.f0))).setCell ⟨gb250, 5, none⟩ (.bool false)).setCell ⟨gb250, 6, none⟩ (.int .i64 ((rd_T101 l2 x77_3).f1.f2))).setCell ⟨gb250, 7, none⟩ (.int .i64 ((rd_T101 l2 x77_3).f1.f3.f0))).setCell ⟨gb250, 8, none⟩ (.int .i64 ((rd_T101 l2 x77_3).f1.f3.f1))).setCell ⟨gb250, 9, none⟩ (.string ((rd_T101 l2 x77_3).f1.f3.f2))) = wf1_ at BK250 HB HO_11 ⊢
                                have hqwf1__0 : wf1_.cell? ⟨gb250, 0, none⟩ = some (.string ((rd_T101 l2 x77_3).f0.f0)) := (blk_cell BK250.out 0).trans rfl
                                have hqwf1__1 : wf1_.cell? ⟨gb250, 1, none⟩ = some (.string ((rd_T101 l2 x77_3).f0.f1)) := (blk_cell BK250.out 1).trans rfl
                                have hqwf1__2 : wf1_.cell? ⟨gb250, 2, none⟩ = some (.int .i64 ((rd_T101 l2 x77_3).f0.f2)) := (blk_cell BK250.out 2).trans rfl
                                have hqwf1__3 : wf1_.cell? ⟨gb250, 3, none⟩ = some (.string ((rd_T101 l2 x77_3).f0.f3)) := (blk_cell BK250.out 3).trans rfl
                                have hqwf1__4 : wf1_.cell? ⟨gb250, 4, none⟩ = some (.int .i64 ((rd_T101 l2 x77_3).f1.f0)) := (blk_cell BK250.out 4).trans rfl
                                have hqwf1__5 : wf1_.cell? ⟨gb250, 5, none⟩ = some (.bool false) := (blk_cell BK250.out 5).trans rfl
                                have hqwf1__6 : wf1_.cell? ⟨gb250, 6, none⟩ = some (.int .i64 ((rd_T101 l2 x77_3).f1.f2)) := (blk_cell BK250.out 6).trans rfl
                                have hqwf1__7 : wf1_.cell? ⟨gb250, 7, none⟩ = some (.int .i64 ((rd_T101 l2 x77_3).f1.f3.f0)) := (blk_cell BK250.out 7).trans rfl
                                have hqwf1__8 : wf1_.cell? ⟨gb250, 8, none⟩ = some (.int .i64 ((rd_T101 l2 x77_3).f1.f3.f1)) := (blk_cell BK250.out 8).trans rfl
                                have hqwf1__9 : wf1_.cell? ⟨gb250, 9, none⟩ = some (.string ((rd_T101 l2 x77_3).f1.f3.f2)) := (blk_cell BK250.out 9).trans rfl
                                have hzwf1__0 : wf1_.frozen? ⟨gb250, 0, none⟩ = false := blk_frozen BK250.out 0
                                have hzwf1__1 : wf1_.frozen? ⟨gb250, 1, none⟩ = false := blk_frozen BK250.out 1
                                have hzwf1__2 : wf1_.frozen? ⟨gb250, 2, none⟩ = false := blk_frozen BK250.out 2
                                have hzwf1__3 : wf1_.frozen? ⟨gb250, 3, none⟩ = false := blk_frozen BK250.out 3
                                have hzwf1__4 : wf1_.frozen? ⟨gb250, 4, none⟩ = false := blk_frozen BK250.out 4
                                have hzwf1__5 : wf1_.frozen? ⟨gb250, 5, none⟩ = false := blk_frozen BK250.out 5
                                have hzwf1__6 : wf1_.frozen? ⟨gb250, 6, none⟩ = false := blk_frozen BK250.out 6
                                have hzwf1__7 : wf1_.frozen? ⟨gb250, 7, none⟩ = false := blk_frozen BK250.out 7
                                have hzwf1__8 : wf1_.frozen? ⟨gb250, 8, none⟩ = false := blk_frozen BK250.out 8
                                have hzwf1__9 : wf1_.frozen? ⟨gb250, 9, none⟩ = false := blk_frozen BK250.out 9
                                go_upto_region 14 with (fail)
                                have n0_ := Aside0.mk (box_put1 BK250.out)
                                have n1_ := Aside0.mk (below_put1 HB.out GE250.out)
                                have n2_ := Aside0.mk (row_put1 HO_11.out)
                                clear BK250 HB HO_11
                                clear hqwf1__0 hqwf1__1 hqwf1__2 hqwf1__3 hqwf1__4 hqwf1__5 hqwf1__6 hqwf1__7 hqwf1__8 hqwf1__9 hzwf1__0 hzwf1__1 hzwf1__2 hzwf1__3 hzwf1__4 hzwf1__5 hzwf1__6 hzwf1__7 hzwf1__8 hzwf1__9
                                have BK250 := n0_; have HB := n1_; have HO_11 := n2_; clear n0_ n1_ n2_
                                generalize (wf1_.setCell ⟨gb250, 6, none⟩ (.int .i64 0)) = wf2_ at BK250 HB HO_11 ⊢
                                have hqwf2__0 : wf2_.cell? ⟨gb250, 0, none⟩ = some (.string ((rd_T101 l2 x77_3).f0.f0)) := (blk_cell BK250.out 0).trans rfl
                                have hqwf2__1 : wf2_.cell? ⟨gb250, 1, none⟩ = some (.string ((rd_T101 l2 x77_3).f0.f1)) := (blk_cell BK250.out 1).trans rfl
                                have hqwf2__2 : wf2_.cell? ⟨gb250, 2, none⟩ = some (.int .i64 ((rd_T101 l2 x77_3).f0.f2)) := (blk_cell BK250.out 2).trans rfl
                                have hqwf2__3 : wf2_.cell? ⟨gb250, 3, none⟩ = some (.string ((rd_T101 l2 x77_3).f0.f3)) := (blk_cell BK250.out 3).trans rfl
                                have hqwf2__4 : wf2_.cell? ⟨gb250, 4, none⟩ = some (.int .i64 ((rd_T101 l2 x77_3).f1.f0)) := (blk_cell BK250.out 4).trans rfl
                                have hqwf2__5 : wf2_.cell? ⟨gb250, 5, none⟩ = some (.bool false) := (blk_cell BK250.out 5).trans rfl
                                have hqwf2__6 : wf2_.cell? ⟨gb250, 6, none⟩ = some (.int .i64 0) := (blk_cell BK250.out 6).trans rfl
                                have hqwf2__7 : wf2_.cell? ⟨gb250, 7, none⟩ = some (.int .i64 ((rd_T101 l2 x77_3).f1.f3.f0)) := (blk_cell BK250.out 7).trans rfl
                                have hqwf2__8 : wf2_.cell? ⟨gb250, 8, none⟩ = some (.int .i64 ((rd_T101 l2 x77_3).f1.f3.f1)) := (blk_cell BK250.out 8).trans rfl
                                have hqwf2__9 : wf2_.cell? ⟨gb250, 9, none⟩ = some (.string ((rd_T101 l2 x77_3).f1.f3.f2)) := (blk_cell BK250.out 9).trans rfl
                                have hzwf2__0 : wf2_.frozen? ⟨gb250, 0, none⟩ = false := blk_frozen BK250.out 0
                                have hzwf2__1 : wf2_.frozen? ⟨gb250, 1, none⟩ = false := blk_frozen BK250.out 1
                                have hzwf2__2 : wf2_.frozen? ⟨gb250, 2, none⟩ = false := blk_frozen BK250.out 2
                                have hzwf2__3 : wf2_.frozen? ⟨gb250, 3, none⟩ = false := blk_frozen BK250.out 3
                                have hzwf2__4 : wf2_.frozen? ⟨gb250, 4, none⟩ = false := blk_frozen BK250.out 4
                                have hzwf2__5 : wf2_.frozen? ⟨gb250, 5, none⟩ = false := blk_frozen BK250.out 5
                                have hzwf2__6 : wf2_.frozen? ⟨gb250, 6, none⟩ = false := blk_frozen BK250.out 6
                                have hzwf2__7 : wf2_.frozen? ⟨gb250, 7, none⟩ = false := blk_frozen BK250.out 7
                                have hzwf2__8 : wf2_.frozen? ⟨gb250, 8, none⟩ = false := blk_frozen BK250.out 8
                                have hzwf2__9 : wf2_.frozen? ⟨gb250, 9, none⟩ = false := blk_frozen BK250.out 9
                                go_wp2_with (first | ((with_reducible refine gate_builtin (b := .append) (xs := #[.tmp 89, .tmp 91]) rfl ?_); (try (refine gate_guard (by rfl) ?_; dsimp only)); at_builtin; refine Kd.R_append k101 (w0 := w) w.heap.size rfl (.tmp 89) (.tmp 91) 85 101 (.agg #[(.string ⟨#[]⟩), (.string ⟨#[]⟩), (.int .i64 0), (.string ⟨#[]⟩), (.int .i64 0), (.bool false), (.int .i64 0), (.int .i64 0), (.int .i64 0), (.string ⟨#[]⟩)]) 112 rfl Try.underlying85 info101 rfl (by decide) (by omega) u11 x11_3 (⟨(⟨(rd_T101 l2 x77_3).f0.f0, (rd_T101 l2 x77_3).f0.f1, (rd_T101 l2 x77_3).f0.f2, (rd_T101 l2 x77_3).f0.f3⟩ : S95), (⟨(rd_T101 l2 x77_3).f1.f0, false, 0, (⟨(rd_T101 l2 x77_3).f1.f3.f0, (rd_T101 l2 x77_3).f1.f3.f1, (rd_T101 l2 x77_3).f1.f3.f2⟩ : S97)⟩ : S99)⟩ : S101) [.string ((rd_T101 l2 x77_3).f0.f0), .string ((rd_T101 l2 x77_3).f0.f1), .int .i64 ((rd_T101 l2 x77_3).f0.f2), .string ((rd_T101 l2 x77_3).f0.f3), .int .i64 ((rd_T101 l2 x77_3).f1.f0), .bool false, .int .i64 0, .int .i64 ((rd_T101 l2 x77_3).f1.f3.f0), .int .i64 ((rd_T101 l2 x77_3).f1.f3.f1), .string ((rd_T101 l2 x77_3).f1.f3.f2)] (fun k_ => k_ ≠ gb250) (fun _ => False) rfl (by first | (go_simp; done) | (go_simp; rfl)) ?aP (fun _ hk => hk.elim) ?aF ?aO ?aB ?aS ?aL ?_; (case aP => exact k101_mkM _ _ _ (⟨(⟨(rd_T101 l2 x77_3).f0.f0, (rd_T101 l2 x77_3).f0.f1, (rd_T101 l2 x77_3).f0.f2, (rd_T101 l2 x77_3).f0.f3⟩ : S95), (⟨(rd_T101 l2 x77_3).f1.f0, false, 0, (⟨(rd_T101 l2 x77_3).f1.f3.f0, (rd_T101 l2 x77_3).f1.f3.f1, (rd_T101 l2 x77_3).f1.f3.f2⟩ : S97)⟩ : S99)⟩ : S101)); (case aB => exact (by repeat (first | (with_reducible first | exact HB.out | apply below_alloc | apply pw_below_drewN | apply below_drew1 | refine below_set ?_ GE250.out) | exact HB.out))); (case aF => exact (fun k_ hk => Kd.freshB (g := gb250) (o := .cells #[.string ((rd_T101 l2 x77_3).f0.f0), .string ((rd_T101 l2 x77_3).f0.f1), .int .i64 ((rd_T101 l2 x77_3).f0.f2), .string ((rd_T101 l2 x77_3).f0.f3), .int .i64 ((rd_T101 l2 x77_3).f1.f0), .bool false, .int .i64 0, .int .i64 ((rd_T101 l2 x77_3).f1.f3.f0), .int .i64 ((rd_T101 l2 x77_3).f1.f3.f1), .string ((rd_T101 l2 x77_3).f1.f3.f2)] 101 (0, 0)) (by first | (with_reducible exact BK250.out) | (with_reducible exact blk_alloc BK250.out _) | (with_reducible exact blk_drewN BK250.out _)) k_ hk)); (case aO => exact (by (with_reducible repeat (first | apply Kd.R_alloc | apply Kd.R_drewN | apply Kd.R_drew)); exact HO_11.out)); (case aS => exact (below_size (by repeat (first | (with_reducible first | exact HB.out | apply below_alloc | apply pw_below_drewN | apply below_drew1 | refine below_set ?_ GE250.out) | exact HB.out)))); (case aL => have := LMc57.out; omega); intro v255 w60 ho hb hg hat; rw [← Ny254.out] at ho; clear BK250 HB HO_11; have HB := Aside0.mk hb; have HO256 := Aside0.mk ho; clear ho hb hg hat))
                                go_roundg k3
                                case measure => have := HJ3.out; have := HJ16.out; have := HK3.out; omega
                                case rel => exact ⟨(y254), (wrap64 (x77_3 + 1)), (by first | rfl | (simp; done) | (simp [*]; done)), H', ⟨by have := HJ3.out; have := HJ16.out; have := HK3.out; omega⟩, ⟨by (with_reducible repeat (first | apply Kd.R_alloc | apply Kd.R_drewN | apply Kd.R_drew)); exact Kd.R_mono HO256.out (fun _ hk => trivial)⟩, ⟨by repeat (first | (with_reducible first | exact HB.out | apply below_alloc | apply pw_below_drewN | apply below_drew1 | refine below_set ?_ GE250.out) | exact HB.out)⟩⟩
                              · rw [if_neg c57] at H
                                exact absurd H (by simp)
                          · rw [if_neg c50] at H
                            exact absurd H (by simp)
                        · rw [if_neg c49] at H
                          exact absurd H (by simp)
                      · rw [if_neg c48] at H
                        have c48b0 : decide (x77_3 < (l2.length : Int)) = false := decide_eq_false c48
                        clear c48
                        replace H := Option.bind_eq_some_iff.mp H
                        obtain ⟨t257, A610, H⟩ := H
                        replace H : ((codec_ReadCells.f t257).bind fun bt260 => ((some (([] : List Int) : List Int)).bind fun y264 => (if y264.length + t257.length < 140737488355328 then ((some (y264 ++ t257 : List Int)).bind fun y267 => (if y267.length < 140737488355328 then ((codec_ReadCells.f (y267 ++ [0])).bind fun bt273 => (if bt260.2 = 0 then ((skerryref01_Like.f k3 bt260.1 x11_3).bind fun t277 => (if t277 = true then (if bt273.2 = 8 then ((skerrylaw01_lives.f).bind fun t278 => (some t278)) else (some false)) else (some false))) else (some false))) else (none))) else (none)))) = some r := H
                        have A61 := Aside0.mk A610
                        clear A610
                        replace H := Option.bind_eq_some_iff.mp H
                        obtain ⟨⟨t260, t261⟩, A620, H⟩ := H
                        replace H : ((some (([] : List Int) : List Int)).bind fun y264 => (if y264.length + t257.length < 140737488355328 then ((some (y264 ++ t257 : List Int)).bind fun y267 => (if y267.length < 140737488355328 then ((codec_ReadCells.f (y267 ++ [0])).bind fun bt273 => (if t261 = 0 then ((skerryref01_Like.f k3 t260 x11_3).bind fun t277 => (if t277 = true then (if bt273.2 = 8 then ((skerrylaw01_lives.f).bind fun t278 => (some t278)) else (some false)) else (some false))) else (some false))) else (none))) else (none))) = some r := H
                        have A62 := Aside0.mk A620
                        clear A620
                        obtain ⟨y264, hy264⟩ : ∃ y_ : List Int, y_ = (([] : List Int)) := ⟨_, rfl⟩
                        replace H : (if y264.length + t257.length < 140737488355328 then ((some (y264 ++ t257 : List Int)).bind fun y267 => (if y267.length < 140737488355328 then ((codec_ReadCells.f (y267 ++ [0])).bind fun bt273 => (if t261 = 0 then ((skerryref01_Like.f k3 t260 x11_3).bind fun t277 => (if t277 = true then (if bt273.2 = 8 then ((skerrylaw01_lives.f).bind fun t278 => (some t278)) else (some false)) else (some false))) else (some false))) else (none))) else (none)) = some r := by first | (rw [hy264]; with_reducible exact H) | (have H2_ := (Option.bind_some _ _).symm.trans H; rw [hy264]; with_reducible exact H2_) | (have H2_ := (Option.bind_some _ _).symm.trans H; with_reducible exact H2_) | with_reducible exact H | (rw [hy264]; exact H) | exact H
                        have Ny264 := Aside0.mk hy264
                        clear hy264
                        by_cases c63 : y264.length + t257.length < 140737488355328
                        · rw [if_pos c63] at H
                          have LMc63 := Aside0.mk c63
                          clear c63
                          obtain ⟨y267, hy267⟩ : ∃ y_ : List Int, y_ = (y264 ++ t257) := ⟨_, rfl⟩
                          replace H : (if y267.length < 140737488355328 then ((codec_ReadCells.f (y267 ++ [0])).bind fun bt273 => (if t261 = 0 then ((skerryref01_Like.f k3 t260 x11_3).bind fun t277 => (if t277 = true then (if bt273.2 = 8 then ((skerrylaw01_lives.f).bind fun t278 => (some t278)) else (some false)) else (some false))) else (some false))) else (none)) = some r := by first | (rw [hy267]; with_reducible exact H) | (have H2_ := (Option.bind_some _ _).symm.trans H; rw [hy267]; with_reducible exact H2_) | (have H2_ := (Option.bind_some _ _).symm.trans H; with_reducible exact H2_) | with_reducible exact H | (rw [hy267]; exact H) | exact H
                          have Ny267 := Aside0.mk hy267
                          clear hy267
                          by_cases c64 : y267.length < 140737488355328
                          · rw [if_pos c64] at H
                            have LMc64 := Aside0.mk c64
                            clear c64
                            obtain ⟨y270, hy270⟩ : ∃ y_ : List Int, y_ = (y267 ++ [0]) := ⟨_, rfl⟩
                            replace H : ((codec_ReadCells.f y270).bind fun bt273 => (if t261 = 0 then ((skerryref01_Like.f k3 t260 x11_3).bind fun t277 => (if t277 = true then (if bt273.2 = 8 then ((skerrylaw01_lives.f).bind fun t278 => (some t278)) else (some false)) else (some false))) else (some false))) = some r := by first | (rw [hy270]; with_reducible exact H) | (have H2_ := (Option.bind_some _ _).symm.trans H; rw [hy270]; with_reducible exact H2_) | (have H2_ := (Option.bind_some _ _).symm.trans H; with_reducible exact H2_) | with_reducible exact H | (rw [hy270]; exact H) | exact H
                            have Ny270 := Aside0.mk hy270
                            clear hy270
                            replace H := Option.bind_eq_some_iff.mp H
                            obtain ⟨⟨t273, t274⟩, A650, H⟩ := H
                            replace H : (if t261 = 0 then ((skerryref01_Like.f k3 t260 x11_3).bind fun t277 => (if t277 = true then (if t274 = 8 then ((skerrylaw01_lives.f).bind fun t278 => (some t278)) else (some false)) else (some false))) else (some false)) = some r := H
                            have A65 := Aside0.mk A650
                            clear A650
                            by_cases c66 : t261 = 0
                            · rw [if_pos c66] at H
                              have c66b0 : (t261 == 0) = true := beq_iff_eq.mpr c66
                              have c66b1 : (t261 != 0) = false := bne_eq_false_iff_eq.mpr c66
                              clear c66
                              replace H := Option.bind_eq_some_iff.mp H
                              obtain ⟨t277, A670, H⟩ := H
                              replace H : (if t277 = true then (if t274 = 8 then ((skerrylaw01_lives.f).bind fun t278 => (some t278)) else (some false)) else (some false)) = some r := H
                              have A67 := Aside0.mk A670
                              clear A670
                              by_cases c68 : t277 = true
                              · subst c68
                                have H1 : (if t274 = 8 then ((skerrylaw01_lives.f).bind fun t278 => (some t278)) else (some false)) = some r := by rw [if_pos rfl] at H; exact H
                                clear H
                                have H := H1
                                clear H1
                                by_cases c69 : t274 = 8
                                · rw [if_pos c69] at H
                                  have c69b0 : (t274 == 8) = true := beq_iff_eq.mpr c69
                                  have c69b1 : (t274 != 8) = false := bne_eq_false_iff_eq.mpr c69
                                  clear c69
                                  replace H := Option.bind_eq_some_iff.mp H
                                  obtain ⟨t278, A700, H⟩ := H
                                  replace H : (some t278) = some r := H
                                  have A70 := Aside0.mk A700
                                  clear A700
                                  obtain rfl := Option.some.inj H
                                  go_wp2_with (first | ((with_reducible refine gate_callee (f := 70) rfl ?_); refine goesL_ (some 95) rfl rfl Try.func70 (by kernel_rfl) rfl #[.slice A2 l2.length c2] rfl (by (try simp only [List.map_toArray, List.map_cons, List.map_nil]); first | done | rfl | (simp only [List.length_drop, List.length_take]; rfl)) ?_; (with_reducible refine (codec_Cells.calls k3 _ _ l2 t257 _ ?side1 ?side2 A61.out).mono ?_); (case side1 => repeat (first | exact (Kd.C_below HR2.out HB.out) | (with_reducible refine Kd.C_alloc ?_ _) | (with_reducible refine Kd.C_drewN ?_ _) | (with_reducible refine Kd.C_drew ?_))); (case side2 => exact HC2.out); rintro e w71 ⟨v258, rfl, ho0, hb⟩; refine ⟨_, rfl, ?_⟩; have n0_ := Aside0.mk (Kd.R_below (by (with_reducible repeat (first | apply Kd.R_alloc | apply Kd.R_drewN | apply Kd.R_drew)); exact HO_11.out) hb); have n1_ := Aside0.mk (Kd.R_lower ho0 (below_size (by repeat (first | (with_reducible first | exact HB.out | apply below_alloc | apply pw_below_drewN | apply below_drew1) | exact HB.out)))); have n2_ := Aside0.mk (below_step (by repeat (first | (with_reducible first | exact HB.out | apply below_alloc | apply pw_below_drewN | apply below_drew1) | exact HB.out)) hb); clear HO_11; clear HB; have HO_11 := n0_; have HO259 := n1_; have HB := n2_; clear n0_ n1_ n2_; (try clear hb); (try clear hb2); (try clear hk); (try clear hi); (try clear ho0); obtain ⟨Ao72, co72, eo72⟩ := Kd.R_slice HO259.out; subst eo72) | ((with_reducible refine gate_callee (f := 68) rfl ?_); refine goesL_ (some 98) rfl rfl Try.func68 (by kernel_rfl) rfl #[.slice Ao72 t257.length co72] rfl (by (try simp only [List.map_toArray, List.map_cons, List.map_nil]); first | done | rfl | (simp only [List.length_drop, List.length_take]; rfl)) ?_; (with_reducible refine (codec_ReadCells.calls _ _ t257 t260 t261 _ ?side1 ?side2 A62.out).mono ?_); (case side1 => repeat (first | exact (Kd.R_reads' HO259.out).2.2 | (with_reducible refine Kd.C_alloc ?_ _) | (with_reducible refine Kd.C_drewN ?_ _) | (with_reducible refine Kd.C_drew ?_))); (case side2 => exact (Kd.R_reads' HO259.out).2.1); rintro e w73 ⟨v262, rfl, ho0, hb⟩; refine ⟨_, rfl, ?_⟩; have n0_ := Aside0.mk (Kd.R_elder' (by (with_reducible repeat (first | apply Kd.R_alloc | apply Kd.R_drewN | apply Kd.R_drew)); exact HO_11.out) (Kd.R_base ho0) hb); have n1_ := Aside0.mk (Kd.R_below (by (with_reducible repeat (first | apply Kd.R_alloc | apply Kd.R_drewN | apply Kd.R_drew)); exact HO259.out) hb); have n2_ := Aside0.mk (Kd.R_lower (Kd.R_new' ho0 (Kd.R_lt (by (with_reducible repeat (first | apply Kd.R_alloc | apply Kd.R_drewN | apply Kd.R_drew)); exact HO_11.out))) (below_size (by repeat (first | (with_reducible first | exact HB.out | apply below_alloc | apply pw_below_drewN | apply below_drew1) | exact HB.out)))); have n3_ := Aside0.mk (below_step (by repeat (first | (with_reducible first | exact HB.out | apply below_alloc | apply pw_below_drewN | apply below_drew1) | exact HB.out)) hb); clear HO_11; clear HO259; clear HB; have HO_11 := n0_; have HO259 := n1_; have HO263 := n2_; have HB := n3_; clear n0_ n1_ n2_ n3_; (try clear hb); (try clear hb2); (try clear hk); (try clear hi); (try clear ho0)) | ((with_reducible refine gate_dst (N := 102) rfl ?_); (try (refine gate_guard (by rfl) ?_; dsimp only)); refine Kd.R_lit (Kd.int .u8) _ 5 ?hg (N := 102) ?hd (xs := ([] : List Int)) (inner := []) (ok := fun _ => True) (okp := fun _ => True) ?hr ?hp (fun _ hk => hk) trivial (Below.refl _ _) (Nat.le_refl _) (by simp) ?_; (case hd => rfl); (case hg => rfl); (case hr => first | (go_simp; done) | (go_simp; rfl)); (case hp => exact (Reps.none _ _)); intro v265 w74 ho75 hb hg_ hnew_; clear hg_ hnew_; (first | rw [← Ny264.out] at ho75 | (simp only [Int.reduceToNat] at ho75; rw [← Ny264.out] at ho75)); have n0_ := Aside0.mk (Kd.R_below (by (with_reducible repeat (first | apply Kd.R_alloc | apply Kd.R_drewN | apply Kd.R_drew)); exact HO_11.out) hb); have n1_ := Aside0.mk (Kd.R_elder' (by (with_reducible repeat (first | apply Kd.R_alloc | apply Kd.R_drewN | apply Kd.R_drew)); exact HO259.out) (Kd.R_base ho75) hb); have n2_ := Aside0.mk (Kd.R_below (by (with_reducible repeat (first | apply Kd.R_alloc | apply Kd.R_drewN | apply Kd.R_drew)); exact HO263.out) hb); have n3_ := Aside0.mk (Kd.R_lower (Kd.R_new' ho75 (Kd.R_lt (by (with_reducible repeat (first | apply Kd.R_alloc | apply Kd.R_drewN | apply Kd.R_drew)); exact HO259.out))) (below_size (by repeat (first | (with_reducible first | exact HB.out | apply below_alloc | apply pw_below_drewN | apply below_drew1) | exact HB.out)))); have n4_ := Aside0.mk (below_step (by repeat (first | (with_reducible first | exact HB.out | apply below_alloc | apply pw_below_drewN | apply below_drew1) | exact HB.out)) hb); clear HO_11; clear HO259; clear HO263; clear HB; have HO_11 := n0_; have HO259 := n1_; have HO263 := n2_; have HO266 := n3_; have HB := n4_; clear n0_ n1_ n2_ n3_ n4_; clear hb ho75) | ((with_reducible refine gate_builtin (b := .append) (xs := #[.tmp 102, .tmp 103]) rfl ?_); (try (refine gate_guard (by rfl) ?_; dsimp only)); at_builtin; refine Kd.R_append_rows (Kd.int .u8) (w0 := w) w.heap.size rfl (.tmp 102) (.tmp 103) 27 5 (.int .u8 0) 1 rfl Try.underlying27 info5 rfl (by decide) (by omega) v265 y264 t257 _ _ _ (fun k_ => some k_ ≠ (.slice Ao72 t257.length co72 : Value).ownBlock) (fun _ => False) rfl rfl ?aO ?aR (fun _ _ h => h) (fun _ h => h.elim) ?aF ?aB ?aS ?aL ?_; (case aR => repeat (first | exact (Kd.R_reads' HO259.out).2.2 | (with_reducible refine Kd.C_alloc ?_ _) | (with_reducible refine Kd.C_drewN ?_ _) | (with_reducible refine Kd.C_drew ?_))); (case aB => exact (by repeat (first | (with_reducible first | exact HB.out | apply below_alloc | apply pw_below_drewN | apply below_drew1) | exact HB.out))); (case aF => exact (fun k_ hk => Kd.fresh' (Kd.R_lt (by (with_reducible repeat (first | apply Kd.R_alloc | apply Kd.R_drewN | apply Kd.R_drew)); exact HO259.out)) k_ hk)); (case aO => exact (by (with_reducible repeat (first | apply Kd.R_alloc | apply Kd.R_drewN | apply Kd.R_drew)); exact Kd.R_mono HO266.out (fun _ hk => hk.2))); (case aS => exact (below_size (by repeat (first | (with_reducible first | exact HB.out | apply below_alloc | apply pw_below_drewN | apply below_drew1) | exact HB.out)))); (case aL => have := LMc63.out; omega); intro v268 w76 ho hb hg hat; rw [← Ny267.out] at ho; have n0_ := Aside0.mk (Kd.R_over' (by (with_reducible repeat (first | apply Kd.R_alloc | apply Kd.R_drewN | apply Kd.R_drew)); exact HO_11.out) (Kd.R_typed (by (with_reducible repeat (first | apply Kd.R_alloc | apply Kd.R_drewN | apply Kd.R_drew)); exact HO266.out)) (by decide) hg); have n1_ := Aside0.mk (Kd.R_after (ok := (fun _ => True)) (by (with_reducible repeat (first | apply Kd.R_alloc | apply Kd.R_drewN | apply Kd.R_drew)); exact HO259.out) hg hat); have n2_ := Aside0.mk (Kd.R_over' (by (with_reducible repeat (first | apply Kd.R_alloc | apply Kd.R_drewN | apply Kd.R_drew)); exact HO263.out) (Kd.R_typed (by (with_reducible repeat (first | apply Kd.R_alloc | apply Kd.R_drewN | apply Kd.R_drew)); exact HO266.out)) (by decide) hg); have n3_ := Aside0.mk (hb); have n4_ := Aside0.mk (ho); clear HO_11; clear HO259; clear HO263; clear HB; clear HO266; have HO_11 := n0_; have HO259 := n1_; have HO263 := n2_; have HB := n3_; have HO269 := n4_; clear n0_ n1_ n2_ n3_ n4_; clear ho hb hg hat) | ((with_reducible refine gate_builtin (b := .append) (xs := #[.tmp 104, .tmp 105]) rfl ?_); (try (refine gate_guard (by rfl) ?_; dsimp only)); at_builtin; refine Kd.R_append (Kd.int .u8) (w0 := w) w.heap.size rfl (.tmp 104) (.tmp 105) 27 5 (.int .u8 0) 1 rfl Try.underlying27 info5 rfl (by decide) (by omega) v268 y267 0 [.int .u8 0] (fun k_ => some k_ ≠ (.slice Ao72 t257.length co72 : Value).ownBlock) (fun _ => False) rfl rfl ?aP (fun _ hk => hk.elim) ?aF ?aO ?aB ?aS ?aL ?_; (case aP => exact rfl); (case aB => exact (by repeat (first | (with_reducible first | exact HB.out | apply below_alloc | apply pw_below_drewN | apply below_drew1) | exact HB.out))); (case aF => exact (fun k_ hk => Kd.fresh' (Kd.R_lt (by (with_reducible repeat (first | apply Kd.R_alloc | apply Kd.R_drewN | apply Kd.R_drew)); exact HO259.out)) k_ hk)); (case aO => exact (by (with_reducible repeat (first | apply Kd.R_alloc | apply Kd.R_drewN | apply Kd.R_drew)); exact HO269.out)); (case aS => exact (below_size (by repeat (first | (with_reducible first | exact HB.out | apply below_alloc | apply pw_below_drewN | apply below_drew1) | exact HB.out)))); (case aL => have := LMc64.out; omega); intro v271 w77 ho hb hg hat; rw [← Ny270.out] at ho; have n0_ := Aside0.mk (Kd.R_over' (by (with_reducible repeat (first | apply Kd.R_alloc | apply Kd.R_drewN | apply Kd.R_drew)); exact HO_11.out) (Kd.R_typed (by (with_reducible repeat (first | apply Kd.R_alloc | apply Kd.R_drewN | apply Kd.R_drew)); exact HO269.out)) (by decide) hg); have n1_ := Aside0.mk (Kd.R_after (ok := (fun _ => True)) (by (with_reducible repeat (first | apply Kd.R_alloc | apply Kd.R_drewN | apply Kd.R_drew)); exact HO259.out) hg hat); have n2_ := Aside0.mk (Kd.R_over' (by (with_reducible repeat (first | apply Kd.R_alloc | apply Kd.R_drewN | apply Kd.R_drew)); exact HO263.out) (Kd.R_typed (by (with_reducible repeat (first | apply Kd.R_alloc | apply Kd.R_drewN | apply Kd.R_drew)); exact HO269.out)) (by decide) hg); have n3_ := Aside0.mk (hb); have n4_ := Aside0.mk (ho); clear HO_11; clear HO259; clear HO263; clear HB; clear HO269; have HO_11 := n0_; have HO259 := n1_; have HO263 := n2_; have HB := n3_; have HO272 := n4_; clear n0_ n1_ n2_ n3_ n4_; clear ho hb hg hat; obtain ⟨Ao78, co78, eo78⟩ := Kd.R_slice HO272.out; subst eo78) | ((with_reducible refine gate_callee (f := 68) rfl ?_); refine goesL_ (some 107) rfl rfl Try.func68 (by kernel_rfl) rfl #[.slice Ao78 y270.length co78] rfl (by (try simp only [List.map_toArray, List.map_cons, List.map_nil]); first | done | rfl | (simp only [List.length_drop, List.length_take]; rfl)) ?_; (with_reducible refine (codec_ReadCells.calls _ _ y270 t273 t274 _ ?side1 ?side2 A65.out).mono ?_); (case side1 => repeat (first | exact (Kd.R_reads' HO272.out).2.2 | (with_reducible refine Kd.C_alloc ?_ _) | (with_reducible refine Kd.C_drewN ?_ _) | (with_reducible refine Kd.C_drew ?_))); (case side2 => exact (Kd.R_reads' HO272.out).2.1); rintro e w79 ⟨v275, rfl, ho0, hb⟩; refine ⟨_, rfl, ?_⟩; have n0_ := Aside0.mk (Kd.R_elder' (by (with_reducible repeat (first | apply Kd.R_alloc | apply Kd.R_drewN | apply Kd.R_drew)); exact HO_11.out) (Kd.R_base ho0) hb); have n1_ := Aside0.mk (Kd.R_below (by (with_reducible repeat (first | apply Kd.R_alloc | apply Kd.R_drewN | apply Kd.R_drew)); exact HO259.out) hb); have n2_ := Aside0.mk (Kd.R_elder' (by (with_reducible repeat (first | apply Kd.R_alloc | apply Kd.R_drewN | apply Kd.R_drew)); exact HO263.out) (Kd.R_base ho0) hb); have n3_ := Aside0.mk (Kd.R_below (by (with_reducible repeat (first | apply Kd.R_alloc | apply Kd.R_drewN | apply Kd.R_drew)); exact HO272.out) hb); have n4_ := Aside0.mk (Kd.R_lower (Kd.R_new' (Kd.R_new' ho0 (Kd.R_lt (by (with_reducible repeat (first | apply Kd.R_alloc | apply Kd.R_drewN | apply Kd.R_drew)); exact HO_11.out))) (Kd.R_lt (by (with_reducible repeat (first | apply Kd.R_alloc | apply Kd.R_drewN | apply Kd.R_drew)); exact HO263.out))) (below_size (by repeat (first | (with_reducible first | exact HB.out | apply below_alloc | apply pw_below_drewN | apply below_drew1) | exact HB.out)))); have n5_ := Aside0.mk (below_step (by repeat (first | (with_reducible first | exact HB.out | apply below_alloc | apply pw_below_drewN | apply below_drew1) | exact HB.out)) hb); clear HO_11; clear HO259; clear HO263; clear HO272; clear HB; have HO_11 := n0_; have HO259 := n1_; have HO263 := n2_; have HO272 := n3_; have HO276 := n4_; have HB := n5_; clear n0_ n1_ n2_ n3_ n4_ n5_; (try clear hb); (try clear hb2); (try clear hk); (try clear hi); (try clear ho0); obtain ⟨Ao80, co80, eo80⟩ := Kd.R_slice HO263.out; subst eo80; obtain ⟨Ao81, co81, eo81⟩ := Kd.R_slice HO_11.out; subst eo81) | (go_at_call 72; (with_reducible refine (skerryref01_Like.calls k3 _ _ t260 _ _ x11_3 true _ ?side1 ?side2 ?side3 ?side4 A67.out).mono ?_); (case side1 => repeat (first | exact (Kd.R_reads' HO263.out).2.2 | (with_reducible refine Kd.C_alloc ?_ _) | (with_reducible refine Kd.C_drewN ?_ _) | (with_reducible refine Kd.C_drew ?_))); (case side2 => exact (Kd.R_reads' HO263.out).2.1); (case side3 => repeat (first | exact (Kd.R_reads' HO_11.out).2.2 | (with_reducible refine Kd.C_alloc ?_ _) | (with_reducible refine Kd.C_drewN ?_ _) | (with_reducible refine Kd.C_drew ?_))); (case side4 => exact (Kd.R_reads' HO_11.out).2.1); rintro e w' ⟨rfl, ⟨nd, rfl⟩⟩) | (go_at_call 23; (with_reducible refine (skerrylaw01_lives.calls  t278 _ A70.out).mono ?_); rintro e w82 ⟨rfl, hb⟩; have n0_ := Aside0.mk (Kd.R_below (by (with_reducible repeat (first | apply Kd.R_alloc | apply Kd.R_drewN | apply Kd.R_drew)); exact HO_11.out) hb); have n1_ := Aside0.mk (Kd.R_below (by (with_reducible repeat (first | apply Kd.R_alloc | apply Kd.R_drewN | apply Kd.R_drew)); exact HO259.out) hb); have n2_ := Aside0.mk (Kd.R_below (by (with_reducible repeat (first | apply Kd.R_alloc | apply Kd.R_drewN | apply Kd.R_drew)); exact HO263.out) hb); have n3_ := Aside0.mk (Kd.R_below (by (with_reducible repeat (first | apply Kd.R_alloc | apply Kd.R_drewN | apply Kd.R_drew)); exact HO272.out) hb); have n4_ := Aside0.mk (Kd.R_below (by (with_reducible repeat (first | apply Kd.R_alloc | apply Kd.R_drewN | apply Kd.R_drew)); exact HO276.out) hb); have n5_ := Aside0.mk (below_step (by repeat (first | (with_reducible first | exact HB.out | apply below_alloc | apply pw_below_drewN | apply below_drew1) | exact HB.out)) hb); clear HO_11; clear HO259; clear HO263; clear HO272; clear HO276; clear HB; have HO_11 := n0_; have HO259 := n1_; have HO263 := n2_; have HO272 := n3_; have HO276 := n4_; have HB := n5_; clear n0_ n1_ n2_ n3_ n4_ n5_; (try clear hb); (try clear hb2); (try clear hk); (try clear hi)))
                                  go_ret
                                  exact ⟨by first | rfl | (simp [errW_none, errW_some] <;> rfl) | (simp [*, errW_none, errW_some] <;> rfl), by repeat (first | (with_reducible first | exact HB.out | apply below_alloc | apply pw_below_drewN | apply below_drew1) | exact HB.out)⟩
                                · rw [if_neg c69] at H
                                  have c69b0 : (t274 == 8) = false := beq_eq_false_iff_ne.mpr c69
                                  have c69b1 : (t274 != 8) = true := bne_iff_ne.mpr c69
                                  obtain rfl := Option.some.inj H
                                  go_wp2_with (first | ((with_reducible refine gate_callee (f := 70) rfl ?_); refine goesL_ (some 95) rfl rfl Try.func70 (by kernel_rfl) rfl #[.slice A2 l2.length c2] rfl (by (try simp only [List.map_toArray, List.map_cons, List.map_nil]); first | done | rfl | (simp only [List.length_drop, List.length_take]; rfl)) ?_; (with_reducible refine (codec_Cells.calls k3 _ _ l2 t257 _ ?side1 ?side2 A61.out).mono ?_); (case side1 => repeat (first | exact (Kd.C_below HR2.out HB.out) | (with_reducible refine Kd.C_alloc ?_ _) | (with_reducible refine Kd.C_drewN ?_ _) | (with_reducible refine Kd.C_drew ?_))); (case side2 => exact HC2.out); rintro e w83 ⟨v258, rfl, ho0, hb⟩; refine ⟨_, rfl, ?_⟩; have n0_ := Aside0.mk (Kd.R_below (by (with_reducible repeat (first | apply Kd.R_alloc | apply Kd.R_drewN | apply Kd.R_drew)); exact HO_11.out) hb); have n1_ := Aside0.mk (Kd.R_lower ho0 (below_size (by repeat (first | (with_reducible first | exact HB.out | apply below_alloc | apply pw_below_drewN | apply below_drew1) | exact HB.out)))); have n2_ := Aside0.mk (below_step (by repeat (first | (with_reducible first | exact HB.out | apply below_alloc | apply pw_below_drewN | apply below_drew1) | exact HB.out)) hb); clear HO_11; clear HB; have HO_11 := n0_; have HO259 := n1_; have HB := n2_; clear n0_ n1_ n2_; (try clear hb); (try clear hb2); (try clear hk); (try clear hi); (try clear ho0); obtain ⟨Ao84, co84, eo84⟩ := Kd.R_slice HO259.out; subst eo84) | ((with_reducible refine gate_callee (f := 68) rfl ?_); refine goesL_ (some 98) rfl rfl Try.func68 (by kernel_rfl) rfl #[.slice Ao84 t257.length co84] rfl (by (try simp only [List.map_toArray, List.map_cons, List.map_nil]); first | done | rfl | (simp only [List.length_drop, List.length_take]; rfl)) ?_; (with_reducible refine (codec_ReadCells.calls _ _ t257 t260 t261 _ ?side1 ?side2 A62.out).mono ?_); (case side1 => repeat (first | exact (Kd.R_reads' HO259.out).2.2 | (with_reducible refine Kd.C_alloc ?_ _) | (with_reducible refine Kd.C_drewN ?_ _) | (with_reducible refine Kd.C_drew ?_))); (case side2 => exact (Kd.R_reads' HO259.out).2.1); rintro e w85 ⟨v262, rfl, ho0, hb⟩; refine ⟨_, rfl, ?_⟩; have n0_ := Aside0.mk (Kd.R_elder' (by (with_reducible repeat (first | apply Kd.R_alloc | apply Kd.R_drewN | apply Kd.R_drew)); exact HO_11.out) (Kd.R_base ho0) hb); have n1_ := Aside0.mk (Kd.R_below (by (with_reducible repeat (first | apply Kd.R_alloc | apply Kd.R_drewN | apply Kd.R_drew)); exact HO259.out) hb); have n2_ := Aside0.mk (Kd.R_lower (Kd.R_new' ho0 (Kd.R_lt (by (with_reducible repeat (first | apply Kd.R_alloc | apply Kd.R_drewN | apply Kd.R_drew)); exact HO_11.out))) (below_size (by repeat (first | (with_reducible first | exact HB.out | apply below_alloc | apply pw_below_drewN | apply below_drew1) | exact HB.out)))); have n3_ := Aside0.mk (below_step (by repeat (first | (with_reducible first | exact HB.out | apply below_alloc | apply pw_below_drewN | apply below_drew1) | exact HB.out)) hb); clear HO_11; clear HO259; clear HB; have HO_11 := n0_; have HO259 := n1_; have HO263 := n2_; have HB := n3_; clear n0_ n1_ n2_ n3_; (try clear hb); (try clear hb2); (try clear hk); (try clear hi); (try clear ho0)) | ((with_reducible refine gate_dst (N := 102) rfl ?_); (try (refine gate_guard (by rfl) ?_; dsimp only)); refine Kd.R_lit (Kd.int .u8) _ 5 ?hg (N := 102) ?hd (xs := ([] : List Int)) (inner := []) (ok := fun _ => True) (okp := fun _ => True) ?hr ?hp (fun _ hk => hk) trivial (Below.refl _ _) (Nat.le_refl _) (by simp) ?_; (case hd => rfl); (case hg => rfl); (case hr => first | (go_simp; done) | (go_simp; rfl)); (case hp => exact (Reps.none _ _)); intro v265 w86 ho87 hb hg_ hnew_; clear hg_ hnew_; (first | rw [← Ny264.out] at ho87 | (simp only [Int.reduceToNat] at ho87; rw [← Ny264.out] at ho87)); have n0_ := Aside0.mk (Kd.R_below (by (with_reducible repeat (first | apply Kd.R_alloc | apply Kd.R_drewN | apply Kd.R_drew)); exact HO_11.out) hb); have n1_ := Aside0.mk (Kd.R_elder' (by (with_reducible repeat (first | apply Kd.R_alloc | apply Kd.R_drewN | apply Kd.R_drew)); exact HO259.out) (Kd.R_base ho87) hb); have n2_ := Aside0.mk (Kd.R_below (by (with_reducible repeat (first | apply Kd.R_alloc | apply Kd.R_drewN | apply Kd.R_drew)); exact HO263.out) hb); have n3_ := Aside0.mk (Kd.R_lower (Kd.R_new' ho87 (Kd.R_lt (by (with_reducible repeat (first | apply Kd.R_alloc | apply Kd.R_drewN | apply Kd.R_drew)); exact HO259.out))) (below_size (by repeat (first | (with_reducible first | exact HB.out | apply below_alloc | apply pw_below_drewN | apply below_drew1) | exact HB.out)))); have n4_ := Aside0.mk (below_step (by repeat (first | (with_reducible first | exact HB.out | apply below_alloc | apply pw_below_drewN | apply below_drew1) | exact HB.out)) hb); clear HO_11; clear HO259; clear HO263; clear HB; have HO_11 := n0_; have HO259 := n1_; have HO263 := n2_; have HO266 := n3_; have HB := n4_; clear n0_ n1_ n2_ n3_ n4_; clear hb ho87) | ((with_reducible refine gate_builtin (b := .append) (xs := #[.tmp 102, .tmp 103]) rfl ?_); (try (refine gate_guard (by rfl) ?_; dsimp only)); at_builtin; refine Kd.R_append_rows (Kd.int .u8) (w0 := w) w.heap.size rfl (.tmp 102) (.tmp 103) 27 5 (.int .u8 0) 1 rfl Try.underlying27 info5 rfl (by decide) (by omega) v265 y264 t257 _ _ _ (fun k_ => some k_ ≠ (.slice Ao84 t257.length co84 : Value).ownBlock) (fun _ => False) rfl rfl ?aO ?aR (fun _ _ h => h) (fun _ h => h.elim) ?aF ?aB ?aS ?aL ?_; (case aR => repeat (first | exact (Kd.R_reads' HO259.out).2.2 | (with_reducible refine Kd.C_alloc ?_ _) | (with_reducible refine Kd.C_drewN ?_ _) | (with_reducible refine Kd.C_drew ?_))); (case aB => exact (by repeat (first | (with_reducible first | exact HB.out | apply below_alloc | apply pw_below_drewN | apply below_drew1) | exact HB.out))); (case aF => exact (fun k_ hk => Kd.fresh' (Kd.R_lt (by (with_reducible repeat (first | apply Kd.R_alloc | apply Kd.R_drewN | apply Kd.R_drew)); exact HO259.out)) k_ hk)); (case aO => exact (by (with_reducible repeat (first | apply Kd.R_alloc | apply Kd.R_drewN | apply Kd.R_drew)); exact Kd.R_mono HO266.out (fun _ hk => hk.2))); (case aS => exact (below_size (by repeat (first | (with_reducible first | exact HB.out | apply below_alloc | apply pw_below_drewN | apply below_drew1) | exact HB.out)))); (case aL => have := LMc63.out; omega); intro v268 w88 ho hb hg hat; rw [← Ny267.out] at ho; have n0_ := Aside0.mk (Kd.R_over' (by (with_reducible repeat (first | apply Kd.R_alloc | apply Kd.R_drewN | apply Kd.R_drew)); exact HO_11.out) (Kd.R_typed (by (with_reducible repeat (first | apply Kd.R_alloc | apply Kd.R_drewN | apply Kd.R_drew)); exact HO266.out)) (by decide) hg); have n1_ := Aside0.mk (Kd.R_after (ok := (fun _ => True)) (by (with_reducible repeat (first | apply Kd.R_alloc | apply Kd.R_drewN | apply Kd.R_drew)); exact HO259.out) hg hat); have n2_ := Aside0.mk (Kd.R_over' (by (with_reducible repeat (first | apply Kd.R_alloc | apply Kd.R_drewN | apply Kd.R_drew)); exact HO263.out) (Kd.R_typed (by (with_reducible repeat (first | apply Kd.R_alloc | apply Kd.R_drewN | apply Kd.R_drew)); exact HO266.out)) (by decide) hg); have n3_ := Aside0.mk (hb); have n4_ := Aside0.mk (ho); clear HO_11; clear HO259; clear HO263; clear HB; clear HO266; have HO_11 := n0_; have HO259 := n1_; have HO263 := n2_; have HB := n3_; have HO269 := n4_; clear n0_ n1_ n2_ n3_ n4_; clear ho hb hg hat) | ((with_reducible refine gate_builtin (b := .append) (xs := #[.tmp 104, .tmp 105]) rfl ?_); (try (refine gate_guard (by rfl) ?_; dsimp only)); at_builtin; refine Kd.R_append (Kd.int .u8) (w0 := w) w.heap.size rfl (.tmp 104) (.tmp 105) 27 5 (.int .u8 0) 1 rfl Try.underlying27 info5 rfl (by decide) (by omega) v268 y267 0 [.int .u8 0] (fun k_ => some k_ ≠ (.slice Ao84 t257.length co84 : Value).ownBlock) (fun _ => False) rfl rfl ?aP (fun _ hk => hk.elim) ?aF ?aO ?aB ?aS ?aL ?_; (case aP => exact rfl); (case aB => exact (by repeat (first | (with_reducible first | exact HB.out | apply below_alloc | apply pw_below_drewN | apply below_drew1) | exact HB.out))); (case aF => exact (fun k_ hk => Kd.fresh' (Kd.R_lt (by (with_reducible repeat (first | apply Kd.R_alloc | apply Kd.R_drewN | apply Kd.R_drew)); exact HO259.out)) k_ hk)); (case aO => exact (by (with_reducible repeat (first | apply Kd.R_alloc | apply Kd.R_drewN | apply Kd.R_drew)); exact HO269.out)); (case aS => exact (below_size (by repeat (first | (with_reducible first | exact HB.out | apply below_alloc | apply pw_below_drewN | apply below_drew1) | exact HB.out)))); (case aL => have := LMc64.out; omega); intro v271 w89 ho hb hg hat; rw [← Ny270.out] at ho; have n0_ := Aside0.mk (Kd.R_over' (by (with_reducible repeat (first | apply Kd.R_alloc | apply Kd.R_drewN | apply Kd.R_drew)); exact HO_11.out) (Kd.R_typed (by (with_reducible repeat (first | apply Kd.R_alloc | apply Kd.R_drewN | apply Kd.R_drew)); exact HO269.out)) (by decide) hg); have n1_ := Aside0.mk (Kd.R_after (ok := (fun _ => True)) (by (with_reducible repeat (first | apply Kd.R_alloc | apply Kd.R_drewN | apply Kd.R_drew)); exact HO259.out) hg hat); have n2_ := Aside0.mk (Kd.R_over' (by (with_reducible repeat (first | apply Kd.R_alloc | apply Kd.R_drewN | apply Kd.R_drew)); exact HO263.out) (Kd.R_typed (by (with_reducible repeat (first | apply Kd.R_alloc | apply Kd.R_drewN | apply Kd.R_drew)); exact HO269.out)) (by decide) hg); have n3_ := Aside0.mk (hb); have n4_ := Aside0.mk (ho); clear HO_11; clear HO259; clear HO263; clear HB; clear HO269; have HO_11 := n0_; have HO259 := n1_; have HO263 := n2_; have HB := n3_; have HO272 := n4_; clear n0_ n1_ n2_ n3_ n4_; clear ho hb hg hat; obtain ⟨Ao90, co90, eo90⟩ := Kd.R_slice HO272.out; subst eo90) | ((with_reducible refine gate_callee (f := 68) rfl ?_); refine goesL_ (some 107) rfl rfl Try.func68 (by kernel_rfl) rfl #[.slice Ao90 y270.length co90] rfl (by (try simp only [List.map_toArray, List.map_cons, List.map_nil]); first | done | rfl | (simp only [List.length_drop, List.length_take]; rfl)) ?_; (with_reducible refine (codec_ReadCells.calls _ _ y270 t273 t274 _ ?side1 ?side2 A65.out).mono ?_); (case side1 => repeat (first | exact (Kd.R_reads' HO272.out).2.2 | (with_reducible refine Kd.C_alloc ?_ _) | (with_reducible refine Kd.C_drewN ?_ _) | (with_reducible refine Kd.C_drew ?_))); (case side2 => exact (Kd.R_reads' HO272.out).2.1); rintro e w91 ⟨v275, rfl, ho0, hb⟩; refine ⟨_, rfl, ?_⟩; have n0_ := Aside0.mk (Kd.R_elder' (by (with_reducible repeat (first | apply Kd.R_alloc | apply Kd.R_drewN | apply Kd.R_drew)); exact HO_11.out) (Kd.R_base ho0) hb); have n1_ := Aside0.mk (Kd.R_below (by (with_reducible repeat (first | apply Kd.R_alloc | apply Kd.R_drewN | apply Kd.R_drew)); exact HO259.out) hb); have n2_ := Aside0.mk (Kd.R_elder' (by (with_reducible repeat (first | apply Kd.R_alloc | apply Kd.R_drewN | apply Kd.R_drew)); exact HO263.out) (Kd.R_base ho0) hb); have n3_ := Aside0.mk (Kd.R_below (by (with_reducible repeat (first | apply Kd.R_alloc | apply Kd.R_drewN | apply Kd.R_drew)); exact HO272.out) hb); have n4_ := Aside0.mk (Kd.R_lower (Kd.R_new' (Kd.R_new' ho0 (Kd.R_lt (by (with_reducible repeat (first | apply Kd.R_alloc | apply Kd.R_drewN | apply Kd.R_drew)); exact HO_11.out))) (Kd.R_lt (by (with_reducible repeat (first | apply Kd.R_alloc | apply Kd.R_drewN | apply Kd.R_drew)); exact HO263.out))) (below_size (by repeat (first | (with_reducible first | exact HB.out | apply below_alloc | apply pw_below_drewN | apply below_drew1) | exact HB.out)))); have n5_ := Aside0.mk (below_step (by repeat (first | (with_reducible first | exact HB.out | apply below_alloc | apply pw_below_drewN | apply below_drew1) | exact HB.out)) hb); clear HO_11; clear HO259; clear HO263; clear HO272; clear HB; have HO_11 := n0_; have HO259 := n1_; have HO263 := n2_; have HO272 := n3_; have HO276 := n4_; have HB := n5_; clear n0_ n1_ n2_ n3_ n4_ n5_; (try clear hb); (try clear hb2); (try clear hk); (try clear hi); (try clear ho0); obtain ⟨Ao92, co92, eo92⟩ := Kd.R_slice HO263.out; subst eo92; obtain ⟨Ao93, co93, eo93⟩ := Kd.R_slice HO_11.out; subst eo93) | (go_at_call 72; (with_reducible refine (skerryref01_Like.calls k3 _ _ t260 _ _ x11_3 true _ ?side1 ?side2 ?side3 ?side4 A67.out).mono ?_); (case side1 => repeat (first | exact (Kd.R_reads' HO263.out).2.2 | (with_reducible refine Kd.C_alloc ?_ _) | (with_reducible refine Kd.C_drewN ?_ _) | (with_reducible refine Kd.C_drew ?_))); (case side2 => exact (Kd.R_reads' HO263.out).2.1); (case side3 => repeat (first | exact (Kd.R_reads' HO_11.out).2.2 | (with_reducible refine Kd.C_alloc ?_ _) | (with_reducible refine Kd.C_drewN ?_ _) | (with_reducible refine Kd.C_drew ?_))); (case side4 => exact (Kd.R_reads' HO_11.out).2.1); rintro e w' ⟨rfl, ⟨nd, rfl⟩⟩))
                                  go_ret
                                  exact ⟨by first | rfl | (simp [errW_none, errW_some] <;> rfl) | (simp [*, errW_none, errW_some] <;> rfl), by repeat (first | (with_reducible first | exact HB.out | apply below_alloc | apply pw_below_drewN | apply below_drew1) | exact HB.out)⟩
                              · replace c68 := Bool.eq_false_iff.mpr c68
                                subst c68
                                have H1 : (some false) = some r := by rw [if_neg (show ¬ (false = true) by decide)] at H; exact H
                                clear H
                                have H := H1
                                clear H1
                                obtain rfl := Option.some.inj H
                                go_wp2_with (first | ((with_reducible refine gate_callee (f := 70) rfl ?_); refine goesL_ (some 95) rfl rfl Try.func70 (by kernel_rfl) rfl #[.slice A2 l2.length c2] rfl (by (try simp only [List.map_toArray, List.map_cons, List.map_nil]); first | done | rfl | (simp only [List.length_drop, List.length_take]; rfl)) ?_; (with_reducible refine (codec_Cells.calls k3 _ _ l2 t257 _ ?side1 ?side2 A61.out).mono ?_); (case side1 => repeat (first | exact (Kd.C_below HR2.out HB.out) | (with_reducible refine Kd.C_alloc ?_ _) | (with_reducible refine Kd.C_drewN ?_ _) | (with_reducible refine Kd.C_drew ?_))); (case side2 => exact HC2.out); rintro e w94 ⟨v258, rfl, ho0, hb⟩; refine ⟨_, rfl, ?_⟩; have n0_ := Aside0.mk (Kd.R_below (by (with_reducible repeat (first | apply Kd.R_alloc | apply Kd.R_drewN | apply Kd.R_drew)); exact HO_11.out) hb); have n1_ := Aside0.mk (Kd.R_lower ho0 (below_size (by repeat (first | (with_reducible first | exact HB.out | apply below_alloc | apply pw_below_drewN | apply below_drew1) | exact HB.out)))); have n2_ := Aside0.mk (below_step (by repeat (first | (with_reducible first | exact HB.out | apply below_alloc | apply pw_below_drewN | apply below_drew1) | exact HB.out)) hb); clear HO_11; clear HB; have HO_11 := n0_; have HO259 := n1_; have HB := n2_; clear n0_ n1_ n2_; (try clear hb); (try clear hb2); (try clear hk); (try clear hi); (try clear ho0); obtain ⟨Ao95, co95, eo95⟩ := Kd.R_slice HO259.out; subst eo95) | ((with_reducible refine gate_callee (f := 68) rfl ?_); refine goesL_ (some 98) rfl rfl Try.func68 (by kernel_rfl) rfl #[.slice Ao95 t257.length co95] rfl (by (try simp only [List.map_toArray, List.map_cons, List.map_nil]); first | done | rfl | (simp only [List.length_drop, List.length_take]; rfl)) ?_; (with_reducible refine (codec_ReadCells.calls _ _ t257 t260 t261 _ ?side1 ?side2 A62.out).mono ?_); (case side1 => repeat (first | exact (Kd.R_reads' HO259.out).2.2 | (with_reducible refine Kd.C_alloc ?_ _) | (with_reducible refine Kd.C_drewN ?_ _) | (with_reducible refine Kd.C_drew ?_))); (case side2 => exact (Kd.R_reads' HO259.out).2.1); rintro e w96 ⟨v262, rfl, ho0, hb⟩; refine ⟨_, rfl, ?_⟩; have n0_ := Aside0.mk (Kd.R_elder' (by (with_reducible repeat (first | apply Kd.R_alloc | apply Kd.R_drewN | apply Kd.R_drew)); exact HO_11.out) (Kd.R_base ho0) hb); have n1_ := Aside0.mk (Kd.R_below (by (with_reducible repeat (first | apply Kd.R_alloc | apply Kd.R_drewN | apply Kd.R_drew)); exact HO259.out) hb); have n2_ := Aside0.mk (Kd.R_lower (Kd.R_new' ho0 (Kd.R_lt (by (with_reducible repeat (first | apply Kd.R_alloc | apply Kd.R_drewN | apply Kd.R_drew)); exact HO_11.out))) (below_size (by repeat (first | (with_reducible first | exact HB.out | apply below_alloc | apply pw_below_drewN | apply below_drew1) | exact HB.out)))); have n3_ := Aside0.mk (below_step (by repeat (first | (with_reducible first | exact HB.out | apply below_alloc | apply pw_below_drewN | apply below_drew1) | exact HB.out)) hb); clear HO_11; clear HO259; clear HB; have HO_11 := n0_; have HO259 := n1_; have HO263 := n2_; have HB := n3_; clear n0_ n1_ n2_ n3_; (try clear hb); (try clear hb2); (try clear hk); (try clear hi); (try clear ho0)) | ((with_reducible refine gate_dst (N := 102) rfl ?_); (try (refine gate_guard (by rfl) ?_; dsimp only)); refine Kd.R_lit (Kd.int .u8) _ 5 ?hg (N := 102) ?hd (xs := ([] : List Int)) (inner := []) (ok := fun _ => True) (okp := fun _ => True) ?hr ?hp (fun _ hk => hk) trivial (Below.refl _ _) (Nat.le_refl _) (by simp) ?_; (case hd => rfl); (case hg => rfl); (case hr => first | (go_simp; done) | (go_simp; rfl)); (case hp => exact (Reps.none _ _)); intro v265 w97 ho98 hb hg_ hnew_; clear hg_ hnew_; (first | rw [← Ny264.out] at ho98 | (simp only [Int.reduceToNat] at ho98; rw [← Ny264.out] at ho98)); have n0_ := Aside0.mk (Kd.R_below (by (with_reducible repeat (first | apply Kd.R_alloc | apply Kd.R_drewN | apply Kd.R_drew)); exact HO_11.out) hb); have n1_ := Aside0.mk (Kd.R_elder' (by (with_reducible repeat (first | apply Kd.R_alloc | apply Kd.R_drewN | apply Kd.R_drew)); exact HO259.out) (Kd.R_base ho98) hb); have n2_ := Aside0.mk (Kd.R_below (by (with_reducible repeat (first | apply Kd.R_alloc | apply Kd.R_drewN | apply Kd.R_drew)); exact HO263.out) hb); have n3_ := Aside0.mk (Kd.R_lower (Kd.R_new' ho98 (Kd.R_lt (by (with_reducible repeat (first | apply Kd.R_alloc | apply Kd.R_drewN | apply Kd.R_drew)); exact HO259.out))) (below_size (by repeat (first | (with_reducible first | exact HB.out | apply below_alloc | apply pw_below_drewN | apply below_drew1) | exact HB.out)))); have n4_ := Aside0.mk (below_step (by repeat (first | (with_reducible first | exact HB.out | apply below_alloc | apply pw_below_drewN | apply below_drew1) | exact HB.out)) hb); clear HO_11; clear HO259; clear HO263; clear HB; have HO_11 := n0_; have HO259 := n1_; have HO263 := n2_; have HO266 := n3_; have HB := n4_; clear n0_ n1_ n2_ n3_ n4_; clear hb ho98) | ((with_reducible refine gate_builtin (b := .append) (xs := #[.tmp 102, .tmp 103]) rfl ?_); (try (refine gate_guard (by rfl) ?_; dsimp only)); at_builtin; refine Kd.R_append_rows (Kd.int .u8) (w0 := w) w.heap.size rfl (.tmp 102) (.tmp 103) 27 5 (.int .u8 0) 1 rfl Try.underlying27 info5 rfl (by decide) (by omega) v265 y264 t257 _ _ _ (fun k_ => some k_ ≠ (.slice Ao95 t257.length co95 : Value).ownBlock) (fun _ => False) rfl rfl ?aO ?aR (fun _ _ h => h) (fun _ h => h.elim) ?aF ?aB ?aS ?aL ?_; (case aR => repeat (first | exact (Kd.R_reads' HO259.out).2.2 | (with_reducible refine Kd.C_alloc ?_ _) | (with_reducible refine Kd.C_drewN ?_ _) | (with_reducible refine Kd.C_drew ?_))); (case aB => exact (by repeat (first | (with_reducible first | exact HB.out | apply below_alloc | apply pw_below_drewN | apply below_drew1) | exact HB.out))); (case aF => exact (fun k_ hk => Kd.fresh' (Kd.R_lt (by (with_reducible repeat (first | apply Kd.R_alloc | apply Kd.R_drewN | apply Kd.R_drew)); exact HO259.out)) k_ hk)); (case aO => exact (by (with_reducible repeat (first | apply Kd.R_alloc | apply Kd.R_drewN | apply Kd.R_drew)); exact Kd.R_mono HO266.out (fun _ hk => hk.2))); (case aS => exact (below_size (by repeat (first | (with_reducible first | exact HB.out | apply below_alloc | apply pw_below_drewN | apply below_drew1) | exact HB.out)))); (case aL => have := LMc63.out; omega); intro v268 w99 ho hb hg hat; rw [← Ny267.out] at ho; have n0_ := Aside0.mk (Kd.R_over' (by (with_reducible repeat (first | apply Kd.R_alloc | apply Kd.R_drewN | apply Kd.R_drew)); exact HO_11.out) (Kd.R_typed (by (with_reducible repeat (first | apply Kd.R_alloc | apply Kd.R_drewN | apply Kd.R_drew)); exact HO266.out)) (by decide) hg); have n1_ := Aside0.mk (Kd.R_after (ok := (fun _ => True)) (by (with_reducible repeat (first | apply Kd.R_alloc | apply Kd.R_drewN | apply Kd.R_drew)); exact HO259.out) hg hat); have n2_ := Aside0.mk (Kd.R_over' (by (with_reducible repeat (first | apply Kd.R_alloc | apply Kd.R_drewN | apply Kd.R_drew)); exact HO263.out) (Kd.R_typed (by (with_reducible repeat (first | apply Kd.R_alloc | apply Kd.R_drewN | apply Kd.R_drew)); exact HO266.out)) (by decide) hg); have n3_ := Aside0.mk (hb); have n4_ := Aside0.mk (ho); clear HO_11; clear HO259; clear HO263; clear HB; clear HO266; have HO_11 := n0_; have HO259 := n1_; have HO263 := n2_; have HB := n3_; have HO269 := n4_; clear n0_ n1_ n2_ n3_ n4_; clear ho hb hg hat) | ((with_reducible refine gate_builtin (b := .append) (xs := #[.tmp 104, .tmp 105]) rfl ?_); (try (refine gate_guard (by rfl) ?_; dsimp only)); at_builtin; refine Kd.R_append (Kd.int .u8) (w0 := w) w.heap.size rfl (.tmp 104) (.tmp 105) 27 5 (.int .u8 0) 1 rfl Try.underlying27 info5 rfl (by decide) (by omega) v268 y267 0 [.int .u8 0] (fun k_ => some k_ ≠ (.slice Ao95 t257.length co95 : Value).ownBlock) (fun _ => False) rfl rfl ?aP (fun _ hk => hk.elim) ?aF ?aO ?aB ?aS ?aL ?_; (case aP => exact rfl); (case aB => exact (by repeat (first | (with_reducible first | exact HB.out | apply below_alloc | apply pw_below_drewN | apply below_drew1) | exact HB.out))); (case aF => exact (fun k_ hk => Kd.fresh' (Kd.R_lt (by (with_reducible repeat (first | apply Kd.R_alloc | apply Kd.R_drewN | apply Kd.R_drew)); exact HO259.out)) k_ hk)); (case aO => exact (by (with_reducible repeat (first | apply Kd.R_alloc | apply Kd.R_drewN | apply Kd.R_drew)); exact HO269.out)); (case aS => exact (below_size (by repeat (first | (with_reducible first | exact HB.out | apply below_alloc | apply pw_below_drewN | apply below_drew1) | exact HB.out)))); (case aL => have := LMc64.out; omega); intro v271 w100 ho hb hg hat; rw [← Ny270.out] at ho; have n0_ := Aside0.mk (Kd.R_over' (by (with_reducible repeat (first | apply Kd.R_alloc | apply Kd.R_drewN | apply Kd.R_drew)); exact HO_11.out) (Kd.R_typed (by (with_reducible repeat (first | apply Kd.R_alloc | apply Kd.R_drewN | apply Kd.R_drew)); exact HO269.out)) (by decide) hg); have n1_ := Aside0.mk (Kd.R_after (ok := (fun _ => True)) (by (with_reducible repeat (first | apply Kd.R_alloc | apply Kd.R_drewN | apply Kd.R_drew)); exact HO259.out) hg hat); have n2_ := Aside0.mk (Kd.R_over' (by (with_reducible repeat (first | apply Kd.R_alloc | apply Kd.R_drewN | apply Kd.R_drew)); exact HO263.out) (Kd.R_typed (by (with_reducible repeat (first | apply Kd.R_alloc | apply Kd.R_drewN | apply Kd.R_drew)); exact HO269.out)) (by decide) hg); have n3_ := Aside0.mk (hb); have n4_ := Aside0.mk (ho); clear HO_11; clear HO259; clear HO263; clear HB; clear HO269; have HO_11 := n0_; have HO259 := n1_; have HO263 := n2_; have HB := n3_; have HO272 := n4_; clear n0_ n1_ n2_ n3_ n4_; clear ho hb hg hat; obtain ⟨Ao101, co101, eo101⟩ := Kd.R_slice HO272.out; subst eo101) | ((with_reducible refine gate_callee (f := 68) rfl ?_); refine goesL_ (some 107) rfl rfl Try.func68 (by kernel_rfl) rfl #[.slice Ao101 y270.length co101] rfl (by (try simp only [List.map_toArray, List.map_cons, List.map_nil]); first | done | rfl | (simp only [List.length_drop, List.length_take]; rfl)) ?_; (with_reducible refine (codec_ReadCells.calls _ _ y270 t273 t274 _ ?side1 ?side2 A65.out).mono ?_); (case side1 => repeat (first | exact (Kd.R_reads' HO272.out).2.2 | (with_reducible refine Kd.C_alloc ?_ _) | (with_reducible refine Kd.C_drewN ?_ _) | (with_reducible refine Kd.C_drew ?_))); (case side2 => exact (Kd.R_reads' HO272.out).2.1); rintro e w102 ⟨v275, rfl, ho0, hb⟩; refine ⟨_, rfl, ?_⟩; have n0_ := Aside0.mk (Kd.R_elder' (by (with_reducible repeat (first | apply Kd.R_alloc | apply Kd.R_drewN | apply Kd.R_drew)); exact HO_11.out) (Kd.R_base ho0) hb); have n1_ := Aside0.mk (Kd.R_below (by (with_reducible repeat (first | apply Kd.R_alloc | apply Kd.R_drewN | apply Kd.R_drew)); exact HO259.out) hb); have n2_ := Aside0.mk (Kd.R_elder' (by (with_reducible repeat (first | apply Kd.R_alloc | apply Kd.R_drewN | apply Kd.R_drew)); exact HO263.out) (Kd.R_base ho0) hb); have n3_ := Aside0.mk (Kd.R_below (by (with_reducible repeat (first | apply Kd.R_alloc | apply Kd.R_drewN | apply Kd.R_drew)); exact HO272.out) hb); have n4_ := Aside0.mk (Kd.R_lower (Kd.R_new' (Kd.R_new' ho0 (Kd.R_lt (by (with_reducible repeat (first | apply Kd.R_alloc | apply Kd.R_drewN | apply Kd.R_drew)); exact HO_11.out))) (Kd.R_lt (by (with_reducible repeat (first | apply Kd.R_alloc | apply Kd.R_drewN | apply Kd.R_drew)); exact HO263.out))) (below_size (by repeat (first | (with_reducible first | exact HB.out | apply below_alloc | apply pw_below_drewN | apply below_drew1) | exact HB.out)))); have n5_ := Aside0.mk (below_step (by repeat (first | (with_reducible first | exact HB.out | apply below_alloc | apply pw_below_drewN | apply below_drew1) | exact HB.out)) hb); clear HO_11; clear HO259; clear HO263; clear HO272; clear HB; have HO_11 := n0_; have HO259 := n1_; have HO263 := n2_; have HO272 := n3_; have HO276 := n4_; have HB := n5_; clear n0_ n1_ n2_ n3_ n4_ n5_; (try clear hb); (try clear hb2); (try clear hk); (try clear hi); (try clear ho0); obtain ⟨Ao103, co103, eo103⟩ := Kd.R_slice HO263.out; subst eo103; obtain ⟨Ao104, co104, eo104⟩ := Kd.R_slice HO_11.out; subst eo104) | (go_at_call 72; (with_reducible refine (skerryref01_Like.calls k3 _ _ t260 _ _ x11_3 false _ ?side1 ?side2 ?side3 ?side4 A67.out).mono ?_); (case side1 => repeat (first | exact (Kd.R_reads' HO263.out).2.2 | (with_reducible refine Kd.C_alloc ?_ _) | (with_reducible refine Kd.C_drewN ?_ _) | (with_reducible refine Kd.C_drew ?_))); (case side2 => exact (Kd.R_reads' HO263.out).2.1); (case side3 => repeat (first | exact (Kd.R_reads' HO_11.out).2.2 | (with_reducible refine Kd.C_alloc ?_ _) | (with_reducible refine Kd.C_drewN ?_ _) | (with_reducible refine Kd.C_drew ?_))); (case side4 => exact (Kd.R_reads' HO_11.out).2.1); rintro e w' ⟨rfl, ⟨nd, rfl⟩⟩))
                                go_ret
                                exact ⟨by first | rfl | (simp [errW_none, errW_some] <;> rfl) | (simp [*, errW_none, errW_some] <;> rfl), by repeat (first | (with_reducible first | exact HB.out | apply below_alloc | apply pw_below_drewN | apply below_drew1) | exact HB.out)⟩
                            · rw [if_neg c66] at H
                              have c66b0 : (t261 == 0) = false := beq_eq_false_iff_ne.mpr c66
                              have c66b1 : (t261 != 0) = true := bne_iff_ne.mpr c66
                              obtain rfl := Option.some.inj H
                              go_wp2_with (first | ((with_reducible refine gate_callee (f := 70) rfl ?_); refine goesL_ (some 95) rfl rfl Try.func70 (by kernel_rfl) rfl #[.slice A2 l2.length c2] rfl (by (try simp only [List.map_toArray, List.map_cons, List.map_nil]); first | done | rfl | (simp only [List.length_drop, List.length_take]; rfl)) ?_; (with_reducible refine (codec_Cells.calls k3 _ _ l2 t257 _ ?side1 ?side2 A61.out).mono ?_); (case side1 => repeat (first | exact (Kd.C_below HR2.out HB.out) | (with_reducible refine Kd.C_alloc ?_ _) | (with_reducible refine Kd.C_drewN ?_ _) | (with_reducible refine Kd.C_drew ?_))); (case side2 => exact HC2.out); rintro e w105 ⟨v258, rfl, ho0, hb⟩; refine ⟨_, rfl, ?_⟩; have n0_ := Aside0.mk (Kd.R_below (by (with_reducible repeat (first | apply Kd.R_alloc | apply Kd.R_drewN | apply Kd.R_drew)); exact HO_11.out) hb); have n1_ := Aside0.mk (Kd.R_lower ho0 (below_size (by repeat (first | (with_reducible first | exact HB.out | apply below_alloc | apply pw_below_drewN | apply below_drew1) | exact HB.out)))); have n2_ := Aside0.mk (below_step (by repeat (first | (with_reducible first | exact HB.out | apply below_alloc | apply pw_below_drewN | apply below_drew1) | exact HB.out)) hb); clear HO_11; clear HB; have HO_11 := n0_; have HO259 := n1_; have HB := n2_; clear n0_ n1_ n2_; (try clear hb); (try clear hb2); (try clear hk); (try clear hi); (try clear ho0); obtain ⟨Ao106, co106, eo106⟩ := Kd.R_slice HO259.out; subst eo106) | ((with_reducible refine gate_callee (f := 68) rfl ?_); refine goesL_ (some 98) rfl rfl Try.func68 (by kernel_rfl) rfl #[.slice Ao106 t257.length co106] rfl (by (try simp only [List.map_toArray, List.map_cons, List.map_nil]); first | done | rfl | (simp only [List.length_drop, List.length_take]; rfl)) ?_; (with_reducible refine (codec_ReadCells.calls _ _ t257 t260 t261 _ ?side1 ?side2 A62.out).mono ?_); (case side1 => repeat (first | exact (Kd.R_reads' HO259.out).2.2 | (with_reducible refine Kd.C_alloc ?_ _) | (with_reducible refine Kd.C_drewN ?_ _) | (with_reducible refine Kd.C_drew ?_))); (case side2 => exact (Kd.R_reads' HO259.out).2.1); rintro e w107 ⟨v262, rfl, ho0, hb⟩; refine ⟨_, rfl, ?_⟩; have n0_ := Aside0.mk (Kd.R_elder' (by (with_reducible repeat (first | apply Kd.R_alloc | apply Kd.R_drewN | apply Kd.R_drew)); exact HO_11.out) (Kd.R_base ho0) hb); have n1_ := Aside0.mk (Kd.R_below (by (with_reducible repeat (first | apply Kd.R_alloc | apply Kd.R_drewN | apply Kd.R_drew)); exact HO259.out) hb); have n2_ := Aside0.mk (Kd.R_lower (Kd.R_new' ho0 (Kd.R_lt (by (with_reducible repeat (first | apply Kd.R_alloc | apply Kd.R_drewN | apply Kd.R_drew)); exact HO_11.out))) (below_size (by repeat (first | (with_reducible first | exact HB.out | apply below_alloc | apply pw_below_drewN | apply below_drew1) | exact HB.out)))); have n3_ := Aside0.mk (below_step (by repeat (first | (with_reducible first | exact HB.out | apply below_alloc | apply pw_below_drewN | apply below_drew1) | exact HB.out)) hb); clear HO_11; clear HO259; clear HB; have HO_11 := n0_; have HO259 := n1_; have HO263 := n2_; have HB := n3_; clear n0_ n1_ n2_ n3_; (try clear hb); (try clear hb2); (try clear hk); (try clear hi); (try clear ho0)) | ((with_reducible refine gate_dst (N := 102) rfl ?_); (try (refine gate_guard (by rfl) ?_; dsimp only)); refine Kd.R_lit (Kd.int .u8) _ 5 ?hg (N := 102) ?hd (xs := ([] : List Int)) (inner := []) (ok := fun _ => True) (okp := fun _ => True) ?hr ?hp (fun _ hk => hk) trivial (Below.refl _ _) (Nat.le_refl _) (by simp) ?_; (case hd => rfl); (case hg => rfl); (case hr => first | (go_simp; done) | (go_simp; rfl)); (case hp => exact (Reps.none _ _)); intro v265 w108 ho109 hb hg_ hnew_; clear hg_ hnew_; (first | rw [← Ny264.out] at ho109 | (simp only [Int.reduceToNat] at ho109; rw [← Ny264.out] at ho109)); have n0_ := Aside0.mk (Kd.R_below (by (with_reducible repeat (first | apply Kd.R_alloc | apply Kd.R_drewN | apply Kd.R_drew)); exact HO_11.out) hb); have n1_ := Aside0.mk (Kd.R_elder' (by (with_reducible repeat (first | apply Kd.R_alloc | apply Kd.R_drewN | apply Kd.R_drew)); exact HO259.out) (Kd.R_base ho109) hb); have n2_ := Aside0.mk (Kd.R_below (by (with_reducible repeat (first | apply Kd.R_alloc | apply Kd.R_drewN | apply Kd.R_drew)); exact HO263.out) hb); have n3_ := Aside0.mk (Kd.R_lower (Kd.R_new' ho109 (Kd.R_lt (by (with_reducible repeat (first | apply Kd.R_alloc | apply Kd.R_drewN | apply Kd.R_drew)); exact HO259.out))) (below_size (by repeat (first | (with_reducible first | exact HB.out | apply below_alloc | apply pw_below_drewN | apply below_drew1) | exact HB.out)))); have n4_ := Aside0.mk (below_step (by repeat (first | (with_reducible first | exact HB.out | apply below_alloc | apply pw_below_drewN | apply below_drew1) | exact HB.out)) hb); clear HO_11; clear HO259; clear HO263; clear HB; have HO_11 := n0_; have HO259 := n1_; have HO263 := n2_; have HO266 := n3_; have HB := n4_; clear n0_ n1_ n2_ n3_ n4_; clear hb ho109) | ((with_reducible refine gate_builtin (b := .append) (xs := #[.tmp 102, .tmp 103]) rfl ?_); (try (refine gate_guard (by rfl) ?_; dsimp only)); at_builtin; refine Kd.R_append_rows (Kd.int .u8) (w0 := w) w.heap.size rfl (.tmp 102) (.tmp 103) 27 5 (.int .u8 0) 1 rfl Try.underlying27 info5 rfl (by decide) (by omega) v265 y264 t257 _ _ _ (fun k_ => some k_ ≠ (.slice Ao106 t257.length co106 : Value).ownBlock) (fun _ => False) rfl rfl ?aO ?aR (fun _ _ h => h) (fun _ h => h.elim) ?aF ?aB ?aS ?aL ?_; (case aR => repeat (first | exact (Kd.R_reads' HO259.out).2.2 | (with_reducible refine Kd.C_alloc ?_ _) | (with_reducible refine Kd.C_drewN ?_ _) | (with_reducible refine Kd.C_drew ?_))); (case aB => exact (by repeat (first | (with_reducible first | exact HB.out | apply below_alloc | apply pw_below_drewN | apply below_drew1) | exact HB.out))); (case aF => exact (fun k_ hk => Kd.fresh' (Kd.R_lt (by (with_reducible repeat (first | apply Kd.R_alloc | apply Kd.R_drewN | apply Kd.R_drew)); exact HO259.out)) k_ hk)); (case aO => exact (by (with_reducible repeat (first | apply Kd.R_alloc | apply Kd.R_drewN | apply Kd.R_drew)); exact Kd.R_mono HO266.out (fun _ hk => hk.2))); (case aS => exact (below_size (by repeat (first | (with_reducible first | exact HB.out | apply below_alloc | apply pw_below_drewN | apply below_drew1) | exact HB.out)))); (case aL => have := LMc63.out; omega); intro v268 w110 ho hb hg hat; rw [← Ny267.out] at ho; have n0_ := Aside0.mk (Kd.R_over' (by (with_reducible repeat (first | apply Kd.R_alloc | apply Kd.R_drewN | apply Kd.R_drew)); exact HO_11.out) (Kd.R_typed (by (with_reducible repeat (first | apply Kd.R_alloc | apply Kd.R_drewN | apply Kd.R_drew)); exact HO266.out)) (by decide) hg); have n1_ := Aside0.mk (Kd.R_after (ok := (fun _ => True)) (by (with_reducible repeat (first | apply Kd.R_alloc | apply Kd.R_drewN | apply Kd.R_drew)); exact HO259.out) hg hat); have n2_ := Aside0.mk (Kd.R_over' (by (with_reducible repeat (first | apply Kd.R_alloc | apply Kd.R_drewN | apply Kd.R_drew)); exact HO263.out) (Kd.R_typed (by (with_reducible repeat (first | apply Kd.R_alloc | apply Kd.R_drewN | apply Kd.R_drew)); exact HO266.out)) (by decide) hg); have n3_ := Aside0.mk (hb); have n4_ := Aside0.mk (ho); clear HO_11; clear HO259; clear HO263; clear HB; clear HO266; have HO_11 := n0_; have HO259 := n1_; have HO263 := n2_; have HB := n3_; have HO269 := n4_; clear n0_ n1_ n2_ n3_ n4_; clear ho hb hg hat) | ((with_reducible refine gate_builtin (b := .append) (xs := #[.tmp 104, .tmp 105]) rfl ?_); (try (refine gate_guard (by rfl) ?_; dsimp only)); at_builtin; refine Kd.R_append (Kd.int .u8) (w0 := w) w.heap.size rfl (.tmp 104) (.tmp 105) 27 5 (.int .u8 0) 1 rfl Try.underlying27 info5 rfl (by decide) (by omega) v268 y267 0 [.int .u8 0] (fun k_ => some k_ ≠ (.slice Ao106 t257.length co106 : Value).ownBlock) (fun _ => False) rfl rfl ?aP (fun _ hk => hk.elim) ?aF ?aO ?aB ?aS ?aL ?_; (case aP => exact rfl); (case aB => exact (by repeat (first | (with_reducible first | exact HB.out | apply below_alloc | apply pw_below_drewN | apply below_drew1) | exact HB.out))); (case aF => exact (fun k_ hk => Kd.fresh' (Kd.R_lt (by (with_reducible repeat (first | apply Kd.R_alloc | apply Kd.R_drewN | apply Kd.R_drew)); exact HO259.out)) k_ hk)); (case aO => exact (by (with_reducible repeat (first | apply Kd.R_alloc | apply Kd.R_drewN | apply Kd.R_drew)); exact HO269.out)); (case aS => exact (below_size (by repeat (first | (with_reducible first | exact HB.out | apply below_alloc | apply pw_below_drewN | apply below_drew1) | exact HB.out)))); (case aL => have := LMc64.out; omega); intro v271 w111 ho hb hg hat; rw [← Ny270.out] at ho; have n0_ := Aside0.mk (Kd.R_over' (by (with_reducible repeat (first | apply Kd.R_alloc | apply Kd.R_drewN | apply Kd.R_drew)); exact HO_11.out) (Kd.R_typed (by (with_reducible repeat (first | apply Kd.R_alloc | apply Kd.R_drewN | apply Kd.R_drew)); exact HO269.out)) (by decide) hg); have n1_ := Aside0.mk (Kd.R_after (ok := (fun _ => True)) (by (with_reducible repeat (first | apply Kd.R_alloc | apply Kd.R_drewN | apply Kd.R_drew)); exact HO259.out) hg hat); have n2_ := Aside0.mk (Kd.R_over' (by (with_reducible repeat (first | apply Kd.R_alloc | apply Kd.R_drewN | apply Kd.R_drew)); exact HO263.out) (Kd.R_typed (by (with_reducible repeat (first | apply Kd.R_alloc | apply Kd.R_drewN | apply Kd.R_drew)); exact HO269.out)) (by decide) hg); have n3_ := Aside0.mk (hb); have n4_ := Aside0.mk (ho); clear HO_11; clear HO259; clear HO263; clear HB; clear HO269; have HO_11 := n0_; have HO259 := n1_; have HO263 := n2_; have HB := n3_; have HO272 := n4_; clear n0_ n1_ n2_ n3_ n4_; clear ho hb hg hat; obtain ⟨Ao112, co112, eo112⟩ := Kd.R_slice HO272.out; subst eo112) | ((with_reducible refine gate_callee (f := 68) rfl ?_); refine goesL_ (some 107) rfl rfl Try.func68 (by kernel_rfl) rfl #[.slice Ao112 y270.length co112] rfl (by (try simp only [List.map_toArray, List.map_cons, List.map_nil]); first | done | rfl | (simp only [List.length_drop, List.length_take]; rfl)) ?_; (with_reducible refine (codec_ReadCells.calls _ _ y270 t273 t274 _ ?side1 ?side2 A65.out).mono ?_); (case side1 => repeat (first | exact (Kd.R_reads' HO272.out).2.2 | (with_reducible refine Kd.C_alloc ?_ _) | (with_reducible refine Kd.C_drewN ?_ _) | (with_reducible refine Kd.C_drew ?_))); (case side2 => exact (Kd.R_reads' HO272.out).2.1); rintro e w113 ⟨v275, rfl, ho0, hb⟩; refine ⟨_, rfl, ?_⟩; have n0_ := Aside0.mk (Kd.R_elder' (by (with_reducible repeat (first | apply Kd.R_alloc | apply Kd.R_drewN | apply Kd.R_drew)); exact HO_11.out) (Kd.R_base ho0) hb); have n1_ := Aside0.mk (Kd.R_below (by (with_reducible repeat (first | apply Kd.R_alloc | apply Kd.R_drewN | apply Kd.R_drew)); exact HO259.out) hb); have n2_ := Aside0.mk (Kd.R_elder' (by (with_reducible repeat (first | apply Kd.R_alloc | apply Kd.R_drewN | apply Kd.R_drew)); exact HO263.out) (Kd.R_base ho0) hb); have n3_ := Aside0.mk (Kd.R_below (by (with_reducible repeat (first | apply Kd.R_alloc | apply Kd.R_drewN | apply Kd.R_drew)); exact HO272.out) hb); have n4_ := Aside0.mk (Kd.R_lower (Kd.R_new' (Kd.R_new' ho0 (Kd.R_lt (by (with_reducible repeat (first | apply Kd.R_alloc | apply Kd.R_drewN | apply Kd.R_drew)); exact HO_11.out))) (Kd.R_lt (by (with_reducible repeat (first | apply Kd.R_alloc | apply Kd.R_drewN | apply Kd.R_drew)); exact HO263.out))) (below_size (by repeat (first | (with_reducible first | exact HB.out | apply below_alloc | apply pw_below_drewN | apply below_drew1) | exact HB.out)))); have n5_ := Aside0.mk (below_step (by repeat (first | (with_reducible first | exact HB.out | apply below_alloc | apply pw_below_drewN | apply below_drew1) | exact HB.out)) hb); clear HO_11; clear HO259; clear HO263; clear HO272; clear HB; have HO_11 := n0_; have HO259 := n1_; have HO263 := n2_; have HO272 := n3_; have HO276 := n4_; have HB := n5_; clear n0_ n1_ n2_ n3_ n4_ n5_; (try clear hb); (try clear hb2); (try clear hk); (try clear hi); (try clear ho0)))
                              go_ret
                              exact ⟨by first | rfl | (simp [errW_none, errW_some] <;> rfl) | (simp [*, errW_none, errW_some] <;> rfl), by repeat (first | (with_reducible first | exact HB.out | apply below_alloc | apply pw_below_drewN | apply below_drew1) | exact HB.out)⟩
                          · rw [if_neg c64] at H
                            exact absurd H (by simp)
                        · rw [if_neg c63] at H
                          exact absurd H (by simp)
          · rw [if_neg c15] at H
            exact absurd H (by simp)
        · rw [if_neg c12] at H
          exact absurd H (by simp)
end Go.Proofs.Ytcopbkdlpfcjpaa.G
namespace Go.Proofs.Ytcopbkdlpfcjpaa.K
open Go.RowKit Go.Proofs.YtcopbkdlpfcjpaaW.PrintWords Go.Proofs.Ytcopbkdlpfcjpaa.B Go.Proofs.Ytcopbkdlpfcjpaa.G
set_option linter.unusedVariables false
theorem Like_l0 (xs : List S101) (h : xs.length ≤ 1000000) (d : Nat) : ∀ i : Nat, i + d = xs.length → Ev (fun k => skerryref01_Like.l0 k xs xs (xs.length : Int) (i : Int)) true := by
  induction d with
  | zero =>
    intro i hi
    refine Ev.step (f := fun _ => some true) (fun k => ?_) (Ev.now _)
    simp only [skerryref01_Like.l0]
    rw [if_neg (by omega)]
  | succ d ih =>
    intro i hi
    refine Ev.step (f := fun k => skerryref01_Like.l0 k xs xs (xs.length : Int) ((i + 1 : Nat) : Int)) (fun k => ?_) (ih (i + 1) (by omega))
    simp only [skerryref01_Like.l0]
    have e : wrap64 ((i : Int) + 1) = ((i + 1 : Nat) : Int) := Ma.wrap_in (n := (i : Int) + 1) (by omega) |>.trans (by omega)
    rw [if_pos (by omega), if_pos (by omega), if_pos (by omega), if_pos (by omega), e]
    simp
theorem Like_self (xs : List S101) (h : xs.length ≤ 1000000) : Ev (fun k => skerryref01_Like.f k xs xs) true :=
  Ev.congr (fun k => if_pos rfl) (Like_l0 xs h xs.length 0 (by omega))
end Go.Proofs.Ytcopbkdlpfcjpaa.K
namespace Go.Proofs.Ytcopbkdlpfcjpaa.K
open Go.RowKit Go.Proofs.YtcopbkdlpfcjpaaW.PrintWords Go.Proofs.Ytcopbkdlpfcjpaa.B Go.Proofs.Ytcopbkdlpfcjpaa.G
set_option linter.unusedVariables false
/-- A text's bytes. -/
def bytN (s : ByteArray) : List Nat := s.data.toList.map (·.toNat)
theorem up_bytN (s : ByteArray) : Ma.up (bytN s) = bytesOf s := by
  unfold Ma.up bytN bytesOf
  rw [List.map_map]
  rfl
theorem bytN_length (s : ByteArray) : (bytN s).length = s.size := by rw [bytN, List.length_map, data_length]
/-- What a text, a signed number, a cell and a row of cells are written as. -/
def textN (s : ByteArray) : List Nat := Ma.digN s.size ++ bytN s
def zigN (n : Int) : List Nat := Ma.digN (Ma.zig n).toNat
def cellN (c : S101) : List Nat :=
  textN c.f0.f0 ++ textN c.f0.f1 ++ zigN c.f0.f2 ++ textN c.f0.f3 ++ zigN c.f1.f0 ++
    (if c.f1.f1 = true then [1] ++ zigN c.f1.f2 else [0] ++ Ma.digN (IntKind.u64.wrap c.f1.f3.f0).toNat ++ zigN c.f1.f3.f1 ++ textN c.f1.f3.f2)
def cellsN (xs : List S101) : List Nat := Ma.digN xs.length ++ xs.flatMap cellN
end Go.Proofs.Ytcopbkdlpfcjpaa.K
namespace Go.Proofs.Ytcopbkdlpfcjpaa.K
open Go.RowKit Go.Proofs.YtcopbkdlpfcjpaaW.PrintWords Go.Proofs.Ytcopbkdlpfcjpaa.B Go.Proofs.Ytcopbkdlpfcjpaa.G
open Go.Proofs.Ytcopbkdlpfcjpaa.Ma (getS digN)
set_option linter.unusedVariables false
theorem numS_dig (v : Nat) (hv : v < 18446744073709551616) (rest : List Nat) : numS (digN v ++ rest) = some (v, rest) := by
  have h := Ma.getS_dig v 0 0 rest (by simpa using hv) (by omega) (by omega)
  have hp := Ma.digN_pos v
  unfold numS
  rw [h]
  simp only [Nat.mul_zero, Nat.pow_zero, Nat.one_mul, Nat.zero_add]
  rw [if_neg (by omega)]
  simp
theorem str_bytes (t : ByteArray) : strOfNums (bytesOf t) = t := by
  unfold strOfNums bytesOf
  rw [List.map_map]
  have e : t.data.toList.map ((fun n : Int => UInt8.ofNat n.toNat) ∘ fun b : UInt8 => (b.toNat : Int)) = t.data.toList := by
    conv => rhs; rw [← List.map_id t.data.toList]
    apply List.map_congr_left
    intro a _
    simp
  rw [e]
theorem textS_text (t : ByteArray) (hs : t.size ≤ 1000000) (rest : List Nat) : textS (textN t ++ rest) = some (t, rest) := by
  have hd := Ma.getS_dig t.size 0 0 (bytN t ++ rest) (by simp; omega) (by omega) (by omega)
  have hp := Ma.digN_pos t.size
  have hl := bytN_length t
  unfold textS textN
  rw [List.append_assoc, hd]
  simp only [Nat.mul_zero, Nat.pow_zero, Nat.one_mul, Nat.zero_add]
  rw [if_neg (by omega), if_neg (by simp only [List.length_append]; omega)]
  have e1 : (digN t.size ++ (bytN t ++ rest)).drop ((digN t.size).length + t.size) = rest := by
    rw [← List.append_assoc, ← hl, ← List.length_append, List.drop_left]
  rw [e1, Ma.up_take, Ma.up_drop]
  have e2 : ((digN t.size ++ (bytN t ++ rest)).take ((digN t.size).length + t.size)).drop (digN t.size).length = bytN t := by
    rw [← List.append_assoc, ← hl, ← List.length_append, List.take_left, List.drop_left]
  rw [e2, up_bytN, str_bytes]
theorem zag_zig (n : Int) : Ma.zag (Ma.zig n) = n := by
  unfold Ma.zag Ma.zig
  split <;> split <;> omega
theorem zig_range (n : Int) (h : -9223372036854775808 ≤ n ∧ n < 9223372036854775808) : 0 ≤ Ma.zig n ∧ Ma.zig n < 18446744073709551616 := by
  unfold Ma.zig
  split <;> omega
theorem intS_zig (n : Int) (h : -9223372036854775808 ≤ n ∧ n < 9223372036854775808) (rest : List Nat) : intS (zigN n ++ rest) = some (n, rest) := by
  have hr := zig_range n h
  unfold intS zigN
  rw [numS_dig _ (by omega)]
  have e : (((Ma.zig n).toNat : Nat) : Int) = Ma.zig n := by omega
  simp only [Option.map_some]
  rw [e, zag_zig]
def I64 (n : Int) : Prop := -9223372036854775808 ≤ n ∧ n < 9223372036854775808
/-- A cell of bounded texts and of ints. -/
structure CellOk (c : S101) : Prop where
  a : c.f0.f0.size ≤ 1000000
  b : c.f0.f1.size ≤ 1000000
  d : I64 c.f0.f2
  e : c.f0.f3.size ≤ 1000000
  f : I64 c.f1.f0
  g : I64 c.f1.f2
  h : I64 c.f1.f3.f0
  i : I64 c.f1.f3.f1
  j : c.f1.f3.f2.size ≤ 1000000
/-- What of a cell is written. -/
def plainC (c : S101) : S101 := if c.f1.f1 = true then ⟨c.f0, ⟨c.f1.f0, true, c.f1.f2, ⟨0, 0, ⟨#[]⟩⟩⟩⟩ else ⟨c.f0, ⟨c.f1.f0, false, 0, c.f1.f3⟩⟩
theorem cellS_cell (c : S101) (h : CellOk c) (rest : List Nat) : cellS (cellN c ++ rest) = some (plainC c, rest) := by
  unfold cellS cellN plainC
  simp only [List.append_assoc]
  rw [textS_text _ h.a]
  simp only [Option.bind_some]
  rw [textS_text _ h.b]
  simp only [Option.bind_some]
  rw [intS_zig _ h.d]
  simp only [Option.bind_some]
  rw [textS_text _ h.e]
  simp only [Option.bind_some]
  rw [intS_zig _ h.f]
  simp only [Option.bind_some]
  by_cases hc : c.f1.f1 = true
  · rw [if_pos hc, if_pos hc]
    simp [flagS]
    rw [intS_zig _ h.g]
    simp
  · rw [if_neg hc, if_neg hc]
    simp [flagS, List.append_assoc]
    have hw : 0 ≤ IntKind.u64.wrap c.f1.f3.f0 ∧ IntKind.u64.wrap c.f1.f3.f0 < 18446744073709551616 := by rw [IntKind.wrap_u64]; omega
    rw [numS_dig _ (by omega)]
    simp only [Option.bind_some]
    rw [intS_zig _ h.i]
    simp only [Option.bind_some]
    rw [textS_text _ h.j]
    have e : wrap64 ((((IntKind.u64.wrap c.f1.f3.f0).toNat : Nat) : Int)) = c.f1.f3.f0 := by
      have := h.h
      unfold I64 at this
      rw [Int.toNat_of_nonneg hw.1, IntKind.wrap_u64]
      unfold wrap64
      omega
    simp only [Option.bind_some]
    rw [e]
theorem readS_cells (xs : List S101) (h : ∀ c ∈ xs, CellOk c) (rest : List Nat) : readS xs.length (xs.flatMap cellN ++ rest) = some (xs.map plainC, rest) := by
  induction xs with
  | nil => rfl
  | cons c r ih =>
    show (cellS _).bind _ = _
    rw [List.flatMap_cons, List.append_assoc, cellS_cell c (h c (by simp)), Option.bind_some]
    simp only
    rw [ih (fun x hx => h x (by simp [hx]))]
    rfl
theorem readCellsS_cells (xs : List S101) (h : ∀ c ∈ xs, CellOk c) (hl : xs.length ≤ 1000000) : readCellsS (cellsN xs) = some (xs.map plainC) := by
  unfold readCellsS cellsN
  rw [numS_dig _ (by omega), Option.bind_some]
  have := readS_cells xs h []
  rw [List.append_nil] at this
  simp [this]
theorem readCellsS_more (xs : List S101) (h : ∀ c ∈ xs, CellOk c) (hl : xs.length ≤ 1000000) (x : Nat) (rest : List Nat) : readCellsS (cellsN xs ++ x :: rest) = none := by
  unfold readCellsS cellsN
  rw [List.append_assoc, numS_dig _ (by omega), Option.bind_some, readS_cells xs h]
  simp
end Go.Proofs.Ytcopbkdlpfcjpaa.K
namespace Go.Proofs.Ytcopbkdlpfcjpaa.K
open Go.RowKit Go.Proofs.YtcopbkdlpfcjpaaW.PrintWords Go.Proofs.Ytcopbkdlpfcjpaa.B Go.Proofs.Ytcopbkdlpfcjpaa.G
open Go.Proofs.Ytcopbkdlpfcjpaa.Ma
set_option linter.unusedVariables false
/-- What both texts' writers answer behind the count. -/
def putT (s : ByteArray) (t : List Int) : Option (List Int) := if t.length + s.size < 140737488355328 then some (t ++ bytesOf s) else none
theorem putT_some (s : ByteArray) (t : List Int) (h : t.length + s.size < 140737488355328) : putT s t = some (t ++ bytesOf s) := if_pos h
theorem text_eq (k : Nat) (l : List Int) (s : ByteArray) : codec_text.f k l s = (codec_put.f k l (IntKind.u64.wrap (s.size : Int))).bind (putT s) := by
  unfold codec_text.f putT
  rfl
theorem PutText_eq (k : Nat) (l : List Int) (s : ByteArray) (h : l.length < 140737488355328) : codec_PutText.f k l s = codec_text.f k l s := by
  unfold codec_PutText.f
  rw [if_pos (by simpa using h), List.nil_append]
  cases codec_text.f k l s <;> rfl
theorem wsize (s : ByteArray) (h : s.size ≤ 1000000000000) : IntKind.u64.wrap (s.size : Int) = (s.size : Int) := by rw [IntKind.wrap_u64]; omega
theorem text_ev (L : List Int) (s : ByteArray) (hlen : L.length ≤ 1000000000) (hs : s.size ≤ 1000000000) : Ev (fun k => codec_text.f k L s) (L ++ up (digN s.size) ++ bytesOf s) := by
  have hd := digN_len64 s.size (by omega)
  refine Ev.congr (fun k => text_eq k L s) ?_
  rw [wsize s (by omega)]
  refine Ev.bind (f := fun _ t => putT s t) (put_ev s.size L (by omega) (by omega)) ?_
  exact Ev.congr (fun _ => putT_some s _ (by rw [List.length_append, up_length]; omega)) (Ev.now _)
theorem PutText_ev (L : List Int) (s : ByteArray) (hlen : L.length ≤ 1000000000) (hs : s.size ≤ 1000000000) : Ev (fun k => codec_PutText.f k L s) (L ++ up (digN s.size) ++ bytesOf s) :=
  Ev.congr (fun k => PutText_eq k L s (by omega)) (text_ev L s hlen hs)
theorem text_evN (L : List Nat) (s : ByteArray) (hl : L.length ≤ 1000000000) (hs : s.size ≤ 1000000000) : Ev (fun k => codec_text.f k (Ma.up L) s) (Ma.up (L ++ textN s)) := by
  have := text_ev (Ma.up L) s (by rw [Ma.up_length]; exact hl) hs
  rw [textN, ← List.append_assoc, Ma.up_append, Ma.up_append, up_bytN]
  exact this
theorem put_evN (L : List Nat) (u : Nat) (hl : L.length ≤ 1000000000) (hu : u < 18446744073709551616) : Ev (fun k => codec_put.f k (Ma.up L) (u : Int)) (Ma.up (L ++ digN u)) := by
  have hd := digN_len64 u hu
  rw [Ma.up_append]
  exact put_ev u (Ma.up L) hu (by rw [Ma.up_length]; omega)
theorem zig_put (L : List Nat) (n : Int) (h : I64 n) (hl : L.length ≤ 1000000000) : Ev (fun k => codec_put.f k (Ma.up L) (Ma.zig n)) (Ma.up (L ++ zigN n)) := by
  have hr := zig_range n h
  have e : Ma.zig n = (((Ma.zig n).toNat : Nat) : Int) := by omega
  have := put_evN L (Ma.zig n).toNat hl (by omega)
  rw [← e] at this
  exact this
end Go.Proofs.Ytcopbkdlpfcjpaa.K
namespace Go.Proofs.Ytcopbkdlpfcjpaa.K
open Go.RowKit Go.Proofs.YtcopbkdlpfcjpaaW.PrintWords Go.Proofs.Ytcopbkdlpfcjpaa.B Go.Proofs.Ytcopbkdlpfcjpaa.G
open Go.Proofs.Ytcopbkdlpfcjpaa.Ma
set_option linter.unusedVariables false
theorem Zig_bind {β : Type} (n : Int) (h : I64 n) {f : Nat → Int → Option β} {r : β} (k : Ev (fun m => f m (Ma.zig n)) r) : Ev (fun m => (codec_Zig.f n).bind (f m)) r :=
  Ev.congr (fun m => by rw [Ma.Zig_eq n h, Option.bind_some]) k
theorem if_bind {β : Type} (b : Bool) {x y : Nat → Option β} {r : β} (h1 : b = true → Ev x r) (h2 : ¬ b = true → Ev y r) : Ev (fun m => if b = true then x m else y m) r := by
  by_cases h : b = true
  · exact Ev.congr (fun m => if_pos h) (h1 h)
  · exact Ev.congr (fun m => if_neg h) (h2 h)
theorem lt_bind {β : Type} (a b : Nat) (h : a < b) {x y : Nat → Option β} {r : β} (k : Ev x r) : Ev (fun m => if a < b then x m else y m) r := Ev.congr (fun m => if_pos h) k
theorem up_one (M : List Nat) (x : Nat) : Ma.up M ++ [(x : Int)] = Ma.up (M ++ [x]) := by rw [Ma.up_append]; rfl
theorem kind_nat (x : Int) : IntKind.u64.wrap x = (((IntKind.u64.wrap x).toNat : Nat) : Int) ∧ (IntKind.u64.wrap x).toNat < 18446744073709551616 := by
  have hw : 0 ≤ IntKind.u64.wrap x ∧ IntKind.u64.wrap x < 18446744073709551616 := by rw [IntKind.wrap_u64]; omega
  omega
theorem kind_put (L : List Nat) (x : Int) (hl : L.length ≤ 1000000000) : Ev (fun k => codec_put.f k (Ma.up L) (IntKind.u64.wrap x)) (Ma.up (L ++ digN (IntKind.u64.wrap x).toNat)) := by
  obtain ⟨h1, h2⟩ := kind_nat x
  generalize (IntKind.u64.wrap x).toNat = m at h1 h2
  rw [h1]
  exact put_evN L m hl h2
theorem cell_ev (M : List Nat) (c : S101) (h : CellOk c) (hl : M.length + (cellN c).length ≤ 1000000) (F : Nat → List Int → Option (List Int)) (r : List Int) (hF : Ev (fun k => F k (Ma.up (M ++ cellN c))) r) :
    Ev (fun k => (codec_text.f k (Ma.up M) (c.f0.f0)).bind fun t120 => ((codec_text.f k t120 (c.f0.f1)).bind fun t123 => ((codec_Zig.f (c.f0.f2)).bind fun t126 => ((codec_put.f k t123 t126).bind fun t127 => ((codec_text.f k t127 (c.f0.f3)).bind fun t130 => ((codec_Zig.f (c.f1.f0)).bind fun t133 => ((codec_put.f k t130 t133).bind fun t134 => (if c.f1.f1 = true then (if t134.length < 140737488355328 then ((codec_Zig.f (c.f1.f2)).bind fun t140 => ((codec_put.f k (t134 ++ [1]) t140).bind fun t141 => (F k t141))) else (none)) else (if t134.length < 140737488355328 then ((codec_put.f k (t134 ++ [0]) (IntKind.u64.wrap (c.f1.f3.f0))).bind fun t147 => ((codec_Zig.f (c.f1.f3.f1)).bind fun t150 => ((codec_put.f k t147 t150).bind fun t151 => ((codec_text.f k t151 (c.f1.f3.f2)).bind fun t154 => (F k t154))))) else (none)))))))))) r := by
  unfold cellN at hl hF
  simp only [List.length_append] at hl
  refine Ev.bind (text_evN M _ (by omega) (by have := h.a; omega)) ?_
  refine Ev.bind (text_evN _ _ (by simp only [List.length_append]; omega) (by have := h.b; omega)) ?_
  refine Zig_bind _ h.d ?_
  refine Ev.bind (zig_put _ _ h.d (by simp only [List.length_append]; omega)) ?_
  refine Ev.bind (text_evN _ _ (by simp only [List.length_append]; omega) (by have := h.e; omega)) ?_
  refine Zig_bind _ h.f ?_
  refine Ev.bind (zig_put _ _ h.f (by simp only [List.length_append]; omega)) ?_
  refine if_bind _ (fun hc => ?_) (fun hc => ?_)
  · rw [if_pos hc] at hF hl
    simp only [List.length_append] at hl
    refine lt_bind _ _ (by rw [Ma.up_length]; simp only [List.length_append]; omega) ?_
    refine Zig_bind _ h.g ?_
    refine Ev.bind (Ev.congr (fun k => by rw [show ([1] : List Int) = [((1 : Nat) : Int)] from rfl, up_one]) (zig_put _ _ h.g (by simp only [List.length_append, List.length_singleton]; omega))) ?_
    simpa only [List.append_assoc] using hF
  · rw [if_neg hc] at hF hl
    simp only [List.length_append] at hl
    refine lt_bind _ _ (by rw [Ma.up_length]; simp only [List.length_append]; omega) ?_
    refine Ev.bind (Ev.congr (fun k => by rw [show ([0] : List Int) = [((0 : Nat) : Int)] from rfl, up_one]) (kind_put _ _ (by simp only [List.length_append, List.length_singleton]; omega))) ?_
    refine Zig_bind _ h.i ?_
    refine Ev.bind (zig_put _ _ h.i (by simp only [List.length_append, List.length_singleton]; omega)) ?_
    refine Ev.bind (text_evN _ _ (by simp only [List.length_append, List.length_singleton]; omega) (by have := h.j; omega)) ?_
    simpa only [List.append_assoc] using hF
theorem rd101 {xs : List S101} {i : Nat} (h : i < xs.length) : rd_T101 xs (i : Int) = xs[i] := by
  unfold rd_T101
  rw [Int.toNat_natCast, List.getD_eq_getElem?_getD, List.getElem?_eq_getElem h]
  rfl
theorem drop_flat {xs : List S101} {i : Nat} (h : i < xs.length) : (xs.drop i).flatMap cellN = cellN xs[i] ++ (xs.drop (i + 1)).flatMap cellN := by
  rw [List.drop_eq_getElem_cons h, List.flatMap_cons]
theorem cells_loop (xs : List S101) (h : ∀ c ∈ xs, CellOk c) (hn : xs.length ≤ 1000000) (d : Nat) : ∀ (i : Nat) (M : List Nat), i + d = xs.length → M.length + ((xs.drop i).flatMap cellN).length ≤ 1000000 →
    Ev (fun k => codec_Cells.l0 k (Ma.up M) xs (xs.length : Int) (i : Int)) (Ma.up (M ++ (xs.drop i).flatMap cellN)) := by
  induction d with
  | zero =>
    intro i M hi hl
    refine Ev.step (f := fun _ => some (Ma.up M)) (fun k => ?_) ?_
    · simp only [codec_Cells.l0]
      rw [if_neg (by omega)]
    · rw [List.drop_eq_nil_of_le (by omega)]
      simpa using Ev.now (Ma.up M)
  | succ d ih =>
    intro i M hi hl
    have hlt : i < xs.length := by omega
    have hw : wrap64 ((i : Int) + 1) = ((i + 1 : Nat) : Int) := by rw [wrap_in (by omega)]; omega
    rw [drop_flat hlt] at hl ⊢
    rw [List.length_append] at hl
    have e := ih (i + 1) (M ++ cellN xs[i]) (by omega) (by rw [List.length_append]; omega)
    rw [List.append_assoc] at e
    refine Ev.step (fun k => ?_) (cell_ev M xs[i] (h _ (List.getElem_mem hlt)) (by omega) (fun k t => codec_Cells.l0 k t xs (xs.length : Int) ((i + 1 : Nat) : Int)) _ e)
    simp only [codec_Cells.l0]
    rw [if_pos (by omega), if_pos (by omega), if_pos (by omega), hw, rd101 hlt]
theorem wrap_len (n : Nat) (h : n ≤ 1000000) : IntKind.u64.wrap (n : Int) = (n : Int) := by rw [IntKind.wrap_u64]; omega
theorem Cells_ev (xs : List S101) (h : ∀ c ∈ xs, CellOk c) (hn : xs.length ≤ 1000000) (hl : (cellsN xs).length ≤ 1000000) : Ev (fun k => codec_Cells.f k xs) (Ma.up (cellsN xs)) := by
  have hd := digN_len64 xs.length (by omega)
  unfold cellsN at hl ⊢
  rw [List.length_append] at hl
  unfold codec_Cells.f
  rw [wrap_len _ hn]
  have h0 := put_evN [] xs.length (by simp) (by omega)
  rw [List.nil_append] at h0
  exact Ev.bind h0 (cells_loop xs h hn xs.length 0 (digN xs.length) (by omega) (by simpa using hl))
end Go.Proofs.Ytcopbkdlpfcjpaa.K
namespace Go.Proofs.Ytcopbkdlpfcjpaa.K
open Go.RowKit Go.Proofs.YtcopbkdlpfcjpaaW.PrintWords Go.Proofs.Ytcopbkdlpfcjpaa.B Go.Proofs.Ytcopbkdlpfcjpaa.G
open Go.Proofs.Ytcopbkdlpfcjpaa.Ma
set_option linter.unusedVariables false
/-- A cell as an argument may hold it: texts of a reachable size, and ints. -/
structure CellIn (c : S101) : Prop where
  a : c.f0.f0.size ≤ 140737488351232
  b : c.f0.f1.size ≤ 140737488351232
  d : I64 c.f0.f2
  e : c.f0.f3.size ≤ 140737488351232
  f : I64 c.f1.f0
  g : I64 c.f1.f2
  h : I64 c.f1.f3.f0
  i : I64 c.f1.f3.f1
  j : c.f1.f3.f2.size ≤ 140737488351232
/-- The bytes of a cell's texts, and its weight. -/
def txt (c : S101) : Nat := c.f0.f0.size + c.f0.f1.size + c.f0.f3.size + c.f1.f3.f2.size
def wt (c : S101) : Nat := 1 + txt c / 20
theorem wt_eq (c : S101) (h : CellIn c) (n : Nat) (hn : n ≤ 500) : wrap64 ((n : Int) + (wrap64 (1 + (wrap64 (Int.tdiv (wrap64 ((wrap64 ((wrap64 (((c.f0.f0).size : Int) + ((c.f0.f1).size : Int))) + ((c.f0.f3).size : Int))) + ((c.f1.f3.f2).size : Int))) 20))))) = ((n + wt c : Nat) : Int) := by
  have ha := h.a; have hb := h.b; have he := h.e; have hj := h.j
  unfold wt txt
  generalize c.f0.f0.size = a at *
  generalize c.f0.f1.size = b at *
  generalize c.f0.f3.size = e at *
  generalize c.f1.f3.f2.size = j at *
  have e1 : wrap64 ((a : Int) + (b : Int)) = ((a + b : Nat) : Int) := by rw [wrap_in (by omega)]; omega
  have e2 : wrap64 (((a + b : Nat) : Int) + (e : Int)) = ((a + b + e : Nat) : Int) := by rw [wrap_in (by omega)]; omega
  have e3 : wrap64 (((a + b + e : Nat) : Int) + (j : Int)) = ((a + b + e + j : Nat) : Int) := by rw [wrap_in (by omega)]; omega
  rw [e1, e2, e3]
  generalize hs : a + b + e + j = s
  have hs2 : s ≤ 562949953404928 := by omega
  clear e1 e2 e3 hs
  have e4 : Int.tdiv (s : Int) 20 = ((s / 20 : Nat) : Int) := by rw [Int.tdiv_eq_ediv_of_nonneg (by omega)]; omega
  rw [e4]
  have e5 : wrap64 (((s / 20 : Nat) : Int)) = ((s / 20 : Nat) : Int) := wrap_in (by omega)
  rw [e5]
  have e6 : wrap64 (1 + ((s / 20 : Nat) : Int)) = ((1 + s / 20 : Nat) : Int) := by rw [wrap_in (by omega)]; omega
  rw [e6, wrap_in (by omega)]
  omega
theorem weigh_loop (xs : List S101) (h : ∀ c ∈ xs, CellIn c) (hn : xs.length ≤ 140737488351232) (d : Nat) : ∀ (i n : Nat), i + d = xs.length → n ≤ 500 →
    ∃ r : Int, Ev (fun k => skerrylaw01_weigh.l0 k 500 (n : Int) xs (xs.length : Int) (i : Int)) r ∧ (r > 500 ∨ (r ≤ 500 ∧ n + ((xs.drop i).map wt).sum ≤ 500)) := by
  induction d with
  | zero =>
    intro i n hi hl
    refine ⟨n, Ev.step (f := fun _ => some (n : Int)) (fun k => ?_) (Ev.now _), .inr ⟨by omega, ?_⟩⟩
    · simp only [skerrylaw01_weigh.l0]
      rw [if_neg (by omega)]
    · rw [List.drop_eq_nil_of_le (by omega)]
      simpa using hl
  | succ d ih =>
    intro i n hi hl
    have hlt : i < xs.length := by omega
    have hw : wrap64 ((i : Int) + 1) = ((i + 1 : Nat) : Int) := by rw [wrap_in (by omega)]; omega
    have hrd : rd_T101 xs (i : Int) = xs[i] := by
      unfold rd_T101
      rw [Int.toNat_natCast, List.getD_eq_getElem?_getD, List.getElem?_eq_getElem hlt]
      rfl
    have hwt := wt_eq xs[i] (h _ (List.getElem_mem hlt)) n hl
    by_cases hc : n + wt xs[i] ≤ 500
    · obtain ⟨r, h1, h2⟩ := ih (i + 1) (n + wt xs[i]) (by omega) hc
      refine ⟨r, Ev.step (fun k => ?_) h1, ?_⟩
      · simp only [skerrylaw01_weigh.l0]
        rw [if_pos (by omega), if_pos (by omega), if_pos (by omega), hw, hrd, hwt, if_neg (by omega)]
      · rw [List.drop_eq_getElem_cons hlt, List.map_cons, List.sum_cons]
        omega
    · refine ⟨((n + wt xs[i] : Nat) : Int), Ev.step (f := fun _ => some ((n + wt xs[i] : Nat) : Int)) (fun k => ?_) (Ev.now _), .inl (by omega)⟩
      simp only [skerrylaw01_weigh.l0]
      rw [if_pos (by omega), if_pos (by omega), if_pos (by omega), hrd, hwt, if_pos (by omega)]
theorem weigh_ev (xs : List S101) (h : ∀ c ∈ xs, CellIn c) (hn : xs.length ≤ 140737488351232) :
    ∃ r : Int, Ev (fun k => skerrylaw01_weigh.f k xs 500) r ∧ (r > 500 ∨ (r ≤ 500 ∧ (xs.map wt).sum ≤ 500)) := by
  obtain ⟨r, h1, h2⟩ := weigh_loop xs h hn xs.length 0 0 (by omega) (by omega)
  refine ⟨r, Ev.congr (fun k => rfl) h1, ?_⟩
  simpa using h2
theorem txt_le (xs : List S101) : (xs.map txt).sum + xs.length ≤ 20 * (xs.map wt).sum := by
  induction xs with
  | nil => simp
  | cons c r ih =>
    simp only [List.map_cons, List.sum_cons, List.length_cons]
    have : txt c + 1 ≤ 20 * wt c := by unfold wt; omega
    omega
theorem len_le (xs : List S101) : xs.length ≤ (xs.map wt).sum := by
  induction xs with
  | nil => simp
  | cons c r ih =>
    simp only [List.map_cons, List.sum_cons, List.length_cons]
    have : 1 ≤ wt c := by unfold wt; omega
    omega
theorem txt_mem {xs : List S101} {c : S101} (h : c ∈ xs) : txt c ≤ (xs.map txt).sum := by
  induction xs with
  | nil => cases h
  | cons d r ih =>
    simp only [List.map_cons, List.sum_cons]
    rcases List.mem_cons.1 h with rfl | h
    · omega
    · have := ih h; omega
theorem zigN_len {n : Int} (h : I64 n) : (zigN n).length ≤ 10 := by
  have := zig_range n h
  exact digN_len64 _ (by omega)
theorem textN_len {s : ByteArray} (h : s.size ≤ 1000000) : (textN s).length ≤ s.size + 10 := by
  have := digN_len64 s.size (by omega)
  unfold textN
  rw [List.length_append, bytN_length]
  omega
theorem cellN_len {c : S101} (h : CellOk c) : (cellN c).length ≤ txt c + 101 := by
  have h1 := textN_len h.a; have h2 := textN_len h.b; have h3 := zigN_len h.d; have h4 := textN_len h.e; have h5 := zigN_len h.f; have h6 := zigN_len h.g; have h8 := zigN_len h.i; have h9 := textN_len h.j
  have h7 := digN_len64 (IntKind.u64.wrap c.f1.f3.f0).toNat (by rw [IntKind.wrap_u64]; omega)
  unfold cellN txt
  simp only [List.length_append]
  split <;> simp only [List.length_append, List.length_singleton] <;> omega
theorem cells_len (xs : List S101) (h : ∀ c ∈ xs, CellOk c) : (xs.flatMap cellN).length ≤ (xs.map txt).sum + 101 * xs.length := by
  induction xs with
  | nil => simp
  | cons c r ih =>
    simp only [List.flatMap_cons, List.map_cons, List.sum_cons, List.length_append, List.length_cons]
    have h1 := ih fun x hx => h x (List.mem_cons_of_mem _ hx)
    have h2 := cellN_len (h c (List.mem_cons_self ..))
    omega
/-- A row that is not too heavy. -/
structure Light (xs : List S101) : Prop where
  ok : ∀ c ∈ xs, CellOk c
  len : xs.length ≤ 500
  bytes : (cellsN xs).length ≤ 100000
theorem light_of (xs : List S101) (h : ∀ c ∈ xs, CellIn c) (hw : (xs.map wt).sum ≤ 500) : Light xs := by
  have h1 := txt_le xs
  have h2 := len_le xs
  have hok : ∀ c ∈ xs, CellOk c := fun c hc => by
    have h3 := txt_mem hc
    have h4 := h c hc
    have h0 : txt c = c.f0.f0.size + c.f0.f1.size + c.f0.f3.size + c.f1.f3.f2.size := rfl
    exact ⟨by omega, by omega, h4.d, by omega, h4.f, h4.g, h4.h, h4.i, by omega⟩
  refine ⟨hok, by omega, ?_⟩
  have h5 := cells_len xs hok
  have h6 := digN_len64 xs.length (by omega)
  unfold cellsN
  rw [List.length_append]
  omega
end Go.Proofs.Ytcopbkdlpfcjpaa.K
namespace Go.Proofs.Ytcopbkdlpfcjpaa.K
open Go.ChangeShapes Go.WideShapes Go.RowKit Go.Proofs.YtcopbkdlpfcjpaaW.PrintWords Go.Proofs.Ytcopbkdlpfcjpaa.G
set_option linter.unusedVariables false
set_option linter.unusedSimpArgs false
theorem weights_mem {H : Type} {P : Program} {e : TypeId} {d : DataW H} : ∀ {ds : List (DataW H)}, d ∈ ds → ∀ n ∈ d.weights P e, n ∈ DataW.weightsAll P e ds
  | d0 :: ds, h, n, hn => by
    simp only [DataW.weightsAll, List.mem_append]
    rcases List.mem_cons.1 h with rfl | h
    · exact .inl hn
    · exact .inr (weights_mem h n hn)
/-- The ten cells of a cell, row by row (as k101 has them). -/
def ten (x : S101) : List Value := [.string x.f0.f0, .string x.f0.f1, .int .i64 x.f0.f2, .string x.f0.f3, .int .i64 x.f1.f0, .bool x.f1.f1, .int .i64 x.f1.f2, .int .i64 x.f1.f3.f0, .int .i64 x.f1.f3.f1, .string x.f1.f3.f2]
/-- What of a cell that came in is known. -/
def In (H : Type) (x : S101) (d : DataW H) : Prop := I64 x.f0.f2 ∧ I64 x.f1.f0 ∧ I64 x.f1.f2 ∧ I64 x.f1.f3.f0 ∧ I64 x.f1.f3.f1 ∧ ((∀ m ∈ d.weights Try.prog 101, m ≤ reachBytes) → CellIn x)
set_option maxRecDepth 100000 in
theorem open_cell {H : Type} {enc : TypeId × Value → H} {w : World} {base : Nat} {spare : Nat → Bool} {held : Bool} {fuel : Nat} {cs : List Value} {x : DataW H × List MemPlace} (h : DataW.trod enc Try.prog w base spare held fuel 101 cs = some x) :
    ∃ c : S101, cs = ten c ∧ In H c x.1 := by
  obtain ⟨y0, y1, n, rfl, hl, h0, h1⟩ := trod_struct2 Try.underlying101 h
  obtain ⟨a0, a1, a2, a3, n0, rfl, hl0, g0, g1, g2, g3⟩ := Joins.trod_struct4 Try.underlying95 h0
  obtain ⟨b0, b1, b2, b3, n1, rfl, hl1, k0, k1, k2, k3⟩ := Joins.trod_struct4 Try.underlying99 h1
  obtain ⟨c0, c1, c2, n2, rfl, hl2, m0, m1, m2⟩ := Deep.trod_struct3 Try.underlying97 k3
  have z101 : Try.prog.cellsOf 101 = 10 := by kernel_rfl
  have z95 : Try.prog.cellsOf 95 = 4 := by kernel_rfl
  have z99 : Try.prog.cellsOf 99 = 6 := by kernel_rfl
  have z97 : Try.prog.cellsOf 97 = 3 := by kernel_rfl
  have z9 : Try.prog.cellsOf 9 = 1 := by kernel_rfl
  have z3 : Try.prog.cellsOf 3 = 1 := by kernel_rfl
  have z4 : Try.prog.cellsOf 4 = 1 := by kernel_rfl
  rw [z101] at hl
  match cs, hl with
  | [v0, v1, v2, v3, v4, v5, v6, v7, v8, v9], _ =>
  simp only [z95, z99, z97, z9, z3, z4, List.drop_zero, List.drop_succ_cons, List.take_succ_cons, List.take_zero, List.drop_nil, List.take_nil] at g0 g1 g2 g3 k0 k1 k2 m0 m1 m2
  obtain ⟨s0, e0, rfl, _⟩ := DataW.trod_string Try.underlying9 g0
  obtain ⟨s1, e1, rfl, _⟩ := DataW.trod_string Try.underlying9 g1
  obtain ⟨i2, e2, rfl, w2⟩ := DataW.trod_int Try.underlying3 g2
  obtain ⟨s3, e3, rfl, _⟩ := DataW.trod_string Try.underlying9 g3
  obtain ⟨i4, e4, rfl, w4⟩ := DataW.trod_int Try.underlying3 k0
  obtain ⟨t5, e5, rfl⟩ := DataW.trod_bool Try.underlying4 k1
  obtain ⟨i6, e6, rfl, w6⟩ := DataW.trod_int Try.underlying3 k2
  obtain ⟨i7, e7, rfl, w7⟩ := DataW.trod_int Try.underlying3 m0
  obtain ⟨i8, e8, rfl, w8⟩ := DataW.trod_int Try.underlying3 m1
  obtain ⟨s9, e9, rfl, _⟩ := DataW.trod_string Try.underlying9 m2
  obtain ⟨rfl, _⟩ := List.cons.inj e0
  obtain ⟨rfl, _⟩ := List.cons.inj e1
  obtain ⟨rfl, _⟩ := List.cons.inj e2
  obtain ⟨rfl, _⟩ := List.cons.inj e3
  obtain ⟨rfl, _⟩ := List.cons.inj e4
  obtain ⟨rfl, _⟩ := List.cons.inj e5
  obtain ⟨rfl, _⟩ := List.cons.inj e6
  obtain ⟨rfl, _⟩ := List.cons.inj e7
  obtain ⟨rfl, _⟩ := List.cons.inj e8
  obtain ⟨rfl, _⟩ := List.cons.inj e9
  refine ⟨⟨⟨s0, s1, i2, s3⟩, ⟨i4, t5, i6, ⟨i7, i8, s9⟩⟩⟩, rfl, Ma.i64_of w2, Ma.i64_of w4, Ma.i64_of w6, Ma.i64_of w7, Ma.i64_of w8, fun hw => ?_⟩
  have hw : ∀ m ∈ [s0.data.toList.length, s1.data.toList.length, s3.data.toList.length, s9.data.toList.length], m ≤ reachBytes := by
    intro m hm
    refine hw m ?_
    simp only [DataW.weights, Try.underlying101, Try.underlying95, Try.underlying99, Try.underlying97, DataW.weightsEach, List.map_cons, List.map_nil]
    simpa using hm
  have hr : reachBytes = 140737488351232 := rfl
  rw [hr] at hw
  have sz : ∀ s : ByteArray, s.data.toList.length = s.size := fun s => by rw [Array.length_toList]; rfl
  exact ⟨by rw [← sz]; exact hw _ (by simp), by rw [← sz]; exact hw _ (by simp), Ma.i64_of w2, by rw [← sz]; exact hw _ (by simp), Ma.i64_of w4, Ma.i64_of w6, Ma.i64_of w7, Ma.i64_of w8, by rw [← sz]; exact hw _ (by simp)⟩
/-- A row of cells that came in. -/
structure CellsIn (w : World) (A : Option Addr) (c : Nat) (xs : List S101) : Prop where
  row : Kd.C k101 w A xs.length xs
  cap : xs.length ≤ c
  len : xs.length ≤ 140737488351232
  ok : ∀ x ∈ xs, CellIn x
set_option maxRecDepth 100000 in
theorem open_cells {H : Type} {enc : TypeId × Value → H} {W : World} {held : Bool} {a : Option Addr} {len cap : Nat} {d : DataW H} {ps : List MemPlace} {ts : List TypeId} {ds : List (DataW H)} {j : Nat}
    (hsz : (DataW.weightsEach Try.prog ts ds).all (· ≤ reachBytes) = true) (ht : ts[j]? = some 85) (hd : ds[j]? = some d)
    (h : DataW.Trod enc Try.prog W 0 (fun _ => true) held 85 (.slice a len cap) d ps) : ∃ xs : List S101, len = xs.length ∧ CellsIn W a cap xs := by
  have c101 : Try.prog.cellsOf 101 = 10 := by kernel_rfl
  have b101 : Try.prog.bytesOf 101 = 112 := by kernel_rfl
  obtain ⟨fuel, hf⟩ := h
  rcases Deep.open_slice Try.underlying85 hf with ⟨hcs, _⟩ | ⟨x, ln, c, m, n, D, Pl, hcs, _, hl, hm, hmm, hx, hr⟩
  · simp [Value.cells] at hcs
    obtain ⟨rfl, rfl, rfl⟩ := hcs
    exact ⟨[], rfl, Kd.C_nil _ _, Nat.le_refl _, Nat.zero_le _, (fun x hx => by cases hx)⟩
  · simp [Value.cells] at hcs
    obtain ⟨rfl, rfl, rfl⟩ := hcs
    simp only [if_true] at hmm
    rw [hmm] at hx hr
    obtain ⟨hx, _⟩ := Prod.mk.inj hx
    subst hx
    rw [c101] at hr
    have hr2 : ∀ i, i < len → ∃ c : S101, W.cells? 0 (x.add (i * 10)) 10 = some (ten c) ∧ In H c (D i) := by
      intro i hi
      obtain ⟨cs, h1, h2⟩ := hr i (by omega)
      obtain ⟨c, rfl, h3⟩ := open_cell h2
      exact ⟨c, h1, h3⟩
    obtain ⟨X, hX⟩ : ∃ X : Nat → S101, ∀ i, i < len → W.cells? 0 (x.add (i * 10)) 10 = some (ten (X i)) ∧ In H (X i) (D i) := by
      haveI : Inhabited S101 := ⟨z101⟩
      exact Deep.choose_lt hr2
    have hweights : ∀ n ∈ DataW.weights Try.prog 85 (DataW.slice (H := H) ((List.range len).map D) ((List.range (cap - len)).map fun j => D (len + j))), n ≤ reachBytes := by
      intro n hn
      have := List.all_eq_true.1 hsz _ (DataW.weights_mem_each ht hd n hn)
      simpa using this
    have hw : reachBytes = 140737488351232 := rfl
    have hlen : ((List.range len).map X).length = len := by simp
    refine ⟨(List.range len).map X, hlen.symm, ⟨?_, ?_, ?_, ?_⟩⟩
    · rw [hlen]
      refine ⟨hlen, by have : maxLen = 9223372036854775807 := rfl; omega, fun _ => ⟨x, rfl, fun j p hj => ?_⟩⟩
      have hjl : j < len := by
        have := (List.getElem?_eq_some_iff.1 hj).1
        rw [hlen] at this
        exact this
      have hp : p = X j := by
        rw [List.getElem?_map, List.getElem?_range hjl] at hj
        simpa using hj.symm
      subst hp
      obtain ⟨h1, h2⟩ := hX j hjl
      obtain ⟨_, h3, h4⟩ := World.cells?_some h1
      refine ⟨ten (X j), rfl, k101_mk _ _, fun i u hu => ?_⟩
      have hi : i < 10 := by
        have := (List.getElem?_eq_some_iff.1 hu).1
        rw [h3] at this
        exact this
      have h5 := h4 i hi
      rw [Deep.add_add] at h5
      exact h5.trans hu
    · rw [hlen]; exact hl
    · rw [hlen, ← hw]
      have hx2 := hweights _ (by simp only [DataW.weights, Try.underlying85, List.mem_cons]; exact .inl rfl)
      simp only [List.length_map, List.length_range, b101] at hx2
      omega
    · intro y hy
      obtain ⟨i, hi, rfl⟩ := List.mem_map.1 hy
      have hi := List.mem_range.1 hi
      obtain ⟨_, h2⟩ := hX i hi
      refine h2.2.2.2.2.2 fun m hm => hweights m ?_
      simp only [DataW.weights, Try.underlying85, List.mem_cons, List.mem_append]
      exact .inr (.inl (weights_mem (List.mem_map.2 ⟨i, List.mem_range.2 hi, rfl⟩) m hm))
end Go.Proofs.Ytcopbkdlpfcjpaa.K
namespace Go.Proofs.Ytcopbkdlpfcjpaa.K
open Go.RowKit Go.Proofs.YtcopbkdlpfcjpaaW.PrintWords Go.Proofs.Ytcopbkdlpfcjpaa.B Go.Proofs.Ytcopbkdlpfcjpaa.G Go.Proofs.Ytcopbkdlpfcjpaa.H
open Go.Proofs.Ytcopbkdlpfcjpaa.Ma
set_option linter.unusedVariables false
set_option linter.unusedSimpArgs false
/-- What CodecBack does with the bytes that Cells wrote, where x11 are the plain cells. -/
def backG (k : Nat) (x11 : List S101) (t257 : List Int) : Option Bool := ((codec_ReadCells.f t257).bind fun bt260 => ((some (([] : List Int) : List Int)).bind fun y264 => (if y264.length + t257.length < 140737488355328 then ((some (y264 ++ t257 : List Int)).bind fun y267 => (if y267.length < 140737488355328 then ((codec_ReadCells.f (y267 ++ [0])).bind fun bt273 => (if bt260.2 = 0 then ((skerryref01_Like.f k bt260.1 x11).bind fun t277 => (if t277 = true then (if bt273.2 = 8 then ((skerrylaw01_lives.f).bind fun t278 => (some t278)) else (some false)) else (some false))) else (some false))) else (none))) else (none))))
/-- What CodecBack does with the bytes that Put wrote; J: what follows. -/
def backJ (J : Nat → Bool → Option Bool) (k : Nat) (x0 : Int) (x1 : ByteArray) (t222 : List Int) : Option Bool := ((some (([7, 7] : List Int) : List Int)).bind fun y225 => (if t222.length + y225.length < 140737488355328 then ((codec_Get.f k (t222 ++ y225)).bind fun bt231 => ((codec_PutText.f k ([] : List Int) x1).bind fun t233 => (if t233.length < 140737488355328 then ((codec_GetText.f k (t233 ++ [0])).bind fun bt239 => (if bt231.1 = x0 then ((codec_Put.f k ([] : List Int) x0).bind fun t241 => (if bt231.2 = (t241.length : Int) then (if bt239.1.toList = x1.toList then ((codec_PutText.f k ([] : List Int) x1).bind fun t244 => (if bt239.2 = (t244.length : Int) then ((codec_Zig.f (wrap64 (x0))).bind fun t247 => ((codec_Zag.f t247).bind fun t248 => (J k (t248 != (wrap64 (x0)))))) else (J k true))) else (J k true)) else (J k true))) else (J k true))) else (none)))) else (none)))
theorem plain_dead (c : S101) (h : c.f1.f1 = true) : (⟨(⟨c.f0.f0, c.f0.f1, c.f0.f2, c.f0.f3⟩ : S95), (⟨c.f1.f0, c.f1.f1, c.f1.f2, (⟨0, 0, (⟨#[]⟩ : ByteArray)⟩ : S97)⟩ : S99)⟩ : S101) = plainC c := by
  unfold plainC
  rw [if_pos h, h]
theorem plain_live (c : S101) (h : ¬ c.f1.f1 = true) : (⟨(⟨c.f0.f0, c.f0.f1, c.f0.f2, c.f0.f3⟩ : S95), (⟨c.f1.f0, c.f1.f1, 0, (⟨c.f1.f3.f0, c.f1.f3.f1, c.f1.f3.f2⟩ : S97)⟩ : S99)⟩ : S101) = plainC c := by
  have h0 : c.f1.f1 = false := by cases hb : c.f1.f1 with
    | true => exact absurd hb h
    | false => rfl
  unfold plainC
  rw [if_neg h, h0]
theorem byte_bytN (t : ByteArray) : ∀ x ∈ bytN t, x < 256 := by
  intro x hx
  obtain ⟨b, _, rfl⟩ := List.mem_map.1 hx
  exact b.toNat_lt
theorem byte_textN (t : ByteArray) : ∀ x ∈ textN t, x < 256 := by
  intro x hx
  rcases List.mem_append.1 hx with hx | hx
  · exact digN_byte _ x hx
  · exact byte_bytN t x hx
theorem byte_cellN (c : S101) : ∀ x ∈ cellN c, x < 256 := by
  intro x hx
  unfold cellN at hx
  simp only [List.mem_append] at hx
  rcases hx with ((((hx | hx) | hx) | hx) | hx) | hx
  · exact byte_textN _ x hx
  · exact byte_textN _ x hx
  · exact digN_byte _ x hx
  · exact byte_textN _ x hx
  · exact digN_byte _ x hx
  · split at hx
    · simp only [List.mem_append, List.mem_singleton] at hx
      rcases hx with rfl | hx
      · omega
      · exact digN_byte _ x hx
    · simp only [List.mem_append, List.mem_singleton] at hx
      rcases hx with ((rfl | hx) | hx) | hx
      · omega
      · exact digN_byte _ x hx
      · exact digN_byte _ x hx
      · exact byte_textN _ x hx
theorem okB_cells {xs : List S101} (hx : Light xs) : OkB (cellsN xs) := by
  refine ⟨fun x h => ?_, by have := hx.bytes; omega⟩
  rcases List.mem_append.1 h with h | h
  · exact digN_byte _ x h
  · obtain ⟨c, _, h⟩ := List.mem_flatMap.1 h
    exact byte_cellN c x h
theorem okB_more {xs : List S101} (hx : Light xs) : OkB (cellsN xs ++ [0]) := by
  refine ⟨fun x h => ?_, by have := hx.bytes; rw [List.length_append, List.length_singleton]; omega⟩
  rcases List.mem_append.1 h with h | h
  · exact (okB_cells hx).1 x h
  · rw [List.mem_singleton.1 h]; omega
theorem back_end (xs : List S101) (hx : Light xs) : Ev (fun k => backG k (xs.map plainC) (Ma.up (cellsN xs))) true := by
  have hl := hx.bytes
  have hn := hx.len
  have e1 : codec_ReadCells.f (Ma.up (cellsN xs)) = some (xs.map plainC, 0) := by
    rw [ReadCells_up (okB_cells hx)]
    unfold readR
    rw [readCellsS_cells xs hx.ok (by omega)]
  have e2 : codec_ReadCells.f (Ma.up (cellsN xs) ++ [0]) = some ([], 8) := by
    rw [show ([0] : List Int) = [((0 : Nat) : Int)] from rfl, up_one, ReadCells_up (okB_more hx)]
    unfold readR
    rw [readCellsS_more xs hx.ok (by omega)]
  refine Ev.congr (f := fun k => (skerryref01_Like.f k (xs.map plainC) (xs.map plainC)).bind fun v => (if v = true then some true else some false)) (fun k => ?_) ?_
  · unfold backG
    rw [e1]
    simp only [Option.bind_some, List.nil_append, List.length_nil]
    rw [if_pos (by rw [Ma.up_length]; omega), if_pos (by rw [Ma.up_length]; omega), e2]
    simp only [Option.bind_some, if_true]
    rfl
  · exact Ev.bind (f := fun _ v => (if v = true then some true else some false)) (Like_self _ (by rw [List.length_map]; omega)) (Ev.congr (fun k => if_pos rfl) (Ev.now true))
theorem take_plain {xs : List S101} {i : Nat} (h : i < xs.length) : (xs.take i).map plainC ++ [plainC xs[i]] = (xs.take (i + 1)).map plainC := by
  rw [List.take_succ_eq_append_getElem h, List.map_append]
  rfl
theorem back_loop (xs : List S101) (hx : Light xs) (d : Nat) : ∀ i : Nat, i + d = xs.length →
    Ev (fun k => skerrylaw01_CodecBack.l0 k xs ((xs.take i).map plainC) xs (xs.length : Int) (i : Int)) true := by
  have hn := hx.len
  induction d with
  | zero =>
    intro i hi
    refine Ev.step (f := fun k => (codec_Cells.f k xs).bind fun t => backG k ((xs.take i).map plainC) t) (fun k => ?_) ?_
    · simp only [skerrylaw01_CodecBack.l0]
      rw [if_neg (by omega)]
      rfl
    · rw [List.take_of_length_le (by omega)]
      exact Ev.bind (f := fun k t => backG k (xs.map plainC) t) (Cells_ev xs hx.ok (by omega) (by have := hx.bytes; omega)) (back_end xs hx)
  | succ d ih =>
    intro i hi
    have hlt : i < xs.length := by omega
    have hw : wrap64 ((i : Int) + 1) = ((i + 1 : Nat) : Int) := by rw [wrap_in (by omega)]; omega
    have hl : ((xs.take i).map plainC).length < 1256584717458 := by rw [List.length_map, List.length_take]; omega
    refine Ev.step (fun k => ?_) (ih (i + 1) (by omega))
    simp only [skerrylaw01_CodecBack.l0]
    rw [if_pos (by omega), if_pos (by omega), if_pos (by omega), rd101 hlt, hw, if_pos hl, if_pos hl, ← take_plain hlt]
    by_cases hc : xs[i].f1.f1 = true
    · rw [if_pos hc, plain_dead _ hc]
    · rw [if_neg hc, plain_live _ hc]
/-- What codec.GetText answers, of what codec.Get does. -/
def getT (l : List Int) (p : Int × Int) : Option (ByteArray × Int) := if p.2 = 0 then some ((⟨#[]⟩ : ByteArray), 0) else if p.1 > (IntKind.u64.wrap (wrap64 ((l.length : Int) - p.2))) then some ((⟨#[]⟩ : ByteArray), 0) else if 0 ≤ p.2 then (if p.2 ≤ (wrap64 (p.2 + (wrap64 (p.1)))) then (if (wrap64 (p.2 + (wrap64 (p.1)))) ≤ (l.length : Int) then (some (strOfNums ((l.take ((wrap64 (p.2 + (wrap64 (p.1)))) : Int).toNat).drop (p.2 : Int).toNat), wrap64 (p.2 + (wrap64 (p.1))))) else none) else none) else none
theorem GetText_eq (k : Nat) (l : List Int) : codec_GetText.f k l = (codec_Get.f k l).bind (getT l) := by
  unfold codec_GetText.f getT
  rfl
theorem get_dig (u : Nat) (hu : u < 18446744073709551616) : Ev (fun k => codec_Get.f k (Ma.up (digN u) ++ [7, 7])) ((u : Int), ((digN u).length : Int)) := by
  have h1 := digN_len64 u hu
  have e : Ma.up (digN u) ++ [7, 7] = Ma.up (digN u ++ [7, 7]) := by rw [Ma.up_append]; rfl
  have hg := getS_dig u 0 0 [7, 7] (by simpa using hu) (by omega) (by omega)
  simp only [Nat.mul_zero, Nat.pow_zero, Nat.one_mul, Nat.zero_add] at hg
  have h2 := Get_all (digN u ++ [7, 7]) (fun x hx => by
    rcases List.mem_append.1 hx with hx | hx
    · exact digN_byte _ x hx
    · simp only [List.mem_cons, List.not_mem_nil, or_false] at hx; omega) (by simp only [List.length_append, List.length_cons, List.length_nil]; omega)
  rw [hg] at h2
  rw [e]
  exact h2
theorem getText_text (t : ByteArray) (ht : t.size ≤ 10000) : Ev (fun k => codec_GetText.f k (Ma.up (textN t) ++ [0])) (t, ((textN t).length : Int)) := by
  have h1 := digN_len64 t.size (by omega)
  have h0 := digN_pos t.size
  have hb := bytN_length t
  have hlen : (textN t).length = (digN t.size).length + t.size := by unfold textN; rw [List.length_append, hb]
  have e : Ma.up (textN t) ++ [0] = Ma.up (textN t ++ [0]) := by rw [Ma.up_append]; rfl
  have hg := getS_dig t.size 0 0 (bytN t ++ [0]) (by simp only [Nat.mul_zero, Nat.pow_zero, Nat.one_mul]; omega) (by omega) (by omega)
  simp only [Nat.mul_zero, Nat.pow_zero, Nat.one_mul, Nat.zero_add] at hg
  rw [← List.append_assoc] at hg
  have h2 := Get_all (textN t ++ [0]) (fun x hx => by
    rcases List.mem_append.1 hx with hx | hx
    · exact byte_textN _ x hx
    · rw [List.mem_singleton.1 hx]; omega) (by rw [List.length_append, hlen, List.length_singleton]; omega)
  change Ev _ (pr (getS (digN t.size ++ bytN t ++ [0]) 0 0)) at h2
  rw [hg] at h2
  rw [e]
  refine Ev.congr (fun k => GetText_eq k _) (Ev.bind (f := fun _ p => getT (Ma.up (textN t ++ [0])) p) h2 (Ev.congr (fun _ => ?_) (Ev.now _)))
  unfold getT pr
  simp only
  rw [Ma.up_length, List.length_append, hlen, List.length_singleton, if_neg (by omega)]
  rw [wrap_in (n := (((digN t.size).length + t.size + 1 : Nat) : Int) - ((digN t.size).length : Int)) (by omega), wrap_in (n := ((t.size : Nat) : Int)) (by omega)]
  rw [wrap_in (n := ((digN t.size).length : Int) + (t.size : Int)) (by omega), IntKind.wrap_u64, if_neg (by omega), if_pos (by omega), if_pos (by omega), if_pos (by omega)]
  have e1 : (((digN t.size).length : Int) + (t.size : Int)).toNat = (digN t.size).length + t.size := by omega
  have e2 : ((digN t.size).length : Int).toNat = (digN t.size).length := by omega
  rw [e1, e2, Ma.up_take, Ma.up_drop, ← hlen, List.take_left]
  unfold textN
  rw [List.drop_left, up_bytN, str_bytes]
  congr 2
  rw [List.length_append, hb]
  omega
theorem Put_nil (u : Nat) (hu : u < 18446744073709551616) : Ev (fun k => codec_Put.f k ([] : List Int) (u : Int)) (Ma.up (digN u)) := by
  have := Put_ev [] u hu (by simp)
  simpa [Ma.up] using this
theorem PutText_nil (t : ByteArray) (ht : t.size ≤ 10000) : Ev (fun k => codec_PutText.f k ([] : List Int) t) (Ma.up (textN t)) := by
  have := PutText_ev [] t (by simp) (by omega)
  unfold textN
  rw [Ma.up_append, up_bytN]
  simpa using this
theorem wrap_I64 (x : Int) : I64 (wrap64 x) := by
  unfold I64 wrap64
  omega
theorem back_j (J : Nat → Bool → Option Bool) (hJ : Ev (fun k => J k false) true) (u : Nat) (hu : u < 18446744073709551616) (t : ByteArray) (ht : t.size ≤ 10000) : Ev (fun k => backJ J k (u : Int) t (Ma.up (digN u))) true := by
  have hd := digN_len64 u hu
  have htl := textN_len (s := t) (by omega)
  unfold backJ
  simp only [Option.bind_some]
  refine lt_bind _ _ (by rw [Ma.up_length]; simp only [List.length_cons, List.length_nil]; omega) ?_
  refine Ev.bind (get_dig u hu) ?_
  refine Ev.bind (PutText_nil t ht) ?_
  refine lt_bind _ _ (by rw [Ma.up_length]; omega) ?_
  refine Ev.bind (getText_text t ht) ?_
  refine Ev.congr (fun k => if_pos rfl) ?_
  refine Ev.bind (Put_nil u hu) ?_
  refine Ev.congr (fun k => if_pos (by rw [Ma.up_length])) ?_
  refine Ev.congr (fun k => if_pos rfl) ?_
  refine Ev.bind (PutText_nil t ht) ?_
  refine Ev.congr (fun k => if_pos (by rw [Ma.up_length])) ?_
  refine Zig_bind _ (wrap_I64 _) ?_
  have hz := zig_range _ (wrap_I64 (u : Int))
  refine Ev.congr (f := fun k => J k false) (fun k => ?_) hJ
  rw [Zag_eq _ hz, zag_zig, Option.bind_some, bne_self_eq_false]
theorem back_true (k : Nat) (u : Int) (t : ByteArray) (xs : List S101) : skerrylaw01_CodecBack.j0 (k + 1) u t xs true = some true := by
  simp only [skerrylaw01_CodecBack.j0]
  rfl
theorem back_false (u : Nat) (hu : u < 18446744073709551616) (t : ByteArray) (ht : t.size ≤ 10000) (xs : List S101) (hx : Light xs) : Ev (fun k => skerrylaw01_CodecBack.j0 k (u : Int) t xs false) true := by
  refine Ev.step (f := fun k => (codec_Put.f k ([] : List Int) (u : Int)).bind fun b => backJ (fun k x => skerrylaw01_CodecBack.j1 k xs x) k (u : Int) t b) (fun k => ?_) ?_
  · simp only [skerrylaw01_CodecBack.j0]
    rw [if_neg (by simp)]
    rfl
  · refine Ev.bind (f := fun k b => backJ (fun k x => skerrylaw01_CodecBack.j1 k xs x) k (u : Int) t b) (Put_nil u hu) (back_j _ ?_ u hu t ht)
    refine Ev.step (f := fun k => skerrylaw01_CodecBack.l0 k xs ([] : List S101) xs (xs.length : Int) 0) (fun k => ?_) ?_
    · simp only [skerrylaw01_CodecBack.j1]
      rw [if_neg (by simp)]
    · exact back_loop xs hx xs.length 0 (by omega)
theorem codecBack_pure (u : Nat) (hu : u < 18446744073709551616) (t : ByteArray) (ht : t.size ≤ 140737488351232) (xs : List S101) (h : ∀ c ∈ xs, CellIn c) (hn : xs.length ≤ 140737488351232) : ∃ k, skerrylaw01_CodecBack.f k (u : Int) t xs = some true := by
  have hT : Ev (fun k => skerrylaw01_CodecBack.j0 k (u : Int) t xs true) true := Ev.step (f := fun _ => some true) (fun k => back_true k _ _ _) (Ev.now _)
  refine Ev.rounds ?_
  unfold skerrylaw01_CodecBack.f
  by_cases hs : (t.size : Int) > 10000
  · exact Ev.congr (fun k => if_pos hs) hT
  · refine Ev.congr (fun k => if_neg hs) ?_
    obtain ⟨r, h1, h2⟩ := weigh_ev xs h hn
    refine Ev.bind h1 ?_
    rcases h2 with h2 | ⟨h2, h3⟩
    · rw [decide_eq_true h2]
      exact hT
    · rw [decide_eq_false (by omega)]
      exact back_false u hu t (by omega) xs (light_of xs h h3)
theorem codecBack_walk (a0 : Int) (a1 : ByteArray) (A2 : Option Addr) (c2 : Nat) (xs : List S101) (w : World) (w0 : (Lit.int .u64 a0).wf = true) (w1 : a1.size ≤ 140737488351232) (w2 : CellsIn w A2 c2 xs) :
    Calls Try.prog 20 #[.int .u64 a0, .string a1, .slice A2 xs.length c2] w fun e w' => e = .returned (.bool true) ∧ Below w.heap.size w w' := by
  have h0 := Ma.u64_of w0
  obtain ⟨k, hk⟩ := codecBack_pure a0.toNat (by omega) a1 w1 xs w2.ok w2.len
  rw [show ((a0.toNat : Nat) : Int) = a0 by omega] at hk
  exact skerrylaw01_CodecBack.calls k a0 a1 _ _ xs true w w2.row w2.cap hk
end Go.Proofs.Ytcopbkdlpfcjpaa.K
