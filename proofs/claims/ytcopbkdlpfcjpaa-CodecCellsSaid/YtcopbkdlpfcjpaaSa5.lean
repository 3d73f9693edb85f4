/- Joined by a program of this session (slim.py) out of: Gx6, CelJ, CelK, CelL, Md, CelM, CelO, CelP, CelR, CelS: what this claim uses of them. -/
import Derived.ChangeSlices
import Derived.Deep.Slices
import Derived.Deep.Strs
import Derived.Lib.SmallJoins
import Derived.SizedLaws
import Derived.Test.YtcopbkdlpfcjpaaSa1
import Derived.Test.YtcopbkdlpfcjpaaSa2
import Derived.Test.YtcopbkdlpfcjpaaSa3
import Derived.Test.YtcopbkdlpfcjpaaSa4
namespace Go.Proofs.Ytcopbkdlpfcjpaa.G
open Go.RowKit Go.Proofs.YtcopbkdlpfcjpaaW.PrintWords Go.Proofs.YtcopbkdlpfcjpaaW.PrintLast Go.Proofs.YtcopbkdlpfcjpaaW.PrintMore Go.Proofs.Ytcopbkdlpfcjpaa.B Go.Proofs.Ytcopbkdlpfcjpaa.H
attribute [local go_sem] max2_int min2_int max_two min_two max_three min_three max_four min_four
set_option linter.unusedVariables false
set_option linter.unusedSimpArgs false
def skerrylaw01_CodecCells.j0 : Nat → List (S101) → List Int → Bool → Option (Bool)
  | 0, _, _, _ => none
  | k + 1, x0, x1, x16 => if x16 = true then ((skerrylaw01_lives.f).bind fun t202 => (some t202)) else ((codec_ReadCells.f x1).bind fun bt203 => ((skerryref01_ReadCells.f x1).bind fun bt207 => ((codec_Cells.f k x0).bind fun t211 => ((skerryref01_Cells.f k x0).bind fun t214 => ((skerryref01_Same.f t211 t214).bind fun t217 => (if t217 = true then ((skerryref01_Like.f k bt203.1 bt207.1).bind fun t218 => (if t218 = true then (if bt203.2 = bt207.2 then ((skerrylaw01_lives.f).bind fun t219 => (some t219)) else (some false)) else (some false))) else (some false)))))))
def skerrylaw01_CodecCells.f (k : Nat) (l0 : List (S101)) (l1 : List Int) : Option (Bool) := (skerrylaw01_weigh.f k l0 500).bind fun t201 => (if t201 > 500 then (skerrylaw01_CodecCells.j0 k l0 l1 true) else (skerrylaw01_CodecCells.j0 k l0 l1 (decide ((l1.length : Int) > 10000))))
theorem skerrylaw01_CodecCells.mono_l : ∀ k, (∀ y0 y1 y2, LeO (skerrylaw01_CodecCells.j0 k y0 y1 y2) (skerrylaw01_CodecCells.j0 (k + 1) y0 y1 y2))
  | 0 => fun _ _ _ r h => by simp [skerrylaw01_CodecCells.j0] at h
  | k + 1 => by
    have ih0 := skerrylaw01_CodecCells.mono_l k
    · intro y0 y1 y2
      unfold skerrylaw01_CodecCells.j0
      repeat' first
      | (with_reducible exact ih0 _ _ _)
      | (with_reducible exact codec_Cells.mono _ _)
      | (with_reducible exact skerrylaw01_weigh.mono _ _ _)
      | (with_reducible exact skerryref01_Cells.mono _ _)
      | (with_reducible exact skerryref01_Like.mono _ _ _)
      | (with_reducible exact LeO.refl _)
      | (with_reducible exact LeO.none _)
      | (with_reducible refine LeO.ite ?_ ?_)
      | (with_reducible refine LeO.bind ?_ (fun _ => ?_))
      | exact ih0 _ _ _
      | exact codec_Cells.mono _ _
      | exact skerrylaw01_weigh.mono _ _ _
      | exact skerryref01_Cells.mono _ _
      | exact skerryref01_Like.mono _ _ _
      | exact LeO.none _
      | refine LeO.ite ?_ ?_
      | refine LeO.bind ?_ (fun _ => ?_)
theorem skerrylaw01_CodecCells.mono : ∀ a0 a1 k, LeO (skerrylaw01_CodecCells.f k a0 a1) (skerrylaw01_CodecCells.f (k + 1) a0 a1) := by
  intro a0 a1 k
  have ih0 := skerrylaw01_CodecCells.mono_l k
  unfold skerrylaw01_CodecCells.f
  repeat' first
      | (with_reducible exact ih0 _ _ _)
      | (with_reducible exact codec_Cells.mono _ _)
      | (with_reducible exact skerrylaw01_weigh.mono _ _ _)
      | (with_reducible exact skerryref01_Cells.mono _ _)
      | (with_reducible exact skerryref01_Like.mono _ _ _)
      | (with_reducible exact LeO.refl _)
      | (with_reducible exact LeO.none _)
      | (with_reducible refine LeO.ite ?_ ?_)
      | (with_reducible refine LeO.bind ?_ (fun _ => ?_))
      | exact ih0 _ _ _
      | exact codec_Cells.mono _ _
      | exact skerrylaw01_weigh.mono _ _ _
      | exact skerryref01_Cells.mono _ _
      | exact skerryref01_Like.mono _ _ _
      | exact LeO.none _
      | refine LeO.ite ?_ ?_
      | refine LeO.bind ?_ (fun _ => ?_)
set_option maxHeartbeats 8000000 in
set_option maxRecDepth 100000 in
theorem skerrylaw01_CodecCells.calls (k : Nat) (A0 : Option Addr) (c0 : Nat) (l0 : List (S101)) (A1 : Option Addr) (c1 : Nat) (l1 : List Int) (r : Bool) (w : World) (hr0 : Kd.C k101 w A0 l0.length l0) (hc0 : l0.length ≤ c0) (hr1 : Kd.C (Kd.int .u8) w A1 l1.length l1) (hc1 : l1.length ≤ c1) (h : skerrylaw01_CodecCells.f k l0 l1 = some r) :
    Calls Try.prog 19 #[.slice A0 l0.length c0, .slice A1 l1.length c1] w fun e w' => e = .returned (.bool r) ∧ Below w.heap.size w w' := by
  have HR0 := Aside0.mk hr0
  have HC0 := Aside0.mk hc0
  clear hr0 hc0
  have HR1 := Aside0.mk hr1
  have HC1 := Aside0.mk hc1
  clear hr1 hc1
  have HB := Aside0.mk (Below.refl w.heap.size w)
  have H : ((skerrylaw01_weigh.f k l0 500).bind fun t201 => (if t201 > 500 then (skerrylaw01_CodecCells.j0 k l0 l1 true) else (skerrylaw01_CodecCells.j0 k l0 l1 (decide ((l1.length : Int) > 10000))))) = some r := h
  clear h
  have HC3 := Aside0.mk H
  clear H
  go_enter Try.func19, Try.ntmps19
  go_upto_region 1 with (fail)
  go_cut [16] (fun v16 wc => ∃ (kq : Nat) (x16_2 : Bool), v16 = .bool x16_2 ∧ Aside0 (skerrylaw01_CodecCells.j0 kq l0 l1 x16_2 = some r) ∧ Aside0 (kq ≤ k) ∧ Aside0 (Below w.heap.size w wc))
  case first =>
    have H := HC3.out
    clear HC3
    replace H := Option.bind_eq_some_iff.mp H
    obtain ⟨t201, A40, H⟩ := H
    replace H : (if t201 > 500 then (skerrylaw01_CodecCells.j0 k l0 l1 true) else (skerrylaw01_CodecCells.j0 k l0 l1 (decide ((l1.length : Int) > 10000)))) = some r := H
    have A4 := Aside0.mk A40
    clear A40
    by_cases c5 : t201 > 500
    · rw [if_pos c5] at H
      have c5b0 : decide (500 < t201) = true := decide_eq_true c5
      clear c5
      (first | rw [c5b0] | (simp only [i64_w, i32_w]; rw [c5b0]) | skip)
      have H' := Aside0.mk H
      clear H
      go_wp2_with (first | ((with_reducible refine gate_callee (f := 67) rfl ?_); refine goesL_ (some 10) rfl rfl Try.func67 (by kernel_rfl) rfl #[.slice A0 l0.length c0, .int .i64 500] rfl (by (try simp only [List.map_toArray, List.map_cons, List.map_nil]); first | done | rfl | (simp only [List.length_drop, List.length_take]; rfl)) ?_; (with_reducible refine (skerrylaw01_weigh.calls k _ _ l0 500 t201 _ ?side1 ?side2 A4.out).mono ?_); (case side1 => repeat (first | exact (Kd.C_below HR0.out HB.out) | (with_reducible refine Kd.C_alloc ?_ _) | (with_reducible refine Kd.C_drewN ?_ _) | (with_reducible refine Kd.C_drew ?_))); (case side2 => exact HC0.out); rintro e w6 ⟨rfl, hb⟩; refine ⟨_, rfl, ?_⟩; have n0_ := Aside0.mk (below_step (by repeat (first | (with_reducible first | exact HB.out | apply below_alloc | apply pw_below_drewN | apply below_drew1) | exact HB.out)) hb); clear HB; have HB := n0_; clear n0_; (try clear hb); (try clear hb2); (try clear hk); (try clear hi)))
      go_meet
      case rel => exact ⟨_, (true), (by first | rfl | (simp; done) | (simp [*]; done)), H', ⟨by first | omega | exact Nat.le_refl _⟩, ⟨by repeat (first | (with_reducible first | exact HB.out | apply below_alloc | apply pw_below_drewN | apply below_drew1) | exact HB.out)⟩⟩
    · rw [if_neg c5] at H
      have c5b0 : decide (500 < t201) = false := decide_eq_false c5
      clear c5
      (first | rw [c5b0] | (simp only [i64_w, i32_w]; rw [c5b0]) | skip)
      have H' := Aside0.mk H
      clear H
      go_wp2_with (first | ((with_reducible refine gate_callee (f := 67) rfl ?_); refine goesL_ (some 10) rfl rfl Try.func67 (by kernel_rfl) rfl #[.slice A0 l0.length c0, .int .i64 500] rfl (by (try simp only [List.map_toArray, List.map_cons, List.map_nil]); first | done | rfl | (simp only [List.length_drop, List.length_take]; rfl)) ?_; (with_reducible refine (skerrylaw01_weigh.calls k _ _ l0 500 t201 _ ?side1 ?side2 A4.out).mono ?_); (case side1 => repeat (first | exact (Kd.C_below HR0.out HB.out) | (with_reducible refine Kd.C_alloc ?_ _) | (with_reducible refine Kd.C_drewN ?_ _) | (with_reducible refine Kd.C_drew ?_))); (case side2 => exact HC0.out); rintro e w7 ⟨rfl, hb⟩; refine ⟨_, rfl, ?_⟩; have n0_ := Aside0.mk (below_step (by repeat (first | (with_reducible first | exact HB.out | apply below_alloc | apply pw_below_drewN | apply below_drew1) | exact HB.out)) hb); clear HB; have HB := n0_; clear n0_; (try clear hb); (try clear hb2); (try clear hk); (try clear hi)))
      go_meet
      case rel => exact ⟨_, (decide ((l1.length : Int) > 10000)), (by first | rfl | (simp; done) | (simp [*]; done)), H', ⟨by first | omega | exact Nat.le_refl _⟩, ⟨by repeat (first | (with_reducible first | exact HB.out | apply below_alloc | apply pw_below_drewN | apply below_drew1) | exact HB.out)⟩⟩
  case rest =>
    clear HC3
    try clear c1
    try clear p2
    try clear c5
    try clear c5b0
    try clear c6
    obtain ⟨kq, x16_2, rfl, HA, HJ2, HB⟩ := hcut
    cases kq with
    | zero => exact absurd HA.out (by simp [skerrylaw01_CodecCells.j0])
    | succ kj2 =>
      have H := HA.out
      clear HA
      simp only [skerrylaw01_CodecCells.j0] at H
      by_cases c8 : x16_2 = true
      · subst c8
        have H1 : ((skerrylaw01_lives.f).bind fun t202 => (some t202)) = some r := by rw [if_pos rfl] at H; exact H
        clear H
        have H := H1
        clear H1
        replace H := Option.bind_eq_some_iff.mp H
        obtain ⟨t202, A90, H⟩ := H
        replace H : (some t202) = some r := H
        have A9 := Aside0.mk A90
        clear A90
        obtain rfl := Option.some.inj H
        go_wp2_with (first | ((with_reducible refine gate_callee (f := 23) rfl ?_); refine goesL_ (some 17) rfl rfl Try.func23 (by kernel_rfl) rfl #[] rfl (by (try simp only [List.map_toArray, List.map_cons, List.map_nil]); first | done | rfl | (simp only [List.length_drop, List.length_take]; rfl)) ?_; (with_reducible refine (skerrylaw01_lives.calls  t202 _ A9.out).mono ?_); rintro e w10 ⟨rfl, hb⟩; refine ⟨_, rfl, ?_⟩; have n0_ := Aside0.mk (below_step (by repeat (first | (with_reducible first | exact HB.out | apply below_alloc | apply pw_below_drewN | apply below_drew1) | exact HB.out)) hb); clear HB; have HB := n0_; clear n0_; (try clear hb); (try clear hb2); (try clear hk); (try clear hi)))
        go_ret
        exact ⟨by first | rfl | (simp [errW_none, errW_some] <;> rfl) | (simp [*, errW_none, errW_some] <;> rfl), by repeat (first | (with_reducible first | exact HB.out | apply below_alloc | apply pw_below_drewN | apply below_drew1) | exact HB.out)⟩
      · replace c8 := Bool.eq_false_iff.mpr c8
        subst c8
        have H1 : ((codec_ReadCells.f l1).bind fun bt203 => ((skerryref01_ReadCells.f l1).bind fun bt207 => ((codec_Cells.f kj2 l0).bind fun t211 => ((skerryref01_Cells.f kj2 l0).bind fun t214 => ((skerryref01_Same.f t211 t214).bind fun t217 => (if t217 = true then ((skerryref01_Like.f kj2 bt203.1 bt207.1).bind fun t218 => (if t218 = true then (if bt203.2 = bt207.2 then ((skerrylaw01_lives.f).bind fun t219 => (some t219)) else (some false)) else (some false))) else (some false))))))) = some r := by rw [if_neg (show ¬ (false = true) by decide)] at H; exact H
        clear H
        have H := H1
        clear H1
        replace H := Option.bind_eq_some_iff.mp H
        obtain ⟨⟨t203, t204⟩, A110, H⟩ := H
        replace H : ((skerryref01_ReadCells.f l1).bind fun bt207 => ((codec_Cells.f kj2 l0).bind fun t211 => ((skerryref01_Cells.f kj2 l0).bind fun t214 => ((skerryref01_Same.f t211 t214).bind fun t217 => (if t217 = true then ((skerryref01_Like.f kj2 t203 bt207.1).bind fun t218 => (if t218 = true then (if t204 = bt207.2 then ((skerrylaw01_lives.f).bind fun t219 => (some t219)) else (some false)) else (some false))) else (some false)))))) = some r := H
        have A11 := Aside0.mk A110
        clear A110
        replace H := Option.bind_eq_some_iff.mp H
        obtain ⟨⟨t207, t208⟩, A120, H⟩ := H
        replace H : ((codec_Cells.f kj2 l0).bind fun t211 => ((skerryref01_Cells.f kj2 l0).bind fun t214 => ((skerryref01_Same.f t211 t214).bind fun t217 => (if t217 = true then ((skerryref01_Like.f kj2 t203 t207).bind fun t218 => (if t218 = true then (if t204 = t208 then ((skerrylaw01_lives.f).bind fun t219 => (some t219)) else (some false)) else (some false))) else (some false))))) = some r := H
        have A12 := Aside0.mk A120
        clear A120
        replace H := Option.bind_eq_some_iff.mp H
        obtain ⟨t211, A130, H⟩ := H
        replace H : ((skerryref01_Cells.f kj2 l0).bind fun t214 => ((skerryref01_Same.f t211 t214).bind fun t217 => (if t217 = true then ((skerryref01_Like.f kj2 t203 t207).bind fun t218 => (if t218 = true then (if t204 = t208 then ((skerrylaw01_lives.f).bind fun t219 => (some t219)) else (some false)) else (some false))) else (some false)))) = some r := H
        have A13 := Aside0.mk A130
        clear A130
        replace H := Option.bind_eq_some_iff.mp H
        obtain ⟨t214, A140, H⟩ := H
        replace H : ((skerryref01_Same.f t211 t214).bind fun t217 => (if t217 = true then ((skerryref01_Like.f kj2 t203 t207).bind fun t218 => (if t218 = true then (if t204 = t208 then ((skerrylaw01_lives.f).bind fun t219 => (some t219)) else (some false)) else (some false))) else (some false))) = some r := H
        have A14 := Aside0.mk A140
        clear A140
        replace H := Option.bind_eq_some_iff.mp H
        obtain ⟨t217, A150, H⟩ := H
        replace H : (if t217 = true then ((skerryref01_Like.f kj2 t203 t207).bind fun t218 => (if t218 = true then (if t204 = t208 then ((skerrylaw01_lives.f).bind fun t219 => (some t219)) else (some false)) else (some false))) else (some false)) = some r := H
        have A15 := Aside0.mk A150
        clear A150
        by_cases c16 : t217 = true
        · subst c16
          have H1 : ((skerryref01_Like.f kj2 t203 t207).bind fun t218 => (if t218 = true then (if t204 = t208 then ((skerrylaw01_lives.f).bind fun t219 => (some t219)) else (some false)) else (some false))) = some r := by rw [if_pos rfl] at H; exact H
          clear H
          have H := H1
          clear H1
          replace H := Option.bind_eq_some_iff.mp H
          obtain ⟨t218, A170, H⟩ := H
          replace H : (if t218 = true then (if t204 = t208 then ((skerrylaw01_lives.f).bind fun t219 => (some t219)) else (some false)) else (some false)) = some r := H
          have A17 := Aside0.mk A170
          clear A170
          by_cases c18 : t218 = true
          · subst c18
            have H1 : (if t204 = t208 then ((skerrylaw01_lives.f).bind fun t219 => (some t219)) else (some false)) = some r := by rw [if_pos rfl] at H; exact H
            clear H
            have H := H1
            clear H1
            by_cases c19 : t204 = t208
            · rw [if_pos c19] at H
              have c19b0 : (t204 == t208) = true := beq_iff_eq.mpr c19
              have c19b1 : (t204 != t208) = false := bne_eq_false_iff_eq.mpr c19
              clear c19
              replace H := Option.bind_eq_some_iff.mp H
              obtain ⟨t219, A200, H⟩ := H
              replace H : (some t219) = some r := H
              have A20 := Aside0.mk A200
              clear A200
              obtain rfl := Option.some.inj H
              go_wp2_with (first | ((with_reducible refine gate_callee (f := 68) rfl ?_); refine goesL_ (some 20) rfl rfl Try.func68 (by kernel_rfl) rfl #[.slice A1 l1.length c1] rfl (by (try simp only [List.map_toArray, List.map_cons, List.map_nil]); first | done | rfl | (simp only [List.length_drop, List.length_take]; rfl)) ?_; (with_reducible refine (codec_ReadCells.calls _ _ l1 t203 t204 _ ?side1 ?side2 A11.out).mono ?_); (case side1 => repeat (first | exact (Kd.C_below HR1.out HB.out) | (with_reducible refine Kd.C_alloc ?_ _) | (with_reducible refine Kd.C_drewN ?_ _) | (with_reducible refine Kd.C_drew ?_))); (case side2 => exact HC1.out); rintro e w21 ⟨v205, rfl, ho0, hb⟩; refine ⟨_, rfl, ?_⟩; have n0_ := Aside0.mk (Kd.R_lower ho0 (below_size (by repeat (first | (with_reducible first | exact HB.out | apply below_alloc | apply pw_below_drewN | apply below_drew1) | exact HB.out)))); have n1_ := Aside0.mk (below_step (by repeat (first | (with_reducible first | exact HB.out | apply below_alloc | apply pw_below_drewN | apply below_drew1) | exact HB.out)) hb); clear HB; have HO206 := n0_; have HB := n1_; clear n0_ n1_; (try clear hb); (try clear hb2); (try clear hk); (try clear hi); (try clear ho0)) | ((with_reducible refine gate_callee (f := 69) rfl ?_); refine goesL_ (some 25) rfl rfl Try.func69 (by kernel_rfl) rfl #[.slice A1 l1.length c1] rfl (by (try simp only [List.map_toArray, List.map_cons, List.map_nil]); first | done | rfl | (simp only [List.length_drop, List.length_take]; rfl)) ?_; (with_reducible refine (skerryref01_ReadCells.calls _ _ l1 t207 t208 _ ?side1 ?side2 A12.out).mono ?_); (case side1 => repeat (first | exact (Kd.C_below HR1.out HB.out) | (with_reducible refine Kd.C_alloc ?_ _) | (with_reducible refine Kd.C_drewN ?_ _) | (with_reducible refine Kd.C_drew ?_))); (case side2 => exact HC1.out); rintro e w22 ⟨v209, rfl, ho0, hb⟩; refine ⟨_, rfl, ?_⟩; have n0_ := Aside0.mk (Kd.R_elder' (by (with_reducible repeat (first | apply Kd.R_alloc | apply Kd.R_drewN | apply Kd.R_drew)); exact HO206.out) (Kd.R_base ho0) hb); have n1_ := Aside0.mk (Kd.R_lower (Kd.R_new' ho0 (Kd.R_lt (by (with_reducible repeat (first | apply Kd.R_alloc | apply Kd.R_drewN | apply Kd.R_drew)); exact HO206.out))) (below_size (by repeat (first | (with_reducible first | exact HB.out | apply below_alloc | apply pw_below_drewN | apply below_drew1) | exact HB.out)))); have n2_ := Aside0.mk (below_step (by repeat (first | (with_reducible first | exact HB.out | apply below_alloc | apply pw_below_drewN | apply below_drew1) | exact HB.out)) hb); clear HO206; clear HB; have HO206 := n0_; have HO210 := n1_; have HB := n2_; clear n0_ n1_ n2_; (try clear hb); (try clear hb2); (try clear hk); (try clear hi); (try clear ho0)) | ((with_reducible refine gate_callee (f := 70) rfl ?_); refine goesL_ (some 29) rfl rfl Try.func70 (by kernel_rfl) rfl #[.slice A0 l0.length c0] rfl (by (try simp only [List.map_toArray, List.map_cons, List.map_nil]); first | done | rfl | (simp only [List.length_drop, List.length_take]; rfl)) ?_; (with_reducible refine (codec_Cells.calls kj2 _ _ l0 t211 _ ?side1 ?side2 A13.out).mono ?_); (case side1 => repeat (first | exact (Kd.C_below HR0.out HB.out) | (with_reducible refine Kd.C_alloc ?_ _) | (with_reducible refine Kd.C_drewN ?_ _) | (with_reducible refine Kd.C_drew ?_))); (case side2 => exact HC0.out); rintro e w23 ⟨v212, rfl, ho0, hb⟩; refine ⟨_, rfl, ?_⟩; have n0_ := Aside0.mk (Kd.R_below (by (with_reducible repeat (first | apply Kd.R_alloc | apply Kd.R_drewN | apply Kd.R_drew)); exact HO206.out) hb); have n1_ := Aside0.mk (Kd.R_below (by (with_reducible repeat (first | apply Kd.R_alloc | apply Kd.R_drewN | apply Kd.R_drew)); exact HO210.out) hb); have n2_ := Aside0.mk (Kd.R_lower ho0 (below_size (by repeat (first | (with_reducible first | exact HB.out | apply below_alloc | apply pw_below_drewN | apply below_drew1) | exact HB.out)))); have n3_ := Aside0.mk (below_step (by repeat (first | (with_reducible first | exact HB.out | apply below_alloc | apply pw_below_drewN | apply below_drew1) | exact HB.out)) hb); clear HO206; clear HO210; clear HB; have HO206 := n0_; have HO210 := n1_; have HO213 := n2_; have HB := n3_; clear n0_ n1_ n2_ n3_; (try clear hb); (try clear hb2); (try clear hk); (try clear hi); (try clear ho0)) | ((with_reducible refine gate_callee (f := 71) rfl ?_); refine goesL_ (some 31) rfl rfl Try.func71 (by kernel_rfl) rfl #[.slice A0 l0.length c0] rfl (by (try simp only [List.map_toArray, List.map_cons, List.map_nil]); first | done | rfl | (simp only [List.length_drop, List.length_take]; rfl)) ?_; (with_reducible refine (skerryref01_Cells.calls kj2 _ _ l0 t214 _ ?side1 ?side2 A14.out).mono ?_); (case side1 => repeat (first | exact (Kd.C_below HR0.out HB.out) | (with_reducible refine Kd.C_alloc ?_ _) | (with_reducible refine Kd.C_drewN ?_ _) | (with_reducible refine Kd.C_drew ?_))); (case side2 => exact HC0.out); rintro e w24 ⟨v215, rfl, ho0, hb⟩; refine ⟨_, rfl, ?_⟩; have n0_ := Aside0.mk (Kd.R_below (by (with_reducible repeat (first | apply Kd.R_alloc | apply Kd.R_drewN | apply Kd.R_drew)); exact HO206.out) hb); have n1_ := Aside0.mk (Kd.R_below (by (with_reducible repeat (first | apply Kd.R_alloc | apply Kd.R_drewN | apply Kd.R_drew)); exact HO210.out) hb); have n2_ := Aside0.mk (Kd.R_elder' (by (with_reducible repeat (first | apply Kd.R_alloc | apply Kd.R_drewN | apply Kd.R_drew)); exact HO213.out) (Kd.R_base ho0) hb); have n3_ := Aside0.mk (Kd.R_lower (Kd.R_new' ho0 (Kd.R_lt (by (with_reducible repeat (first | apply Kd.R_alloc | apply Kd.R_drewN | apply Kd.R_drew)); exact HO213.out))) (below_size (by repeat (first | (with_reducible first | exact HB.out | apply below_alloc | apply pw_below_drewN | apply below_drew1) | exact HB.out)))); have n4_ := Aside0.mk (below_step (by repeat (first | (with_reducible first | exact HB.out | apply below_alloc | apply pw_below_drewN | apply below_drew1) | exact HB.out)) hb); clear HO206; clear HO210; clear HO213; clear HB; have HO206 := n0_; have HO210 := n1_; have HO213 := n2_; have HO216 := n3_; have HB := n4_; clear n0_ n1_ n2_ n3_ n4_; (try clear hb); (try clear hb2); (try clear hk); (try clear hi); (try clear ho0); obtain ⟨Ao25, co25, eo25⟩ := Kd.R_slice HO213.out; subst eo25; obtain ⟨Ao26, co26, eo26⟩ := Kd.R_slice HO216.out; subst eo26) | ((with_reducible refine gate_callee (f := 28) rfl ?_); refine goesL_ (some 32) rfl rfl Try.func28 (by kernel_rfl) rfl #[.slice Ao25 t211.length co25, .slice Ao26 t214.length co26] rfl (by (try simp only [List.map_toArray, List.map_cons, List.map_nil]); first | done | rfl | (simp only [List.length_drop, List.length_take]; rfl)) ?_; (with_reducible refine (skerryref01_Same.calls _ _ t211 _ _ t214 true _ ?side1 ?side2 ?side3 ?side4 A15.out).mono ?_); (case side1 => repeat (first | exact (Kd.R_reads' HO213.out).2.2 | (with_reducible refine Kd.C_alloc ?_ _) | (with_reducible refine Kd.C_drewN ?_ _) | (with_reducible refine Kd.C_drew ?_))); (case side2 => exact (Kd.R_reads' HO213.out).2.1); (case side3 => repeat (first | exact (Kd.R_reads' HO216.out).2.2 | (with_reducible refine Kd.C_alloc ?_ _) | (with_reducible refine Kd.C_drewN ?_ _) | (with_reducible refine Kd.C_drew ?_))); (case side4 => exact (Kd.R_reads' HO216.out).2.1); rintro e w' ⟨rfl, ⟨nd, rfl⟩⟩; refine ⟨_, rfl, ?_⟩; obtain ⟨Ao27, co27, eo27⟩ := Kd.R_slice HO206.out; subst eo27; obtain ⟨Ao28, co28, eo28⟩ := Kd.R_slice HO210.out; subst eo28) | (go_at_call 72; (with_reducible refine (skerryref01_Like.calls kj2 _ _ t203 _ _ t207 true _ ?side1 ?side2 ?side3 ?side4 A17.out).mono ?_); (case side1 => repeat (first | exact (Kd.R_reads' HO206.out).2.2 | (with_reducible refine Kd.C_alloc ?_ _) | (with_reducible refine Kd.C_drewN ?_ _) | (with_reducible refine Kd.C_drew ?_))); (case side2 => exact (Kd.R_reads' HO206.out).2.1); (case side3 => repeat (first | exact (Kd.R_reads' HO210.out).2.2 | (with_reducible refine Kd.C_alloc ?_ _) | (with_reducible refine Kd.C_drewN ?_ _) | (with_reducible refine Kd.C_drew ?_))); (case side4 => exact (Kd.R_reads' HO210.out).2.1); rintro e w' ⟨rfl, ⟨nd, rfl⟩⟩) | (go_at_call 23; (with_reducible refine (skerrylaw01_lives.calls  t219 _ A20.out).mono ?_); rintro e w29 ⟨rfl, hb⟩; have n0_ := Aside0.mk (Kd.R_below (by (with_reducible repeat (first | apply Kd.R_alloc | apply Kd.R_drewN | apply Kd.R_drew)); exact HO206.out) hb); have n1_ := Aside0.mk (Kd.R_below (by (with_reducible repeat (first | apply Kd.R_alloc | apply Kd.R_drewN | apply Kd.R_drew)); exact HO210.out) hb); have n2_ := Aside0.mk (Kd.R_below (by (with_reducible repeat (first | apply Kd.R_alloc | apply Kd.R_drewN | apply Kd.R_drew)); exact HO213.out) hb); have n3_ := Aside0.mk (Kd.R_below (by (with_reducible repeat (first | apply Kd.R_alloc | apply Kd.R_drewN | apply Kd.R_drew)); exact HO216.out) hb); have n4_ := Aside0.mk (below_step (by repeat (first | (with_reducible first | exact HB.out | apply below_alloc | apply pw_below_drewN | apply below_drew1) | exact HB.out)) hb); clear HO206; clear HO210; clear HO213; clear HO216; clear HB; have HO206 := n0_; have HO210 := n1_; have HO213 := n2_; have HO216 := n3_; have HB := n4_; clear n0_ n1_ n2_ n3_ n4_; (try clear hb); (try clear hb2); (try clear hk); (try clear hi)))
              go_ret
              exact ⟨by first | rfl | (simp [errW_none, errW_some] <;> rfl) | (simp [*, errW_none, errW_some] <;> rfl), by repeat (first | (with_reducible first | exact HB.out | apply below_alloc | apply pw_below_drewN | apply below_drew1) | exact HB.out)⟩
            · rw [if_neg c19] at H
              have c19b0 : (t204 == t208) = false := beq_eq_false_iff_ne.mpr c19
              have c19b1 : (t204 != t208) = true := bne_iff_ne.mpr c19
              obtain rfl := Option.some.inj H
              go_wp2_with (first | ((with_reducible refine gate_callee (f := 68) rfl ?_); refine goesL_ (some 20) rfl rfl Try.func68 (by kernel_rfl) rfl #[.slice A1 l1.length c1] rfl (by (try simp only [List.map_toArray, List.map_cons, List.map_nil]); first | done | rfl | (simp only [List.length_drop, List.length_take]; rfl)) ?_; (with_reducible refine (codec_ReadCells.calls _ _ l1 t203 t204 _ ?side1 ?side2 A11.out).mono ?_); (case side1 => repeat (first | exact (Kd.C_below HR1.out HB.out) | (with_reducible refine Kd.C_alloc ?_ _) | (with_reducible refine Kd.C_drewN ?_ _) | (with_reducible refine Kd.C_drew ?_))); (case side2 => exact HC1.out); rintro e w30 ⟨v205, rfl, ho0, hb⟩; refine ⟨_, rfl, ?_⟩; have n0_ := Aside0.mk (Kd.R_lower ho0 (below_size (by repeat (first | (with_reducible first | exact HB.out | apply below_alloc | apply pw_below_drewN | apply below_drew1) | exact HB.out)))); have n1_ := Aside0.mk (below_step (by repeat (first | (with_reducible first | exact HB.out | apply below_alloc | apply pw_below_drewN | apply below_drew1) | exact HB.out)) hb); clear HB; have HO206 := n0_; have HB := n1_; clear n0_ n1_; (try clear hb); (try clear hb2); (try clear hk); (try clear hi); (try clear ho0)) | ((with_reducible refine gate_callee (f := 69) rfl ?_); refine goesL_ (some 25) rfl rfl Try.func69 (by kernel_rfl) rfl #[.slice A1 l1.length c1] rfl (by (try simp only [List.map_toArray, List.map_cons, List.map_nil]); first | done | rfl | (simp only [List.length_drop, List.length_take]; rfl)) ?_; (with_reducible refine (skerryref01_ReadCells.calls _ _ l1 t207 t208 _ ?side1 ?side2 A12.out).mono ?_); (case side1 => repeat (first | exact (Kd.C_below HR1.out HB.out) | (with_reducible refine Kd.C_alloc ?_ _) | (with_reducible refine Kd.C_drewN ?_ _) | (with_reducible refine Kd.C_drew ?_))); (case side2 => exact HC1.out); rintro e w31 ⟨v209, rfl, ho0, hb⟩; refine ⟨_, rfl, ?_⟩; have n0_ := Aside0.mk (Kd.R_elder' (by (with_reducible repeat (first | apply Kd.R_alloc | apply Kd.R_drewN | apply Kd.R_drew)); exact HO206.out) (Kd.R_base ho0) hb); have n1_ := Aside0.mk (Kd.R_lower (Kd.R_new' ho0 (Kd.R_lt (by (with_reducible repeat (first | apply Kd.R_alloc | apply Kd.R_drewN | apply Kd.R_drew)); exact HO206.out))) (below_size (by repeat (first | (with_reducible first | exact HB.out | apply below_alloc | apply pw_below_drewN | apply below_drew1) | exact HB.out)))); have n2_ := Aside0.mk (below_step (by repeat (first | (with_reducible first | exact HB.out | apply below_alloc | apply pw_below_drewN | apply below_drew1) | exact HB.out)) hb); clear HO206; clear HB; have HO206 := n0_; have HO210 := n1_; have HB := n2_; clear n0_ n1_ n2_; (try clear hb); (try clear hb2); (try clear hk); (try clear hi); (try clear ho0)) | ((with_reducible refine gate_callee (f := 70) rfl ?_); refine goesL_ (some 29) rfl rfl Try.func70 (by kernel_rfl) rfl #[.slice A0 l0.length c0] rfl (by (try simp only [List.map_toArray, List.map_cons, List.map_nil]); first | done | rfl | (simp only [List.length_drop, List.length_take]; rfl)) ?_; (with_reducible refine (codec_Cells.calls kj2 _ _ l0 t211 _ ?side1 ?side2 A13.out).mono ?_); (case side1 => repeat (first | exact (Kd.C_below HR0.out HB.out) | (with_reducible refine Kd.C_alloc ?_ _) | (with_reducible refine Kd.C_drewN ?_ _) | (with_reducible refine Kd.C_drew ?_))); (case side2 => exact HC0.out); rintro e w32 ⟨v212, rfl, ho0, hb⟩; refine ⟨_, rfl, ?_⟩; have n0_ := Aside0.mk (Kd.R_below (by (with_reducible repeat (first | apply Kd.R_alloc | apply Kd.R_drewN | apply Kd.R_drew)); exact HO206.out) hb); have n1_ := Aside0.mk (Kd.R_below (by (with_reducible repeat (first | apply Kd.R_alloc | apply Kd.R_drewN | apply Kd.R_drew)); exact HO210.out) hb); have n2_ := Aside0.mk (Kd.R_lower ho0 (below_size (by repeat (first | (with_reducible first | exact HB.out | apply below_alloc | apply pw_below_drewN | apply below_drew1) | exact HB.out)))); have n3_ := Aside0.mk (below_step (by repeat (first | (with_reducible first | exact HB.out | apply below_alloc | apply pw_below_drewN | apply below_drew1) | exact HB.out)) hb); clear HO206; clear HO210; clear HB; have HO206 := n0_; have HO210 := n1_; have HO213 := n2_; have HB := n3_; clear n0_ n1_ n2_ n3_; (try clear hb); (try clear hb2); (try clear hk); (try clear hi); (try clear ho0)) | ((with_reducible refine gate_callee (f := 71) rfl ?_); refine goesL_ (some 31) rfl rfl Try.func71 (by kernel_rfl) rfl #[.slice A0 l0.length c0] rfl (by (try simp only [List.map_toArray, List.map_cons, List.map_nil]); first | done | rfl | (simp only [List.length_drop, List.length_take]; rfl)) ?_; (with_reducible refine (skerryref01_Cells.calls kj2 _ _ l0 t214 _ ?side1 ?side2 A14.out).mono ?_); (case side1 => repeat (first | exact (Kd.C_below HR0.out HB.out) | (with_reducible refine Kd.C_alloc ?_ _) | (with_reducible refine Kd.C_drewN ?_ _) | (with_reducible refine Kd.C_drew ?_))); (case side2 => exact HC0.out); rintro e w33 ⟨v215, rfl, ho0, hb⟩; refine ⟨_, rfl, ?_⟩; have n0_ := Aside0.mk (Kd.R_below (by (with_reducible repeat (first | apply Kd.R_alloc | apply Kd.R_drewN | apply Kd.R_drew)); exact HO206.out) hb); have n1_ := Aside0.mk (Kd.R_below (by (with_reducible repeat (first | apply Kd.R_alloc | apply Kd.R_drewN | apply Kd.R_drew)); exact HO210.out) hb); have n2_ := Aside0.mk (Kd.R_elder' (by (with_reducible repeat (first | apply Kd.R_alloc | apply Kd.R_drewN | apply Kd.R_drew)); exact HO213.out) (Kd.R_base ho0) hb); have n3_ := Aside0.mk (Kd.R_lower (Kd.R_new' ho0 (Kd.R_lt (by (with_reducible repeat (first | apply Kd.R_alloc | apply Kd.R_drewN | apply Kd.R_drew)); exact HO213.out))) (below_size (by repeat (first | (with_reducible first | exact HB.out | apply below_alloc | apply pw_below_drewN | apply below_drew1) | exact HB.out)))); have n4_ := Aside0.mk (below_step (by repeat (first | (with_reducible first | exact HB.out | apply below_alloc | apply pw_below_drewN | apply below_drew1) | exact HB.out)) hb); clear HO206; clear HO210; clear HO213; clear HB; have HO206 := n0_; have HO210 := n1_; have HO213 := n2_; have HO216 := n3_; have HB := n4_; clear n0_ n1_ n2_ n3_ n4_; (try clear hb); (try clear hb2); (try clear hk); (try clear hi); (try clear ho0); obtain ⟨Ao34, co34, eo34⟩ := Kd.R_slice HO213.out; subst eo34; obtain ⟨Ao35, co35, eo35⟩ := Kd.R_slice HO216.out; subst eo35) | ((with_reducible refine gate_callee (f := 28) rfl ?_); refine goesL_ (some 32) rfl rfl Try.func28 (by kernel_rfl) rfl #[.slice Ao34 t211.length co34, .slice Ao35 t214.length co35] rfl (by (try simp only [List.map_toArray, List.map_cons, List.map_nil]); first | done | rfl | (simp only [List.length_drop, List.length_take]; rfl)) ?_; (with_reducible refine (skerryref01_Same.calls _ _ t211 _ _ t214 true _ ?side1 ?side2 ?side3 ?side4 A15.out).mono ?_); (case side1 => repeat (first | exact (Kd.R_reads' HO213.out).2.2 | (with_reducible refine Kd.C_alloc ?_ _) | (with_reducible refine Kd.C_drewN ?_ _) | (with_reducible refine Kd.C_drew ?_))); (case side2 => exact (Kd.R_reads' HO213.out).2.1); (case side3 => repeat (first | exact (Kd.R_reads' HO216.out).2.2 | (with_reducible refine Kd.C_alloc ?_ _) | (with_reducible refine Kd.C_drewN ?_ _) | (with_reducible refine Kd.C_drew ?_))); (case side4 => exact (Kd.R_reads' HO216.out).2.1); rintro e w' ⟨rfl, ⟨nd, rfl⟩⟩; refine ⟨_, rfl, ?_⟩; obtain ⟨Ao36, co36, eo36⟩ := Kd.R_slice HO206.out; subst eo36; obtain ⟨Ao37, co37, eo37⟩ := Kd.R_slice HO210.out; subst eo37) | (go_at_call 72; (with_reducible refine (skerryref01_Like.calls kj2 _ _ t203 _ _ t207 true _ ?side1 ?side2 ?side3 ?side4 A17.out).mono ?_); (case side1 => repeat (first | exact (Kd.R_reads' HO206.out).2.2 | (with_reducible refine Kd.C_alloc ?_ _) | (with_reducible refine Kd.C_drewN ?_ _) | (with_reducible refine Kd.C_drew ?_))); (case side2 => exact (Kd.R_reads' HO206.out).2.1); (case side3 => repeat (first | exact (Kd.R_reads' HO210.out).2.2 | (with_reducible refine Kd.C_alloc ?_ _) | (with_reducible refine Kd.C_drewN ?_ _) | (with_reducible refine Kd.C_drew ?_))); (case side4 => exact (Kd.R_reads' HO210.out).2.1); rintro e w' ⟨rfl, ⟨nd, rfl⟩⟩))
              go_ret
              exact ⟨by first | rfl | (simp [errW_none, errW_some] <;> rfl) | (simp [*, errW_none, errW_some] <;> rfl), by repeat (first | (with_reducible first | exact HB.out | apply below_alloc | apply pw_below_drewN | apply below_drew1) | exact HB.out)⟩
          · replace c18 := Bool.eq_false_iff.mpr c18
            subst c18
            have H1 : (some false) = some r := by rw [if_neg (show ¬ (false = true) by decide)] at H; exact H
            clear H
            have H := H1
            clear H1
            obtain rfl := Option.some.inj H
            go_wp2_with (first | ((with_reducible refine gate_callee (f := 68) rfl ?_); refine goesL_ (some 20) rfl rfl Try.func68 (by kernel_rfl) rfl #[.slice A1 l1.length c1] rfl (by (try simp only [List.map_toArray, List.map_cons, List.map_nil]); first | done | rfl | (simp only [List.length_drop, List.length_take]; rfl)) ?_; (with_reducible refine (codec_ReadCells.calls _ _ l1 t203 t204 _ ?side1 ?side2 A11.out).mono ?_); (case side1 => repeat (first | exact (Kd.C_below HR1.out HB.out) | (with_reducible refine Kd.C_alloc ?_ _) | (with_reducible refine Kd.C_drewN ?_ _) | (with_reducible refine Kd.C_drew ?_))); (case side2 => exact HC1.out); rintro e w38 ⟨v205, rfl, ho0, hb⟩; refine ⟨_, rfl, ?_⟩; have n0_ := Aside0.mk (Kd.R_lower ho0 (below_size (by repeat (first | (with_reducible first | exact HB.out | apply below_alloc | apply pw_below_drewN | apply below_drew1) | exact HB.out)))); have n1_ := Aside0.mk (below_step (by repeat (first | (with_reducible first | exact HB.out | apply below_alloc | apply pw_below_drewN | apply below_drew1) | exact HB.out)) hb); clear HB; have HO206 := n0_; have HB := n1_; clear n0_ n1_; (try clear hb); (try clear hb2); (try clear hk); (try clear hi); (try clear ho0)) | ((with_reducible refine gate_callee (f := 69) rfl ?_); refine goesL_ (some 25) rfl rfl Try.func69 (by kernel_rfl) rfl #[.slice A1 l1.length c1] rfl (by (try simp only [List.map_toArray, List.map_cons, List.map_nil]); first | done | rfl | (simp only [List.length_drop, List.length_take]; rfl)) ?_; (with_reducible refine (skerryref01_ReadCells.calls _ _ l1 t207 t208 _ ?side1 ?side2 A12.out).mono ?_); (case side1 => repeat (first | exact (Kd.C_below HR1.out HB.out) | (with_reducible refine Kd.C_alloc ?_ _) | (with_reducible refine Kd.C_drewN ?_ _) | (with_reducible refine Kd.C_drew ?_))); (case side2 => exact HC1.out); rintro e w39 ⟨v209, rfl, ho0, hb⟩; refine ⟨_, rfl, ?_⟩; have n0_ := Aside0.mk (Kd.R_elder' (by (with_reducible repeat (first | apply Kd.R_alloc | apply Kd.R_drewN | apply Kd.R_drew)); exact HO206.out) (Kd.R_base ho0) hb); have n1_ := Aside0.mk (Kd.R_lower (Kd.R_new' ho0 (Kd.R_lt (by (with_reducible repeat (first | apply Kd.R_alloc | apply Kd.R_drewN | apply Kd.R_drew)); exact HO206.out))) (below_size (by repeat (first | (with_reducible first | exact HB.out | apply below_alloc | apply pw_below_drewN | apply below_drew1) | exact HB.out)))); have n2_ := Aside0.mk (below_step (by repeat (first | (with_reducible first | exact HB.out | apply below_alloc | apply pw_below_drewN | apply below_drew1) | exact HB.out)) hb); clear HO206; clear HB; have HO206 := n0_; have HO210 := n1_; have HB := n2_; clear n0_ n1_ n2_; (try clear hb); (try clear hb2); (try clear hk); (try clear hi); (try clear ho0)) | ((with_reducible refine gate_callee (f := 70) rfl ?_); refine goesL_ (some 29) rfl rfl Try.func70 (by kernel_rfl) rfl #[.slice A0 l0.length c0] rfl (by (try simp only [List.map_toArray, List.map_cons, List.map_nil]); first | done | rfl | (simp only [List.length_drop, List.length_take]; rfl)) ?_; (with_reducible refine (codec_Cells.calls kj2 _ _ l0 t211 _ ?side1 ?side2 A13.out).mono ?_); (case side1 => repeat (first | exact (Kd.C_below HR0.out HB.out) | (with_reducible refine Kd.C_alloc ?_ _) | (with_reducible refine Kd.C_drewN ?_ _) | (with_reducible refine Kd.C_drew ?_))); (case side2 => exact HC0.out); rintro e w40 ⟨v212, rfl, ho0, hb⟩; refine ⟨_, rfl, ?_⟩; have n0_ := Aside0.mk (Kd.R_below (by (with_reducible repeat (first | apply Kd.R_alloc | apply Kd.R_drewN | apply Kd.R_drew)); exact HO206.out) hb); have n1_ := Aside0.mk (Kd.R_below (by (with_reducible repeat (first | apply Kd.R_alloc | apply Kd.R_drewN | apply Kd.R_drew)); exact HO210.out) hb); have n2_ := Aside0.mk (Kd.R_lower ho0 (below_size (by repeat (first | (with_reducible first | exact HB.out | apply below_alloc | apply pw_below_drewN | apply below_drew1) | exact HB.out)))); have n3_ := Aside0.mk (below_step (by repeat (first | (with_reducible first | exact HB.out | apply below_alloc | apply pw_below_drewN | apply below_drew1) | exact HB.out)) hb); clear HO206; clear HO210; clear HB; have HO206 := n0_; have HO210 := n1_; have HO213 := n2_; have HB := n3_; clear n0_ n1_ n2_ n3_; (try clear hb); (try clear hb2); (try clear hk); (try clear hi); (try clear ho0)) | ((with_reducible refine gate_callee (f := 71) rfl ?_); refine goesL_ (some 31) rfl rfl Try.func71 (by kernel_rfl) rfl #[.slice A0 l0.length c0] rfl (by (try simp only [List.map_toArray, List.map_cons, List.map_nil]); first | done | rfl | (simp only [List.length_drop, List.length_take]; rfl)) ?_; (with_reducible refine (skerryref01_Cells.calls kj2 _ _ l0 t214 _ ?side1 ?side2 A14.out).mono ?_); (case side1 => repeat (first | exact (Kd.C_below HR0.out HB.out) | (with_reducible refine Kd.C_alloc ?_ _) | (with_reducible refine Kd.C_drewN ?_ _) | (with_reducible refine Kd.C_drew ?_))); (case side2 => exact HC0.out); rintro e w41 ⟨v215, rfl, ho0, hb⟩; refine ⟨_, rfl, ?_⟩; have n0_ := Aside0.mk (Kd.R_below (by (with_reducible repeat (first | apply Kd.R_alloc | apply Kd.R_drewN | apply Kd.R_drew)); exact HO206.out) hb); have n1_ := Aside0.mk (Kd.R_below (by (with_reducible repeat (first | apply Kd.R_alloc | apply Kd.R_drewN | apply Kd.R_drew)); exact HO210.out) hb); have n2_ := Aside0.mk (Kd.R_elder' (by (with_reducible repeat (first | apply Kd.R_alloc | apply Kd.R_drewN | apply Kd.R_drew)); exact HO213.out) (Kd.R_base ho0) hb); have n3_ := Aside0.mk (Kd.R_lower (Kd.R_new' ho0 (Kd.R_lt (by (with_reducible repeat (first | apply Kd.R_alloc | apply Kd.R_drewN | apply Kd.R_drew)); exact HO213.out))) (below_size (by repeat (first | (with_reducible first | exact HB.out | apply below_alloc | apply pw_below_drewN | apply below_drew1) | exact HB.out)))); have n4_ := Aside0.mk (below_step (by repeat (first | (with_reducible first | exact HB.out | apply below_alloc | apply pw_below_drewN | apply below_drew1) | exact HB.out)) hb); clear HO206; clear HO210; clear HO213; clear HB; have HO206 := n0_; have HO210 := n1_; have HO213 := n2_; have HO216 := n3_; have HB := n4_; clear n0_ n1_ n2_ n3_ n4_; (try clear hb); (try clear hb2); (try clear hk); (try clear hi); (try clear ho0); obtain ⟨Ao42, co42, eo42⟩ := Kd.R_slice HO213.out; subst eo42; obtain ⟨Ao43, co43, eo43⟩ := Kd.R_slice HO216.out; subst eo43) | ((with_reducible refine gate_callee (f := 28) rfl ?_); refine goesL_ (some 32) rfl rfl Try.func28 (by kernel_rfl) rfl #[.slice Ao42 t211.length co42, .slice Ao43 t214.length co43] rfl (by (try simp only [List.map_toArray, List.map_cons, List.map_nil]); first | done | rfl | (simp only [List.length_drop, List.length_take]; rfl)) ?_; (with_reducible refine (skerryref01_Same.calls _ _ t211 _ _ t214 true _ ?side1 ?side2 ?side3 ?side4 A15.out).mono ?_); (case side1 => repeat (first | exact (Kd.R_reads' HO213.out).2.2 | (with_reducible refine Kd.C_alloc ?_ _) | (with_reducible refine Kd.C_drewN ?_ _) | (with_reducible refine Kd.C_drew ?_))); (case side2 => exact (Kd.R_reads' HO213.out).2.1); (case side3 => repeat (first | exact (Kd.R_reads' HO216.out).2.2 | (with_reducible refine Kd.C_alloc ?_ _) | (with_reducible refine Kd.C_drewN ?_ _) | (with_reducible refine Kd.C_drew ?_))); (case side4 => exact (Kd.R_reads' HO216.out).2.1); rintro e w' ⟨rfl, ⟨nd, rfl⟩⟩; refine ⟨_, rfl, ?_⟩; obtain ⟨Ao44, co44, eo44⟩ := Kd.R_slice HO206.out; subst eo44; obtain ⟨Ao45, co45, eo45⟩ := Kd.R_slice HO210.out; subst eo45) | (go_at_call 72; (with_reducible refine (skerryref01_Like.calls kj2 _ _ t203 _ _ t207 false _ ?side1 ?side2 ?side3 ?side4 A17.out).mono ?_); (case side1 => repeat (first | exact (Kd.R_reads' HO206.out).2.2 | (with_reducible refine Kd.C_alloc ?_ _) | (with_reducible refine Kd.C_drewN ?_ _) | (with_reducible refine Kd.C_drew ?_))); (case side2 => exact (Kd.R_reads' HO206.out).2.1); (case side3 => repeat (first | exact (Kd.R_reads' HO210.out).2.2 | (with_reducible refine Kd.C_alloc ?_ _) | (with_reducible refine Kd.C_drewN ?_ _) | (with_reducible refine Kd.C_drew ?_))); (case side4 => exact (Kd.R_reads' HO210.out).2.1); rintro e w' ⟨rfl, ⟨nd, rfl⟩⟩))
            go_ret
            exact ⟨by first | rfl | (simp [errW_none, errW_some] <;> rfl) | (simp [*, errW_none, errW_some] <;> rfl), by repeat (first | (with_reducible first | exact HB.out | apply below_alloc | apply pw_below_drewN | apply below_drew1) | exact HB.out)⟩
        · replace c16 := Bool.eq_false_iff.mpr c16
          subst c16
          have H1 : (some false) = some r := by rw [if_neg (show ¬ (false = true) by decide)] at H; exact H
          clear H
          have H := H1
          clear H1
          obtain rfl := Option.some.inj H
          go_wp2_with (first | ((with_reducible refine gate_callee (f := 68) rfl ?_); refine goesL_ (some 20) rfl rfl Try.func68 (by kernel_rfl) rfl #[.slice A1 l1.length c1] rfl (by (try simp only [List.map_toArray, List.map_cons, List.map_nil]); first | done | rfl | (simp only [List.length_drop, List.length_take]; rfl)) ?_; (with_reducible refine (codec_ReadCells.calls _ _ l1 t203 t204 _ ?side1 ?side2 A11.out).mono ?_); (case side1 => repeat (first | exact (Kd.C_below HR1.out HB.out) | (with_reducible refine Kd.C_alloc ?_ _) | (with_reducible refine Kd.C_drewN ?_ _) | (with_reducible refine Kd.C_drew ?_))); (case side2 => exact HC1.out); rintro e w46 ⟨v205, rfl, ho0, hb⟩; refine ⟨_, rfl, ?_⟩; have n0_ := Aside0.mk (Kd.R_lower ho0 (below_size (by repeat (first | (with_reducible first | exact HB.out | apply below_alloc | apply pw_below_drewN | apply below_drew1) | exact HB.out)))); have n1_ := Aside0.mk (below_step (by repeat (first | (with_reducible first | exact HB.out | apply below_alloc | apply pw_below_drewN | apply below_drew1) | exact HB.out)) hb); clear HB; have HO206 := n0_; have HB := n1_; clear n0_ n1_; (try clear hb); (try clear hb2); (try clear hk); (try clear hi); (try clear ho0)) | ((with_reducible refine gate_callee (f := 69) rfl ?_); refine goesL_ (some 25) rfl rfl Try.func69 (by kernel_rfl) rfl #[.slice A1 l1.length c1] rfl (by (try simp only [List.map_toArray, List.map_cons, List.map_nil]); first | done | rfl | (simp only [List.length_drop, List.length_take]; rfl)) ?_; (with_reducible refine (skerryref01_ReadCells.calls _ _ l1 t207 t208 _ ?side1 ?side2 A12.out).mono ?_); (case side1 => repeat (first | exact (Kd.C_below HR1.out HB.out) | (with_reducible refine Kd.C_alloc ?_ _) | (with_reducible refine Kd.C_drewN ?_ _) | (with_reducible refine Kd.C_drew ?_))); (case side2 => exact HC1.out); rintro e w47 ⟨v209, rfl, ho0, hb⟩; refine ⟨_, rfl, ?_⟩; have n0_ := Aside0.mk (Kd.R_elder' (by (with_reducible repeat (first | apply Kd.R_alloc | apply Kd.R_drewN | apply Kd.R_drew)); exact HO206.out) (Kd.R_base ho0) hb); have n1_ := Aside0.mk (Kd.R_lower (Kd.R_new' ho0 (Kd.R_lt (by (with_reducible repeat (first | apply Kd.R_alloc | apply Kd.R_drewN | apply Kd.R_drew)); exact HO206.out))) (below_size (by repeat (first | (with_reducible first | exact HB.out | apply below_alloc | apply pw_below_drewN | apply below_drew1) | exact HB.out)))); have n2_ := Aside0.mk (below_step (by repeat (first | (with_reducible first | exact HB.out | apply below_alloc | apply pw_below_drewN | apply below_drew1) | exact HB.out)) hb); clear HO206; clear HB; have HO206 := n0_; have HO210 := n1_; have HB := n2_; clear n0_ n1_ n2_; (try clear hb); (try clear hb2); (try clear hk); (try clear hi); (try clear ho0)) | ((with_reducible refine gate_callee (f := 70) rfl ?_); refine goesL_ (some 29) rfl rfl Try.func70 (by kernel_rfl) rfl #[.slice A0 l0.length c0] rfl (by (try simp only [List.map_toArray, List.map_cons, List.map_nil]); first | done | rfl | (simp only [List.length_drop, List.length_take]; rfl)) ?_; (with_reducible refine (codec_Cells.calls kj2 _ _ l0 t211 _ ?side1 ?side2 A13.out).mono ?_); (case side1 => repeat (first | exact (Kd.C_below HR0.out HB.out) | (with_reducible refine Kd.C_alloc ?_ _) | (with_reducible refine Kd.C_drewN ?_ _) | (with_reducible refine Kd.C_drew ?_))); (case side2 => exact HC0.out); rintro e w48 ⟨v212, rfl, ho0, hb⟩; refine ⟨_, rfl, ?_⟩; have n0_ := Aside0.mk (Kd.R_below (by (with_reducible repeat (first | apply Kd.R_alloc | apply Kd.R_drewN | apply Kd.R_drew)); exact HO206.out) hb); have n1_ := Aside0.mk (Kd.R_below (by (with_reducible repeat (first | apply Kd.R_alloc | apply Kd.R_drewN | apply Kd.R_drew)); exact HO210.out) hb); have n2_ := Aside0.mk (Kd.R_lower ho0 (below_size (by repeat (first | (with_reducible first | exact HB.out | apply below_alloc | apply pw_below_drewN | apply below_drew1) | exact HB.out)))); have n3_ := Aside0.mk (below_step (by repeat (first | (with_reducible first | exact HB.out | apply below_alloc | apply pw_below_drewN | apply below_drew1) | exact HB.out)) hb); clear HO206; clear HO210; clear HB; have HO206 := n0_; have HO210 := n1_; have HO213 := n2_; have HB := n3_; clear n0_ n1_ n2_ n3_; (try clear hb); (try clear hb2); (try clear hk); (try clear hi); (try clear ho0)) | ((with_reducible refine gate_callee (f := 71) rfl ?_); refine goesL_ (some 31) rfl rfl Try.func71 (by kernel_rfl) rfl #[.slice A0 l0.length c0] rfl (by (try simp only [List.map_toArray, List.map_cons, List.map_nil]); first | done | rfl | (simp only [List.length_drop, List.length_take]; rfl)) ?_; (with_reducible refine (skerryref01_Cells.calls kj2 _ _ l0 t214 _ ?side1 ?side2 A14.out).mono ?_); (case side1 => repeat (first | exact (Kd.C_below HR0.out HB.out) | (with_reducible refine Kd.C_alloc ?_ _) | (with_reducible refine Kd.C_drewN ?_ _) | (with_reducible refine Kd.C_drew ?_))); (case side2 => exact HC0.out); rintro e w49 ⟨v215, rfl, ho0, hb⟩; refine ⟨_, rfl, ?_⟩; have n0_ := Aside0.mk (Kd.R_below (by (with_reducible repeat (first | apply Kd.R_alloc | apply Kd.R_drewN | apply Kd.R_drew)); exact HO206.out) hb); have n1_ := Aside0.mk (Kd.R_below (by (with_reducible repeat (first | apply Kd.R_alloc | apply Kd.R_drewN | apply Kd.R_drew)); exact HO210.out) hb); have n2_ := Aside0.mk (Kd.R_elder' (by (with_reducible repeat (first | apply Kd.R_alloc | apply Kd.R_drewN | apply Kd.R_drew)); exact HO213.out) (Kd.R_base ho0) hb); have n3_ := Aside0.mk (Kd.R_lower (Kd.R_new' ho0 (Kd.R_lt (by (with_reducible repeat (first | apply Kd.R_alloc | apply Kd.R_drewN | apply Kd.R_drew)); exact HO213.out))) (below_size (by repeat (first | (with_reducible first | exact HB.out | apply below_alloc | apply pw_below_drewN | apply below_drew1) | exact HB.out)))); have n4_ := Aside0.mk (below_step (by repeat (first | (with_reducible first | exact HB.out | apply below_alloc | apply pw_below_drewN | apply below_drew1) | exact HB.out)) hb); clear HO206; clear HO210; clear HO213; clear HB; have HO206 := n0_; have HO210 := n1_; have HO213 := n2_; have HO216 := n3_; have HB := n4_; clear n0_ n1_ n2_ n3_ n4_; (try clear hb); (try clear hb2); (try clear hk); (try clear hi); (try clear ho0); obtain ⟨Ao50, co50, eo50⟩ := Kd.R_slice HO213.out; subst eo50; obtain ⟨Ao51, co51, eo51⟩ := Kd.R_slice HO216.out; subst eo51) | ((with_reducible refine gate_callee (f := 28) rfl ?_); refine goesL_ (some 32) rfl rfl Try.func28 (by kernel_rfl) rfl #[.slice Ao50 t211.length co50, .slice Ao51 t214.length co51] rfl (by (try simp only [List.map_toArray, List.map_cons, List.map_nil]); first | done | rfl | (simp only [List.length_drop, List.length_take]; rfl)) ?_; (with_reducible refine (skerryref01_Same.calls _ _ t211 _ _ t214 false _ ?side1 ?side2 ?side3 ?side4 A15.out).mono ?_); (case side1 => repeat (first | exact (Kd.R_reads' HO213.out).2.2 | (with_reducible refine Kd.C_alloc ?_ _) | (with_reducible refine Kd.C_drewN ?_ _) | (with_reducible refine Kd.C_drew ?_))); (case side2 => exact (Kd.R_reads' HO213.out).2.1); (case side3 => repeat (first | exact (Kd.R_reads' HO216.out).2.2 | (with_reducible refine Kd.C_alloc ?_ _) | (with_reducible refine Kd.C_drewN ?_ _) | (with_reducible refine Kd.C_drew ?_))); (case side4 => exact (Kd.R_reads' HO216.out).2.1); rintro e w' ⟨rfl, ⟨nd, rfl⟩⟩; refine ⟨_, rfl, ?_⟩))
          go_ret
          exact ⟨by first | rfl | (simp [errW_none, errW_some] <;> rfl) | (simp [*, errW_none, errW_some] <;> rfl), by repeat (first | (with_reducible first | exact HB.out | apply below_alloc | apply pw_below_drewN | apply below_drew1) | exact HB.out)⟩
end Go.Proofs.Ytcopbkdlpfcjpaa.G
namespace Go.Proofs.Ytcopbkdlpfcjpaa.K
open Go.RowKit Go.Proofs.YtcopbkdlpfcjpaaW.PrintWords Go.Proofs.Ytcopbkdlpfcjpaa.B Go.Proofs.Ytcopbkdlpfcjpaa.G
set_option linter.unusedVariables false
theorem Like_l0 (xs : List S101) (h : xs.length ≤ 1000000) (d : Nat) : ∀ i : Nat, i + d = xs.length → Ev (fun k => skerryref01_Like.l0 k xs xs (xs.length : Int) (i : Int)) true := by
  induction d with
  | zero =>
    intro i hi
    refine Ev.step (f := fun _ => some true) (fun k => ?_) (Ev.now _)
    simp only [skerryref01_Like.l0]
    rw [if_neg (by omega)]
  | succ d ih =>
    intro i hi
    refine Ev.step (f := fun k => skerryref01_Like.l0 k xs xs (xs.length : Int) ((i + 1 : Nat) : Int)) (fun k => ?_) (ih (i + 1) (by omega))
    simp only [skerryref01_Like.l0]
    have e : wrap64 ((i : Int) + 1) = ((i + 1 : Nat) : Int) := Ma.wrap_in (n := (i : Int) + 1) (by omega) |>.trans (by omega)
    rw [if_pos (by omega), if_pos (by omega), if_pos (by omega), if_pos (by omega), e]
    simp
theorem Like_self (xs : List S101) (h : xs.length ≤ 1000000) : Ev (fun k => skerryref01_Like.f k xs xs) true :=
  Ev.congr (fun k => if_pos rfl) (Like_l0 xs h xs.length 0 (by omega))
end Go.Proofs.Ytcopbkdlpfcjpaa.K
namespace Go.Proofs.Ytcopbkdlpfcjpaa.K
open Go.RowKit Go.Proofs.YtcopbkdlpfcjpaaW.PrintWords Go.Proofs.Ytcopbkdlpfcjpaa.B Go.Proofs.Ytcopbkdlpfcjpaa.G
set_option linter.unusedVariables false
theorem refZig_eq (n : Int) (h : -9223372036854775808 ≤ n ∧ n < 9223372036854775808) : skerryref01_Zig.f n = some (Ma.zig n) := by
  unfold skerryref01_Zig.f Ma.zig
  by_cases hn : n < 0
  · rw [if_pos hn, if_pos hn]
    have e1 : wrap64 (n + 1) = n + 1 := Ma.wrap_in (by omega)
    have e2 : wrap64 (-(n + 1)) = -(n + 1) := Ma.wrap_in (by omega)
    rw [e1, e2]
    simp only [IntKind.wrap_u64]
    congr 1
    omega
  · rw [if_neg hn, if_neg hn]
    simp only [IntKind.wrap_u64]
    congr 1
    omega
/-- A text's bytes. -/
def bytN (s : ByteArray) : List Nat := s.data.toList.map (·.toNat)
theorem up_bytN (s : ByteArray) : Ma.up (bytN s) = bytesOf s := by
  unfold Ma.up bytN bytesOf
  rw [List.map_map]
  rfl
theorem bytN_length (s : ByteArray) : (bytN s).length = s.size := by rw [bytN, List.length_map, data_length]
/-- What a text, a signed number, a cell and a row of cells are written as. -/
def textN (s : ByteArray) : List Nat := Ma.digN s.size ++ bytN s
def zigN (n : Int) : List Nat := Ma.digN (Ma.zig n).toNat
def cellN (c : S101) : List Nat :=
  textN c.f0.f0 ++ textN c.f0.f1 ++ zigN c.f0.f2 ++ textN c.f0.f3 ++ zigN c.f1.f0 ++
    (if c.f1.f1 = true then [1] ++ zigN c.f1.f2 else [0] ++ Ma.digN (IntKind.u64.wrap c.f1.f3.f0).toNat ++ zigN c.f1.f3.f1 ++ textN c.f1.f3.f2)
def cellsN (xs : List S101) : List Nat := Ma.digN xs.length ++ xs.flatMap cellN
end Go.Proofs.Ytcopbkdlpfcjpaa.K
namespace Go.Proofs.Ytcopbkdlpfcjpaa.K
open Go.RowKit Go.Proofs.YtcopbkdlpfcjpaaW.PrintWords Go.Proofs.Ytcopbkdlpfcjpaa.B Go.Proofs.Ytcopbkdlpfcjpaa.G
open Go.Proofs.Ytcopbkdlpfcjpaa.Ma (getS digN)
set_option linter.unusedVariables false
theorem zig_range (n : Int) (h : -9223372036854775808 ≤ n ∧ n < 9223372036854775808) : 0 ≤ Ma.zig n ∧ Ma.zig n < 18446744073709551616 := by
  unfold Ma.zig
  split <;> omega
def I64 (n : Int) : Prop := -9223372036854775808 ≤ n ∧ n < 9223372036854775808
/-- A cell of bounded texts and of ints. -/
structure CellOk (c : S101) : Prop where
  a : c.f0.f0.size ≤ 1000000
  b : c.f0.f1.size ≤ 1000000
  d : I64 c.f0.f2
  e : c.f0.f3.size ≤ 1000000
  f : I64 c.f1.f0
  g : I64 c.f1.f2
  h : I64 c.f1.f3.f0
  i : I64 c.f1.f3.f1
  j : c.f1.f3.f2.size ≤ 1000000
end Go.Proofs.Ytcopbkdlpfcjpaa.K
namespace Go.Proofs.Ytcopbkdlpfcjpaa.Ma
open Go.RowKit Go.Proofs.YtcopbkdlpfcjpaaW.PrintWords Go.Proofs.YtcopbkdlpfcjpaaW.PrintLast Go.Proofs.YtcopbkdlpfcjpaaW.PrintMore Go.Proofs.Ytcopbkdlpfcjpaa.B
theorem Same_self (L : List Int) : skerryref01_Same.f L L = some true := by
  unfold skerryref01_Same.f
  rw [beq_self_eq_true]
end Go.Proofs.Ytcopbkdlpfcjpaa.Ma
namespace Go.Proofs.Ytcopbkdlpfcjpaa.K
open Go.RowKit Go.Proofs.YtcopbkdlpfcjpaaW.PrintWords Go.Proofs.Ytcopbkdlpfcjpaa.B Go.Proofs.Ytcopbkdlpfcjpaa.G
open Go.Proofs.Ytcopbkdlpfcjpaa.Ma
set_option linter.unusedVariables false
/-- What both texts' writers answer behind the count. -/
def putT (s : ByteArray) (t : List Int) : Option (List Int) := if t.length + s.size < 140737488355328 then some (t ++ bytesOf s) else none
theorem putT_some (s : ByteArray) (t : List Int) (h : t.length + s.size < 140737488355328) : putT s t = some (t ++ bytesOf s) := if_pos h
theorem text_eq (k : Nat) (l : List Int) (s : ByteArray) : codec_text.f k l s = (codec_put.f k l (IntKind.u64.wrap (s.size : Int))).bind (putT s) := by
  unfold codec_text.f putT
  rfl
theorem refPutText_eq (k : Nat) (l : List Int) (s : ByteArray) : skerryref01_PutText.f k l s = (skerryref01_Put.f k l (IntKind.u64.wrap (s.size : Int))).bind (putT s) := by
  unfold skerryref01_PutText.f putT
  rfl
theorem wsize (s : ByteArray) (h : s.size ≤ 1000000000000) : IntKind.u64.wrap (s.size : Int) = (s.size : Int) := by rw [IntKind.wrap_u64]; omega
theorem text_ev (L : List Int) (s : ByteArray) (hlen : L.length ≤ 1000000000) (hs : s.size ≤ 1000000000) : Ev (fun k => codec_text.f k L s) (L ++ up (digN s.size) ++ bytesOf s) := by
  have hd := digN_len64 s.size (by omega)
  refine Ev.congr (fun k => text_eq k L s) ?_
  rw [wsize s (by omega)]
  refine Ev.bind (f := fun _ t => putT s t) (put_ev s.size L (by omega) (by omega)) ?_
  exact Ev.congr (fun _ => putT_some s _ (by rw [List.length_append, up_length]; omega)) (Ev.now _)
theorem refPutText_ev (L : List Nat) (s : ByteArray) (hlen : L.length ≤ 1000000000) (hs : s.size ≤ 1000000000) : Ev (fun k => skerryref01_PutText.f k (up L) s) (up L ++ up (digN s.size) ++ bytesOf s) := by
  have hd := digN_len64 s.size (by omega)
  refine Ev.congr (fun k => refPutText_eq k (up L) s) ?_
  rw [wsize s (by omega)]
  refine Ev.bind (f := fun _ t => putT s t) (refPut_ev L s.size (by omega) hlen) ?_
  exact Ev.congr (fun _ => putT_some s _ (by rw [List.length_append, up_length, up_length]; omega)) (Ev.now _)
theorem text_evN (L : List Nat) (s : ByteArray) (hl : L.length ≤ 1000000000) (hs : s.size ≤ 1000000000) : Ev (fun k => codec_text.f k (Ma.up L) s) (Ma.up (L ++ textN s)) := by
  have := text_ev (Ma.up L) s (by rw [Ma.up_length]; exact hl) hs
  rw [textN, ← List.append_assoc, Ma.up_append, Ma.up_append, up_bytN]
  exact this
theorem reftext_evN (L : List Nat) (s : ByteArray) (hl : L.length ≤ 1000000000) (hs : s.size ≤ 1000000000) : Ev (fun k => skerryref01_PutText.f k (Ma.up L) s) (Ma.up (L ++ textN s)) := by
  have := refPutText_ev L s hl hs
  rw [textN, ← List.append_assoc, Ma.up_append, Ma.up_append, up_bytN]
  exact this
theorem put_evN (L : List Nat) (u : Nat) (hl : L.length ≤ 1000000000) (hu : u < 18446744073709551616) : Ev (fun k => codec_put.f k (Ma.up L) (u : Int)) (Ma.up (L ++ digN u)) := by
  have hd := digN_len64 u hu
  rw [Ma.up_append]
  exact put_ev u (Ma.up L) hu (by rw [Ma.up_length]; omega)
theorem refput_evN (L : List Nat) (u : Nat) (hl : L.length ≤ 1000000000) (hu : u < 18446744073709551616) : Ev (fun k => skerryref01_Put.f k (Ma.up L) (u : Int)) (Ma.up (L ++ digN u)) := by
  rw [Ma.up_append]
  exact refPut_ev L u hu hl
theorem zig_put (L : List Nat) (n : Int) (h : I64 n) (hl : L.length ≤ 1000000000) : Ev (fun k => codec_put.f k (Ma.up L) (Ma.zig n)) (Ma.up (L ++ zigN n)) := by
  have hr := zig_range n h
  have e : Ma.zig n = (((Ma.zig n).toNat : Nat) : Int) := by omega
  have := put_evN L (Ma.zig n).toNat hl (by omega)
  rw [← e] at this
  exact this
theorem zig_refput (L : List Nat) (n : Int) (h : I64 n) (hl : L.length ≤ 1000000000) : Ev (fun k => skerryref01_Put.f k (Ma.up L) (Ma.zig n)) (Ma.up (L ++ zigN n)) := by
  have hr := zig_range n h
  have e : Ma.zig n = (((Ma.zig n).toNat : Nat) : Int) := by omega
  have := refput_evN L (Ma.zig n).toNat hl (by omega)
  rw [← e] at this
  exact this
end Go.Proofs.Ytcopbkdlpfcjpaa.K
namespace Go.Proofs.Ytcopbkdlpfcjpaa.K
open Go.RowKit Go.Proofs.YtcopbkdlpfcjpaaW.PrintWords Go.Proofs.Ytcopbkdlpfcjpaa.B Go.Proofs.Ytcopbkdlpfcjpaa.G
open Go.Proofs.Ytcopbkdlpfcjpaa.Ma
set_option linter.unusedVariables false
theorem Zig_bind {β : Type} (n : Int) (h : I64 n) {f : Nat → Int → Option β} {r : β} (k : Ev (fun m => f m (Ma.zig n)) r) : Ev (fun m => (codec_Zig.f n).bind (f m)) r :=
  Ev.congr (fun m => by rw [Ma.Zig_eq n h, Option.bind_some]) k
theorem refZig_bind {β : Type} (n : Int) (h : I64 n) {f : Nat → Int → Option β} {r : β} (k : Ev (fun m => f m (Ma.zig n)) r) : Ev (fun m => (skerryref01_Zig.f n).bind (f m)) r :=
  Ev.congr (fun m => by rw [refZig_eq n h, Option.bind_some]) k
theorem if_bind {β : Type} (b : Bool) {x y : Nat → Option β} {r : β} (h1 : b = true → Ev x r) (h2 : ¬ b = true → Ev y r) : Ev (fun m => if b = true then x m else y m) r := by
  by_cases h : b = true
  · exact Ev.congr (fun m => if_pos h) (h1 h)
  · exact Ev.congr (fun m => if_neg h) (h2 h)
theorem lt_bind {β : Type} (a b : Nat) (h : a < b) {x y : Nat → Option β} {r : β} (k : Ev x r) : Ev (fun m => if a < b then x m else y m) r := Ev.congr (fun m => if_pos h) k
theorem up_one (M : List Nat) (x : Nat) : Ma.up M ++ [(x : Int)] = Ma.up (M ++ [x]) := by rw [Ma.up_append]; rfl
theorem kind_nat (x : Int) : IntKind.u64.wrap x = (((IntKind.u64.wrap x).toNat : Nat) : Int) ∧ (IntKind.u64.wrap x).toNat < 18446744073709551616 := by
  have hw : 0 ≤ IntKind.u64.wrap x ∧ IntKind.u64.wrap x < 18446744073709551616 := by rw [IntKind.wrap_u64]; omega
  omega
theorem kind_put (L : List Nat) (x : Int) (hl : L.length ≤ 1000000000) : Ev (fun k => codec_put.f k (Ma.up L) (IntKind.u64.wrap x)) (Ma.up (L ++ digN (IntKind.u64.wrap x).toNat)) := by
  obtain ⟨h1, h2⟩ := kind_nat x
  generalize (IntKind.u64.wrap x).toNat = m at h1 h2
  rw [h1]
  exact put_evN L m hl h2
theorem kind_refput (L : List Nat) (x : Int) (hl : L.length ≤ 1000000000) : Ev (fun k => skerryref01_Put.f k (Ma.up L) (IntKind.u64.wrap x)) (Ma.up (L ++ digN (IntKind.u64.wrap x).toNat)) := by
  obtain ⟨h1, h2⟩ := kind_nat x
  generalize (IntKind.u64.wrap x).toNat = m at h1 h2
  rw [h1]
  exact refput_evN L m hl h2
theorem cell_ev (M : List Nat) (c : S101) (h : CellOk c) (hl : M.length + (cellN c).length ≤ 1000000) (F : Nat → List Int → Option (List Int)) (r : List Int) (hF : Ev (fun k => F k (Ma.up (M ++ cellN c))) r) :
    Ev (fun k => (codec_text.f k (Ma.up M) (c.f0.f0)).bind fun t120 => ((codec_text.f k t120 (c.f0.f1)).bind fun t123 => ((codec_Zig.f (c.f0.f2)).bind fun t126 => ((codec_put.f k t123 t126).bind fun t127 => ((codec_text.f k t127 (c.f0.f3)).bind fun t130 => ((codec_Zig.f (c.f1.f0)).bind fun t133 => ((codec_put.f k t130 t133).bind fun t134 => (if c.f1.f1 = true then (if t134.length < 140737488355328 then ((codec_Zig.f (c.f1.f2)).bind fun t140 => ((codec_put.f k (t134 ++ [1]) t140).bind fun t141 => (F k t141))) else (none)) else (if t134.length < 140737488355328 then ((codec_put.f k (t134 ++ [0]) (IntKind.u64.wrap (c.f1.f3.f0))).bind fun t147 => ((codec_Zig.f (c.f1.f3.f1)).bind fun t150 => ((codec_put.f k t147 t150).bind fun t151 => ((codec_text.f k t151 (c.f1.f3.f2)).bind fun t154 => (F k t154))))) else (none)))))))))) r := by
  unfold cellN at hl hF
  simp only [List.length_append] at hl
  refine Ev.bind (text_evN M _ (by omega) (by have := h.a; omega)) ?_
  refine Ev.bind (text_evN _ _ (by simp only [List.length_append]; omega) (by have := h.b; omega)) ?_
  refine Zig_bind _ h.d ?_
  refine Ev.bind (zig_put _ _ h.d (by simp only [List.length_append]; omega)) ?_
  refine Ev.bind (text_evN _ _ (by simp only [List.length_append]; omega) (by have := h.e; omega)) ?_
  refine Zig_bind _ h.f ?_
  refine Ev.bind (zig_put _ _ h.f (by simp only [List.length_append]; omega)) ?_
  refine if_bind _ (fun hc => ?_) (fun hc => ?_)
  · rw [if_pos hc] at hF hl
    simp only [List.length_append] at hl
    refine lt_bind _ _ (by rw [Ma.up_length]; simp only [List.length_append]; omega) ?_
    refine Zig_bind _ h.g ?_
    refine Ev.bind (Ev.congr (fun k => by rw [show ([1] : List Int) = [((1 : Nat) : Int)] from rfl, up_one]) (zig_put _ _ h.g (by simp only [List.length_append, List.length_singleton]; omega))) ?_
    simpa only [List.append_assoc] using hF
  · rw [if_neg hc] at hF hl
    simp only [List.length_append] at hl
    refine lt_bind _ _ (by rw [Ma.up_length]; simp only [List.length_append]; omega) ?_
    refine Ev.bind (Ev.congr (fun k => by rw [show ([0] : List Int) = [((0 : Nat) : Int)] from rfl, up_one]) (kind_put _ _ (by simp only [List.length_append, List.length_singleton]; omega))) ?_
    refine Zig_bind _ h.i ?_
    refine Ev.bind (zig_put _ _ h.i (by simp only [List.length_append, List.length_singleton]; omega)) ?_
    refine Ev.bind (text_evN _ _ (by simp only [List.length_append, List.length_singleton]; omega) (by have := h.j; omega)) ?_
    simpa only [List.append_assoc] using hF
theorem refcell_ev (M : List Nat) (c : S101) (h : CellOk c) (hl : M.length + (cellN c).length ≤ 1000000) (F : Nat → List Int → Option (List Int)) (r : List Int) (hF : Ev (fun k => F k (Ma.up (M ++ cellN c))) r) :
    Ev (fun k => (skerryref01_PutText.f k (Ma.up M) (c.f0.f0)).bind fun t120 => ((skerryref01_PutText.f k t120 (c.f0.f1)).bind fun t123 => ((skerryref01_Zig.f (c.f0.f2)).bind fun t126 => ((skerryref01_Put.f k t123 t126).bind fun t127 => ((skerryref01_PutText.f k t127 (c.f0.f3)).bind fun t130 => ((skerryref01_Zig.f (c.f1.f0)).bind fun t133 => ((skerryref01_Put.f k t130 t133).bind fun t134 => (if c.f1.f1 = true then (if t134.length < 140737488355328 then ((skerryref01_Zig.f (c.f1.f2)).bind fun t140 => ((skerryref01_Put.f k (t134 ++ [1]) t140).bind fun t141 => (F k t141))) else (none)) else (if t134.length < 140737488355328 then ((skerryref01_Put.f k (t134 ++ [0]) (IntKind.u64.wrap (c.f1.f3.f0))).bind fun t147 => ((skerryref01_Zig.f (c.f1.f3.f1)).bind fun t150 => ((skerryref01_Put.f k t147 t150).bind fun t151 => ((skerryref01_PutText.f k t151 (c.f1.f3.f2)).bind fun t154 => (F k t154))))) else (none)))))))))) r := by
  unfold cellN at hl hF
  simp only [List.length_append] at hl
  refine Ev.bind (reftext_evN M _ (by omega) (by have := h.a; omega)) ?_
  refine Ev.bind (reftext_evN _ _ (by simp only [List.length_append]; omega) (by have := h.b; omega)) ?_
  refine refZig_bind _ h.d ?_
  refine Ev.bind (zig_refput _ _ h.d (by simp only [List.length_append]; omega)) ?_
  refine Ev.bind (reftext_evN _ _ (by simp only [List.length_append]; omega) (by have := h.e; omega)) ?_
  refine refZig_bind _ h.f ?_
  refine Ev.bind (zig_refput _ _ h.f (by simp only [List.length_append]; omega)) ?_
  refine if_bind _ (fun hc => ?_) (fun hc => ?_)
  · rw [if_pos hc] at hF hl
    simp only [List.length_append] at hl
    refine lt_bind _ _ (by rw [Ma.up_length]; simp only [List.length_append]; omega) ?_
    refine refZig_bind _ h.g ?_
    refine Ev.bind (Ev.congr (fun k => by rw [show ([1] : List Int) = [((1 : Nat) : Int)] from rfl, up_one]) (zig_refput _ _ h.g (by simp only [List.length_append, List.length_singleton]; omega))) ?_
    simpa only [List.append_assoc] using hF
  · rw [if_neg hc] at hF hl
    simp only [List.length_append] at hl
    refine lt_bind _ _ (by rw [Ma.up_length]; simp only [List.length_append]; omega) ?_
    refine Ev.bind (Ev.congr (fun k => by rw [show ([0] : List Int) = [((0 : Nat) : Int)] from rfl, up_one]) (kind_refput _ _ (by simp only [List.length_append, List.length_singleton]; omega))) ?_
    refine refZig_bind _ h.i ?_
    refine Ev.bind (zig_refput _ _ h.i (by simp only [List.length_append, List.length_singleton]; omega)) ?_
    refine Ev.bind (reftext_evN _ _ (by simp only [List.length_append, List.length_singleton]; omega) (by have := h.j; omega)) ?_
    simpa only [List.append_assoc] using hF
theorem rd101 {xs : List S101} {i : Nat} (h : i < xs.length) : rd_T101 xs (i : Int) = xs[i] := by
  unfold rd_T101
  rw [Int.toNat_natCast, List.getD_eq_getElem?_getD, List.getElem?_eq_getElem h]
  rfl
theorem drop_flat {xs : List S101} {i : Nat} (h : i < xs.length) : (xs.drop i).flatMap cellN = cellN xs[i] ++ (xs.drop (i + 1)).flatMap cellN := by
  rw [List.drop_eq_getElem_cons h, List.flatMap_cons]
theorem cells_loop (xs : List S101) (h : ∀ c ∈ xs, CellOk c) (hn : xs.length ≤ 1000000) (d : Nat) : ∀ (i : Nat) (M : List Nat), i + d = xs.length → M.length + ((xs.drop i).flatMap cellN).length ≤ 1000000 →
    Ev (fun k => codec_Cells.l0 k (Ma.up M) xs (xs.length : Int) (i : Int)) (Ma.up (M ++ (xs.drop i).flatMap cellN)) := by
  induction d with
  | zero =>
    intro i M hi hl
    refine Ev.step (f := fun _ => some (Ma.up M)) (fun k => ?_) ?_
    · simp only [codec_Cells.l0]
      rw [if_neg (by omega)]
    · rw [List.drop_eq_nil_of_le (by omega)]
      simpa using Ev.now (Ma.up M)
  | succ d ih =>
    intro i M hi hl
    have hlt : i < xs.length := by omega
    have hw : wrap64 ((i : Int) + 1) = ((i + 1 : Nat) : Int) := by rw [wrap_in (by omega)]; omega
    rw [drop_flat hlt] at hl ⊢
    rw [List.length_append] at hl
    have e := ih (i + 1) (M ++ cellN xs[i]) (by omega) (by rw [List.length_append]; omega)
    rw [List.append_assoc] at e
    refine Ev.step (fun k => ?_) (cell_ev M xs[i] (h _ (List.getElem_mem hlt)) (by omega) (fun k t => codec_Cells.l0 k t xs (xs.length : Int) ((i + 1 : Nat) : Int)) _ e)
    simp only [codec_Cells.l0]
    rw [if_pos (by omega), if_pos (by omega), if_pos (by omega), hw, rd101 hlt]
theorem refcells_loop (xs : List S101) (h : ∀ c ∈ xs, CellOk c) (hn : xs.length ≤ 1000000) (d : Nat) : ∀ (i : Nat) (M : List Nat), i + d = xs.length → M.length + ((xs.drop i).flatMap cellN).length ≤ 1000000 →
    Ev (fun k => skerryref01_Cells.l0 k (Ma.up M) xs (xs.length : Int) (i : Int)) (Ma.up (M ++ (xs.drop i).flatMap cellN)) := by
  induction d with
  | zero =>
    intro i M hi hl
    refine Ev.step (f := fun _ => some (Ma.up M)) (fun k => ?_) ?_
    · simp only [skerryref01_Cells.l0]
      rw [if_neg (by omega)]
    · rw [List.drop_eq_nil_of_le (by omega)]
      simpa using Ev.now (Ma.up M)
  | succ d ih =>
    intro i M hi hl
    have hlt : i < xs.length := by omega
    have hw : wrap64 ((i : Int) + 1) = ((i + 1 : Nat) : Int) := by rw [wrap_in (by omega)]; omega
    rw [drop_flat hlt] at hl ⊢
    rw [List.length_append] at hl
    have e := ih (i + 1) (M ++ cellN xs[i]) (by omega) (by rw [List.length_append]; omega)
    rw [List.append_assoc] at e
    refine Ev.step (fun k => ?_) (refcell_ev M xs[i] (h _ (List.getElem_mem hlt)) (by omega) (fun k t => skerryref01_Cells.l0 k t xs (xs.length : Int) ((i + 1 : Nat) : Int)) _ e)
    simp only [skerryref01_Cells.l0]
    rw [if_pos (by omega), if_pos (by omega), if_pos (by omega), hw, rd101 hlt]
theorem wrap_len (n : Nat) (h : n ≤ 1000000) : IntKind.u64.wrap (n : Int) = (n : Int) := by rw [IntKind.wrap_u64]; omega
theorem Cells_ev (xs : List S101) (h : ∀ c ∈ xs, CellOk c) (hn : xs.length ≤ 1000000) (hl : (cellsN xs).length ≤ 1000000) : Ev (fun k => codec_Cells.f k xs) (Ma.up (cellsN xs)) := by
  have hd := digN_len64 xs.length (by omega)
  unfold cellsN at hl ⊢
  rw [List.length_append] at hl
  unfold codec_Cells.f
  rw [wrap_len _ hn]
  have h0 := put_evN [] xs.length (by simp) (by omega)
  rw [List.nil_append] at h0
  exact Ev.bind h0 (cells_loop xs h hn xs.length 0 (digN xs.length) (by omega) (by simpa using hl))
theorem refCells_ev (xs : List S101) (h : ∀ c ∈ xs, CellOk c) (hn : xs.length ≤ 1000000) (hl : (cellsN xs).length ≤ 1000000) : Ev (fun k => skerryref01_Cells.f k xs) (Ma.up (cellsN xs)) := by
  have hd := digN_len64 xs.length (by omega)
  unfold cellsN at hl ⊢
  rw [List.length_append] at hl
  unfold skerryref01_Cells.f
  rw [wrap_len _ hn]
  have h0 := refput_evN [] xs.length (by simp) (by omega)
  rw [List.nil_append] at h0
  exact Ev.bind h0 (refcells_loop xs h hn xs.length 0 (digN xs.length) (by omega) (by simpa using hl))
end Go.Proofs.Ytcopbkdlpfcjpaa.K
namespace Go.Proofs.Ytcopbkdlpfcjpaa.K
open Go.RowKit Go.Proofs.YtcopbkdlpfcjpaaW.PrintWords Go.Proofs.Ytcopbkdlpfcjpaa.B Go.Proofs.Ytcopbkdlpfcjpaa.G
open Go.Proofs.Ytcopbkdlpfcjpaa.Ma
set_option linter.unusedVariables false
/-- A cell as an argument may hold it: texts of a reachable size, and ints. -/
structure CellIn (c : S101) : Prop where
  a : c.f0.f0.size ≤ 140737488351232
  b : c.f0.f1.size ≤ 140737488351232
  d : I64 c.f0.f2
  e : c.f0.f3.size ≤ 140737488351232
  f : I64 c.f1.f0
  g : I64 c.f1.f2
  h : I64 c.f1.f3.f0
  i : I64 c.f1.f3.f1
  j : c.f1.f3.f2.size ≤ 140737488351232
/-- The bytes of a cell's texts, and its weight. -/
def txt (c : S101) : Nat := c.f0.f0.size + c.f0.f1.size + c.f0.f3.size + c.f1.f3.f2.size
def wt (c : S101) : Nat := 1 + txt c / 20
theorem wt_eq (c : S101) (h : CellIn c) (n : Nat) (hn : n ≤ 500) : wrap64 ((n : Int) + (wrap64 (1 + (wrap64 (Int.tdiv (wrap64 ((wrap64 ((wrap64 (((c.f0.f0).size : Int) + ((c.f0.f1).size : Int))) + ((c.f0.f3).size : Int))) + ((c.f1.f3.f2).size : Int))) 20))))) = ((n + wt c : Nat) : Int) := by
  have ha := h.a; have hb := h.b; have he := h.e; have hj := h.j
  unfold wt txt
  generalize c.f0.f0.size = a at *
  generalize c.f0.f1.size = b at *
  generalize c.f0.f3.size = e at *
  generalize c.f1.f3.f2.size = j at *
  have e1 : wrap64 ((a : Int) + (b : Int)) = ((a + b : Nat) : Int) := by rw [wrap_in (by omega)]; omega
  have e2 : wrap64 (((a + b : Nat) : Int) + (e : Int)) = ((a + b + e : Nat) : Int) := by rw [wrap_in (by omega)]; omega
  have e3 : wrap64 (((a + b + e : Nat) : Int) + (j : Int)) = ((a + b + e + j : Nat) : Int) := by rw [wrap_in (by omega)]; omega
  rw [e1, e2, e3]
  generalize hs : a + b + e + j = s
  have hs2 : s ≤ 562949953404928 := by omega
  clear e1 e2 e3 hs
  have e4 : Int.tdiv (s : Int) 20 = ((s / 20 : Nat) : Int) := by rw [Int.tdiv_eq_ediv_of_nonneg (by omega)]; omega
  rw [e4]
  have e5 : wrap64 (((s / 20 : Nat) : Int)) = ((s / 20 : Nat) : Int) := wrap_in (by omega)
  rw [e5]
  have e6 : wrap64 (1 + ((s / 20 : Nat) : Int)) = ((1 + s / 20 : Nat) : Int) := by rw [wrap_in (by omega)]; omega
  rw [e6, wrap_in (by omega)]
  omega
theorem weigh_loop (xs : List S101) (h : ∀ c ∈ xs, CellIn c) (hn : xs.length ≤ 140737488351232) (d : Nat) : ∀ (i n : Nat), i + d = xs.length → n ≤ 500 →
    ∃ r : Int, Ev (fun k => skerrylaw01_weigh.l0 k 500 (n : Int) xs (xs.length : Int) (i : Int)) r ∧ (r > 500 ∨ (r ≤ 500 ∧ n + ((xs.drop i).map wt).sum ≤ 500)) := by
  induction d with
  | zero =>
    intro i n hi hl
    refine ⟨n, Ev.step (f := fun _ => some (n : Int)) (fun k => ?_) (Ev.now _), .inr ⟨by omega, ?_⟩⟩
    · simp only [skerrylaw01_weigh.l0]
      rw [if_neg (by omega)]
    · rw [List.drop_eq_nil_of_le (by omega)]
      simpa using hl
  | succ d ih =>
    intro i n hi hl
    have hlt : i < xs.length := by omega
    have hw : wrap64 ((i : Int) + 1) = ((i + 1 : Nat) : Int) := by rw [wrap_in (by omega)]; omega
    have hrd : rd_T101 xs (i : Int) = xs[i] := by
      unfold rd_T101
      rw [Int.toNat_natCast, List.getD_eq_getElem?_getD, List.getElem?_eq_getElem hlt]
      rfl
    have hwt := wt_eq xs[i] (h _ (List.getElem_mem hlt)) n hl
    by_cases hc : n + wt xs[i] ≤ 500
    · obtain ⟨r, h1, h2⟩ := ih (i + 1) (n + wt xs[i]) (by omega) hc
      refine ⟨r, Ev.step (fun k => ?_) h1, ?_⟩
      · simp only [skerrylaw01_weigh.l0]
        rw [if_pos (by omega), if_pos (by omega), if_pos (by omega), hw, hrd, hwt, if_neg (by omega)]
      · rw [List.drop_eq_getElem_cons hlt, List.map_cons, List.sum_cons]
        omega
    · refine ⟨((n + wt xs[i] : Nat) : Int), Ev.step (f := fun _ => some ((n + wt xs[i] : Nat) : Int)) (fun k => ?_) (Ev.now _), .inl (by omega)⟩
      simp only [skerrylaw01_weigh.l0]
      rw [if_pos (by omega), if_pos (by omega), if_pos (by omega), hrd, hwt, if_pos (by omega)]
theorem weigh_ev (xs : List S101) (h : ∀ c ∈ xs, CellIn c) (hn : xs.length ≤ 140737488351232) :
    ∃ r : Int, Ev (fun k => skerrylaw01_weigh.f k xs 500) r ∧ (r > 500 ∨ (r ≤ 500 ∧ (xs.map wt).sum ≤ 500)) := by
  obtain ⟨r, h1, h2⟩ := weigh_loop xs h hn xs.length 0 0 (by omega) (by omega)
  refine ⟨r, Ev.congr (fun k => rfl) h1, ?_⟩
  simpa using h2
theorem txt_le (xs : List S101) : (xs.map txt).sum + xs.length ≤ 20 * (xs.map wt).sum := by
  induction xs with
  | nil => simp
  | cons c r ih =>
    simp only [List.map_cons, List.sum_cons, List.length_cons]
    have : txt c + 1 ≤ 20 * wt c := by unfold wt; omega
    omega
theorem len_le (xs : List S101) : xs.length ≤ (xs.map wt).sum := by
  induction xs with
  | nil => simp
  | cons c r ih =>
    simp only [List.map_cons, List.sum_cons, List.length_cons]
    have : 1 ≤ wt c := by unfold wt; omega
    omega
theorem txt_mem {xs : List S101} {c : S101} (h : c ∈ xs) : txt c ≤ (xs.map txt).sum := by
  induction xs with
  | nil => cases h
  | cons d r ih =>
    simp only [List.map_cons, List.sum_cons]
    rcases List.mem_cons.1 h with rfl | h
    · omega
    · have := ih h; omega
theorem zigN_len {n : Int} (h : I64 n) : (zigN n).length ≤ 10 := by
  have := zig_range n h
  exact digN_len64 _ (by omega)
theorem textN_len {s : ByteArray} (h : s.size ≤ 1000000) : (textN s).length ≤ s.size + 10 := by
  have := digN_len64 s.size (by omega)
  unfold textN
  rw [List.length_append, bytN_length]
  omega
theorem cellN_len {c : S101} (h : CellOk c) : (cellN c).length ≤ txt c + 101 := by
  have h1 := textN_len h.a; have h2 := textN_len h.b; have h3 := zigN_len h.d; have h4 := textN_len h.e; have h5 := zigN_len h.f; have h6 := zigN_len h.g; have h8 := zigN_len h.i; have h9 := textN_len h.j
  have h7 := digN_len64 (IntKind.u64.wrap c.f1.f3.f0).toNat (by rw [IntKind.wrap_u64]; omega)
  unfold cellN txt
  simp only [List.length_append]
  split <;> simp only [List.length_append, List.length_singleton] <;> omega
theorem cells_len (xs : List S101) (h : ∀ c ∈ xs, CellOk c) : (xs.flatMap cellN).length ≤ (xs.map txt).sum + 101 * xs.length := by
  induction xs with
  | nil => simp
  | cons c r ih =>
    simp only [List.flatMap_cons, List.map_cons, List.sum_cons, List.length_append, List.length_cons]
    have h1 := ih fun x hx => h x (List.mem_cons_of_mem _ hx)
    have h2 := cellN_len (h c (List.mem_cons_self ..))
    omega
/-- A row that is not too heavy. -/
structure Light (xs : List S101) : Prop where
  ok : ∀ c ∈ xs, CellOk c
  len : xs.length ≤ 500
  bytes : (cellsN xs).length ≤ 100000
theorem light_of (xs : List S101) (h : ∀ c ∈ xs, CellIn c) (hw : (xs.map wt).sum ≤ 500) : Light xs := by
  have h1 := txt_le xs
  have h2 := len_le xs
  have hok : ∀ c ∈ xs, CellOk c := fun c hc => by
    have h3 := txt_mem hc
    have h4 := h c hc
    have h0 : txt c = c.f0.f0.size + c.f0.f1.size + c.f0.f3.size + c.f1.f3.f2.size := rfl
    exact ⟨by omega, by omega, h4.d, by omega, h4.f, h4.g, h4.h, h4.i, by omega⟩
  refine ⟨hok, by omega, ?_⟩
  have h5 := cells_len xs hok
  have h6 := digN_len64 xs.length (by omega)
  unfold cellsN
  rw [List.length_append]
  omega
end Go.Proofs.Ytcopbkdlpfcjpaa.K
namespace Go.Proofs.Ytcopbkdlpfcjpaa.K
open Go.ChangeShapes Go.WideShapes Go.RowKit Go.Proofs.YtcopbkdlpfcjpaaW.PrintWords Go.Proofs.Ytcopbkdlpfcjpaa.G
set_option linter.unusedVariables false
set_option linter.unusedSimpArgs false
theorem weights_mem {H : Type} {P : Program} {e : TypeId} {d : DataW H} : ∀ {ds : List (DataW H)}, d ∈ ds → ∀ n ∈ d.weights P e, n ∈ DataW.weightsAll P e ds
  | d0 :: ds, h, n, hn => by
    simp only [DataW.weightsAll, List.mem_append]
    rcases List.mem_cons.1 h with rfl | h
    · exact .inl hn
    · exact .inr (weights_mem h n hn)
/-- The ten cells of a cell, row by row (as k101 has them). -/
def ten (x : S101) : List Value := [.string x.f0.f0, .string x.f0.f1, .int .i64 x.f0.f2, .string x.f0.f3, .int .i64 x.f1.f0, .bool x.f1.f1, .int .i64 x.f1.f2, .int .i64 x.f1.f3.f0, .int .i64 x.f1.f3.f1, .string x.f1.f3.f2]
/-- What of a cell that came in is known. -/
def In (H : Type) (x : S101) (d : DataW H) : Prop := I64 x.f0.f2 ∧ I64 x.f1.f0 ∧ I64 x.f1.f2 ∧ I64 x.f1.f3.f0 ∧ I64 x.f1.f3.f1 ∧ ((∀ m ∈ d.weights Try.prog 101, m ≤ reachBytes) → CellIn x)
set_option maxRecDepth 100000 in
theorem open_cell {H : Type} {enc : TypeId × Value → H} {w : World} {base : Nat} {spare : Nat → Bool} {held : Bool} {fuel : Nat} {cs : List Value} {x : DataW H × List MemPlace} (h : DataW.trod enc Try.prog w base spare held fuel 101 cs = some x) :
    ∃ c : S101, cs = ten c ∧ In H c x.1 := by
  obtain ⟨y0, y1, n, rfl, hl, h0, h1⟩ := trod_struct2 Try.underlying101 h
  obtain ⟨a0, a1, a2, a3, n0, rfl, hl0, g0, g1, g2, g3⟩ := Joins.trod_struct4 Try.underlying95 h0
  obtain ⟨b0, b1, b2, b3, n1, rfl, hl1, k0, k1, k2, k3⟩ := Joins.trod_struct4 Try.underlying99 h1
  obtain ⟨c0, c1, c2, n2, rfl, hl2, m0, m1, m2⟩ := Deep.trod_struct3 Try.underlying97 k3
  have z101 : Try.prog.cellsOf 101 = 10 := by kernel_rfl
  have z95 : Try.prog.cellsOf 95 = 4 := by kernel_rfl
  have z99 : Try.prog.cellsOf 99 = 6 := by kernel_rfl
  have z97 : Try.prog.cellsOf 97 = 3 := by kernel_rfl
  have z9 : Try.prog.cellsOf 9 = 1 := by kernel_rfl
  have z3 : Try.prog.cellsOf 3 = 1 := by kernel_rfl
  have z4 : Try.prog.cellsOf 4 = 1 := by kernel_rfl
  rw [z101] at hl
  match cs, hl with
  | [v0, v1, v2, v3, v4, v5, v6, v7, v8, v9], _ =>
  simp only [z95, z99, z97, z9, z3, z4, List.drop_zero, List.drop_succ_cons, List.take_succ_cons, List.take_zero, List.drop_nil, List.take_nil] at g0 g1 g2 g3 k0 k1 k2 m0 m1 m2
  obtain ⟨s0, e0, rfl, _⟩ := DataW.trod_string Try.underlying9 g0
  obtain ⟨s1, e1, rfl, _⟩ := DataW.trod_string Try.underlying9 g1
  obtain ⟨i2, e2, rfl, w2⟩ := DataW.trod_int Try.underlying3 g2
  obtain ⟨s3, e3, rfl, _⟩ := DataW.trod_string Try.underlying9 g3
  obtain ⟨i4, e4, rfl, w4⟩ := DataW.trod_int Try.underlying3 k0
  obtain ⟨t5, e5, rfl⟩ := DataW.trod_bool Try.underlying4 k1
  obtain ⟨i6, e6, rfl, w6⟩ := DataW.trod_int Try.underlying3 k2
  obtain ⟨i7, e7, rfl, w7⟩ := DataW.trod_int Try.underlying3 m0
  obtain ⟨i8, e8, rfl, w8⟩ := DataW.trod_int Try.underlying3 m1
  obtain ⟨s9, e9, rfl, _⟩ := DataW.trod_string Try.underlying9 m2
  obtain ⟨rfl, _⟩ := List.cons.inj e0
  obtain ⟨rfl, _⟩ := List.cons.inj e1
  obtain ⟨rfl, _⟩ := List.cons.inj e2
  obtain ⟨rfl, _⟩ := List.cons.inj e3
  obtain ⟨rfl, _⟩ := List.cons.inj e4
  obtain ⟨rfl, _⟩ := List.cons.inj e5
  obtain ⟨rfl, _⟩ := List.cons.inj e6
  obtain ⟨rfl, _⟩ := List.cons.inj e7
  obtain ⟨rfl, _⟩ := List.cons.inj e8
  obtain ⟨rfl, _⟩ := List.cons.inj e9
  refine ⟨⟨⟨s0, s1, i2, s3⟩, ⟨i4, t5, i6, ⟨i7, i8, s9⟩⟩⟩, rfl, Ma.i64_of w2, Ma.i64_of w4, Ma.i64_of w6, Ma.i64_of w7, Ma.i64_of w8, fun hw => ?_⟩
  have hw : ∀ m ∈ [s0.data.toList.length, s1.data.toList.length, s3.data.toList.length, s9.data.toList.length], m ≤ reachBytes := by
    intro m hm
    refine hw m ?_
    simp only [DataW.weights, Try.underlying101, Try.underlying95, Try.underlying99, Try.underlying97, DataW.weightsEach, List.map_cons, List.map_nil]
    simpa using hm
  have hr : reachBytes = 140737488351232 := rfl
  rw [hr] at hw
  have sz : ∀ s : ByteArray, s.data.toList.length = s.size := fun s => by rw [Array.length_toList]; rfl
  exact ⟨by rw [← sz]; exact hw _ (by simp), by rw [← sz]; exact hw _ (by simp), Ma.i64_of w2, by rw [← sz]; exact hw _ (by simp), Ma.i64_of w4, Ma.i64_of w6, Ma.i64_of w7, Ma.i64_of w8, by rw [← sz]; exact hw _ (by simp)⟩
/-- A row of cells that came in. -/
structure CellsIn (w : World) (A : Option Addr) (c : Nat) (xs : List S101) : Prop where
  row : Kd.C k101 w A xs.length xs
  cap : xs.length ≤ c
  len : xs.length ≤ 140737488351232
  ok : ∀ x ∈ xs, CellIn x
set_option maxRecDepth 100000 in
theorem open_cells {H : Type} {enc : TypeId × Value → H} {W : World} {held : Bool} {a : Option Addr} {len cap : Nat} {d : DataW H} {ps : List MemPlace} {ts : List TypeId} {ds : List (DataW H)} {j : Nat}
    (hsz : (DataW.weightsEach Try.prog ts ds).all (· ≤ reachBytes) = true) (ht : ts[j]? = some 85) (hd : ds[j]? = some d)
    (h : DataW.Trod enc Try.prog W 0 (fun _ => true) held 85 (.slice a len cap) d ps) : ∃ xs : List S101, len = xs.length ∧ CellsIn W a cap xs := by
  have c101 : Try.prog.cellsOf 101 = 10 := by kernel_rfl
  have b101 : Try.prog.bytesOf 101 = 112 := by kernel_rfl
  obtain ⟨fuel, hf⟩ := h
  rcases Deep.open_slice Try.underlying85 hf with ⟨hcs, _⟩ | ⟨x, ln, c, m, n, D, Pl, hcs, _, hl, hm, hmm, hx, hr⟩
  · simp [Value.cells] at hcs
    obtain ⟨rfl, rfl, rfl⟩ := hcs
    exact ⟨[], rfl, Kd.C_nil _ _, Nat.le_refl _, Nat.zero_le _, (fun x hx => by cases hx)⟩
  · simp [Value.cells] at hcs
    obtain ⟨rfl, rfl, rfl⟩ := hcs
    simp only [if_true] at hmm
    rw [hmm] at hx hr
    obtain ⟨hx, _⟩ := Prod.mk.inj hx
    subst hx
    rw [c101] at hr
    have hr2 : ∀ i, i < len → ∃ c : S101, W.cells? 0 (x.add (i * 10)) 10 = some (ten c) ∧ In H c (D i) := by
      intro i hi
      obtain ⟨cs, h1, h2⟩ := hr i (by omega)
      obtain ⟨c, rfl, h3⟩ := open_cell h2
      exact ⟨c, h1, h3⟩
    obtain ⟨X, hX⟩ : ∃ X : Nat → S101, ∀ i, i < len → W.cells? 0 (x.add (i * 10)) 10 = some (ten (X i)) ∧ In H (X i) (D i) := by
      haveI : Inhabited S101 := ⟨z101⟩
      exact Deep.choose_lt hr2
    have hweights : ∀ n ∈ DataW.weights Try.prog 85 (DataW.slice (H := H) ((List.range len).map D) ((List.range (cap - len)).map fun j => D (len + j))), n ≤ reachBytes := by
      intro n hn
      have := List.all_eq_true.1 hsz _ (DataW.weights_mem_each ht hd n hn)
      simpa using this
    have hw : reachBytes = 140737488351232 := rfl
    have hlen : ((List.range len).map X).length = len := by simp
    refine ⟨(List.range len).map X, hlen.symm, ⟨?_, ?_, ?_, ?_⟩⟩
    · rw [hlen]
      refine ⟨hlen, by have : maxLen = 9223372036854775807 := rfl; omega, fun _ => ⟨x, rfl, fun j p hj => ?_⟩⟩
      have hjl : j < len := by
        have := (List.getElem?_eq_some_iff.1 hj).1
        rw [hlen] at this
        exact this
      have hp : p = X j := by
        rw [List.getElem?_map, List.getElem?_range hjl] at hj
        simpa using hj.symm
      subst hp
      obtain ⟨h1, h2⟩ := hX j hjl
      obtain ⟨_, h3, h4⟩ := World.cells?_some h1
      refine ⟨ten (X j), rfl, k101_mk _ _, fun i u hu => ?_⟩
      have hi : i < 10 := by
        have := (List.getElem?_eq_some_iff.1 hu).1
        rw [h3] at this
        exact this
      have h5 := h4 i hi
      rw [Deep.add_add] at h5
      exact h5.trans hu
    · rw [hlen]; exact hl
    · rw [hlen, ← hw]
      have hx2 := hweights _ (by simp only [DataW.weights, Try.underlying85, List.mem_cons]; exact .inl rfl)
      simp only [List.length_map, List.length_range, b101] at hx2
      omega
    · intro y hy
      obtain ⟨i, hi, rfl⟩ := List.mem_map.1 hy
      have hi := List.mem_range.1 hi
      obtain ⟨_, h2⟩ := hX i hi
      refine h2.2.2.2.2.2 fun m hm => hweights m ?_
      simp only [DataW.weights, Try.underlying85, List.mem_cons, List.mem_append]
      exact .inr (.inl (weights_mem (List.mem_map.2 ⟨i, List.mem_range.2 hi, rfl⟩) m hm))
end Go.Proofs.Ytcopbkdlpfcjpaa.K
namespace Go.Proofs.Ytcopbkdlpfcjpaa.K
open Go.RowKit Go.Proofs.YtcopbkdlpfcjpaaW.PrintWords Go.Proofs.Ytcopbkdlpfcjpaa.B Go.Proofs.Ytcopbkdlpfcjpaa.G Go.Proofs.Ytcopbkdlpfcjpaa.H
open Go.Proofs.Ytcopbkdlpfcjpaa.Ma
set_option linter.unusedVariables false
set_option linter.unusedSimpArgs false
theorem readS_len (n : Nat) : ∀ {L L' : List Nat} {xs : List S101}, readS n L = some (xs, L') → OkB L → xs.length + L'.length ≤ L.length := by
  induction n with
  | zero =>
    intro L L' xs h hO
    simp only [readS, Option.some.injEq, Prod.mk.injEq] at h
    obtain ⟨rfl, rfl⟩ := h
    simp
  | succ n ih =>
    intro L L' xs h hO
    simp only [readS, Option.bind_eq_some_iff] at h
    obtain ⟨⟨c, L1⟩, h1, ⟨ys, L2⟩, h2, h3⟩ := h
    simp only [Option.some.injEq, Prod.mk.injEq] at h3
    obtain ⟨rfl, rfl⟩ := h3
    obtain ⟨o1, l1⟩ := cellS_prop h1 hO
    have := ih h2 o1
    simp only [List.length_cons]
    simp only at this
    omega
theorem readCellsS_len {L : List Nat} {xs : List S101} (h : readCellsS L = some xs) (hO : OkB L) : xs.length ≤ L.length := by
  unfold readCellsS at h
  simp only [Option.bind_eq_some_iff] at h
  obtain ⟨⟨n, L1⟩, h1, ⟨ys, L2⟩, h2, h3⟩ := h
  simp only at h2 h3
  have l1 := numS_len h1
  have o1 := numS_ok h1 hO
  have l2 := readS_len n h2 o1
  split at h3
  · obtain rfl := Option.some.inj h3
    omega
  · cases h3
theorem readR_len {L : List Nat} (hO : OkB L) : (readR L).1.length ≤ 1000000 := by
  unfold readR
  split
  · next xs h => have := readCellsS_len h hO; have := hO.2; simp only; omega
  · simp
theorem cells_true (k : Nat) (xs : List S101) (l : List Int) : skerrylaw01_CodecCells.j0 (k + 1) xs l true = some true := by
  simp only [skerrylaw01_CodecCells.j0]
  rfl
theorem cells_false (xs : List S101) (hx : Light xs) (L : List Nat) (hO : OkB L) : Ev (fun k => skerrylaw01_CodecCells.j0 k xs (Ma.up L) false) true := by
  refine Ev.step (f := fun k => (codec_Cells.f k xs).bind fun t => (skerryref01_Cells.f k xs).bind fun u => (skerryref01_Same.f t u).bind fun s => if s = true then ((skerryref01_Like.f k (readR L).1 (readR L).1).bind fun v => (if v = true then (if (readR L).2 = (readR L).2 then ((skerrylaw01_lives.f).bind fun t219 => (some t219)) else (some false)) else (some false))) else (some false)) (fun k => ?_) ?_
  · conv => lhs; simp only [skerrylaw01_CodecCells.j0]
    rw [if_neg (by simp), ReadCells_up hO, refReadCells_up hO]
    rfl
  · refine Ev.bind (Cells_ev xs hx.ok (by have := hx.len; omega) (by have := hx.bytes; omega)) ?_
    refine Ev.bind (refCells_ev xs hx.ok (by have := hx.len; omega) (by have := hx.bytes; omega)) ?_
    refine Ev.congr (f := fun k => (skerryref01_Like.f k (readR L).1 (readR L).1).bind fun v => (if v = true then (if (readR L).2 = (readR L).2 then ((skerrylaw01_lives.f).bind fun t219 => (some t219)) else (some false)) else (some false))) (fun k => by rw [Same_self, Option.bind_some, if_pos rfl]) ?_
    refine Ev.bind (f := fun _ v => (if v = true then (if (readR L).2 = (readR L).2 then ((skerrylaw01_lives.f).bind fun t219 => (some t219)) else (some false)) else (some false))) (Like_self _ (readR_len hO)) ?_
    refine Ev.congr (fun k => ?_) (Ev.now true)
    rw [if_pos rfl, if_pos rfl]
    rfl
theorem codecCells_pure (xs : List S101) (h : ∀ c ∈ xs, CellIn c) (hn : xs.length ≤ 140737488351232) (L : List Nat) (hL : ∀ x ∈ L, x < 256) (hl : L.length ≤ 140737488351232) : ∃ k, skerrylaw01_CodecCells.f k xs (Ma.up L) = some true := by
  refine Ev.rounds ?_
  unfold skerrylaw01_CodecCells.f
  obtain ⟨r, h1, h2⟩ := weigh_ev xs h hn
  refine Ev.bind h1 ?_
  have ht : Ev (fun k => skerrylaw01_CodecCells.j0 k xs (Ma.up L) true) true := Ev.step (f := fun _ => some true) (fun k => cells_true k _ _) (Ev.now _)
  rcases h2 with h2 | ⟨h2, h3⟩
  · exact Ev.congr (fun k => if_pos h2) ht
  · refine Ev.congr (fun k => if_neg (by omega)) ?_
    rw [Ma.up_length]
    by_cases hc : (L.length : Int) > 10000
    · rw [decide_eq_true hc]
      exact ht
    · rw [decide_eq_false hc]
      exact cells_false xs (light_of xs h h3) L ⟨hL, by omega⟩
theorem codecCells_walk (A0 : Option Addr) (c0 : Nat) (xs : List S101) (A1 : Option Addr) (len1 cap1 : Nat) (z1 : List Int) (w : World) (w0 : CellsIn w A0 c0 xs)
    (w1 : (A1 = none ∧ len1 = 0 ∧ cap1 = 0 ∧ z1 = []) ∨ ∃ x, A1 = some x ∧ len1 ≤ cap1 ∧ cap1 ≤ maxLen ∧ z1.length = cap1 ∧ (∀ i, i < z1.length → w.cell? (x.add i) = some (.int .u8 (z1.getD i 0))) ∧ ∀ n ∈ z1, (Lit.int .u8 n).wf = true) (y1 : len1 * 1 ≤ 140737488351232) :
    Calls Try.prog 19 #[.slice A0 xs.length c0, .slice A1 len1 cap1] w fun e w' => e = .returned (.bool true) ∧ Below w.heap.size w w' := by
  obtain ⟨l1, rfl, hr1, hm1, hw1, hc1⟩ := ReadsInt.ofRowC w1
  obtain ⟨L, hL, rfl⟩ := Ma.up_of l1 hw1
  obtain ⟨k, hk⟩ := codecCells_pure xs w0.ok w0.len L hL (by rw [Ma.up_length] at y1; omega)
  exact skerrylaw01_CodecCells.calls k _ _ xs _ _ (Ma.up L) true w w0.row w0.cap (Kd.C_of_reads (d := (0 : Int)) (h1 := fun _ => rfl) hr1) hc1 hk
end Go.Proofs.Ytcopbkdlpfcjpaa.K
