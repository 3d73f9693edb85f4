-- Written by a program of this session (mk.sh, mypatch.py)
import Derived.Test.YtcopbkdlpfcjpaaCx0
namespace Go.Proofs.Ytcopbkdlpfcjpaa.C
open Go.RowKit Go.Proofs.YtcopbkdlpfcjpaaW.PrintWords Go.Proofs.YtcopbkdlpfcjpaaW.PrintLast Go.Proofs.YtcopbkdlpfcjpaaW.PrintMore Go.Proofs.Ytcopbkdlpfcjpaa.B Go.Proofs.Ytcopbkdlpfcjpaa.H
attribute [local go_sem] max2_int min2_int max_two min_two max_three min_three max_four min_four   -- for this text's walks alone
set_option linter.unusedVariables false
set_option linter.unusedSimpArgs false

/-! ### skerrylaw01_CodecTells: function 10 -/
def skerrylaw01_CodecTells.j0 : Nat → List Int → Int → List Int → Bool → Option (Bool)
  | 0, _, _, _, _ => none
  | k + 1, x0, x2, x7, x71 => if x71 = true then (some false) else (if (IntKind.u64.wrap (wrap64 (8 * (wrap64 ((x0.length : Int) + 4))))) = 0 then (none) else (if 0 ≤ (IntKind.u64.wrap (4 + (IntKind.u64.wrap (Int.tdiv (Int.tmod x2 (IntKind.u64.wrap (wrap64 (8 * (wrap64 ((x0.length : Int) + 4)))))) 8)))) then (if (IntKind.u64.wrap (4 + (IntKind.u64.wrap (Int.tdiv (Int.tmod x2 (IntKind.u64.wrap (wrap64 (8 * (wrap64 ((x0.length : Int) + 4)))))) 8)))) < (x7.length : Int) then (if 0 ≤ (Int.tmod (Int.tmod x2 (IntKind.u64.wrap (wrap64 (8 * (wrap64 ((x0.length : Int) + 4)))))) 8) then ((codec_Unframe.f k (x7.set ((IntKind.u64.wrap (4 + (IntKind.u64.wrap (Int.tdiv (Int.tmod x2 (IntKind.u64.wrap (wrap64 (8 * (wrap64 ((x0.length : Int) + 4)))))) 8)))) : Int).toNat (Go.bits .xor .u8 (rd x7 (IntKind.u64.wrap (4 + (IntKind.u64.wrap (Int.tdiv (Int.tmod x2 (IntKind.u64.wrap (wrap64 (8 * (wrap64 ((x0.length : Int) + 4)))))) 8))))) (shl .u8 1 (Int.tmod (Int.tmod x2 (IntKind.u64.wrap (wrap64 (8 * (wrap64 ((x0.length : Int) + 4)))))) 8))))).bind fun bt246 => (if bt246.2.2 = 8 then ((skerrylaw01_lives.f).bind fun t251 => (some t251)) else (some false))) else (none)) else (none)) else (none)))
def skerrylaw01_CodecTells.f (k : Nat) (l0 : List Int) (a1 : Int) (a2 : Int) : Option (Bool) := (codec_Frame.f k l0).bind fun t213 => (if (l0.length : Int) > 262144 then (if (t213.length : Int) = 0 then ((skerrylaw01_lives.f).bind fun t216 => (some t216)) else (some false)) else (if (t213.length : Int) = (wrap64 ((l0.length : Int) + 8)) then (if (IntKind.u64.wrap ((t213.length : Int))) = 0 then (none) else (if 0 ≤ (Int.tmod a1 (IntKind.u64.wrap ((t213.length : Int)))) then (if (Int.tmod a1 (IntKind.u64.wrap ((t213.length : Int)))) ≤ (t213.length : Int) then ((codec_Unframe.f k (t213.take ((Int.tmod a1 (IntKind.u64.wrap ((t213.length : Int)))) : Int).toNat)).bind fun bt221 => ((some (([] : List Int) : List Int)).bind fun y226 => (if y226.length + t213.length < 140737488355328 then ((some (y226 ++ t213 : List Int)).bind fun y229 => ((some (([1, 2] : List Int) : List Int)).bind fun y232 => (if y229.length + y232.length < 140737488355328 then ((codec_Unframe.f k (y229 ++ y232)).bind fun bt238 => (if bt221.2.2 = 10 then (if bt238.2.2 = 0 then (if bt238.2.1 = (t213.length : Int) then ((skerryref01_Same.f bt238.1 l0).bind fun t243 => (skerrylaw01_CodecTells.j0 k l0 a2 t213 (!t243))) else (skerrylaw01_CodecTells.j0 k l0 a2 t213 true)) else (skerrylaw01_CodecTells.j0 k l0 a2 t213 true)) else (skerrylaw01_CodecTells.j0 k l0 a2 t213 true))) else (none)))) else (none)))) else (none)) else (none))) else (some false)))
theorem skerrylaw01_CodecTells.mono_l : ∀ k, (∀ y0 y1 y2 y3, LeO (skerrylaw01_CodecTells.j0 k y0 y1 y2 y3) (skerrylaw01_CodecTells.j0 (k + 1) y0 y1 y2 y3))
  | 0 => fun _ _ _ _ r h => by simp [skerrylaw01_CodecTells.j0] at h
  | k + 1 => by
    have ih0 := skerrylaw01_CodecTells.mono_l k
    · intro y0 y1 y2 y3
      unfold skerrylaw01_CodecTells.j0
      repeat' first
      | (with_reducible exact ih0 _ _ _ _)
      | (with_reducible exact codec_Frame.mono _ _)
      | (with_reducible exact codec_Unframe.mono _ _)
      | (with_reducible exact LeO.refl _)
      | (with_reducible exact LeO.none _)
      | (with_reducible refine LeO.ite ?_ ?_)
      | (with_reducible refine LeO.bind ?_ (fun _ => ?_))
      | exact ih0 _ _ _ _
      | exact codec_Frame.mono _ _
      | exact codec_Unframe.mono _ _
      | exact LeO.none _
      | refine LeO.ite ?_ ?_
      | refine LeO.bind ?_ (fun _ => ?_)
theorem skerrylaw01_CodecTells.mono : ∀ a0 a1 a2 k, LeO (skerrylaw01_CodecTells.f k a0 a1 a2) (skerrylaw01_CodecTells.f (k + 1) a0 a1 a2) := by
  intro a0 a1 a2 k
  have ih0 := skerrylaw01_CodecTells.mono_l k
  unfold skerrylaw01_CodecTells.f
  repeat' first
      | (with_reducible exact ih0 _ _ _ _)
      | (with_reducible exact codec_Frame.mono _ _)
      | (with_reducible exact codec_Unframe.mono _ _)
      | (with_reducible exact LeO.refl _)
      | (with_reducible exact LeO.none _)
      | (with_reducible refine LeO.ite ?_ ?_)
      | (with_reducible refine LeO.bind ?_ (fun _ => ?_))
      | exact ih0 _ _ _ _
      | exact codec_Frame.mono _ _
      | exact codec_Unframe.mono _ _
      | exact LeO.none _
      | refine LeO.ite ?_ ?_
      | refine LeO.bind ?_ (fun _ => ?_)
set_option maxHeartbeats 8000000 in
set_option maxRecDepth 100000 in
theorem skerrylaw01_CodecTells.calls (k : Nat) (A0 : Option Addr) (c0 : Nat) (l0 : List Int) (a1 : Int) (a2 : Int) (r : Bool) (w : World) (hr0 : Kd.C (Kd.int .u8) w A0 l0.length l0) (hc0 : l0.length ≤ c0) (h : skerrylaw01_CodecTells.f k l0 a1 a2 = some r) :
    Calls Try.prog 10 #[.slice A0 l0.length c0, .int .u64 a1, .int .u64 a2] w fun e w' => e = .returned (.bool r) ∧ Below w.heap.size w w' := by
  have HR0 := Aside0.mk hr0
  have HC0 := Aside0.mk hc0
  clear hr0 hc0
  have HB := Aside0.mk (Below.refl w.heap.size w)
  have H : ((codec_Frame.f k l0).bind fun t213 => (if (l0.length : Int) > 262144 then (if (t213.length : Int) = 0 then ((skerrylaw01_lives.f).bind fun t216 => (some t216)) else (some false)) else (if (t213.length : Int) = (wrap64 ((l0.length : Int) + 8)) then (if (IntKind.u64.wrap ((t213.length : Int))) = 0 then (none) else (if 0 ≤ (Int.tmod a1 (IntKind.u64.wrap ((t213.length : Int)))) then (if (Int.tmod a1 (IntKind.u64.wrap ((t213.length : Int)))) ≤ (t213.length : Int) then ((codec_Unframe.f k (t213.take ((Int.tmod a1 (IntKind.u64.wrap ((t213.length : Int)))) : Int).toNat)).bind fun bt221 => ((some (([] : List Int) : List Int)).bind fun y226 => (if y226.length + t213.length < 140737488355328 then ((some (y226 ++ t213 : List Int)).bind fun y229 => ((some (([1, 2] : List Int) : List Int)).bind fun y232 => (if y229.length + y232.length < 140737488355328 then ((codec_Unframe.f k (y229 ++ y232)).bind fun bt238 => (if bt221.2.2 = 10 then (if bt238.2.2 = 0 then (if bt238.2.1 = (t213.length : Int) then ((skerryref01_Same.f bt238.1 l0).bind fun t243 => (skerrylaw01_CodecTells.j0 k l0 a2 t213 (!t243))) else (skerrylaw01_CodecTells.j0 k l0 a2 t213 true)) else (skerrylaw01_CodecTells.j0 k l0 a2 t213 true)) else (skerrylaw01_CodecTells.j0 k l0 a2 t213 true))) else (none)))) else (none)))) else (none)) else (none))) else (some false)))) = some r := h
  clear h
  replace H := Option.bind_eq_some_iff.mp H
  obtain ⟨t213, A40, H⟩ := H
  replace H : (if (l0.length : Int) > 262144 then (if (t213.length : Int) = 0 then ((skerrylaw01_lives.f).bind fun t216 => (some t216)) else (some false)) else (if (t213.length : Int) = (wrap64 ((l0.length : Int) + 8)) then (if (IntKind.u64.wrap ((t213.length : Int))) = 0 then (none) else (if 0 ≤ (Int.tmod a1 (IntKind.u64.wrap ((t213.length : Int)))) then (if (Int.tmod a1 (IntKind.u64.wrap ((t213.length : Int)))) ≤ (t213.length : Int) then ((codec_Unframe.f k (t213.take ((Int.tmod a1 (IntKind.u64.wrap ((t213.length : Int)))) : Int).toNat)).bind fun bt221 => ((some (([] : List Int) : List Int)).bind fun y226 => (if y226.length + t213.length < 140737488355328 then ((some (y226 ++ t213 : List Int)).bind fun y229 => ((some (([1, 2] : List Int) : List Int)).bind fun y232 => (if y229.length + y232.length < 140737488355328 then ((codec_Unframe.f k (y229 ++ y232)).bind fun bt238 => (if bt221.2.2 = 10 then (if bt238.2.2 = 0 then (if bt238.2.1 = (t213.length : Int) then ((skerryref01_Same.f bt238.1 l0).bind fun t243 => (skerrylaw01_CodecTells.j0 k l0 a2 t213 (!t243))) else (skerrylaw01_CodecTells.j0 k l0 a2 t213 true)) else (skerrylaw01_CodecTells.j0 k l0 a2 t213 true)) else (skerrylaw01_CodecTells.j0 k l0 a2 t213 true))) else (none)))) else (none)))) else (none)) else (none))) else (some false))) = some r := H
  have A4 := Aside0.mk A40
  clear A40
  by_cases c5 : (l0.length : Int) > 262144
  · rw [if_pos c5] at H
    have c5b0 : decide (262144 < (l0.length : Int)) = true := decide_eq_true c5
    have c5b1 : decide (262144 < l0.length) = true := decide_eq_true (by omega)
    clear c5
    by_cases c6 : (t213.length : Int) = 0
    · rw [if_pos c6] at H
      have c6b0 : ((t213.length : Int) == 0) = true := beq_iff_eq.mpr c6
      have c6b1 : ((t213.length : Int) != 0) = false := bne_eq_false_iff_eq.mpr c6
      clear c6
      replace H := Option.bind_eq_some_iff.mp H
      obtain ⟨t216, A70, H⟩ := H
      replace H : (some t216) = some r := H
      have A7 := Aside0.mk A70
      clear A70
      obtain rfl := Option.some.inj H
      go_enter Try.func10, Try.ntmps10
      go_wp2_with (first | ((with_reducible refine gate_callee (f := 51) rfl ?_); refine goesL_ (some 16) rfl rfl Try.func51 (by kernel_rfl) rfl #[.slice A0 l0.length c0] rfl (by (try simp only [List.map_toArray, List.map_cons, List.map_nil]); first | done | rfl | (simp only [List.length_drop, List.length_take]; rfl)) ?_; (with_reducible refine (codec_Frame.calls k _ _ l0 t213 _ ?side1 ?side2 A4.out).mono ?_); (case side1 => repeat (first | exact HR0.out | (with_reducible refine Kd.C_alloc ?_ _) | (with_reducible refine Kd.C_drewN ?_ _) | (with_reducible refine Kd.C_drew ?_))); (case side2 => exact HC0.out); rintro e w8 ⟨v214, rfl, ho0, hb⟩; refine ⟨_, rfl, ?_⟩; have n0_ := Aside0.mk (Kd.R_lower ho0 (below_size (by repeat (first | (with_reducible first | exact HB.out | apply below_alloc | apply pw_below_drewN | apply below_drew1) | exact HB.out)))); have n1_ := Aside0.mk (below_step (by repeat (first | (with_reducible first | exact HB.out | apply below_alloc | apply pw_below_drewN | apply below_drew1) | exact HB.out)) hb); clear HB; have HO215 := n0_; have HB := n1_; clear n0_ n1_; (try clear hb); (try clear hb2); (try clear hk); (try clear hi); (try clear ho0); obtain ⟨Ao9, co9, eo9⟩ := Kd.R_slice HO215.out; subst eo9) | (go_at_call 23; (with_reducible refine (skerrylaw01_lives.calls  t216 _ A7.out).mono ?_); rintro e w10 ⟨rfl, hb⟩; have n0_ := Aside0.mk (Kd.R_below (by (with_reducible repeat (first | apply Kd.R_alloc | apply Kd.R_drewN | apply Kd.R_drew)); exact HO215.out) hb); have n1_ := Aside0.mk (below_step (by repeat (first | (with_reducible first | exact HB.out | apply below_alloc | apply pw_below_drewN | apply below_drew1) | exact HB.out)) hb); clear HO215; clear HB; have HO215 := n0_; have HB := n1_; clear n0_ n1_; (try clear hb); (try clear hb2); (try clear hk); (try clear hi)))
      go_ret
      exact ⟨by first | rfl | (simp [errW_none, errW_some] <;> rfl) | (simp [*, errW_none, errW_some] <;> rfl), by repeat (first | (with_reducible first | exact HB.out | apply below_alloc | apply pw_below_drewN | apply below_drew1) | exact HB.out)⟩
    · rw [if_neg c6] at H
      have c6b0 : ((t213.length : Int) == 0) = false := beq_eq_false_iff_ne.mpr c6
      have c6b1 : ((t213.length : Int) != 0) = true := bne_iff_ne.mpr c6
      have c6b2 : ¬ (t213 = []) := fun h_ => c6 (by rw [h_]; rfl)
      obtain rfl := Option.some.inj H
      go_enter Try.func10, Try.ntmps10
      go_wp2_with (first | ((with_reducible refine gate_callee (f := 51) rfl ?_); refine goesL_ (some 16) rfl rfl Try.func51 (by kernel_rfl) rfl #[.slice A0 l0.length c0] rfl (by (try simp only [List.map_toArray, List.map_cons, List.map_nil]); first | done | rfl | (simp only [List.length_drop, List.length_take]; rfl)) ?_; (with_reducible refine (codec_Frame.calls k _ _ l0 t213 _ ?side1 ?side2 A4.out).mono ?_); (case side1 => repeat (first | exact HR0.out | (with_reducible refine Kd.C_alloc ?_ _) | (with_reducible refine Kd.C_drewN ?_ _) | (with_reducible refine Kd.C_drew ?_))); (case side2 => exact HC0.out); rintro e w11 ⟨v214, rfl, ho0, hb⟩; refine ⟨_, rfl, ?_⟩; have n0_ := Aside0.mk (Kd.R_lower ho0 (below_size (by repeat (first | (with_reducible first | exact HB.out | apply below_alloc | apply pw_below_drewN | apply below_drew1) | exact HB.out)))); have n1_ := Aside0.mk (below_step (by repeat (first | (with_reducible first | exact HB.out | apply below_alloc | apply pw_below_drewN | apply below_drew1) | exact HB.out)) hb); clear HB; have HO215 := n0_; have HB := n1_; clear n0_ n1_; (try clear hb); (try clear hb2); (try clear hk); (try clear hi); (try clear ho0); obtain ⟨Ao12, co12, eo12⟩ := Kd.R_slice HO215.out; subst eo12))
      go_ret
      exact ⟨by first | rfl | (simp [errW_none, errW_some] <;> rfl) | (simp [*, errW_none, errW_some] <;> rfl), by repeat (first | (with_reducible first | exact HB.out | apply below_alloc | apply pw_below_drewN | apply below_drew1) | exact HB.out)⟩
  · rw [if_neg c5] at H
    have c5b0 : decide (262144 < (l0.length : Int)) = false := decide_eq_false c5
    have c5b1 : decide (262144 < l0.length) = false := decide_eq_false (by omega)
    clear c5
    by_cases c13 : (t213.length : Int) = (wrap64 ((l0.length : Int) + 8))
    · rw [if_pos c13] at H
      have c13b0 : ((t213.length : Int) == (wrap64 ((l0.length : Int) + 8))) = true := beq_iff_eq.mpr c13
      have c13b1 : ((t213.length : Int) != (wrap64 ((l0.length : Int) + 8))) = false := bne_eq_false_iff_eq.mpr c13
      (try (have c13b2 : ((t213.length : Int) == (IntKind.i64.wrap ((l0.length : Int) + 8))) = true := by simp only [i64_w, i32_w]; exact beq_iff_eq.mpr c13))
      (try (have c13b3 : ((t213.length : Int) != (IntKind.i64.wrap ((l0.length : Int) + 8))) = false := by simp only [i64_w, i32_w]; exact bne_eq_false_iff_eq.mpr c13))
      clear c13
      by_cases c14 : (IntKind.u64.wrap ((t213.length : Int))) = 0
      · rw [if_pos c14] at H
        exact absurd H (by simp)
      · rw [if_neg c14] at H
        have c14b0 : ((IntKind.u64.wrap ((t213.length : Int))) == 0) = false := beq_eq_false_iff_ne.mpr c14
        have c14b1 : ((IntKind.u64.wrap ((t213.length : Int))) != 0) = true := bne_iff_ne.mpr c14
        obtain ⟨ji15, hji15⟩ : ∃ j_ : Int, (Int.tmod a1 (IntKind.u64.wrap ((t213.length : Int)))) = j_ := ⟨_, rfl⟩
        replace H : (if 0 ≤ (ji15) then (if (ji15) ≤ (t213.length : Int) then ((codec_Unframe.f k (t213.take ((ji15) : Int).toNat)).bind fun bt221 => ((some (([] : List Int) : List Int)).bind fun y226 => (if y226.length + t213.length < 140737488355328 then ((some (y226 ++ t213 : List Int)).bind fun y229 => ((some (([1, 2] : List Int) : List Int)).bind fun y232 => (if y229.length + y232.length < 140737488355328 then ((codec_Unframe.f k (y229 ++ y232)).bind fun bt238 => (if bt221.2.2 = 10 then (if bt238.2.2 = 0 then (if bt238.2.1 = (t213.length : Int) then ((skerryref01_Same.f bt238.1 l0).bind fun t243 => (skerrylaw01_CodecTells.j0 k l0 a2 t213 (!t243))) else (skerrylaw01_CodecTells.j0 k l0 a2 t213 true)) else (skerrylaw01_CodecTells.j0 k l0 a2 t213 true)) else (skerrylaw01_CodecTells.j0 k l0 a2 t213 true))) else (none)))) else (none)))) else (none)) else (none)) = some r := by first | (rw [hji15] at H; exact H) | (simp only [hji15] at H ⊢; exact H)
        (try rw [hji15] at A4)
        by_cases c16 : 0 ≤ (ji15)
        · rw [if_pos c16] at H
          have c16b0 := eq_true c16
          have c16b1 : decide (0 ≤ (ji15)) = true := decide_eq_true c16
          clear c16
          by_cases c17 : (ji15) ≤ (t213.length : Int)
          · rw [if_pos c17] at H
            have c17b0 := eq_true c17
            have c17b1 : decide ((ji15) ≤ (t213.length : Int)) = true := decide_eq_true c17
            clear c17
            obtain ⟨y217, hy217⟩ : ∃ y_ : List Int, y_ = (t213.take ((ji15) : Int).toNat) := ⟨_, rfl⟩
            replace H : ((codec_Unframe.f k y217).bind fun bt221 => ((some (([] : List Int) : List Int)).bind fun y226 => (if y226.length + t213.length < 140737488355328 then ((some (y226 ++ t213 : List Int)).bind fun y229 => ((some (([1, 2] : List Int) : List Int)).bind fun y232 => (if y229.length + y232.length < 140737488355328 then ((codec_Unframe.f k (y229 ++ y232)).bind fun bt238 => (if bt221.2.2 = 10 then (if bt238.2.2 = 0 then (if bt238.2.1 = (t213.length : Int) then ((skerryref01_Same.f bt238.1 l0).bind fun t243 => (skerrylaw01_CodecTells.j0 k l0 a2 t213 (!t243))) else (skerrylaw01_CodecTells.j0 k l0 a2 t213 true)) else (skerrylaw01_CodecTells.j0 k l0 a2 t213 true)) else (skerrylaw01_CodecTells.j0 k l0 a2 t213 true))) else (none)))) else (none)))) = some r := by first | (rw [hy217]; with_reducible exact H) | (have H2_ := (Option.bind_some _ _).symm.trans H; rw [hy217]; with_reducible exact H2_) | (have H2_ := (Option.bind_some _ _).symm.trans H; with_reducible exact H2_) | with_reducible exact H | (rw [hy217]; exact H) | exact H
            have Ny217 := Aside0.mk hy217
            clear hy217
            replace H := Option.bind_eq_some_iff.mp H
            obtain ⟨⟨t221, t222, t223⟩, A180, H⟩ := H
            replace H : ((some (([] : List Int) : List Int)).bind fun y226 => (if y226.length + t213.length < 140737488355328 then ((some (y226 ++ t213 : List Int)).bind fun y229 => ((some (([1, 2] : List Int) : List Int)).bind fun y232 => (if y229.length + y232.length < 140737488355328 then ((codec_Unframe.f k (y229 ++ y232)).bind fun bt238 => (if t223 = 10 then (if bt238.2.2 = 0 then (if bt238.2.1 = (t213.length : Int) then ((skerryref01_Same.f bt238.1 l0).bind fun t243 => (skerrylaw01_CodecTells.j0 k l0 a2 t213 (!t243))) else (skerrylaw01_CodecTells.j0 k l0 a2 t213 true)) else (skerrylaw01_CodecTells.j0 k l0 a2 t213 true)) else (skerrylaw01_CodecTells.j0 k l0 a2 t213 true))) else (none)))) else (none))) = some r := H
            have A18 := Aside0.mk A180
            clear A180
            obtain ⟨y226, hy226⟩ : ∃ y_ : List Int, y_ = (([] : List Int)) := ⟨_, rfl⟩
            replace H : (if y226.length + t213.length < 140737488355328 then ((some (y226 ++ t213 : List Int)).bind fun y229 => ((some (([1, 2] : List Int) : List Int)).bind fun y232 => (if y229.length + y232.length < 140737488355328 then ((codec_Unframe.f k (y229 ++ y232)).bind fun bt238 => (if t223 = 10 then (if bt238.2.2 = 0 then (if bt238.2.1 = (t213.length : Int) then ((skerryref01_Same.f bt238.1 l0).bind fun t243 => (skerrylaw01_CodecTells.j0 k l0 a2 t213 (!t243))) else (skerrylaw01_CodecTells.j0 k l0 a2 t213 true)) else (skerrylaw01_CodecTells.j0 k l0 a2 t213 true)) else (skerrylaw01_CodecTells.j0 k l0 a2 t213 true))) else (none)))) else (none)) = some r := by first | (rw [hy226]; with_reducible exact H) | (have H2_ := (Option.bind_some _ _).symm.trans H; rw [hy226]; with_reducible exact H2_) | (have H2_ := (Option.bind_some _ _).symm.trans H; with_reducible exact H2_) | with_reducible exact H | (rw [hy226]; exact H) | exact H
            have Ny226 := Aside0.mk hy226
            clear hy226
            by_cases c19 : y226.length + t213.length < 140737488355328
            · rw [if_pos c19] at H
              have LMc19 := Aside0.mk c19
              clear c19
              obtain ⟨y229, hy229⟩ : ∃ y_ : List Int, y_ = (y226 ++ t213) := ⟨_, rfl⟩
              replace H : ((some (([1, 2] : List Int) : List Int)).bind fun y232 => (if y229.length + y232.length < 140737488355328 then ((codec_Unframe.f k (y229 ++ y232)).bind fun bt238 => (if t223 = 10 then (if bt238.2.2 = 0 then (if bt238.2.1 = (t213.length : Int) then ((skerryref01_Same.f bt238.1 l0).bind fun t243 => (skerrylaw01_CodecTells.j0 k l0 a2 t213 (!t243))) else (skerrylaw01_CodecTells.j0 k l0 a2 t213 true)) else (skerrylaw01_CodecTells.j0 k l0 a2 t213 true)) else (skerrylaw01_CodecTells.j0 k l0 a2 t213 true))) else (none))) = some r := by first | (rw [hy229]; with_reducible exact H) | (have H2_ := (Option.bind_some _ _).symm.trans H; rw [hy229]; with_reducible exact H2_) | (have H2_ := (Option.bind_some _ _).symm.trans H; with_reducible exact H2_) | with_reducible exact H | (rw [hy229]; exact H) | exact H
              have Ny229 := Aside0.mk hy229
              clear hy229
              obtain ⟨y232, hy232⟩ : ∃ y_ : List Int, y_ = (([1, 2] : List Int)) := ⟨_, rfl⟩
              replace H : (if y229.length + y232.length < 140737488355328 then ((codec_Unframe.f k (y229 ++ y232)).bind fun bt238 => (if t223 = 10 then (if bt238.2.2 = 0 then (if bt238.2.1 = (t213.length : Int) then ((skerryref01_Same.f bt238.1 l0).bind fun t243 => (skerrylaw01_CodecTells.j0 k l0 a2 t213 (!t243))) else (skerrylaw01_CodecTells.j0 k l0 a2 t213 true)) else (skerrylaw01_CodecTells.j0 k l0 a2 t213 true)) else (skerrylaw01_CodecTells.j0 k l0 a2 t213 true))) else (none)) = some r := by first | (rw [hy232]; with_reducible exact H) | (have H2_ := (Option.bind_some _ _).symm.trans H; rw [hy232]; with_reducible exact H2_) | (have H2_ := (Option.bind_some _ _).symm.trans H; with_reducible exact H2_) | with_reducible exact H | (rw [hy232]; exact H) | exact H
              have Ny232 := Aside0.mk hy232
              clear hy232
              by_cases c20 : y229.length + y232.length < 140737488355328
              · rw [if_pos c20] at H
                have LMc20 := Aside0.mk c20
                clear c20
                obtain ⟨y235, hy235⟩ : ∃ y_ : List Int, y_ = (y229 ++ y232) := ⟨_, rfl⟩
                replace H : ((codec_Unframe.f k y235).bind fun bt238 => (if t223 = 10 then (if bt238.2.2 = 0 then (if bt238.2.1 = (t213.length : Int) then ((skerryref01_Same.f bt238.1 l0).bind fun t243 => (skerrylaw01_CodecTells.j0 k l0 a2 t213 (!t243))) else (skerrylaw01_CodecTells.j0 k l0 a2 t213 true)) else (skerrylaw01_CodecTells.j0 k l0 a2 t213 true)) else (skerrylaw01_CodecTells.j0 k l0 a2 t213 true))) = some r := by first | (rw [hy235]; with_reducible exact H) | (have H2_ := (Option.bind_some _ _).symm.trans H; rw [hy235]; with_reducible exact H2_) | (have H2_ := (Option.bind_some _ _).symm.trans H; with_reducible exact H2_) | with_reducible exact H | (rw [hy235]; exact H) | exact H
                have Ny235 := Aside0.mk hy235
                clear hy235
                replace H := Option.bind_eq_some_iff.mp H
                obtain ⟨⟨t238, t239, t240⟩, A210, H⟩ := H
                replace H : (if t223 = 10 then (if t240 = 0 then (if t239 = (t213.length : Int) then ((skerryref01_Same.f t238 l0).bind fun t243 => (skerrylaw01_CodecTells.j0 k l0 a2 t213 (!t243))) else (skerrylaw01_CodecTells.j0 k l0 a2 t213 true)) else (skerrylaw01_CodecTells.j0 k l0 a2 t213 true)) else (skerrylaw01_CodecTells.j0 k l0 a2 t213 true)) = some r := H
                have A21 := Aside0.mk A210
                clear A210
                have HC22 := Aside0.mk H
                clear H
                go_enter Try.func10, Try.ntmps10
                go_upto_region 8 with (first | ((with_reducible refine gate_callee (f := 51) rfl ?_); refine goesL_ (some 16) rfl rfl Try.func51 (by kernel_rfl) rfl #[.slice A0 l0.length c0] rfl (by (try simp only [List.map_toArray, List.map_cons, List.map_nil]); first | done | rfl | (simp only [List.length_drop, List.length_take]; rfl)) ?_; (with_reducible refine (codec_Frame.calls k _ _ l0 t213 _ ?side1 ?side2 A4.out).mono ?_); (case side1 => repeat (first | exact HR0.out | (with_reducible refine Kd.C_alloc ?_ _) | (with_reducible refine Kd.C_drewN ?_ _) | (with_reducible refine Kd.C_drew ?_))); (case side2 => exact HC0.out); rintro e w23 ⟨v214, rfl, ho0, hb⟩; refine ⟨_, rfl, ?_⟩; have n0_ := Aside0.mk (Kd.R_lower ho0 (below_size (by repeat (first | (with_reducible first | exact HB.out | apply below_alloc | apply pw_below_drewN | apply below_drew1) | exact HB.out)))); have n1_ := Aside0.mk (below_step (by repeat (first | (with_reducible first | exact HB.out | apply below_alloc | apply pw_below_drewN | apply below_drew1) | exact HB.out)) hb); clear HB; have HO215 := n0_; have HB := n1_; clear n0_ n1_; (try clear hb); (try clear hb2); (try clear hk); (try clear hi); (try clear ho0); obtain ⟨Ao24, co24, eo24⟩ := Kd.R_slice HO215.out; subst eo24; have q25 : ((ji15) : Int) ≤ ((t213.length : Int) : Int) := of_decide_eq_true (by first | (with_reducible assumption) | assumption); obtain ⟨i025, hi025, _, hsz25, _⟩ := info_parts info5; have hroom25 : t213.length ≤ co24 := (Kd.R_reads' HO215.out).2.1; have hC25 : Kd.C (Kd.int .u8) _ Ao24 t213.length t213 := (Kd.R_reads' HO215.out).2.2; have hcut25 := cut_to (P := Try.prog) 27 5 .u64 Try.underlying27 hi025 Ao24 t213.length co24 (ji15) (of_decide_eq_true (by first | (with_reducible assumption) | assumption)) q25 hroom25; have hr25 := Kd.C_take (m := ((ji15) : Int).toNat) hC25 (tn_le q25); have hy25 : y217.length = ((ji15) : Int).toNat := (by rw [Ny217.out]; exact cut_len_take q25); rw [← Ny217.out] at hr25; rw [← hy25] at hcut25; have HR220 := Aside0.mk hr25; have HC220 := Aside0.mk (show y217.length ≤ co24 from by rw [hy25]; exact Nat.le_trans (tn_le q25) hroom25); clear hr25 hC25 hroom25 hi025 hsz25; have KY25 := Aside0.mk hy25; clear hy25; have KL25 := Aside0.mk (show ((ji15) : Int).toNat ≤ t213.length from by omega); replace q25 := eq_true q25) | ((with_reducible refine gate_callee (f := 47) rfl ?_); refine goesL_ (some 40) rfl rfl Try.func47 (by kernel_rfl) rfl #[.slice Ao24 y217.length co24] rfl (by (try simp only [List.map_toArray, List.map_cons, List.map_nil]); first | done | rfl | (simp only [List.length_drop, List.length_take]; rfl)) ?_; (with_reducible refine (codec_Unframe.calls k _ _ y217 t221 t222 t223 _ ?side1 ?side2 A18.out).mono ?_); (case side1 => repeat (first | exact (by repeat (first | (with_reducible exact HR220.out) | (with_reducible refine Kd.C_alloc ?_ _) | (with_reducible refine Kd.C_drewN ?_ _) | (with_reducible refine Kd.C_drew ?_) | exact HR220.out)) | (with_reducible refine Kd.C_alloc ?_ _) | (with_reducible refine Kd.C_drewN ?_ _) | (with_reducible refine Kd.C_drew ?_))); (case side2 => exact HC220.out); rintro e w26 ⟨v224, rfl, ho0, hb⟩; refine ⟨_, rfl, ?_⟩; have n0_ := Aside0.mk (Kd.R_elder' (by (with_reducible repeat (first | apply Kd.R_alloc | apply Kd.R_drewN | apply Kd.R_drew)); exact HO215.out) (Kd.R_base ho0) hb); have n1_ := Aside0.mk (Kd.R_lower (Kd.R_new' ho0 (Kd.R_lt (by (with_reducible repeat (first | apply Kd.R_alloc | apply Kd.R_drewN | apply Kd.R_drew)); exact HO215.out))) (below_size (by repeat (first | (with_reducible first | exact HB.out | apply below_alloc | apply pw_below_drewN | apply below_drew1) | exact HB.out)))); have n2_ := Aside0.mk (Kd.C_below (by repeat (first | (with_reducible exact HR220.out) | (with_reducible refine Kd.C_alloc ?_ _) | (with_reducible refine Kd.C_drewN ?_ _) | (with_reducible refine Kd.C_drew ?_) | exact HR220.out)) hb); have n3_ := Aside0.mk (below_step (by repeat (first | (with_reducible first | exact HB.out | apply below_alloc | apply pw_below_drewN | apply below_drew1) | exact HB.out)) hb); clear HO215; clear HR220; clear HB; have HO215 := n0_; have HO225 := n1_; have HR220 := n2_; have HB := n3_; clear n0_ n1_ n2_ n3_; (try clear hb); (try clear hb2); (try clear hk); (try clear hi); (try clear ho0)) | ((with_reducible refine gate_dst (N := 45) rfl ?_); (try (refine gate_guard (by rfl) ?_; dsimp only)); refine Kd.R_lit (Kd.int .u8) _ 5 ?hg (N := 45) ?hd (xs := ([] : List Int)) (inner := []) (ok := fun _ => True) (okp := fun _ => True) ?hr ?hp (fun _ hk => hk) trivial (Below.refl _ _) (Nat.le_refl _) (by simp) ?_; (case hd => rfl); (case hg => rfl); (case hr => first | (go_simp; done) | (go_simp; rfl)); (case hp => exact (Reps.none _ _)); intro v227 w27 ho28 hb hg_ hnew_; clear hg_ hnew_; (first | rw [← Ny226.out] at ho28 | (simp only [Int.reduceToNat] at ho28; rw [← Ny226.out] at ho28)); have n0_ := Aside0.mk (Kd.R_elder' (by (with_reducible repeat (first | apply Kd.R_alloc | apply Kd.R_drewN | apply Kd.R_drew)); exact HO215.out) (Kd.R_base ho28) hb); have n1_ := Aside0.mk (Kd.R_elder' (by (with_reducible repeat (first | apply Kd.R_alloc | apply Kd.R_drewN | apply Kd.R_drew)); exact HO225.out) (Kd.R_base ho28) hb); have n2_ := Aside0.mk (Kd.R_lower (Kd.R_new' (Kd.R_new' ho28 (Kd.R_lt (by (with_reducible repeat (first | apply Kd.R_alloc | apply Kd.R_drewN | apply Kd.R_drew)); exact HO215.out))) (Kd.R_lt (by (with_reducible repeat (first | apply Kd.R_alloc | apply Kd.R_drewN | apply Kd.R_drew)); exact HO225.out))) (below_size (by repeat (first | (with_reducible first | exact HB.out | apply below_alloc | apply pw_below_drewN | apply below_drew1) | exact HB.out)))); have n3_ := Aside0.mk (Kd.C_below (by repeat (first | (with_reducible exact HR220.out) | (with_reducible refine Kd.C_alloc ?_ _) | (with_reducible refine Kd.C_drewN ?_ _) | (with_reducible refine Kd.C_drew ?_) | exact HR220.out)) hb); have n4_ := Aside0.mk (below_step (by repeat (first | (with_reducible first | exact HB.out | apply below_alloc | apply pw_below_drewN | apply below_drew1) | exact HB.out)) hb); clear HO215; clear HO225; clear HR220; clear HB; have HO215 := n0_; have HO225 := n1_; have HO228 := n2_; have HR220 := n3_; have HB := n4_; clear n0_ n1_ n2_ n3_ n4_; clear hb ho28) | ((with_reducible refine gate_builtin (b := .append) (xs := #[.tmp 45, .tmp 46]) rfl ?_); (try (refine gate_guard (by rfl) ?_; dsimp only)); at_builtin; refine Kd.R_append_rows (Kd.int .u8) (w0 := w) w.heap.size rfl (.tmp 45) (.tmp 46) 27 5 (.int .u8 0) 1 rfl Try.underlying27 info5 rfl (by decide) (by omega) v227 y226 t213 _ _ _ (fun k_ => some k_ ≠ (.slice Ao24 t213.length co24 : Value).ownBlock ∧ some k_ ≠ (v224 : Value).ownBlock) (fun _ => False) rfl rfl ?aO ?aR (fun _ _ h => h) (fun _ h => h.elim) ?aF ?aB ?aS ?aL ?_; (case aR => repeat (first | exact (Kd.R_reads' HO215.out).2.2 | (with_reducible refine Kd.C_alloc ?_ _) | (with_reducible refine Kd.C_drewN ?_ _) | (with_reducible refine Kd.C_drew ?_))); (case aB => exact (by repeat (first | (with_reducible first | exact HB.out | apply below_alloc | apply pw_below_drewN | apply below_drew1) | exact HB.out))); (case aF => exact (fun k_ hk => ⟨Kd.fresh' (Kd.R_lt (by (with_reducible repeat (first | apply Kd.R_alloc | apply Kd.R_drewN | apply Kd.R_drew)); exact HO215.out)) k_ hk, Kd.fresh' (Kd.R_lt (by (with_reducible repeat (first | apply Kd.R_alloc | apply Kd.R_drewN | apply Kd.R_drew)); exact HO225.out)) k_ hk⟩)); (case aO => exact (by (with_reducible repeat (first | apply Kd.R_alloc | apply Kd.R_drewN | apply Kd.R_drew)); exact Kd.R_mono HO228.out (fun _ hk => ⟨hk.1.2, hk.2⟩))); (case aS => exact (below_size (by repeat (first | (with_reducible first | exact HB.out | apply below_alloc | apply pw_below_drewN | apply below_drew1) | exact HB.out)))); (case aL => have := LMc19.out; omega); intro v230 w29 ho hb hg hat; rw [← Ny229.out] at ho; have n0_ := Aside0.mk (Kd.R_after (ok := (fun k_ => some k_ ≠ (v224 : Value).ownBlock)) (by (with_reducible repeat (first | apply Kd.R_alloc | apply Kd.R_drewN | apply Kd.R_drew)); exact Kd.R_mono HO215.out (fun _ hk => ⟨hk.1.2, hk.2⟩)) hg hat); have n1_ := Aside0.mk (Kd.R_after (ok := (fun k_ => some k_ ≠ (.slice Ao24 t213.length co24 : Value).ownBlock)) (by (with_reducible repeat (first | apply Kd.R_alloc | apply Kd.R_drewN | apply Kd.R_drew)); exact Kd.R_mono HO225.out (fun _ hk => ⟨hk.1.2, hk.2⟩)) hg hat); have n2_ := Aside0.mk (hb); have n3_ := Aside0.mk ((show Kd.C (Kd.int .u8) w29 Ao24 y217.length y217 from by rw [Ny217.out]; exact Kd.C_take (m := ((ji15) : Int).toNat) ((Kd.R_reads' (Kd.R_after (ok := (fun k_ => some k_ ≠ (v224 : Value).ownBlock)) (by (with_reducible repeat (first | apply Kd.R_alloc | apply Kd.R_drewN | apply Kd.R_drew)); exact Kd.R_mono HO215.out (fun _ hk => ⟨hk.1.2, hk.2⟩)) hg hat)).2.2) KL25.out)); have n4_ := Aside0.mk (ho); clear HO215; clear HO225; clear HB; clear HR220; clear HO228; have HO215 := n0_; have HO225 := n1_; have HB := n2_; have HR220 := n3_; have HO231 := n4_; clear n0_ n1_ n2_ n3_ n4_; clear ho hb hg hat) | ((with_reducible refine gate_dst (N := 48) rfl ?_); (try (refine gate_guard (by rfl) ?_; dsimp only)); refine Kd.R_lit (Kd.int .u8) _ 5 ?hg (N := 48) ?hd (xs := ([1, 2] : List Int)) (inner := [.int .u8 1, .int .u8 2]) (ok := fun _ => True) (okp := fun _ => True) ?hr ?hp (fun _ hk => hk) trivial (Below.refl _ _) (Nat.le_refl _) (by simp) ?_; (case hd => rfl); (case hg => rfl); (case hr => first | (go_simp; done) | (go_simp; rfl)); (case hp => exact (Reps.one (show Kd.M (Kd.int .u8) _ _ _ 1 [.int .u8 1] from rfl) (Reps.one (show Kd.M (Kd.int .u8) _ _ _ 2 [.int .u8 2] from rfl) (Reps.none _ _)))); intro v233 w30 ho31 hb hg_ hnew_; clear hg_ hnew_; (first | rw [← Ny232.out] at ho31 | (simp only [Int.reduceToNat] at ho31; rw [← Ny232.out] at ho31)); have n0_ := Aside0.mk (Kd.R_elder' (by (with_reducible repeat (first | apply Kd.R_alloc | apply Kd.R_drewN | apply Kd.R_drew)); exact HO215.out) (Kd.R_base ho31) hb); have n1_ := Aside0.mk (Kd.R_elder' (by (with_reducible repeat (first | apply Kd.R_alloc | apply Kd.R_drewN | apply Kd.R_drew)); exact HO225.out) (Kd.R_base ho31) hb); have n2_ := Aside0.mk (Kd.R_elder' (by (with_reducible repeat (first | apply Kd.R_alloc | apply Kd.R_drewN | apply Kd.R_drew)); exact HO231.out) (Kd.R_base ho31) hb); have n3_ := Aside0.mk (Kd.R_lower (Kd.R_new' (Kd.R_new' (Kd.R_new' ho31 (Kd.R_lt (by (with_reducible repeat (first | apply Kd.R_alloc | apply Kd.R_drewN | apply Kd.R_drew)); exact HO215.out))) (Kd.R_lt (by (with_reducible repeat (first | apply Kd.R_alloc | apply Kd.R_drewN | apply Kd.R_drew)); exact HO225.out))) (Kd.R_lt (by (with_reducible repeat (first | apply Kd.R_alloc | apply Kd.R_drewN | apply Kd.R_drew)); exact HO231.out))) (below_size (by repeat (first | (with_reducible first | exact HB.out | apply below_alloc | apply pw_below_drewN | apply below_drew1) | exact HB.out)))); have n4_ := Aside0.mk (Kd.C_below (by repeat (first | (with_reducible exact HR220.out) | (with_reducible refine Kd.C_alloc ?_ _) | (with_reducible refine Kd.C_drewN ?_ _) | (with_reducible refine Kd.C_drew ?_) | exact HR220.out)) hb); have n5_ := Aside0.mk (below_step (by repeat (first | (with_reducible first | exact HB.out | apply below_alloc | apply pw_below_drewN | apply below_drew1) | exact HB.out)) hb); clear HO215; clear HO225; clear HO231; clear HR220; clear HB; have HO215 := n0_; have HO225 := n1_; have HO231 := n2_; have HO234 := n3_; have HR220 := n4_; have HB := n5_; clear n0_ n1_ n2_ n3_ n4_ n5_; clear hb ho31; obtain ⟨Ao33, co33, eo33⟩ := Kd.R_slice HO234.out; subst eo33) | ((with_reducible refine gate_builtin (b := .append) (xs := #[.tmp 47, .tmp 48]) rfl ?_); (try (refine gate_guard (by rfl) ?_; dsimp only)); at_builtin; refine Kd.R_append_rows (Kd.int .u8) (w0 := w) w.heap.size rfl (.tmp 47) (.tmp 48) 27 5 (.int .u8 0) 1 rfl Try.underlying27 info5 rfl (by decide) (by omega) v230 y229 y232 _ _ _ (fun k_ => some k_ ≠ (.slice Ao24 t213.length co24 : Value).ownBlock ∧ some k_ ≠ (v224 : Value).ownBlock ∧ some k_ ≠ (.slice Ao33 y232.length co33 : Value).ownBlock) (fun _ => False) rfl rfl ?aO ?aR (fun _ _ h => h) (fun _ h => h.elim) ?aF ?aB ?aS ?aL ?_; (case aR => repeat (first | exact (Kd.R_reads' HO234.out).2.2 | (with_reducible refine Kd.C_alloc ?_ _) | (with_reducible refine Kd.C_drewN ?_ _) | (with_reducible refine Kd.C_drew ?_))); (case aB => exact (by repeat (first | (with_reducible first | exact HB.out | apply below_alloc | apply pw_below_drewN | apply below_drew1) | exact HB.out))); (case aF => exact (fun k_ hk => ⟨Kd.fresh' (Kd.R_lt (by (with_reducible repeat (first | apply Kd.R_alloc | apply Kd.R_drewN | apply Kd.R_drew)); exact HO215.out)) k_ hk, Kd.fresh' (Kd.R_lt (by (with_reducible repeat (first | apply Kd.R_alloc | apply Kd.R_drewN | apply Kd.R_drew)); exact HO225.out)) k_ hk, Kd.fresh' (Kd.R_lt (by (with_reducible repeat (first | apply Kd.R_alloc | apply Kd.R_drewN | apply Kd.R_drew)); exact HO234.out)) k_ hk⟩)); (case aO => exact (by (with_reducible repeat (first | apply Kd.R_alloc | apply Kd.R_drewN | apply Kd.R_drew)); exact Kd.R_mono HO231.out (fun _ hk => ⟨hk.1.1, ⟨hk.1.2, hk.2⟩⟩))); (case aS => exact (below_size (by repeat (first | (with_reducible first | exact HB.out | apply below_alloc | apply pw_below_drewN | apply below_drew1) | exact HB.out)))); (case aL => have := LMc20.out; omega); intro v236 w32 ho hb hg hat; rw [← Ny235.out] at ho; have n0_ := Aside0.mk (Kd.R_after (ok := (fun k_ => some k_ ≠ (v224 : Value).ownBlock ∧ some k_ ≠ (.slice Ao33 y232.length co33 : Value).ownBlock)) (by (with_reducible repeat (first | apply Kd.R_alloc | apply Kd.R_drewN | apply Kd.R_drew)); exact Kd.R_mono HO215.out (fun _ hk => ⟨⟨hk.1.1, hk.2⟩, hk.1.2⟩)) hg hat); have n1_ := Aside0.mk (Kd.R_after (ok := (fun k_ => some k_ ≠ (.slice Ao24 t213.length co24 : Value).ownBlock ∧ some k_ ≠ (.slice Ao33 y232.length co33 : Value).ownBlock)) (by (with_reducible repeat (first | apply Kd.R_alloc | apply Kd.R_drewN | apply Kd.R_drew)); exact Kd.R_mono HO225.out (fun _ hk => ⟨⟨hk.1.1, hk.2⟩, hk.1.2⟩)) hg hat); have n2_ := Aside0.mk (Kd.R_after (ok := (fun k_ => some k_ ≠ (.slice Ao24 t213.length co24 : Value).ownBlock ∧ some k_ ≠ (v224 : Value).ownBlock)) (by (with_reducible repeat (first | apply Kd.R_alloc | apply Kd.R_drewN | apply Kd.R_drew)); exact Kd.R_mono HO234.out (fun _ hk => ⟨⟨hk.1.1.2, hk.1.2⟩, hk.2⟩)) hg hat); have n3_ := Aside0.mk (hb); have n4_ := Aside0.mk ((show Kd.C (Kd.int .u8) w32 Ao24 y217.length y217 from by rw [Ny217.out]; exact Kd.C_take (m := ((ji15) : Int).toNat) ((Kd.R_reads' (Kd.R_after (ok := (fun k_ => some k_ ≠ (v224 : Value).ownBlock ∧ some k_ ≠ (.slice Ao33 y232.length co33 : Value).ownBlock)) (by (with_reducible repeat (first | apply Kd.R_alloc | apply Kd.R_drewN | apply Kd.R_drew)); exact Kd.R_mono HO215.out (fun _ hk => ⟨⟨hk.1.1, hk.2⟩, hk.1.2⟩)) hg hat)).2.2) KL25.out)); have n5_ := Aside0.mk (ho); clear HO215; clear HO225; clear HO234; clear HB; clear HR220; clear HO231; have HO215 := n0_; have HO225 := n1_; have HO234 := n2_; have HB := n3_; have HR220 := n4_; have HO237 := n5_; clear n0_ n1_ n2_ n3_ n4_ n5_; clear ho hb hg hat; obtain ⟨Ao34, co34, eo34⟩ := Kd.R_slice HO237.out; subst eo34) | ((with_reducible refine gate_callee (f := 47) rfl ?_); refine goesL_ (some 50) rfl rfl Try.func47 (by kernel_rfl) rfl #[.slice Ao34 y235.length co34] rfl (by (try simp only [List.map_toArray, List.map_cons, List.map_nil]); first | done | rfl | (simp only [List.length_drop, List.length_take]; rfl)) ?_; (with_reducible refine (codec_Unframe.calls k _ _ y235 t238 t239 t240 _ ?side1 ?side2 A21.out).mono ?_); (case side1 => repeat (first | exact (Kd.R_reads' HO237.out).2.2 | (with_reducible refine Kd.C_alloc ?_ _) | (with_reducible refine Kd.C_drewN ?_ _) | (with_reducible refine Kd.C_drew ?_))); (case side2 => exact (Kd.R_reads' HO237.out).2.1); rintro e w35 ⟨v241, rfl, ho0, hb⟩; refine ⟨_, rfl, ?_⟩; have n0_ := Aside0.mk (Kd.R_elder' (by (with_reducible repeat (first | apply Kd.R_alloc | apply Kd.R_drewN | apply Kd.R_drew)); exact HO215.out) (Kd.R_base ho0) hb); have n1_ := Aside0.mk (Kd.R_elder' (by (with_reducible repeat (first | apply Kd.R_alloc | apply Kd.R_drewN | apply Kd.R_drew)); exact HO225.out) (Kd.R_base ho0) hb); have n2_ := Aside0.mk (Kd.R_elder' (by (with_reducible repeat (first | apply Kd.R_alloc | apply Kd.R_drewN | apply Kd.R_drew)); exact HO234.out) (Kd.R_base ho0) hb); have n3_ := Aside0.mk (Kd.R_elder' (by (with_reducible repeat (first | apply Kd.R_alloc | apply Kd.R_drewN | apply Kd.R_drew)); exact HO237.out) (Kd.R_base ho0) hb); have n4_ := Aside0.mk (Kd.R_lower (Kd.R_new' (Kd.R_new' (Kd.R_new' (Kd.R_new' ho0 (Kd.R_lt (by (with_reducible repeat (first | apply Kd.R_alloc | apply Kd.R_drewN | apply Kd.R_drew)); exact HO215.out))) (Kd.R_lt (by (with_reducible repeat (first | apply Kd.R_alloc | apply Kd.R_drewN | apply Kd.R_drew)); exact HO225.out))) (Kd.R_lt (by (with_reducible repeat (first | apply Kd.R_alloc | apply Kd.R_drewN | apply Kd.R_drew)); exact HO234.out))) (Kd.R_lt (by (with_reducible repeat (first | apply Kd.R_alloc | apply Kd.R_drewN | apply Kd.R_drew)); exact HO237.out))) (below_size (by repeat (first | (with_reducible first | exact HB.out | apply below_alloc | apply pw_below_drewN | apply below_drew1) | exact HB.out)))); have n5_ := Aside0.mk (Kd.C_below (by repeat (first | (with_reducible exact HR220.out) | (with_reducible refine Kd.C_alloc ?_ _) | (with_reducible refine Kd.C_drewN ?_ _) | (with_reducible refine Kd.C_drew ?_) | exact HR220.out)) hb); have n6_ := Aside0.mk (below_step (by repeat (first | (with_reducible first | exact HB.out | apply below_alloc | apply pw_below_drewN | apply below_drew1) | exact HB.out)) hb); clear HO215; clear HO225; clear HO234; clear HO237; clear HR220; clear HB; have HO215 := n0_; have HO225 := n1_; have HO234 := n2_; have HO237 := n3_; have HO242 := n4_; have HR220 := n5_; have HB := n6_; clear n0_ n1_ n2_ n3_ n4_ n5_ n6_; (try clear hb); (try clear hb2); (try clear hk); (try clear hi); (try clear ho0)))
                (try simp only [Act.put, List.setIfInBounds_toArray, List.set_cons_zero, List.set_cons_succ])
                go_cut [71] (fun v71 wc => ∃ (kq : Nat) (x71_21 : Bool), v71 = .bool x71_21 ∧ Aside0 (skerrylaw01_CodecTells.j0 kq l0 a2 t213 x71_21 = some r) ∧ Aside0 (kq ≤ k) ∧ Aside0 (Kd.R (Kd.int .u8) 5 wc w.heap.size (fun _ => True) (.slice Ao24 t213.length co24) t213) ∧ Aside0 (Kd.C (Kd.int .u8) wc Ao24 y217.length y217) ∧ Aside0 (Below w.heap.size w wc))
                case first =>
                  have H := HC22.out
                  clear HC22
                  by_cases c36 : t223 = 10
                  · rw [if_pos c36] at H
                    have c36b0 : (t223 == 10) = true := beq_iff_eq.mpr c36
                    have c36b1 : (t223 != 10) = false := bne_eq_false_iff_eq.mpr c36
                    clear c36
                    (first | rw [c36b0] | (simp only [i64_w, i32_w]; rw [c36b0]) | skip)
                    by_cases c37 : t240 = 0
                    · rw [if_pos c37] at H
                      have c37b0 : (t240 == 0) = true := beq_iff_eq.mpr c37
                      have c37b1 : (t240 != 0) = false := bne_eq_false_iff_eq.mpr c37
                      clear c37
                      by_cases c38 : t239 = (t213.length : Int)
                      · rw [if_pos c38] at H
                        have c38b0 : (t239 == (t213.length : Int)) = true := beq_iff_eq.mpr c38
                        have c38b1 : (t239 != (t213.length : Int)) = false := bne_eq_false_iff_eq.mpr c38
                        clear c38
                        replace H := Option.bind_eq_some_iff.mp H
                        obtain ⟨t243, A390, H⟩ := H
                        replace H : (skerrylaw01_CodecTells.j0 k l0 a2 t213 (!t243)) = some r := H
                        have A39 := Aside0.mk A390
                        clear A390
                        have H' := Aside0.mk H
                        clear H
                        obtain ⟨Ao40, co40, eo40⟩ := Kd.R_slice HO242.out
                        subst eo40
                        go_wp2_with (first | (go_at_call 28; (with_reducible refine (skerryref01_Same.calls _ _ t238 _ _ l0 t243 _ ?side1 ?side2 ?side3 ?side4 A39.out).mono ?_); (case side1 => repeat (first | exact (Kd.R_reads' HO242.out).2.2 | (with_reducible refine Kd.C_alloc ?_ _) | (with_reducible refine Kd.C_drewN ?_ _) | (with_reducible refine Kd.C_drew ?_))); (case side2 => exact (Kd.R_reads' HO242.out).2.1); (case side3 => repeat (first | exact (Kd.C_below HR0.out HB.out) | (with_reducible refine Kd.C_alloc ?_ _) | (with_reducible refine Kd.C_drewN ?_ _) | (with_reducible refine Kd.C_drew ?_))); (case side4 => exact HC0.out); rintro e w' ⟨rfl, ⟨nd, rfl⟩⟩))
                        go_meet
                        case rel => exact ⟨_, (!t243), (by first | rfl | (simp; done) | (simp [*]; done)), H', ⟨by first | omega | exact Nat.le_refl _⟩, ⟨by (with_reducible repeat (first | apply Kd.R_alloc | apply Kd.R_drewN | apply Kd.R_drew)); exact Kd.R_mono HO215.out (fun _ hk => trivial)⟩, ⟨by repeat (first | (with_reducible exact HR220.out) | (with_reducible refine Kd.C_alloc ?_ _) | (with_reducible refine Kd.C_drewN ?_ _) | (with_reducible refine Kd.C_drew ?_) | exact HR220.out)⟩, ⟨by repeat (first | (with_reducible first | exact HB.out | apply below_alloc | apply pw_below_drewN | apply below_drew1) | exact HB.out)⟩⟩
                      · rw [if_neg c38] at H
                        have c38b0 : (t239 == (t213.length : Int)) = false := beq_eq_false_iff_ne.mpr c38
                        have c38b1 : (t239 != (t213.length : Int)) = true := bne_iff_ne.mpr c38
                        have H' := Aside0.mk H
                        clear H
                        go_wp2
                        go_meet
                        case rel => exact ⟨_, (true), (by first | rfl | (simp; done) | (simp [*]; done)), H', ⟨by first | omega | exact Nat.le_refl _⟩, ⟨by (with_reducible repeat (first | apply Kd.R_alloc | apply Kd.R_drewN | apply Kd.R_drew)); exact Kd.R_mono HO215.out (fun _ hk => trivial)⟩, ⟨by repeat (first | (with_reducible exact HR220.out) | (with_reducible refine Kd.C_alloc ?_ _) | (with_reducible refine Kd.C_drewN ?_ _) | (with_reducible refine Kd.C_drew ?_) | exact HR220.out)⟩, ⟨by repeat (first | (with_reducible first | exact HB.out | apply below_alloc | apply pw_below_drewN | apply below_drew1) | exact HB.out)⟩⟩
                    · rw [if_neg c37] at H
                      have c37b0 : (t240 == 0) = false := beq_eq_false_iff_ne.mpr c37
                      have c37b1 : (t240 != 0) = true := bne_iff_ne.mpr c37
                      have H' := Aside0.mk H
                      clear H
                      go_wp2
                      go_meet
                      case rel => exact ⟨_, (true), (by first | rfl | (simp; done) | (simp [*]; done)), H', ⟨by first | omega | exact Nat.le_refl _⟩, ⟨by (with_reducible repeat (first | apply Kd.R_alloc | apply Kd.R_drewN | apply Kd.R_drew)); exact Kd.R_mono HO215.out (fun _ hk => trivial)⟩, ⟨by repeat (first | (with_reducible exact HR220.out) | (with_reducible refine Kd.C_alloc ?_ _) | (with_reducible refine Kd.C_drewN ?_ _) | (with_reducible refine Kd.C_drew ?_) | exact HR220.out)⟩, ⟨by repeat (first | (with_reducible first | exact HB.out | apply below_alloc | apply pw_below_drewN | apply below_drew1) | exact HB.out)⟩⟩
                  · rw [if_neg c36] at H
                    have c36b0 : (t223 == 10) = false := beq_eq_false_iff_ne.mpr c36
                    have c36b1 : (t223 != 10) = true := bne_iff_ne.mpr c36
                    (first | rw [c36b0] | (simp only [i64_w, i32_w]; rw [c36b0]) | skip)
                    have H' := Aside0.mk H
                    clear H
                    go_wp2
                    go_meet
                    case rel => exact ⟨_, (true), (by first | rfl | (simp; done) | (simp [*]; done)), H', ⟨by first | omega | exact Nat.le_refl _⟩, ⟨by (with_reducible repeat (first | apply Kd.R_alloc | apply Kd.R_drewN | apply Kd.R_drew)); exact Kd.R_mono HO215.out (fun _ hk => trivial)⟩, ⟨by repeat (first | (with_reducible exact HR220.out) | (with_reducible refine Kd.C_alloc ?_ _) | (with_reducible refine Kd.C_drewN ?_ _) | (with_reducible refine Kd.C_drew ?_) | exact HR220.out)⟩, ⟨by repeat (first | (with_reducible first | exact HB.out | apply below_alloc | apply pw_below_drewN | apply below_drew1) | exact HB.out)⟩⟩
                case rest =>
                  clear HC22
                  try clear c1
                  try clear c2
                  try clear p2
                  try clear q2
                  try clear c3
                  try clear c4
                  try clear c5
                  try clear c5b0
                  try clear c5b1
                  try clear c6
                  try clear c6b0
                  try clear c6b1
                  try clear c6b2
                  try clear p6
                  try clear c10
                  try clear c13
                  try clear c13b0
                  try clear c13b1
                  try clear c13b2
                  try clear c14
                  try clear c14b0
                  try clear c14b1
                  try clear c16
                  try clear c16b0
                  try clear c16b1
                  try clear c17
                  try clear c17b0
                  try clear c17b1
                  try clear c19
                  try clear c20
                  try clear q25
                  try clear c36
                  try clear c36b0
                  try clear c36b1
                  try clear c37
                  try clear c37b0
                  try clear c37b1
                  try clear c38
                  try clear c38b0
                  try clear c38b1
                  try clear q25
                  obtain ⟨kq, x71_21, rfl, HA, HJ21, HO_7, HR220, HB⟩ := hcut
                  cases kq with
                  | zero => exact absurd HA.out (by simp [skerrylaw01_CodecTells.j0])
                  | succ kj21 =>
                    have H := HA.out
                    clear HA
                    simp only [skerrylaw01_CodecTells.j0] at H
                    by_cases c41 : x71_21 = true
                    · subst c41
                      have H1 : (some false) = some r := by rw [if_pos rfl] at H; exact H
                      clear H
                      have H := H1
                      clear H1
                      obtain rfl := Option.some.inj H
                      go_wp2
                      go_ret
                      exact ⟨by first | rfl | (simp [errW_none, errW_some] <;> rfl) | (simp only [← hji15]; first | rfl | (simp [errW_none, errW_some] <;> rfl)) | (simp [*, errW_none, errW_some] <;> rfl), by repeat (first | (with_reducible first | exact HB.out | apply below_alloc | apply pw_below_drewN | apply below_drew1) | exact HB.out)⟩
                    · replace c41 := Bool.eq_false_iff.mpr c41
                      subst c41
                      have H1 : (if (IntKind.u64.wrap (wrap64 (8 * (wrap64 ((l0.length : Int) + 4))))) = 0 then (none) else (if 0 ≤ (IntKind.u64.wrap (4 + (IntKind.u64.wrap (Int.tdiv (Int.tmod a2 (IntKind.u64.wrap (wrap64 (8 * (wrap64 ((l0.length : Int) + 4)))))) 8)))) then (if (IntKind.u64.wrap (4 + (IntKind.u64.wrap (Int.tdiv (Int.tmod a2 (IntKind.u64.wrap (wrap64 (8 * (wrap64 ((l0.length : Int) + 4)))))) 8)))) < (t213.length : Int) then (if 0 ≤ (Int.tmod (Int.tmod a2 (IntKind.u64.wrap (wrap64 (8 * (wrap64 ((l0.length : Int) + 4)))))) 8) then ((codec_Unframe.f kj21 (t213.set ((IntKind.u64.wrap (4 + (IntKind.u64.wrap (Int.tdiv (Int.tmod a2 (IntKind.u64.wrap (wrap64 (8 * (wrap64 ((l0.length : Int) + 4)))))) 8)))) : Int).toNat (Go.bits .xor .u8 (rd t213 (IntKind.u64.wrap (4 + (IntKind.u64.wrap (Int.tdiv (Int.tmod a2 (IntKind.u64.wrap (wrap64 (8 * (wrap64 ((l0.length : Int) + 4)))))) 8))))) (shl .u8 1 (Int.tmod (Int.tmod a2 (IntKind.u64.wrap (wrap64 (8 * (wrap64 ((l0.length : Int) + 4)))))) 8))))).bind fun bt246 => (if bt246.2.2 = 8 then ((skerrylaw01_lives.f).bind fun t251 => (some t251)) else (some false))) else (none)) else (none)) else (none))) = some r := by rw [if_neg (show ¬ (false = true) by decide)] at H; exact H
                      clear H
                      have H := H1
                      clear H1
                      by_cases c42 : (IntKind.u64.wrap (wrap64 (8 * (wrap64 ((l0.length : Int) + 4))))) = 0
                      · rw [if_pos c42] at H
                        exact absurd H (by simp)
                      · rw [if_neg c42] at H
                        have c42b0 : ((IntKind.u64.wrap (wrap64 (8 * (wrap64 ((l0.length : Int) + 4))))) == 0) = false := beq_eq_false_iff_ne.mpr c42
                        have c42b1 : ((IntKind.u64.wrap (wrap64 (8 * (wrap64 ((l0.length : Int) + 4))))) != 0) = true := bne_iff_ne.mpr c42
                        (try (have c42b2 : ((IntKind.u64.wrap (IntKind.i64.wrap (8 * (IntKind.i64.wrap ((l0.length : Int) + 4))))) == 0) = false := by simp only [i64_w, i32_w]; exact beq_eq_false_iff_ne.mpr c42))
                        (try (have c42b3 : ((IntKind.u64.wrap (IntKind.i64.wrap (8 * (IntKind.i64.wrap ((l0.length : Int) + 4))))) != 0) = true := by simp only [i64_w, i32_w]; exact bne_iff_ne.mpr c42))
                        obtain ⟨ji43, hji43⟩ : ∃ j_ : Int, (IntKind.u64.wrap (4 + (IntKind.u64.wrap (Int.tdiv (Int.tmod a2 (IntKind.u64.wrap (wrap64 (8 * (wrap64 ((l0.length : Int) + 4)))))) 8)))) = j_ := ⟨_, rfl⟩
                        replace H : (if 0 ≤ (ji43) then (if (ji43) < (t213.length : Int) then (if 0 ≤ (Int.tmod (Int.tmod a2 (IntKind.u64.wrap (wrap64 (8 * (wrap64 ((l0.length : Int) + 4)))))) 8) then ((codec_Unframe.f kj21 (t213.set ((ji43) : Int).toNat (Go.bits .xor .u8 (rd t213 (ji43)) (shl .u8 1 (Int.tmod (Int.tmod a2 (IntKind.u64.wrap (wrap64 (8 * (wrap64 ((l0.length : Int) + 4)))))) 8))))).bind fun bt246 => (if bt246.2.2 = 8 then ((skerrylaw01_lives.f).bind fun t251 => (some t251)) else (some false))) else (none)) else (none)) else (none)) = some r := by first | (rw [hji43] at H; exact H) | (simp only [hji43] at H ⊢; exact H)
                        by_cases c44 : 0 ≤ (ji43)
                        · rw [if_pos c44] at H
                          have c44b0 : decide (0 ≤ (ji43)) = true := decide_eq_true c44
                          clear c44
                          by_cases c45 : (ji43) < (t213.length : Int)
                          · rw [if_pos c45] at H
                            have c45b0 : decide ((ji43) < (t213.length : Int)) = true := decide_eq_true c45
                            clear c45
                            obtain ⟨ji46, hji46⟩ : ∃ j_ : Int, (Int.tmod (Int.tmod a2 (IntKind.u64.wrap (wrap64 (8 * (wrap64 ((l0.length : Int) + 4)))))) 8) = j_ := ⟨_, rfl⟩
                            replace H : (if 0 ≤ (ji46) then ((codec_Unframe.f kj21 (t213.set ((ji43) : Int).toNat (Go.bits .xor .u8 (rd t213 (ji43)) (shl .u8 1 (ji46))))).bind fun bt246 => (if bt246.2.2 = 8 then ((skerrylaw01_lives.f).bind fun t251 => (some t251)) else (some false))) else (none)) = some r := by first | (rw [hji46] at H; exact H) | (simp only [hji46] at H ⊢; exact H)
                            by_cases c47 : 0 ≤ (ji46)
                            · rw [if_pos c47] at H
                              have c47b0 := eq_true c47
                              have c47b1 : decide (0 ≤ (ji46)) = true := decide_eq_true c47
                              clear c47
                              obtain ⟨ji48, hji48⟩ : ∃ j_ : Int, (shl .u8 1 (ji46)) = j_ := ⟨_, rfl⟩
                              replace H : ((codec_Unframe.f kj21 (t213.set ((ji43) : Int).toNat (Go.bits .xor .u8 (rd t213 (ji43)) (ji48)))).bind fun bt246 => (if bt246.2.2 = 8 then ((skerrylaw01_lives.f).bind fun t251 => (some t251)) else (some false))) = some r := by first | (rw [hji48] at H; exact H) | (simp only [hji48] at H ⊢; exact H)
                              have hji48_ : (IntKind.u8.wrap (1 * 2 ^ min (ji46).toNat 8)) = ji48 := hji48
                              have hji48z : (ji46) ≤ 8 → (IntKind.u8.wrap (1 * 2 ^ (ji46).toNat)) = ji48 := shl_small hji48
                              have hji48u : (IntKind.u8.wrap (2 ^ min (ji46).toNat 8)) = ji48 := by have h_ := hji48_; rw [Int.one_mul] at h_; exact h_
                              have hji48v : (ji46) ≤ 8 → (IntKind.u8.wrap (2 ^ (ji46).toNat)) = ji48 := fun hle_ => by have h_ := hji48z hle_; rw [Int.one_mul] at h_; exact h_
                              obtain ⟨y245, hy245⟩ : ∃ y_ : List Int, y_ = (t213.set ((ji43) : Int).toNat (Go.bits .xor .u8 (rd t213 (ji43)) (ji48))) := ⟨_, rfl⟩
                              replace H : ((codec_Unframe.f kj21 y245).bind fun bt246 => (if bt246.2.2 = 8 then ((skerrylaw01_lives.f).bind fun t251 => (some t251)) else (some false))) = some r := by first | (rw [hy245]; with_reducible exact H) | (have H2_ := (Option.bind_some _ _).symm.trans H; rw [hy245]; with_reducible exact H2_) | (have H2_ := (Option.bind_some _ _).symm.trans H; with_reducible exact H2_) | with_reducible exact H | (rw [hy245]; exact H) | exact H
                              have Ny245 := Aside0.mk hy245
                              clear hy245
                              replace H := Option.bind_eq_some_iff.mp H
                              obtain ⟨⟨t246, t247, t248⟩, A500, H⟩ := H
                              replace H : (if t248 = 8 then ((skerrylaw01_lives.f).bind fun t251 => (some t251)) else (some false)) = some r := H
                              have A50 := Aside0.mk A500
                              clear A500
                              by_cases c51 : t248 = 8
                              · rw [if_pos c51] at H
                                have c51b0 : (t248 == 8) = true := beq_iff_eq.mpr c51
                                have c51b1 : (t248 != 8) = false := bne_eq_false_iff_eq.mpr c51
                                clear c51
                                replace H := Option.bind_eq_some_iff.mp H
                                obtain ⟨t251, A520, H⟩ := H
                                replace H : (some t251) = some r := H
                                have A52 := Aside0.mk A520
                                clear A520
                                obtain rfl := Option.some.inj H
                                have p244 : 0 ≤ ((ji43) : Int) := of_decide_eq_true (by first | (with_reducible assumption) | assumption)
                                have q244 : (ji43) < (t213.length : Int) := of_decide_eq_true (by first | (with_reducible assumption) | assumption)
                                obtain ⟨ad244, e244, hx244_0⟩ := Kd.at_int (Kd.R_reads' HO_7.out).2.2 (ji43) p244 q244
                                cases e244
                                replace p244 := eq_true p244
                                replace q244 := eq_true q244
                                have p49 : 0 ≤ ((ji43) : Int) := of_decide_eq_true (by first | (with_reducible assumption) | assumption)
                                have q49 : ((ji43) : Int) < ((t213.length : Int) : Int) := of_decide_eq_true (by first | (with_reducible assumption) | assumption)
                                obtain ⟨go49, co49, eo49, gb49, gl49, cl49, HG49⟩ := Kd.R_form HO_7.out (by omega)
                                (first | cases eo49 | (injection eo49 with ea_ en_ ec_; (first | subst ea_ | (injection ea_ with ea_; subst ea_)); subst ec_; clear en_))
                                have GB49 := Aside0.mk gb49
                                have GG49 := Aside0.mk HG49
                                clear gb49 gl49 HG49
                                (first | simp only [add_plain] at hx244_0 | skip)
                                obtain ⟨hx49_0, hf49_0⟩ := Kd.R_celln 0 HO_7.out ((ji43) : Int) p49 q49
                                replace p49 := eq_true p49
                                replace q49 := eq_true q49
                                have HP53 := Kd.R_putg HO_7.out ((ji43) : Int) (Go.bits .xor .u8 (rd t213 (ji43)) (ji48))
                                go_wp2_with (first | ((with_reducible refine gate_store (t := 5) (p := 89) rfl ?_); refine store_event (t := 5) (p := 89) (v := ?vo_w54) (w1 := (wc.setCell ⟨go49, ((ji43) : Int).toNat, none⟩ (.int .u8 (Go.bits .xor .u8 (rd t213 (ji43)) (ji48))))) ?hg ?ho ?hn ?hr ?_; (case ho => rfl); (case hg => rfl); (case hn => rfl); (case hr => first | (go_simp; done) | (go_simp; rfl)); intro w54 hw; have hg : wc.grownBy w54 (some go49) := (by rw [hw]; exact HP53.2); have hp_ : Kd.R (Kd.int .u8) 5 w54 w.heap.size (fun _ => True) (.slice (some ⟨go49, 0, none⟩) t213.length co24) y245 := (by rw [hw, Ny245.out]; exact HP53.1); clear HP53; have n0_ := Aside0.mk (hp_); have n1_ := Aside0.mk ((by rw [hw]; exact below_set (HB.out) GB49.out : Below w.heap.size w w54)); clear HO_7; clear HB; have HO_7 := n0_; have HB := n1_; clear n0_ n1_; clear hg hw hp_) | ((with_reducible refine gate_callee (f := 47) rfl ?_); refine goesL_ (some 92) rfl rfl Try.func47 (by kernel_rfl) rfl #[.slice (some ⟨go49, 0, none⟩) y245.length co24] rfl (by (try simp only [List.map_toArray, List.map_cons, List.map_nil]); first | done | (rw [show y245.length = t213.length from (Kd.R_reads' HO_7.out).1.symm] <;> rfl) | rfl | (simp only [List.length_drop, List.length_take]; rfl)) ?_; (with_reducible refine (codec_Unframe.calls kj21 _ _ y245 t246 t247 t248 _ ?side1 ?side2 A50.out).mono ?_); (case side1 => repeat (first | exact (Kd.R_reads' HO_7.out).2.2 | (with_reducible refine Kd.C_alloc ?_ _) | (with_reducible refine Kd.C_drewN ?_ _) | (with_reducible refine Kd.C_drew ?_))); (case side2 => rw [show y245.length = t213.length from (Kd.R_reads' HO_7.out).1.symm]; exact (Kd.R_reads' HO_7.out).2.1); rintro e w55 ⟨v249, rfl, ho0, hb⟩; refine ⟨_, rfl, ?_⟩; have n0_ := Aside0.mk (Kd.R_elder' (by (with_reducible repeat (first | apply Kd.R_alloc | apply Kd.R_drewN | apply Kd.R_drew)); exact HO_7.out) (Kd.R_base ho0) hb); have n1_ := Aside0.mk (Kd.R_lower (Kd.R_new' ho0 (Kd.R_lt (by (with_reducible repeat (first | apply Kd.R_alloc | apply Kd.R_drewN | apply Kd.R_drew)); exact HO_7.out))) (below_size (by repeat (first | (with_reducible first | exact HB.out | apply below_alloc | apply pw_below_drewN | apply below_drew1) | exact HB.out)))); have n2_ := Aside0.mk (below_step (by repeat (first | (with_reducible first | exact HB.out | apply below_alloc | apply pw_below_drewN | apply below_drew1) | exact HB.out)) hb); clear HO_7; clear HB; have HO_7 := n0_; have HO250 := n1_; have HB := n2_; clear n0_ n1_ n2_; (try clear hb); (try clear hb2); (try clear hk); (try clear hi); (try clear ho0)) | (go_at_call 23; (with_reducible refine (skerrylaw01_lives.calls  t251 _ A52.out).mono ?_); rintro e w56 ⟨rfl, hb⟩; have n0_ := Aside0.mk (Kd.R_below (by (with_reducible repeat (first | apply Kd.R_alloc | apply Kd.R_drewN | apply Kd.R_drew)); exact HO_7.out) hb); have n1_ := Aside0.mk (Kd.R_below (by (with_reducible repeat (first | apply Kd.R_alloc | apply Kd.R_drewN | apply Kd.R_drew)); exact HO250.out) hb); have n2_ := Aside0.mk (below_step (by repeat (first | (with_reducible first | exact HB.out | apply below_alloc | apply pw_below_drewN | apply below_drew1) | exact HB.out)) hb); clear HO_7; clear HO250; clear HB; have HO_7 := n0_; have HO250 := n1_; have HB := n2_; clear n0_ n1_ n2_; (try clear hb); (try clear hb2); (try clear hk); (try clear hi)))
                                go_ret
                                exact ⟨by first | rfl | (simp [errW_none, errW_some] <;> rfl) | (simp only [← hji15, ← hji43, ← hji46, ← hji48]; first | rfl | (simp [errW_none, errW_some] <;> rfl)) | (simp [*, errW_none, errW_some] <;> rfl), by repeat (first | (with_reducible first | exact HB.out | apply below_alloc | apply pw_below_drewN | apply below_drew1) | exact HB.out)⟩
                              · rw [if_neg c51] at H
                                have c51b0 : (t248 == 8) = false := beq_eq_false_iff_ne.mpr c51
                                have c51b1 : (t248 != 8) = true := bne_iff_ne.mpr c51
                                obtain rfl := Option.some.inj H
                                have p244 : 0 ≤ ((ji43) : Int) := of_decide_eq_true (by first | (with_reducible assumption) | assumption)
                                have q244 : (ji43) < (t213.length : Int) := of_decide_eq_true (by first | (with_reducible assumption) | assumption)
                                obtain ⟨ad244, e244, hx244_0⟩ := Kd.at_int (Kd.R_reads' HO_7.out).2.2 (ji43) p244 q244
                                cases e244
                                replace p244 := eq_true p244
                                replace q244 := eq_true q244
                                have p49 : 0 ≤ ((ji43) : Int) := of_decide_eq_true (by first | (with_reducible assumption) | assumption)
                                have q49 : ((ji43) : Int) < ((t213.length : Int) : Int) := of_decide_eq_true (by first | (with_reducible assumption) | assumption)
                                obtain ⟨go49, co49, eo49, gb49, gl49, cl49, HG49⟩ := Kd.R_form HO_7.out (by omega)
                                (first | cases eo49 | (injection eo49 with ea_ en_ ec_; (first | subst ea_ | (injection ea_ with ea_; subst ea_)); subst ec_; clear en_))
                                have GB49 := Aside0.mk gb49
                                have GG49 := Aside0.mk HG49
                                clear gb49 gl49 HG49
                                (first | simp only [add_plain] at hx244_0 | skip)
                                obtain ⟨hx49_0, hf49_0⟩ := Kd.R_celln 0 HO_7.out ((ji43) : Int) p49 q49
                                replace p49 := eq_true p49
                                replace q49 := eq_true q49
                                have HP57 := Kd.R_putg HO_7.out ((ji43) : Int) (Go.bits .xor .u8 (rd t213 (ji43)) (ji48))
                                go_wp2_with (first | ((with_reducible refine gate_store (t := 5) (p := 89) rfl ?_); refine store_event (t := 5) (p := 89) (v := ?vo_w58) (w1 := (wc.setCell ⟨go49, ((ji43) : Int).toNat, none⟩ (.int .u8 (Go.bits .xor .u8 (rd t213 (ji43)) (ji48))))) ?hg ?ho ?hn ?hr ?_; (case ho => rfl); (case hg => rfl); (case hn => rfl); (case hr => first | (go_simp; done) | (go_simp; rfl)); intro w58 hw; have hg : wc.grownBy w58 (some go49) := (by rw [hw]; exact HP57.2); have hp_ : Kd.R (Kd.int .u8) 5 w58 w.heap.size (fun _ => True) (.slice (some ⟨go49, 0, none⟩) t213.length co24) y245 := (by rw [hw, Ny245.out]; exact HP57.1); clear HP57; have n0_ := Aside0.mk (hp_); have n1_ := Aside0.mk ((by rw [hw]; exact below_set (HB.out) GB49.out : Below w.heap.size w w58)); clear HO_7; clear HB; have HO_7 := n0_; have HB := n1_; clear n0_ n1_; clear hg hw hp_) | ((with_reducible refine gate_callee (f := 47) rfl ?_); refine goesL_ (some 92) rfl rfl Try.func47 (by kernel_rfl) rfl #[.slice (some ⟨go49, 0, none⟩) y245.length co24] rfl (by (try simp only [List.map_toArray, List.map_cons, List.map_nil]); first | done | (rw [show y245.length = t213.length from (Kd.R_reads' HO_7.out).1.symm] <;> rfl) | rfl | (simp only [List.length_drop, List.length_take]; rfl)) ?_; (with_reducible refine (codec_Unframe.calls kj21 _ _ y245 t246 t247 t248 _ ?side1 ?side2 A50.out).mono ?_); (case side1 => repeat (first | exact (Kd.R_reads' HO_7.out).2.2 | (with_reducible refine Kd.C_alloc ?_ _) | (with_reducible refine Kd.C_drewN ?_ _) | (with_reducible refine Kd.C_drew ?_))); (case side2 => rw [show y245.length = t213.length from (Kd.R_reads' HO_7.out).1.symm]; exact (Kd.R_reads' HO_7.out).2.1); rintro e w59 ⟨v249, rfl, ho0, hb⟩; refine ⟨_, rfl, ?_⟩; have n0_ := Aside0.mk (Kd.R_elder' (by (with_reducible repeat (first | apply Kd.R_alloc | apply Kd.R_drewN | apply Kd.R_drew)); exact HO_7.out) (Kd.R_base ho0) hb); have n1_ := Aside0.mk (Kd.R_lower (Kd.R_new' ho0 (Kd.R_lt (by (with_reducible repeat (first | apply Kd.R_alloc | apply Kd.R_drewN | apply Kd.R_drew)); exact HO_7.out))) (below_size (by repeat (first | (with_reducible first | exact HB.out | apply below_alloc | apply pw_below_drewN | apply below_drew1) | exact HB.out)))); have n2_ := Aside0.mk (below_step (by repeat (first | (with_reducible first | exact HB.out | apply below_alloc | apply pw_below_drewN | apply below_drew1) | exact HB.out)) hb); clear HO_7; clear HB; have HO_7 := n0_; have HO250 := n1_; have HB := n2_; clear n0_ n1_ n2_; (try clear hb); (try clear hb2); (try clear hk); (try clear hi); (try clear ho0)))
                                go_ret
                                exact ⟨by first | rfl | (simp [errW_none, errW_some] <;> rfl) | (simp only [← hji15, ← hji43, ← hji46, ← hji48]; first | rfl | (simp [errW_none, errW_some] <;> rfl)) | (simp [*, errW_none, errW_some] <;> rfl), by repeat (first | (with_reducible first | exact HB.out | apply below_alloc | apply pw_below_drewN | apply below_drew1) | exact HB.out)⟩
                            · rw [if_neg c47] at H
                              exact absurd H (by simp)
                          · rw [if_neg c45] at H
                            exact absurd H (by simp)
                        · rw [if_neg c44] at H
                          exact absurd H (by simp)
              · rw [if_neg c20] at H
                exact absurd H (by simp)
            · rw [if_neg c19] at H
              exact absurd H (by simp)
          · rw [if_neg c17] at H
            exact absurd H (by simp)
        · rw [if_neg c16] at H
          exact absurd H (by simp)
    · rw [if_neg c13] at H
      have c13b0 : ((t213.length : Int) == (wrap64 ((l0.length : Int) + 8))) = false := beq_eq_false_iff_ne.mpr c13
      have c13b1 : ((t213.length : Int) != (wrap64 ((l0.length : Int) + 8))) = true := bne_iff_ne.mpr c13
      (try (have c13b2 : ((t213.length : Int) == (IntKind.i64.wrap ((l0.length : Int) + 8))) = false := by simp only [i64_w, i32_w]; exact beq_eq_false_iff_ne.mpr c13))
      (try (have c13b3 : ((t213.length : Int) != (IntKind.i64.wrap ((l0.length : Int) + 8))) = true := by simp only [i64_w, i32_w]; exact bne_iff_ne.mpr c13))
      obtain rfl := Option.some.inj H
      go_enter Try.func10, Try.ntmps10
      go_wp2_with (first | ((with_reducible refine gate_callee (f := 51) rfl ?_); refine goesL_ (some 16) rfl rfl Try.func51 (by kernel_rfl) rfl #[.slice A0 l0.length c0] rfl (by (try simp only [List.map_toArray, List.map_cons, List.map_nil]); first | done | rfl | (simp only [List.length_drop, List.length_take]; rfl)) ?_; (with_reducible refine (codec_Frame.calls k _ _ l0 t213 _ ?side1 ?side2 A4.out).mono ?_); (case side1 => repeat (first | exact HR0.out | (with_reducible refine Kd.C_alloc ?_ _) | (with_reducible refine Kd.C_drewN ?_ _) | (with_reducible refine Kd.C_drew ?_))); (case side2 => exact HC0.out); rintro e w60 ⟨v214, rfl, ho0, hb⟩; refine ⟨_, rfl, ?_⟩; have n0_ := Aside0.mk (Kd.R_lower ho0 (below_size (by repeat (first | (with_reducible first | exact HB.out | apply below_alloc | apply pw_below_drewN | apply below_drew1) | exact HB.out)))); have n1_ := Aside0.mk (below_step (by repeat (first | (with_reducible first | exact HB.out | apply below_alloc | apply pw_below_drewN | apply below_drew1) | exact HB.out)) hb); clear HB; have HO215 := n0_; have HB := n1_; clear n0_ n1_; (try clear hb); (try clear hb2); (try clear hk); (try clear hi); (try clear ho0); obtain ⟨Ao61, co61, eo61⟩ := Kd.R_slice HO215.out; subst eo61))
      go_ret
      exact ⟨by first | rfl | (simp [errW_none, errW_some] <;> rfl) | (simp [*, errW_none, errW_some] <;> rfl), by repeat (first | (with_reducible first | exact HB.out | apply below_alloc | apply pw_below_drewN | apply below_drew1) | exact HB.out)⟩

/-- THE ONE PURE STATEMENT of skerrylaw01_CodecTells: yours. -/
def skerrylaw01_CodecTells.Pure : Prop := ∀ (l0 : List Int) (a1 : Int) (a2 : Int), l0.length ≤ maxLen → l0.length * 1 ≤ 140737488351232 → (∀ x ∈ l0, (Lit.int .u8 x).wf = true) → (Lit.int .u64 a1).wf = true → (Lit.int .u64 a2).wf = true → ∃ k, skerrylaw01_CodecTells.f k l0 a1 a2 = some true
theorem skerrylaw01_CodecTells.walk (P : skerrylaw01_CodecTells.Pure) (a0 : Option Addr) (len0 cap0 : Nat) (z0 : List Int) (a1 : Int) (a2 : Int) (w : World) (w0 : (a0 = none ∧ len0 = 0 ∧ cap0 = 0 ∧ z0 = []) ∨ ∃ x, a0 = some x ∧ len0 ≤ cap0 ∧ cap0 ≤ maxLen ∧ z0.length = cap0 ∧ (∀ i, i < z0.length → w.cell? (x.add i) = some (.int .u8 (z0.getD i 0))) ∧ ∀ n ∈ z0, (Lit.int .u8 n).wf = true) (y0 : len0 * 1 ≤ 140737488351232) (w1 : (Lit.int .u64 a1).wf = true) (w2 : (Lit.int .u64 a2).wf = true) :
    Calls Try.prog 10 #[.slice a0 len0 cap0, .int .u64 a1, .int .u64 a2] w fun e w' => e = .returned (.bool true) ∧ Below w.heap.size w w' := by
  obtain ⟨l0, rfl, hr0, hm0, hw0, hc0⟩ := ReadsInt.ofRowC w0
  obtain ⟨k, h⟩ := P l0 a1 a2 hm0 y0 hw0 w1 w2
  refine (skerrylaw01_CodecTells.calls k _ _ l0 a1 a2 true w (Kd.C_of_reads (d := (0 : Int)) (h1 := fun _ => rfl) hr0) hc0 h).mono ?_
  rintro e w' ⟨rfl, hd⟩
  exact ⟨rfl, hd⟩

end Go.Proofs.Ytcopbkdlpfcjpaa.C
