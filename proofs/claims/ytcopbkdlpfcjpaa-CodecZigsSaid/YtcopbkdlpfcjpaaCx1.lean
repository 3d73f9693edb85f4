-- Written by a program of this session (mk.sh, mypatch.py)
import Derived.Test.YtcopbkdlpfcjpaaCx0
namespace Go.Proofs.Ytcopbkdlpfcjpaa.C
open Go.RowKit Go.Proofs.YtcopbkdlpfcjpaaW.PrintWords Go.Proofs.YtcopbkdlpfcjpaaW.PrintLast Go.Proofs.YtcopbkdlpfcjpaaW.PrintMore Go.Proofs.Ytcopbkdlpfcjpaa.B Go.Proofs.Ytcopbkdlpfcjpaa.H
attribute [local go_sem] max2_int min2_int max_two min_two max_three min_three max_four min_four   -- for this text's walks alone
set_option linter.unusedVariables false
set_option linter.unusedSimpArgs false

/-! ### skerrylaw01_CodecZigs: function 3 -/
def skerrylaw01_CodecZigs.f (a0 : Int) (a1 : Int) : Option (Bool) := (codec_Zig.f a0).bind fun t101 => ((codec_Zag.f t101).bind fun t102 => (if t102 = a0 then ((codec_Zag.f a1).bind fun t103 => ((codec_Zig.f t103).bind fun t104 => (if t104 = a1 then (if (((Int.tmod t101 2) == 1) != (decide (a0 < 0))) = true then (some false) else (if a0 < 0 then (if a0 ≥ 0 then ((skerrylaw01_lives.f).bind fun t105 => (some t105)) else (if (IntKind.u64.wrap (Int.tdiv t101 2)) = (IntKind.u64.wrap (wrap64 (-(wrap64 (a0 + 1))))) then ((skerrylaw01_lives.f).bind fun t106 => (some t106)) else (some false))) else (if (IntKind.u64.wrap (Int.tdiv t101 2)) = (IntKind.u64.wrap (a0)) then (if a0 ≥ 0 then ((skerrylaw01_lives.f).bind fun t107 => (some t107)) else (if (IntKind.u64.wrap (Int.tdiv t101 2)) = (IntKind.u64.wrap (wrap64 (-(wrap64 (a0 + 1))))) then ((skerrylaw01_lives.f).bind fun t108 => (some t108)) else (some false))) else (some false)))) else (some false)))) else (some false)))
set_option maxHeartbeats 8000000 in
set_option maxRecDepth 100000 in
theorem skerrylaw01_CodecZigs.calls (a0 : Int) (a1 : Int) (r : Bool) (w : World) (h : skerrylaw01_CodecZigs.f a0 a1 = some r) :
    Calls Try.prog 3 #[.int .i64 a0, .int .u64 a1] w fun e w' => e = .returned (.bool r) ∧ Below w.heap.size w w' := by
  have HB := Aside0.mk (Below.refl w.heap.size w)
  have H : ((codec_Zig.f a0).bind fun t101 => ((codec_Zag.f t101).bind fun t102 => (if t102 = a0 then ((codec_Zag.f a1).bind fun t103 => ((codec_Zig.f t103).bind fun t104 => (if t104 = a1 then (if (((Int.tmod t101 2) == 1) != (decide (a0 < 0))) = true then (some false) else (if a0 < 0 then (if a0 ≥ 0 then ((skerrylaw01_lives.f).bind fun t105 => (some t105)) else (if (IntKind.u64.wrap (Int.tdiv t101 2)) = (IntKind.u64.wrap (wrap64 (-(wrap64 (a0 + 1))))) then ((skerrylaw01_lives.f).bind fun t106 => (some t106)) else (some false))) else (if (IntKind.u64.wrap (Int.tdiv t101 2)) = (IntKind.u64.wrap (a0)) then (if a0 ≥ 0 then ((skerrylaw01_lives.f).bind fun t107 => (some t107)) else (if (IntKind.u64.wrap (Int.tdiv t101 2)) = (IntKind.u64.wrap (wrap64 (-(wrap64 (a0 + 1))))) then ((skerrylaw01_lives.f).bind fun t108 => (some t108)) else (some false))) else (some false)))) else (some false)))) else (some false)))) = some r := h
  clear h
  replace H := Option.bind_eq_some_iff.mp H
  obtain ⟨t101, A30, H⟩ := H
  replace H : ((codec_Zag.f t101).bind fun t102 => (if t102 = a0 then ((codec_Zag.f a1).bind fun t103 => ((codec_Zig.f t103).bind fun t104 => (if t104 = a1 then (if (((Int.tmod t101 2) == 1) != (decide (a0 < 0))) = true then (some false) else (if a0 < 0 then (if a0 ≥ 0 then ((skerrylaw01_lives.f).bind fun t105 => (some t105)) else (if (IntKind.u64.wrap (Int.tdiv t101 2)) = (IntKind.u64.wrap (wrap64 (-(wrap64 (a0 + 1))))) then ((skerrylaw01_lives.f).bind fun t106 => (some t106)) else (some false))) else (if (IntKind.u64.wrap (Int.tdiv t101 2)) = (IntKind.u64.wrap (a0)) then (if a0 ≥ 0 then ((skerrylaw01_lives.f).bind fun t107 => (some t107)) else (if (IntKind.u64.wrap (Int.tdiv t101 2)) = (IntKind.u64.wrap (wrap64 (-(wrap64 (a0 + 1))))) then ((skerrylaw01_lives.f).bind fun t108 => (some t108)) else (some false))) else (some false)))) else (some false)))) else (some false))) = some r := H
  have A3 := Aside0.mk A30
  clear A30
  replace H := Option.bind_eq_some_iff.mp H
  obtain ⟨t102, A40, H⟩ := H
  replace H : (if t102 = a0 then ((codec_Zag.f a1).bind fun t103 => ((codec_Zig.f t103).bind fun t104 => (if t104 = a1 then (if (((Int.tmod t101 2) == 1) != (decide (a0 < 0))) = true then (some false) else (if a0 < 0 then (if a0 ≥ 0 then ((skerrylaw01_lives.f).bind fun t105 => (some t105)) else (if (IntKind.u64.wrap (Int.tdiv t101 2)) = (IntKind.u64.wrap (wrap64 (-(wrap64 (a0 + 1))))) then ((skerrylaw01_lives.f).bind fun t106 => (some t106)) else (some false))) else (if (IntKind.u64.wrap (Int.tdiv t101 2)) = (IntKind.u64.wrap (a0)) then (if a0 ≥ 0 then ((skerrylaw01_lives.f).bind fun t107 => (some t107)) else (if (IntKind.u64.wrap (Int.tdiv t101 2)) = (IntKind.u64.wrap (wrap64 (-(wrap64 (a0 + 1))))) then ((skerrylaw01_lives.f).bind fun t108 => (some t108)) else (some false))) else (some false)))) else (some false)))) else (some false)) = some r := H
  have A4 := Aside0.mk A40
  clear A40
  by_cases c5 : t102 = a0
  · rw [if_pos c5] at H
    have c5b0 : (t102 == a0) = true := beq_iff_eq.mpr c5
    have c5b1 : (t102 != a0) = false := bne_eq_false_iff_eq.mpr c5
    clear c5
    replace H := Option.bind_eq_some_iff.mp H
    obtain ⟨t103, A60, H⟩ := H
    replace H : ((codec_Zig.f t103).bind fun t104 => (if t104 = a1 then (if (((Int.tmod t101 2) == 1) != (decide (a0 < 0))) = true then (some false) else (if a0 < 0 then (if a0 ≥ 0 then ((skerrylaw01_lives.f).bind fun t105 => (some t105)) else (if (IntKind.u64.wrap (Int.tdiv t101 2)) = (IntKind.u64.wrap (wrap64 (-(wrap64 (a0 + 1))))) then ((skerrylaw01_lives.f).bind fun t106 => (some t106)) else (some false))) else (if (IntKind.u64.wrap (Int.tdiv t101 2)) = (IntKind.u64.wrap (a0)) then (if a0 ≥ 0 then ((skerrylaw01_lives.f).bind fun t107 => (some t107)) else (if (IntKind.u64.wrap (Int.tdiv t101 2)) = (IntKind.u64.wrap (wrap64 (-(wrap64 (a0 + 1))))) then ((skerrylaw01_lives.f).bind fun t108 => (some t108)) else (some false))) else (some false)))) else (some false))) = some r := H
    have A6 := Aside0.mk A60
    clear A60
    replace H := Option.bind_eq_some_iff.mp H
    obtain ⟨t104, A70, H⟩ := H
    replace H : (if t104 = a1 then (if (((Int.tmod t101 2) == 1) != (decide (a0 < 0))) = true then (some false) else (if a0 < 0 then (if a0 ≥ 0 then ((skerrylaw01_lives.f).bind fun t105 => (some t105)) else (if (IntKind.u64.wrap (Int.tdiv t101 2)) = (IntKind.u64.wrap (wrap64 (-(wrap64 (a0 + 1))))) then ((skerrylaw01_lives.f).bind fun t106 => (some t106)) else (some false))) else (if (IntKind.u64.wrap (Int.tdiv t101 2)) = (IntKind.u64.wrap (a0)) then (if a0 ≥ 0 then ((skerrylaw01_lives.f).bind fun t107 => (some t107)) else (if (IntKind.u64.wrap (Int.tdiv t101 2)) = (IntKind.u64.wrap (wrap64 (-(wrap64 (a0 + 1))))) then ((skerrylaw01_lives.f).bind fun t108 => (some t108)) else (some false))) else (some false)))) else (some false)) = some r := H
    have A7 := Aside0.mk A70
    clear A70
    by_cases c8 : t104 = a1
    · rw [if_pos c8] at H
      have c8b0 : (t104 == a1) = true := beq_iff_eq.mpr c8
      have c8b1 : (t104 != a1) = false := bne_eq_false_iff_eq.mpr c8
      clear c8
      by_cases c9 : (((Int.tmod t101 2) == 1) != (decide (a0 < 0))) = true
      · rw [if_pos c9] at H
        have c9b0 : (((Int.tmod t101 2) == 1) != (decide (a0 < 0))) = true := c9
        (try (have c9b1 : decide (((Int.tmod t101 2) == 1) = (decide (a0 < 0))) = false := by simpa using c9))
        (try (have c9b2 : (((Int.tmod t101 2) == 1) == (decide (a0 < 0))) = false := by simpa using c9))
        (try (have c9b3 : ¬ (((Int.tmod t101 2) == 1) = (decide (a0 < 0))) := by simpa using c9))
        clear c9
        obtain rfl := Option.some.inj H
        go_enter Try.func3, Try.ntmps3
        go_wp2_with (first | ((with_reducible refine gate_callee (f := 21) rfl ?_); refine goesL_ (some 7) rfl rfl Try.func21 (by kernel_rfl) rfl #[.int .i64 a0] rfl (by (try simp only [List.map_toArray, List.map_cons, List.map_nil]); first | done | rfl | (simp only [List.length_drop, List.length_take]; rfl)) ?_; (with_reducible refine (codec_Zig.calls a0 t101 _ A3.out).mono ?_); rintro e w' ⟨rfl, ⟨nd, rfl⟩⟩; refine ⟨_, rfl, ?_⟩) | ((with_reducible refine gate_callee (f := 22) rfl ?_); refine goesL_ (some 9) rfl rfl Try.func22 (by kernel_rfl) rfl #[.int .u64 t101] rfl (by (try simp only [List.map_toArray, List.map_cons, List.map_nil]); first | done | rfl | (simp only [List.length_drop, List.length_take]; rfl)) ?_; (with_reducible refine (codec_Zag.calls t101 t102 _ A4.out).mono ?_); rintro e w' ⟨rfl, ⟨nd, rfl⟩⟩; refine ⟨_, rfl, ?_⟩) | (go_at_call 22; (with_reducible refine (codec_Zag.calls a1 t103 _ A6.out).mono ?_); rintro e w' ⟨rfl, ⟨nd, rfl⟩⟩) | (go_at_call 21; (with_reducible refine (codec_Zig.calls t103 t104 _ A7.out).mono ?_); rintro e w' ⟨rfl, ⟨nd, rfl⟩⟩))
        go_ret
        exact ⟨by first | rfl | (simp [errW_none, errW_some] <;> rfl) | (simp [*, errW_none, errW_some] <;> rfl), by repeat (first | (with_reducible first | exact HB.out | apply below_alloc | apply pw_below_drewN | apply below_drew1) | exact HB.out)⟩
      · rw [if_neg c9] at H
        have c9b0 : (((Int.tmod t101 2) == 1) != (decide (a0 < 0))) = false := by simpa using c9
        (try (have c9b1 : decide (((Int.tmod t101 2) == 1) = (decide (a0 < 0))) = true := by simpa using c9))
        (try (have c9b2 : (((Int.tmod t101 2) == 1) == (decide (a0 < 0))) = true := by simpa using c9))
        clear c9
        by_cases c10 : a0 < 0
        · rw [if_pos c10] at H
          have c10b0 : decide (a0 < 0) = true := decide_eq_true c10
          have c9x : (Int.tmod t101 2 == 1) = true := by simpa [c10b0] using c9b0
          clear c10
          by_cases c11 : a0 ≥ 0
          · rw [if_pos c11] at H
            have c11b0 : decide (0 ≤ a0) = true := decide_eq_true c11
            clear c11
            replace H := Option.bind_eq_some_iff.mp H
            obtain ⟨t105, A120, H⟩ := H
            replace H : (some t105) = some r := H
            have A12 := Aside0.mk A120
            clear A120
            obtain rfl := Option.some.inj H
            exact absurd (of_decide_eq_true c10b0) (by have := of_decide_eq_true c11b0; omega)
          · rw [if_neg c11] at H
            have c11b0 : decide (0 ≤ a0) = false := decide_eq_false c11
            clear c11
            by_cases c14 : (IntKind.u64.wrap (Int.tdiv t101 2)) = (IntKind.u64.wrap (wrap64 (-(wrap64 (a0 + 1)))))
            · rw [if_pos c14] at H
              have c14b0 : ((IntKind.u64.wrap (Int.tdiv t101 2)) == (IntKind.u64.wrap (wrap64 (-(wrap64 (a0 + 1)))))) = true := beq_iff_eq.mpr c14
              have c14b1 : ((IntKind.u64.wrap (Int.tdiv t101 2)) != (IntKind.u64.wrap (wrap64 (-(wrap64 (a0 + 1)))))) = false := bne_eq_false_iff_eq.mpr c14
              (try (have c14b2 : ((IntKind.u64.wrap (Int.tdiv t101 2)) == (IntKind.u64.wrap (IntKind.i64.wrap (-(IntKind.i64.wrap (a0 + 1)))))) = true := by simp only [i64_w, i32_w]; exact beq_iff_eq.mpr c14))
              (try (have c14b3 : ((IntKind.u64.wrap (Int.tdiv t101 2)) != (IntKind.u64.wrap (IntKind.i64.wrap (-(IntKind.i64.wrap (a0 + 1)))))) = false := by simp only [i64_w, i32_w]; exact bne_eq_false_iff_eq.mpr c14))
              clear c14
              replace H := Option.bind_eq_some_iff.mp H
              obtain ⟨t106, A150, H⟩ := H
              replace H : (some t106) = some r := H
              have A15 := Aside0.mk A150
              clear A150
              obtain rfl := Option.some.inj H
              go_enter Try.func3, Try.ntmps3
              go_wp2_with (first | ((with_reducible refine gate_callee (f := 21) rfl ?_); refine goesL_ (some 7) rfl rfl Try.func21 (by kernel_rfl) rfl #[.int .i64 a0] rfl (by (try simp only [List.map_toArray, List.map_cons, List.map_nil]); first | done | rfl | (simp only [List.length_drop, List.length_take]; rfl)) ?_; (with_reducible refine (codec_Zig.calls a0 t101 _ A3.out).mono ?_); rintro e w' ⟨rfl, ⟨nd, rfl⟩⟩; refine ⟨_, rfl, ?_⟩) | ((with_reducible refine gate_callee (f := 22) rfl ?_); refine goesL_ (some 9) rfl rfl Try.func22 (by kernel_rfl) rfl #[.int .u64 t101] rfl (by (try simp only [List.map_toArray, List.map_cons, List.map_nil]); first | done | rfl | (simp only [List.length_drop, List.length_take]; rfl)) ?_; (with_reducible refine (codec_Zag.calls t101 t102 _ A4.out).mono ?_); rintro e w' ⟨rfl, ⟨nd, rfl⟩⟩; refine ⟨_, rfl, ?_⟩) | (go_at_call 22; (with_reducible refine (codec_Zag.calls a1 t103 _ A6.out).mono ?_); rintro e w' ⟨rfl, ⟨nd, rfl⟩⟩) | (go_at_call 21; (with_reducible refine (codec_Zig.calls t103 t104 _ A7.out).mono ?_); rintro e w' ⟨rfl, ⟨nd, rfl⟩⟩) | (go_at_call 23; (with_reducible refine (skerrylaw01_lives.calls  t106 _ A15.out).mono ?_); rintro e w16 ⟨rfl, hb⟩; have n0_ := Aside0.mk (below_step (by repeat (first | (with_reducible first | exact HB.out | apply below_alloc | apply pw_below_drewN | apply below_drew1) | exact HB.out)) hb); clear HB; have HB := n0_; clear n0_; (try clear hb); (try clear hb2); (try clear hk); (try clear hi)))
              go_ret
              exact ⟨by first | rfl | (simp [errW_none, errW_some] <;> rfl) | (simp [*, errW_none, errW_some] <;> rfl), by repeat (first | (with_reducible first | exact HB.out | apply below_alloc | apply pw_below_drewN | apply below_drew1) | exact HB.out)⟩
            · rw [if_neg c14] at H
              have c14b0 : ((IntKind.u64.wrap (Int.tdiv t101 2)) == (IntKind.u64.wrap (wrap64 (-(wrap64 (a0 + 1)))))) = false := beq_eq_false_iff_ne.mpr c14
              have c14b1 : ((IntKind.u64.wrap (Int.tdiv t101 2)) != (IntKind.u64.wrap (wrap64 (-(wrap64 (a0 + 1)))))) = true := bne_iff_ne.mpr c14
              (try (have c14b2 : ((IntKind.u64.wrap (Int.tdiv t101 2)) == (IntKind.u64.wrap (IntKind.i64.wrap (-(IntKind.i64.wrap (a0 + 1)))))) = false := by simp only [i64_w, i32_w]; exact beq_eq_false_iff_ne.mpr c14))
              (try (have c14b3 : ((IntKind.u64.wrap (Int.tdiv t101 2)) != (IntKind.u64.wrap (IntKind.i64.wrap (-(IntKind.i64.wrap (a0 + 1)))))) = true := by simp only [i64_w, i32_w]; exact bne_iff_ne.mpr c14))
              obtain rfl := Option.some.inj H
              go_enter Try.func3, Try.ntmps3
              go_wp2_with (first | ((with_reducible refine gate_callee (f := 21) rfl ?_); refine goesL_ (some 7) rfl rfl Try.func21 (by kernel_rfl) rfl #[.int .i64 a0] rfl (by (try simp only [List.map_toArray, List.map_cons, List.map_nil]); first | done | rfl | (simp only [List.length_drop, List.length_take]; rfl)) ?_; (with_reducible refine (codec_Zig.calls a0 t101 _ A3.out).mono ?_); rintro e w' ⟨rfl, ⟨nd, rfl⟩⟩; refine ⟨_, rfl, ?_⟩) | ((with_reducible refine gate_callee (f := 22) rfl ?_); refine goesL_ (some 9) rfl rfl Try.func22 (by kernel_rfl) rfl #[.int .u64 t101] rfl (by (try simp only [List.map_toArray, List.map_cons, List.map_nil]); first | done | rfl | (simp only [List.length_drop, List.length_take]; rfl)) ?_; (with_reducible refine (codec_Zag.calls t101 t102 _ A4.out).mono ?_); rintro e w' ⟨rfl, ⟨nd, rfl⟩⟩; refine ⟨_, rfl, ?_⟩) | (go_at_call 22; (with_reducible refine (codec_Zag.calls a1 t103 _ A6.out).mono ?_); rintro e w' ⟨rfl, ⟨nd, rfl⟩⟩) | (go_at_call 21; (with_reducible refine (codec_Zig.calls t103 t104 _ A7.out).mono ?_); rintro e w' ⟨rfl, ⟨nd, rfl⟩⟩))
              go_ret
              exact ⟨by first | rfl | (simp [errW_none, errW_some] <;> rfl) | (simp [*, errW_none, errW_some] <;> rfl), by repeat (first | (with_reducible first | exact HB.out | apply below_alloc | apply pw_below_drewN | apply below_drew1) | exact HB.out)⟩
        · rw [if_neg c10] at H
          have c10b0 : decide (a0 < 0) = false := decide_eq_false c10
          have c9x : (Int.tmod t101 2 == 1) = false := by simpa [c10b0] using c9b0
          clear c10
          by_cases c17 : (IntKind.u64.wrap (Int.tdiv t101 2)) = (IntKind.u64.wrap (a0))
          · rw [if_pos c17] at H
            have c17b0 : ((IntKind.u64.wrap (Int.tdiv t101 2)) == (IntKind.u64.wrap (a0))) = true := beq_iff_eq.mpr c17
            have c17b1 : ((IntKind.u64.wrap (Int.tdiv t101 2)) != (IntKind.u64.wrap (a0))) = false := bne_eq_false_iff_eq.mpr c17
            clear c17
            by_cases c18 : a0 ≥ 0
            · rw [if_pos c18] at H
              have c18b0 : decide (0 ≤ a0) = true := decide_eq_true c18
              clear c18
              replace H := Option.bind_eq_some_iff.mp H
              obtain ⟨t107, A190, H⟩ := H
              replace H : (some t107) = some r := H
              have A19 := Aside0.mk A190
              clear A190
              obtain rfl := Option.some.inj H
              go_enter Try.func3, Try.ntmps3
              go_wp2_with (first | ((with_reducible refine gate_callee (f := 21) rfl ?_); refine goesL_ (some 7) rfl rfl Try.func21 (by kernel_rfl) rfl #[.int .i64 a0] rfl (by (try simp only [List.map_toArray, List.map_cons, List.map_nil]); first | done | rfl | (simp only [List.length_drop, List.length_take]; rfl)) ?_; (with_reducible refine (codec_Zig.calls a0 t101 _ A3.out).mono ?_); rintro e w' ⟨rfl, ⟨nd, rfl⟩⟩; refine ⟨_, rfl, ?_⟩) | ((with_reducible refine gate_callee (f := 22) rfl ?_); refine goesL_ (some 9) rfl rfl Try.func22 (by kernel_rfl) rfl #[.int .u64 t101] rfl (by (try simp only [List.map_toArray, List.map_cons, List.map_nil]); first | done | rfl | (simp only [List.length_drop, List.length_take]; rfl)) ?_; (with_reducible refine (codec_Zag.calls t101 t102 _ A4.out).mono ?_); rintro e w' ⟨rfl, ⟨nd, rfl⟩⟩; refine ⟨_, rfl, ?_⟩) | (go_at_call 22; (with_reducible refine (codec_Zag.calls a1 t103 _ A6.out).mono ?_); rintro e w' ⟨rfl, ⟨nd, rfl⟩⟩) | (go_at_call 21; (with_reducible refine (codec_Zig.calls t103 t104 _ A7.out).mono ?_); rintro e w' ⟨rfl, ⟨nd, rfl⟩⟩) | (go_at_call 23; (with_reducible refine (skerrylaw01_lives.calls  t107 _ A19.out).mono ?_); rintro e w20 ⟨rfl, hb⟩; have n0_ := Aside0.mk (below_step (by repeat (first | (with_reducible first | exact HB.out | apply below_alloc | apply pw_below_drewN | apply below_drew1) | exact HB.out)) hb); clear HB; have HB := n0_; clear n0_; (try clear hb); (try clear hb2); (try clear hk); (try clear hi)))
              go_ret
              exact ⟨by first | rfl | (simp [errW_none, errW_some] <;> rfl) | (simp [*, errW_none, errW_some] <;> rfl), by repeat (first | (with_reducible first | exact HB.out | apply below_alloc | apply pw_below_drewN | apply below_drew1) | exact HB.out)⟩
            · rw [if_neg c18] at H
              have c18b0 : decide (0 ≤ a0) = false := decide_eq_false c18
              clear c18
              exact absurd (of_decide_eq_false c10b0) (by have := of_decide_eq_false c18b0; omega)
          · rw [if_neg c17] at H
            have c17b0 : ((IntKind.u64.wrap (Int.tdiv t101 2)) == (IntKind.u64.wrap (a0))) = false := beq_eq_false_iff_ne.mpr c17
            have c17b1 : ((IntKind.u64.wrap (Int.tdiv t101 2)) != (IntKind.u64.wrap (a0))) = true := bne_iff_ne.mpr c17
            obtain rfl := Option.some.inj H
            go_enter Try.func3, Try.ntmps3
            go_wp2_with (first | ((with_reducible refine gate_callee (f := 21) rfl ?_); refine goesL_ (some 7) rfl rfl Try.func21 (by kernel_rfl) rfl #[.int .i64 a0] rfl (by (try simp only [List.map_toArray, List.map_cons, List.map_nil]); first | done | rfl | (simp only [List.length_drop, List.length_take]; rfl)) ?_; (with_reducible refine (codec_Zig.calls a0 t101 _ A3.out).mono ?_); rintro e w' ⟨rfl, ⟨nd, rfl⟩⟩; refine ⟨_, rfl, ?_⟩) | ((with_reducible refine gate_callee (f := 22) rfl ?_); refine goesL_ (some 9) rfl rfl Try.func22 (by kernel_rfl) rfl #[.int .u64 t101] rfl (by (try simp only [List.map_toArray, List.map_cons, List.map_nil]); first | done | rfl | (simp only [List.length_drop, List.length_take]; rfl)) ?_; (with_reducible refine (codec_Zag.calls t101 t102 _ A4.out).mono ?_); rintro e w' ⟨rfl, ⟨nd, rfl⟩⟩; refine ⟨_, rfl, ?_⟩) | (go_at_call 22; (with_reducible refine (codec_Zag.calls a1 t103 _ A6.out).mono ?_); rintro e w' ⟨rfl, ⟨nd, rfl⟩⟩) | (go_at_call 21; (with_reducible refine (codec_Zig.calls t103 t104 _ A7.out).mono ?_); rintro e w' ⟨rfl, ⟨nd, rfl⟩⟩))
            go_ret
            exact ⟨by first | rfl | (simp [errW_none, errW_some] <;> rfl) | (simp [*, errW_none, errW_some] <;> rfl), by repeat (first | (with_reducible first | exact HB.out | apply below_alloc | apply pw_below_drewN | apply below_drew1) | exact HB.out)⟩
    · rw [if_neg c8] at H
      have c8b0 : (t104 == a1) = false := beq_eq_false_iff_ne.mpr c8
      have c8b1 : (t104 != a1) = true := bne_iff_ne.mpr c8
      obtain rfl := Option.some.inj H
      go_enter Try.func3, Try.ntmps3
      go_wp2_with (first | ((with_reducible refine gate_callee (f := 21) rfl ?_); refine goesL_ (some 7) rfl rfl Try.func21 (by kernel_rfl) rfl #[.int .i64 a0] rfl (by (try simp only [List.map_toArray, List.map_cons, List.map_nil]); first | done | rfl | (simp only [List.length_drop, List.length_take]; rfl)) ?_; (with_reducible refine (codec_Zig.calls a0 t101 _ A3.out).mono ?_); rintro e w' ⟨rfl, ⟨nd, rfl⟩⟩; refine ⟨_, rfl, ?_⟩) | ((with_reducible refine gate_callee (f := 22) rfl ?_); refine goesL_ (some 9) rfl rfl Try.func22 (by kernel_rfl) rfl #[.int .u64 t101] rfl (by (try simp only [List.map_toArray, List.map_cons, List.map_nil]); first | done | rfl | (simp only [List.length_drop, List.length_take]; rfl)) ?_; (with_reducible refine (codec_Zag.calls t101 t102 _ A4.out).mono ?_); rintro e w' ⟨rfl, ⟨nd, rfl⟩⟩; refine ⟨_, rfl, ?_⟩) | (go_at_call 22; (with_reducible refine (codec_Zag.calls a1 t103 _ A6.out).mono ?_); rintro e w' ⟨rfl, ⟨nd, rfl⟩⟩) | (go_at_call 21; (with_reducible refine (codec_Zig.calls t103 t104 _ A7.out).mono ?_); rintro e w' ⟨rfl, ⟨nd, rfl⟩⟩))
      go_ret
      exact ⟨by first | rfl | (simp [errW_none, errW_some] <;> rfl) | (simp [*, errW_none, errW_some] <;> rfl), by repeat (first | (with_reducible first | exact HB.out | apply below_alloc | apply pw_below_drewN | apply below_drew1) | exact HB.out)⟩
  · rw [if_neg c5] at H
    have c5b0 : (t102 == a0) = false := beq_eq_false_iff_ne.mpr c5
    have c5b1 : (t102 != a0) = true := bne_iff_ne.mpr c5
    obtain rfl := Option.some.inj H
    go_enter Try.func3, Try.ntmps3
    go_wp2_with (first | ((with_reducible refine gate_callee (f := 21) rfl ?_); refine goesL_ (some 7) rfl rfl Try.func21 (by kernel_rfl) rfl #[.int .i64 a0] rfl (by (try simp only [List.map_toArray, List.map_cons, List.map_nil]); first | done | rfl | (simp only [List.length_drop, List.length_take]; rfl)) ?_; (with_reducible refine (codec_Zig.calls a0 t101 _ A3.out).mono ?_); rintro e w' ⟨rfl, ⟨nd, rfl⟩⟩; refine ⟨_, rfl, ?_⟩) | ((with_reducible refine gate_callee (f := 22) rfl ?_); refine goesL_ (some 9) rfl rfl Try.func22 (by kernel_rfl) rfl #[.int .u64 t101] rfl (by (try simp only [List.map_toArray, List.map_cons, List.map_nil]); first | done | rfl | (simp only [List.length_drop, List.length_take]; rfl)) ?_; (with_reducible refine (codec_Zag.calls t101 t102 _ A4.out).mono ?_); rintro e w' ⟨rfl, ⟨nd, rfl⟩⟩; refine ⟨_, rfl, ?_⟩))
    go_ret
    exact ⟨by first | rfl | (simp [errW_none, errW_some] <;> rfl) | (simp [*, errW_none, errW_some] <;> rfl), by repeat (first | (with_reducible first | exact HB.out | apply below_alloc | apply pw_below_drewN | apply below_drew1) | exact HB.out)⟩

/-- THE ONE PURE STATEMENT of skerrylaw01_CodecZigs: yours. -/
def skerrylaw01_CodecZigs.Pure : Prop := ∀ (a0 : Int) (a1 : Int), (Lit.int .i64 a0).wf = true → (Lit.int .u64 a1).wf = true → skerrylaw01_CodecZigs.f a0 a1 = some true
theorem skerrylaw01_CodecZigs.walk (P : skerrylaw01_CodecZigs.Pure) (a0 : Int) (a1 : Int) (w : World) (w0 : (Lit.int .i64 a0).wf = true) (w1 : (Lit.int .u64 a1).wf = true) :
    Calls Try.prog 3 #[.int .i64 a0, .int .u64 a1] w fun e w' => e = .returned (.bool true) ∧ Below w.heap.size w w' := by
  have h := P a0 a1 w0 w1
  refine (skerrylaw01_CodecZigs.calls a0 a1 true w h).mono ?_
  rintro e w' ⟨rfl, hd⟩
  exact ⟨rfl, hd⟩

end Go.Proofs.Ytcopbkdlpfcjpaa.C
