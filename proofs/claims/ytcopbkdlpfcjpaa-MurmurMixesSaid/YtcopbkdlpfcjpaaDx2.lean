-- Written by a program of this session (mk.sh, mypatch.py)
import Derived.Test.YtcopbkdlpfcjpaaDx0
import Derived.Test.YtcopbkdlpfcjpaaDx1
namespace Go.Proofs.Ytcopbkdlpfcjpaa.D
open Go.RowKit Go.Proofs.YtcopbkdlpfcjpaaW.PrintWords Go.Proofs.YtcopbkdlpfcjpaaW.PrintLast Go.Proofs.YtcopbkdlpfcjpaaW.PrintMore Go.Proofs.Ytcopbkdlpfcjpaa.B Go.Proofs.Ytcopbkdlpfcjpaa.M
attribute [local go_sem] max2_int min2_int max_two min_two max_three min_three max_four min_four   -- for this text's walks alone
set_option linter.unusedVariables false
set_option linter.unusedSimpArgs false

/-! ### skerrylaw02_MurmurMixes: function 12 -/
def skerrylaw02_MurmurMixes.j0 : Nat → Int → Int → Bool → Option (Bool)
  | 0, _, _, _ => none
  | k + 1, x0, x1, x16 => if x16 = true then (some false) else ((murmur_Mix.f x0).bind fun t115 => ((murmur_Mix.f x1).bind fun t116 => (if ((t115 == t116) == (x0 == x1)) = true then ((skerrylaw02_lives.f).bind fun t117 => (some t117)) else (some false))))
def skerrylaw02_MurmurMixes.f (k : Nat) (a0 : Int) (a1 : Int) : Option (Bool) := (murmur_Mix.f a0).bind fun t111 => ((skerrylaw02_unmix.f t111).bind fun t112 => (if t112 = a0 then ((skerrylaw02_unmix.f a1).bind fun t113 => ((murmur_Mix.f t113).bind fun t114 => (skerrylaw02_MurmurMixes.j0 k a0 a1 (t114 != a1)))) else (skerrylaw02_MurmurMixes.j0 k a0 a1 true)))
theorem skerrylaw02_MurmurMixes.mono_l : ∀ k, (∀ y0 y1 y2, LeO (skerrylaw02_MurmurMixes.j0 k y0 y1 y2) (skerrylaw02_MurmurMixes.j0 (k + 1) y0 y1 y2))
  | 0 => fun _ _ _ r h => by simp [skerrylaw02_MurmurMixes.j0] at h
  | k + 1 => by
    have ih0 := skerrylaw02_MurmurMixes.mono_l k
    · intro y0 y1 y2
      unfold skerrylaw02_MurmurMixes.j0
      repeat' first
      | (with_reducible exact ih0 _ _ _)
      | (with_reducible exact LeO.refl _)
      | (with_reducible exact LeO.none _)
      | (with_reducible refine LeO.ite ?_ ?_)
      | (with_reducible refine LeO.bind ?_ (fun _ => ?_))
      | exact ih0 _ _ _
      | exact LeO.none _
      | refine LeO.ite ?_ ?_
      | refine LeO.bind ?_ (fun _ => ?_)
theorem skerrylaw02_MurmurMixes.mono : ∀ a0 a1 k, LeO (skerrylaw02_MurmurMixes.f k a0 a1) (skerrylaw02_MurmurMixes.f (k + 1) a0 a1) := by
  intro a0 a1 k
  have ih0 := skerrylaw02_MurmurMixes.mono_l k
  unfold skerrylaw02_MurmurMixes.f
  repeat' first
      | (with_reducible exact ih0 _ _ _)
      | (with_reducible exact LeO.refl _)
      | (with_reducible exact LeO.none _)
      | (with_reducible refine LeO.ite ?_ ?_)
      | (with_reducible refine LeO.bind ?_ (fun _ => ?_))
      | exact ih0 _ _ _
      | exact LeO.none _
      | refine LeO.ite ?_ ?_
      | refine LeO.bind ?_ (fun _ => ?_)
set_option maxHeartbeats 8000000 in
set_option maxRecDepth 100000 in
theorem skerrylaw02_MurmurMixes.calls (k : Nat) (a0 : Int) (a1 : Int) (r : Bool) (w : World) (h : skerrylaw02_MurmurMixes.f k a0 a1 = some r) :
    Calls Try.prog 12 #[.int .u64 a0, .int .u64 a1] w fun e w' => e = .returned (.bool r) ∧ Below w.heap.size w w' := by
  have HB := Aside0.mk (Below.refl w.heap.size w)
  have H : ((murmur_Mix.f a0).bind fun t111 => ((skerrylaw02_unmix.f t111).bind fun t112 => (if t112 = a0 then ((skerrylaw02_unmix.f a1).bind fun t113 => ((murmur_Mix.f t113).bind fun t114 => (skerrylaw02_MurmurMixes.j0 k a0 a1 (t114 != a1)))) else (skerrylaw02_MurmurMixes.j0 k a0 a1 true)))) = some r := h
  clear h
  have HC3 := Aside0.mk H
  clear H
  go_enter Try.func12, Try.ntmps12
  go_upto_region 1 with (fail)
  go_cut [16] (fun v16 wc => ∃ (kq : Nat) (x16_2 : Bool), v16 = .bool x16_2 ∧ Aside0 (skerrylaw02_MurmurMixes.j0 kq a0 a1 x16_2 = some r) ∧ Aside0 (kq ≤ k) ∧ Aside0 (Below w.heap.size w wc))
  case first =>
    have H := HC3.out
    clear HC3
    replace H := Option.bind_eq_some_iff.mp H
    obtain ⟨t111, A40, H⟩ := H
    replace H : ((skerrylaw02_unmix.f t111).bind fun t112 => (if t112 = a0 then ((skerrylaw02_unmix.f a1).bind fun t113 => ((murmur_Mix.f t113).bind fun t114 => (skerrylaw02_MurmurMixes.j0 k a0 a1 (t114 != a1)))) else (skerrylaw02_MurmurMixes.j0 k a0 a1 true))) = some r := H
    have A4 := Aside0.mk A40
    clear A40
    replace H := Option.bind_eq_some_iff.mp H
    obtain ⟨t112, A50, H⟩ := H
    replace H : (if t112 = a0 then ((skerrylaw02_unmix.f a1).bind fun t113 => ((murmur_Mix.f t113).bind fun t114 => (skerrylaw02_MurmurMixes.j0 k a0 a1 (t114 != a1)))) else (skerrylaw02_MurmurMixes.j0 k a0 a1 true)) = some r := H
    have A5 := Aside0.mk A50
    clear A50
    by_cases c6 : t112 = a0
    · rw [if_pos c6] at H
      have c6b0 : (t112 == a0) = true := beq_iff_eq.mpr c6
      have c6b1 : (t112 != a0) = false := bne_eq_false_iff_eq.mpr c6
      clear c6
      (first | rw [c6b0] | (simp only [i64_w, i32_w]; rw [c6b0]) | skip)
      replace H := Option.bind_eq_some_iff.mp H
      obtain ⟨t113, A70, H⟩ := H
      replace H : ((murmur_Mix.f t113).bind fun t114 => (skerrylaw02_MurmurMixes.j0 k a0 a1 (t114 != a1))) = some r := H
      have A7 := Aside0.mk A70
      clear A70
      replace H := Option.bind_eq_some_iff.mp H
      obtain ⟨t114, A80, H⟩ := H
      replace H : (skerrylaw02_MurmurMixes.j0 k a0 a1 (t114 != a1)) = some r := H
      have A8 := Aside0.mk A80
      clear A80
      have H' := Aside0.mk H
      clear H
      go_wp2_with (first | ((with_reducible refine gate_callee (f := 60) rfl ?_); refine goesL_ (some 6) rfl rfl Try.func60 (by kernel_rfl) rfl #[.int .u64 a0] rfl (by (try simp only [List.map_toArray, List.map_cons, List.map_nil]); first | done | rfl | (simp only [List.length_drop, List.length_take]; rfl)) ?_; (with_reducible refine (murmur_Mix.calls a0 t111 _ A4.out).mono ?_); rintro e w' ⟨rfl, ⟨nd, rfl⟩⟩; refine ⟨_, rfl, ?_⟩) | ((with_reducible refine gate_callee (f := 59) rfl ?_); refine goesL_ (some 7) rfl rfl Try.func59 (by kernel_rfl) rfl #[.int .u64 t111] rfl (by (try simp only [List.map_toArray, List.map_cons, List.map_nil]); first | done | rfl | (simp only [List.length_drop, List.length_take]; rfl)) ?_; (with_reducible refine (skerrylaw02_unmix.calls t111 t112 _ A5.out).mono ?_); rintro e w' ⟨rfl, ⟨nd, rfl⟩⟩; refine ⟨_, rfl, ?_⟩) | (go_at_call 59; (with_reducible refine (skerrylaw02_unmix.calls a1 t113 _ A7.out).mono ?_); rintro e w' ⟨rfl, ⟨nd, rfl⟩⟩) | (go_at_call 60; (with_reducible refine (murmur_Mix.calls t113 t114 _ A8.out).mono ?_); rintro e w' ⟨rfl, ⟨nd, rfl⟩⟩))
      go_meet
      case rel => exact ⟨_, ((t114 != a1)), (by first | rfl | (simp; done) | (simp [*]; done)), H', ⟨by first | omega | exact Nat.le_refl _⟩, ⟨by repeat (first | (with_reducible first | exact HB.out | apply below_alloc | apply pw_below_drewN | apply below_drew1) | exact HB.out)⟩⟩
    · rw [if_neg c6] at H
      have c6b0 : (t112 == a0) = false := beq_eq_false_iff_ne.mpr c6
      have c6b1 : (t112 != a0) = true := bne_iff_ne.mpr c6
      (first | rw [c6b0] | (simp only [i64_w, i32_w]; rw [c6b0]) | skip)
      have H' := Aside0.mk H
      clear H
      go_wp2_with (first | ((with_reducible refine gate_callee (f := 60) rfl ?_); refine goesL_ (some 6) rfl rfl Try.func60 (by kernel_rfl) rfl #[.int .u64 a0] rfl (by (try simp only [List.map_toArray, List.map_cons, List.map_nil]); first | done | rfl | (simp only [List.length_drop, List.length_take]; rfl)) ?_; (with_reducible refine (murmur_Mix.calls a0 t111 _ A4.out).mono ?_); rintro e w' ⟨rfl, ⟨nd, rfl⟩⟩; refine ⟨_, rfl, ?_⟩) | ((with_reducible refine gate_callee (f := 59) rfl ?_); refine goesL_ (some 7) rfl rfl Try.func59 (by kernel_rfl) rfl #[.int .u64 t111] rfl (by (try simp only [List.map_toArray, List.map_cons, List.map_nil]); first | done | rfl | (simp only [List.length_drop, List.length_take]; rfl)) ?_; (with_reducible refine (skerrylaw02_unmix.calls t111 t112 _ A5.out).mono ?_); rintro e w' ⟨rfl, ⟨nd, rfl⟩⟩; refine ⟨_, rfl, ?_⟩))
      go_meet
      case rel => exact ⟨_, (true), (by first | rfl | (simp; done) | (simp [*]; done)), H', ⟨by first | omega | exact Nat.le_refl _⟩, ⟨by repeat (first | (with_reducible first | exact HB.out | apply below_alloc | apply pw_below_drewN | apply below_drew1) | exact HB.out)⟩⟩
  case rest =>
    clear HC3
    try clear c1
    try clear p2
    try clear c5
    try clear c6
    try clear c6b0
    try clear c6b1
    obtain ⟨kq, x16_2, rfl, HA, HJ2, HB⟩ := hcut
    cases kq with
    | zero => exact absurd HA.out (by simp [skerrylaw02_MurmurMixes.j0])
    | succ kj2 =>
      have H := HA.out
      clear HA
      simp only [skerrylaw02_MurmurMixes.j0] at H
      by_cases c9 : x16_2 = true
      · subst c9
        have H1 : (some false) = some r := by rw [if_pos rfl] at H; exact H
        clear H
        have H := H1
        clear H1
        obtain rfl := Option.some.inj H
        go_wp2
        go_ret
        exact ⟨by first | rfl | (simp [errW_none, errW_some] <;> rfl) | (simp [*, errW_none, errW_some] <;> rfl), by repeat (first | (with_reducible first | exact HB.out | apply below_alloc | apply pw_below_drewN | apply below_drew1) | exact HB.out)⟩
      · replace c9 := Bool.eq_false_iff.mpr c9
        subst c9
        have H1 : ((murmur_Mix.f a0).bind fun t115 => ((murmur_Mix.f a1).bind fun t116 => (if ((t115 == t116) == (a0 == a1)) = true then ((skerrylaw02_lives.f).bind fun t117 => (some t117)) else (some false)))) = some r := by rw [if_neg (show ¬ (false = true) by decide)] at H; exact H
        clear H
        have H := H1
        clear H1
        replace H := Option.bind_eq_some_iff.mp H
        obtain ⟨t115, A100, H⟩ := H
        replace H : ((murmur_Mix.f a1).bind fun t116 => (if ((t115 == t116) == (a0 == a1)) = true then ((skerrylaw02_lives.f).bind fun t117 => (some t117)) else (some false))) = some r := H
        have A10 := Aside0.mk A100
        clear A100
        replace H := Option.bind_eq_some_iff.mp H
        obtain ⟨t116, A110, H⟩ := H
        replace H : (if ((t115 == t116) == (a0 == a1)) = true then ((skerrylaw02_lives.f).bind fun t117 => (some t117)) else (some false)) = some r := H
        have A11 := Aside0.mk A110
        clear A110
        by_cases c12 : ((t115 == t116) == (a0 == a1)) = true
        · rw [if_pos c12] at H
          have c12b0 : ((t115 == t116) == (a0 == a1)) = true := c12
          (try (have c12b1 : decide ((t115 == t116) = (a0 == a1)) = true := by simpa using c12))
          (try (have c12b2 : ((t115 == t116) == (a0 == a1)) = true := by simpa using c12))
          clear c12
          replace H := Option.bind_eq_some_iff.mp H
          obtain ⟨t117, A130, H⟩ := H
          replace H : (some t117) = some r := H
          have A13 := Aside0.mk A130
          clear A130
          obtain rfl := Option.some.inj H
          go_wp2_with (first | ((with_reducible refine gate_callee (f := 60) rfl ?_); refine goesL_ (some 18) rfl rfl Try.func60 (by kernel_rfl) rfl #[.int .u64 a0] rfl (by (try simp only [List.map_toArray, List.map_cons, List.map_nil]); first | done | rfl | (simp only [List.length_drop, List.length_take]; rfl)) ?_; (with_reducible refine (murmur_Mix.calls a0 t115 _ A10.out).mono ?_); rintro e w' ⟨rfl, ⟨nd, rfl⟩⟩; refine ⟨_, rfl, ?_⟩) | ((with_reducible refine gate_callee (f := 60) rfl ?_); refine goesL_ (some 20) rfl rfl Try.func60 (by kernel_rfl) rfl #[.int .u64 a1] rfl (by (try simp only [List.map_toArray, List.map_cons, List.map_nil]); first | done | rfl | (simp only [List.length_drop, List.length_take]; rfl)) ?_; (with_reducible refine (murmur_Mix.calls a1 t116 _ A11.out).mono ?_); rintro e w' ⟨rfl, ⟨nd, rfl⟩⟩; refine ⟨_, rfl, ?_⟩) | (go_at_call 56; (with_reducible refine (skerrylaw02_lives.calls  t117 _ A13.out).mono ?_); rintro e w14 ⟨rfl, hb⟩; have n0_ := Aside0.mk (below_step (by repeat (first | (with_reducible first | exact HB.out | apply below_alloc | apply pw_below_drewN | apply below_drew1) | exact HB.out)) hb); clear HB; have HB := n0_; clear n0_; (try clear hb); (try clear hb2); (try clear hk); (try clear hi)))
          go_ret
          exact ⟨by first | rfl | (simp [errW_none, errW_some] <;> rfl) | (simp [*, errW_none, errW_some] <;> rfl), by repeat (first | (with_reducible first | exact HB.out | apply below_alloc | apply pw_below_drewN | apply below_drew1) | exact HB.out)⟩
        · rw [if_neg c12] at H
          have c12b0 : ((t115 == t116) == (a0 == a1)) = false := by simpa using c12
          (try (have c12b1 : decide ((t115 == t116) = (a0 == a1)) = false := by simpa using c12))
          (try (have c12b2 : ((t115 == t116) == (a0 == a1)) = false := by simpa using c12))
          (try (have c12b3 : ¬ ((t115 == t116) = (a0 == a1)) := by simpa using c12))
          clear c12
          obtain rfl := Option.some.inj H
          go_wp2_with (first | ((with_reducible refine gate_callee (f := 60) rfl ?_); refine goesL_ (some 18) rfl rfl Try.func60 (by kernel_rfl) rfl #[.int .u64 a0] rfl (by (try simp only [List.map_toArray, List.map_cons, List.map_nil]); first | done | rfl | (simp only [List.length_drop, List.length_take]; rfl)) ?_; (with_reducible refine (murmur_Mix.calls a0 t115 _ A10.out).mono ?_); rintro e w' ⟨rfl, ⟨nd, rfl⟩⟩; refine ⟨_, rfl, ?_⟩) | ((with_reducible refine gate_callee (f := 60) rfl ?_); refine goesL_ (some 20) rfl rfl Try.func60 (by kernel_rfl) rfl #[.int .u64 a1] rfl (by (try simp only [List.map_toArray, List.map_cons, List.map_nil]); first | done | rfl | (simp only [List.length_drop, List.length_take]; rfl)) ?_; (with_reducible refine (murmur_Mix.calls a1 t116 _ A11.out).mono ?_); rintro e w' ⟨rfl, ⟨nd, rfl⟩⟩; refine ⟨_, rfl, ?_⟩))
          go_ret
          exact ⟨by first | rfl | (simp [errW_none, errW_some] <;> rfl) | (simp [*, errW_none, errW_some] <;> rfl), by repeat (first | (with_reducible first | exact HB.out | apply below_alloc | apply pw_below_drewN | apply below_drew1) | exact HB.out)⟩

/-- THE ONE PURE STATEMENT of skerrylaw02_MurmurMixes: yours. -/
def skerrylaw02_MurmurMixes.Pure : Prop := ∀ (a0 : Int) (a1 : Int), (Lit.int .u64 a0).wf = true → (Lit.int .u64 a1).wf = true → ∃ k, skerrylaw02_MurmurMixes.f k a0 a1 = some true
theorem skerrylaw02_MurmurMixes.walk (P : skerrylaw02_MurmurMixes.Pure) (a0 : Int) (a1 : Int) (w : World) (w0 : (Lit.int .u64 a0).wf = true) (w1 : (Lit.int .u64 a1).wf = true) :
    Calls Try.prog 12 #[.int .u64 a0, .int .u64 a1] w fun e w' => e = .returned (.bool true) ∧ Below w.heap.size w w' := by
  obtain ⟨k, h⟩ := P a0 a1 w0 w1
  refine (skerrylaw02_MurmurMixes.calls k a0 a1 true w h).mono ?_
  rintro e w' ⟨rfl, hd⟩
  exact ⟨rfl, hd⟩

end Go.Proofs.Ytcopbkdlpfcjpaa.D
