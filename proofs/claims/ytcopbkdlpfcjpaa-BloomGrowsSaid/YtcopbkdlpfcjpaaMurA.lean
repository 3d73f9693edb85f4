/- The murmur layer by hand: calls that leave the world as it is. -/
import Derived.Test.YtcopbkdlpfcjpaaBx10
import Derived.Test.YtcopbkdlpfcjpaaBx11
namespace Go.Proofs.Ytcopbkdlpfcjpaa.M
open Go.RowKit Go.Proofs.YtcopbkdlpfcjpaaW.PrintWords Go.Proofs.YtcopbkdlpfcjpaaW.PrintLast Go.Proofs.YtcopbkdlpfcjpaaW.PrintMore Go.Proofs.Ytcopbkdlpfcjpaa.B
attribute [local go_sem] max2_int min2_int max_two min_two max_three min_three max_four min_four
set_option linter.unusedVariables false
set_option linter.unusedSimpArgs false

/-- A word turned to the left. -/
def rot (x r : Int) : Int := Go.bits .or .u64 (shl .u64 x r) (shr .u64 x (64 - r))
theorem rot27_ (x : Int) : bits_RotateLeft64.f x 27 = some (rot x 27) := by rfl
theorem rot31_ (x : Int) : bits_RotateLeft64.f x 31 = some (rot x 31) := by rfl
theorem rot33_ (x : Int) : bits_RotateLeft64.f x 33 = some (rot x 33) := by rfl
set_option maxHeartbeats 8000000 in
set_option maxRecDepth 100000 in
theorem rot_calls (a0 : Int) (a1 : Int) (r : Int) (w : World) (h : bits_RotateLeft64.f a0 a1 = some r) :
    Calls Try.prog 86 #[.int .u64 a0, .int .i64 a1] w fun e w' => e = .returned (.int .u64 r) ∧ w' = w := by
  have H : (if 0 ≤ (Go.bits .and .u64 (IntKind.u64.wrap (a1)) 63) then (if 0 ≤ (IntKind.u64.wrap (64 - (Go.bits .and .u64 (IntKind.u64.wrap (a1)) 63))) then (some (Go.bits .or .u64 (shl .u64 a0 (Go.bits .and .u64 (IntKind.u64.wrap (a1)) 63)) (shr .u64 a0 (IntKind.u64.wrap (64 - (Go.bits .and .u64 (IntKind.u64.wrap (a1)) 63)))))) else (none)) else (none)) = some r := h
  clear h
  obtain ⟨ji3, hji3⟩ : ∃ j_ : Int, (Go.bits .and .u64 (IntKind.u64.wrap (a1)) 63) = j_ := ⟨_, rfl⟩
  replace H : (if 0 ≤ (ji3) then (if 0 ≤ (IntKind.u64.wrap (64 - (ji3))) then (some (Go.bits .or .u64 (shl .u64 a0 (ji3)) (shr .u64 a0 (IntKind.u64.wrap (64 - (ji3)))))) else (none)) else (none)) = some r := by first | (rw [hji3] at H; exact H) | (simp only [hji3] at H ⊢; exact H)
  by_cases c4 : 0 ≤ (ji3)
  · rw [if_pos c4] at H
    have c4b0 := eq_true c4
    have c4b1 : decide (0 ≤ (ji3)) = true := decide_eq_true c4
    clear c4
    obtain ⟨ji5, hji5⟩ : ∃ j_ : Int, (shl .u64 a0 (ji3)) = j_ := ⟨_, rfl⟩
    replace H : (if 0 ≤ (IntKind.u64.wrap (64 - (ji3))) then (some (Go.bits .or .u64 (ji5) (shr .u64 a0 (IntKind.u64.wrap (64 - (ji3)))))) else (none)) = some r := by first | (rw [hji5] at H; exact H) | (simp only [hji5] at H ⊢; exact H)
    have hji5_ : (IntKind.u64.wrap (a0 * 2 ^ min (ji3).toNat 64)) = ji5 := hji5
    have hji5z : (ji3) ≤ 64 → (IntKind.u64.wrap (a0 * 2 ^ (ji3).toNat)) = ji5 := shl_small hji5
    obtain ⟨ji6, hji6⟩ : ∃ j_ : Int, (IntKind.u64.wrap (64 - (ji3))) = j_ := ⟨_, rfl⟩
    replace H : (if 0 ≤ (ji6) then (some (Go.bits .or .u64 (ji5) (shr .u64 a0 (ji6)))) else (none)) = some r := by first | (rw [hji6] at H; exact H) | (simp only [hji6] at H ⊢; exact H)
    by_cases c7 : 0 ≤ (ji6)
    · rw [if_pos c7] at H
      have c7b0 := eq_true c7
      have c7b1 : decide (0 ≤ (ji6)) = true := decide_eq_true c7
      clear c7
      obtain ⟨ji8, hji8⟩ : ∃ j_ : Int, (shr .u64 a0 (ji6)) = j_ := ⟨_, rfl⟩
      replace H : (some (Go.bits .or .u64 (ji5) (ji8))) = some r := by first | (rw [hji8] at H; exact H) | (simp only [hji8] at H ⊢; exact H)
      have hji8_ : (a0 / 2 ^ min (ji6).toNat 64) = ji8 := hji8
      have hji8z : (ji6) ≤ 64 → (a0 / 2 ^ (ji6).toNat) = ji8 := shr_small hji8
      obtain rfl := Option.some.inj H
      go_enter Try.func86, Try.ntmps86
      go_wp2
      go_ret
      exact ⟨by first | rfl | (simp; done) | (simp only [← hji3, ← hji5, ← hji6, ← hji8] <;> (first | rfl | simp)) | (simp [*]; done), rfl⟩
    · rw [if_neg c7] at H
      exact absurd H (by simp)
  · rw [if_neg c4] at H
    exact absurd H (by simp)



theorem rot27 (x : Int) (w : World) : Calls Try.prog 86 #[.int .u64 x, .int .i64 27] w fun e w' => e = .returned (.int .u64 (rot x 27)) ∧ w' = w := rot_calls x 27 _ w (rot27_ x)
theorem rot31 (x : Int) (w : World) : Calls Try.prog 86 #[.int .u64 x, .int .i64 31] w fun e w' => e = .returned (.int .u64 (rot x 31)) ∧ w' = w := rot_calls x 31 _ w (rot31_ x)
theorem rot33 (x : Int) (w : World) : Calls Try.prog 86 #[.int .u64 x, .int .i64 33] w fun e w' => e = .returned (.int .u64 (rot x 33)) ∧ w' = w := rot_calls x 33 _ w (rot33_ x)
set_option maxHeartbeats 8000000 in
set_option maxRecDepth 100000 in
theorem word_calls (k : Nat) (A0 : Option Addr) (c0 : Nat) (l0 : List Int) (r : Int) (w : World) (hr0 : Kd.C (Kd.int .u8) w A0 l0.length l0) (hc0 : l0.length ≤ c0) (h : murmur_word.f k l0 = some r) :
    Calls Try.prog 98 #[.slice A0 l0.length c0] w fun e w' => e = .returned (.int .u64 r) ∧ w' = w := by
  have HR0 := Aside0.mk hr0
  have HC0 := Aside0.mk hc0
  clear hr0 hc0
  have H : (murmur_word.l0 k l0 0 ((mn (l0.length : Int) 8) - 1)) = some r := h
  clear h
  obtain ⟨ji2, hji2⟩ : ∃ j_ : Int, (mn (l0.length : Int) 8) = j_ := ⟨_, rfl⟩
  replace H : (murmur_word.l0 k l0 0 ((ji2) - 1)) = some r := by first | (rw [hji2] at H; exact H) | (simp only [hji2] at H ⊢; exact H)
  (try (have hji2h : ji2 ≤ 8 := by (rw [← hji2]; unfold mn; (repeat' split) <;> omega)))
  (try (have hji2g : ji2 ≤ 64 := by omega))
  (try (have hji2l : 0 ≤ ji2 := by (rw [← hji2]; unfold mn; (repeat' split) <;> omega)))
  (try (have hji2m : 0 ≤ ji2 := by omega))
  have hji2_ : (if 8 < (l0.length : Int) then 8 else (l0.length : Int)) = ji2 := hji2
  have H' := Aside0.mk H
  clear H
  go_enter Try.func98, Try.ntmps98
  go_wp2
  go_loopg [3, 4] k (fun kq v3 v4 w' => ∃ (x3_1 : Int) (x4_1 : Int), v3 = .int .u64 x3_1 ∧ v4 = .int .i64 x4_1 ∧ Aside0 (murmur_word.l0 kq l0 x3_1 x4_1 = some r) ∧ Aside0 (kq ≤ k) ∧ w' = w)
  case atStart => exact ⟨(0), ((ji2) - 1), (by first | rfl | (simp; done) | (simp [*]; done)), (by first | rfl | (simp; done) | (simp only [← hji2] <;> (first | rfl | simp)) | (simp [*]; done)), H', ⟨Nat.le_refl _⟩, rfl⟩
  case round =>
    clear H'
    try clear p2
    obtain ⟨x3_1, x4_1, rfl, rfl, HA, HK1, rfl⟩ := hrel
    cases gk with
    | zero => exact absurd HA.out (by simp [murmur_word.l0])
    | succ k1 =>
      have H := HA.out
      clear HA
      simp only [murmur_word.l0] at H
      by_cases c3 : x4_1 ≥ 0
      · rw [if_pos c3] at H
        have c3b0 : decide (0 ≤ x4_1) = true := decide_eq_true c3
        clear c3
        by_cases c4 : 0 ≤ x4_1
        · rw [if_pos c4] at H
          have c4b0 : decide (0 ≤ x4_1) = true := decide_eq_true c4
          clear c4
          by_cases c5 : x4_1 < (l0.length : Int)
          · rw [if_pos c5] at H
            have c5b0 : decide (x4_1 < (l0.length : Int)) = true := decide_eq_true c5
            clear c5
            have H' := Aside0.mk H
            clear H
            have p250 : 0 ≤ (x4_1 : Int) := of_decide_eq_true (by first | (with_reducible assumption) | assumption)
            have q250 : x4_1 < (l0.length : Int) := of_decide_eq_true (by first | (with_reducible assumption) | assumption)
            obtain ⟨ad250, e250, hx250_0⟩ := Kd.at_int HR0.out x4_1 p250 q250
            cases e250
            replace p250 := eq_true p250
            replace q250 := eq_true q250
            go_wp2
            go_roundg k1
            case measure => have := HK1.out; omega
            case rel => exact ⟨(Go.bits .or .u64 (IntKind.u64.wrap (x3_1 * 256)) (IntKind.u64.wrap (rd l0 x4_1))), (wrap64 (x4_1 - 1)), (by first | rfl | (simp; done) | (simp [*]; done)), (by first | rfl | (simp; done) | (simp [*]; done)), H', ⟨by have := HK1.out; omega⟩, rfl⟩
          · rw [if_neg c5] at H
            exact absurd H (by simp)
        · rw [if_neg c4] at H
          exact absurd H (by simp)
      · rw [if_neg c3] at H
        have c3b0 : decide (0 ≤ x4_1) = false := decide_eq_false c3
        clear c3
        obtain rfl := Option.some.inj H
        go_wp2
        go_ret
        exact ⟨by first | rfl | (simp [errW_none, errW_some] <;> rfl) | (simp only [← hji2]; first | rfl | (simp [errW_none, errW_some] <;> rfl)) | (simp [*, errW_none, errW_some] <;> rfl), rfl⟩



/-- The first eight bytes. -/
def wordS (l : List Int) : Int := (murmur_word.f 10 l).getD 0
theorem word_some (l : List Int) (x0 x4 : Int) : ∀ (k : Nat), k ≤ 100 → x4 < k → x4 < l.length → ∃ r, murmur_word.l0 (k + 1) l x0 x4 = some r := by
  intro k
  induction k generalizing x0 x4 with
  | zero => intro hk h h1; exact ⟨x0, by rw [murmur_word.l0, if_neg (by omega)]⟩
  | succ k ih =>
    intro hk h h1
    rw [murmur_word.l0]
    by_cases h0 : x4 ≥ 0
    · rw [if_pos h0, if_pos h0, if_pos h1]
      have e : wrap64 (x4 - 1) = x4 - 1 := (i64_w _).symm.trans (IntWalk.i64_in _ (by omega))
      rw [e]
      exact ih _ _ (by omega) (by omega) (by omega)
    · exact ⟨x0, by rw [if_neg h0]⟩

theorem word_ (l : List Int) : murmur_word.f 10 l = some (wordS l) := by
  obtain ⟨r, hr⟩ := word_some l 0 ((mn (l.length : Int) 8) - 1) 9 (by omega) (by unfold mn; split <;> omega) (by unfold mn; split <;> omega)
  have h : murmur_word.f 10 l = some r := hr
  rw [wordS, h]; rfl
theorem word_c (A0 : Option Addr) (c0 : Nat) (l0 : List Int) (w : World) (hr0 : Kd.C (Kd.int .u8) w A0 l0.length l0) (hc0 : l0.length ≤ c0) :
    Calls Try.prog 98 #[.slice A0 l0.length c0] w fun e w' => e = .returned (.int .u64 (wordS l0)) ∧ w' = w := word_calls 10 A0 c0 l0 _ w hr0 hc0 (word_ l0)
def lowS (l : List Int) : Int := IntKind.u64.wrap (rot (IntKind.u64.wrap (wordS l * 9782798678568883157)) 31 * 5545529020109919103)
def highS (l : List Int) : Int := IntKind.u64.wrap (rot (IntKind.u64.wrap (wordS l * 5545529020109919103)) 33 * 9782798678568883157)
theorem low_c (A0 : Option Addr) (c0 : Nat) (l0 : List Int) (w : World) (hr0 : Kd.C (Kd.int .u8) w A0 l0.length l0) (hc0 : l0.length ≤ c0) :
    Calls Try.prog 87 #[.slice A0 l0.length c0] w fun e w' => e = .returned (.int .u64 (lowS l0)) ∧ w' = w := by
  go_enter Try.func87, Try.ntmps87
  go_wp2_with (first | (go_at_call 98; (with_reducible refine (word_c _ _ _ _ hr0 hc0).mono ?_); rintro e w' ⟨rfl, rfl⟩) | (go_at_call 86; (with_reducible refine (rot31 _ _).mono ?_); rintro e w' ⟨rfl, rfl⟩))
  go_ret
  exact ⟨by first | rfl | (simp [lowS]; done), rfl⟩
theorem high_c (A0 : Option Addr) (c0 : Nat) (l0 : List Int) (w : World) (hr0 : Kd.C (Kd.int .u8) w A0 l0.length l0) (hc0 : l0.length ≤ c0) :
    Calls Try.prog 88 #[.slice A0 l0.length c0] w fun e w' => e = .returned (.int .u64 (highS l0)) ∧ w' = w := by
  go_enter Try.func88, Try.ntmps88
  go_wp2_with (first | (go_at_call 98; (with_reducible refine (word_c _ _ _ _ hr0 hc0).mono ?_); rintro e w' ⟨rfl, rfl⟩) | (go_at_call 86; (with_reducible refine (rot33 _ _).mono ?_); rintro e w' ⟨rfl, rfl⟩))
  go_ret
  exact ⟨by first | rfl | (simp [highS]; done), rfl⟩

/-- One round of the last step. -/
def mixR (k c : Int) : Int := IntKind.u64.wrap (Go.bits .xor .u64 k (k / 8589934592) * c)
def mixS (k : Int) : Int := let m := mixR (mixR k 18397679294719823053) 14181476777654086739; Go.bits .xor .u64 m (m / 8589934592)
theorem refMix_ (k : Int) : skerryref02_Mix.f k = some (mixS k) := rfl
set_option maxHeartbeats 4000000 in
set_option maxRecDepth 100000 in
theorem mix_c (k : Int) (w : World) : Calls Try.prog 60 #[.int .u64 k] w fun e w' => e = .returned (.int .u64 (mixS k)) ∧ w' = w := by
  have i0 : ∀ w : World, (Instr.index 114 (.agg #[.int .u64 18397679294719823053, .int .u64 14181476777654086739]) (.int .i64 0)).run Try.prog w = .ok (.int .u64 18397679294719823053) w := fun _ => by kernel_rfl
  have i1 : ∀ w : World, (Instr.index 114 (.agg #[.int .u64 18397679294719823053, .int .u64 14181476777654086739]) (.int .i64 1)).run Try.prog w = .ok (.int .u64 14181476777654086739) w := fun _ => by kernel_rfl
  go_enter Try.func60, Try.ntmps60
  go_wp2
  go_loop [0, 6] (fun t i => (i = .int .i64 0 ∧ t = .int .u64 k) ∨ (i = .int .i64 1 ∧ t = .int .u64 (mixR k 18397679294719823053)) ∨ (i = .int .i64 2 ∧ t = .int .u64 (mixR (mixR k 18397679294719823053) 14181476777654086739))) (fun _ i => match i with | .int _ n => 4 - n.toNat | _ => 0)
  case atStart => exact .inl ⟨rfl, rfl⟩
  case round =>
    rcases hrel with ⟨rfl, rfl⟩ | ⟨rfl, rfl⟩ | ⟨rfl, rfl⟩
    · go_wp2
      exact ⟨.inr (.inl ⟨rfl, rfl⟩), by decide⟩
    · go_wp2
      exact ⟨.inr (.inr ⟨rfl, rfl⟩), by decide⟩
    · go_wp2
      go_ret
      exact ⟨rfl, rfl⟩

end Go.Proofs.Ytcopbkdlpfcjpaa.M
