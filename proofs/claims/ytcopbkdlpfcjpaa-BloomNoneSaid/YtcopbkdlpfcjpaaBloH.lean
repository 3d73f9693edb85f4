/- The bloom layer by hand: the document's examples hold. -/
import Derived.Test.YtcopbkdlpfcjpaaBloG
import Derived.Test.YtcopbkdlpfcjpaaBloP
namespace Go.Proofs.Ytcopbkdlpfcjpaa.L
open Go.RowKit Go.Proofs.YtcopbkdlpfcjpaaW.PrintWords Go.Proofs.YtcopbkdlpfcjpaaW.PrintLast Go.Proofs.YtcopbkdlpfcjpaaW.PrintMore Go.Proofs.Ytcopbkdlpfcjpaa.B Go.Proofs.Ytcopbkdlpfcjpaa.M
attribute [local go_sem] max2_int min2_int max_two min_two max_three min_three max_four min_four
set_option linter.unusedVariables false
set_option linter.unusedSimpArgs false
theorem newK10 : newK 10 = 7 := by decide +kernel
theorem newN10 : (newN 1 10).toNat = 2 := by decide +kernel
theorem newK_1 : newK 1 = 1 := by decide +kernel
theorem newN0 : (newN 0 1).toNat = 1 := by decide +kernel
theorem New_f (w : World) : Calls Try.prog 53 #[.int .i64 1, .int .i64 10] w fun e w' => ∃ g, e = .returned (.pointer (some ⟨g, 0, none⟩)) ∧ Fil 83 w' w.heap.size g 7 [0, 0] ∧ Below w.heap.size w w' := by
  have h := New_ok 1 10 w (by omega) (by omega) (by omega) (by omega)
  rw [newK10, newN10] at h
  exact h
theorem New_g (w : World) : Calls Try.prog 53 #[.int .i64 0, .int .i64 1] w fun e w' => ∃ g, e = .returned (.pointer (some ⟨g, 0, none⟩)) ∧ Fil 83 w' w.heap.size g 1 [0] ∧ Below w.heap.size w w' := by
  have h := New_ok 0 1 w (by omega) (by omega) (by omega) (by omega)
  rw [newK_1, newN0] at h
  exact h
theorem lit_a (W : World) (fr : Nat × Nat) (t : TypeId) : Kd.C (Kd.int .u8) (W.alloc (.cells #[.int .u8 97] t fr)) (some ⟨W.heap.size, 0, none⟩) 1 [97] := Kd.C_lit_marked W .u8 [97] #[.int .u8 97] t fr rfl (by decide)
theorem Add_a {W : World} {lo f : Nat} {k : Int} {bs : List Int} (hF : Fil 83 W lo f k bs) (hk0 : 0 < k) (hk : k ≤ 16) (hn0 : 0 < bs.length) (hn : bs.length ≤ 1000000) :
    Calls Try.prog 46 #[.pointer (some ⟨f, 0, none⟩), .slice (some ⟨W.heap.size, 0, none⟩) 1 1] (W.alloc (.cells #[.int .u8 97] 5 (1, 2))) fun e w' => e = .returned (.tuple #[]) ∧ Fil 83 w' lo f k (addS k bs [97]) ∧ Kp lo f W w' :=
  have hb := below_alloc (Below.refl W.heap.size W) (.cells #[.int .u8 97] 5 (1, 2))
  (Add_c (hF.below hb) (some ⟨W.heap.size, 0, none⟩) 1 [97] (lit_a W (1, 2) 5) (Nat.le_refl _) hk0 hk hn0 hn).mono fun e w' h => ⟨h.1, h.2.1, (Kp.of_below hb).trans h.2.2⟩
theorem Places_a {W : World} {lo f : Nat} {k : Int} {bs : List Int} (hF : Fil 83 W lo f k bs) (hk0 : 0 < k) (hk : k ≤ 16) (hn0 : 0 < bs.length) (hn : bs.length ≤ 1000000) :
    Calls Try.prog 43 #[.pointer (some ⟨f, 0, none⟩), .slice (some ⟨W.heap.size, 0, none⟩) 1 1] (W.alloc (.cells #[.int .u8 97] 5 (1, 2))) fun e w' => ∃ A c, e = .returned (.slice A k.toNat c) ∧ Below W.heap.size W w' :=
  have hb := below_alloc (Below.refl W.heap.size W) (.cells #[.int .u8 97] 5 (1, 2))
  (Places_c (hF.below hb) (some ⟨W.heap.size, 0, none⟩) 1 [97] (lit_a W (1, 2) 5) (Nat.le_refl _) hk0 hk hn0 hn).mono fun e w' ⟨v, h, hR, hbb⟩ => by
    obtain ⟨A, c, rfl⟩ := Kd.R_slice hR
    rw [plS_len] at h
    exact ⟨A, c, h, hb.trans (hbb.mono (by rw [size_alloc]; omega))⟩
theorem May_a {W : World} {lo f : Nat} {k : Int} {bs : List Int} (hF : Fil 83 W lo f k bs) (hk0 : 0 < k) (hk : k ≤ 16) (hn0 : 0 < bs.length) (hn : bs.length ≤ 1000000) (r : Bool) (hr : mayS k bs [97] = r) :
    Calls Try.prog 40 #[.pointer (some ⟨f, 0, none⟩), .slice (some ⟨W.heap.size, 0, none⟩) 1 1] (W.alloc (.cells #[.int .u8 97] 5 (1, 2))) fun e w' => e = .returned (.bool r) ∧ Below W.heap.size W w' :=
  have hb := below_alloc (Below.refl W.heap.size W) (.cells #[.int .u8 97] 5 (1, 2))
  (May_c (hF.below hb) (some ⟨W.heap.size, 0, none⟩) 1 [97] (lit_a W (1, 2) 5) (Nat.le_refl _) hk0 hk hn0 hn).mono fun e w' ⟨h, hbb⟩ => ⟨by rw [h, hr], hb.trans (hbb.mono (by rw [size_alloc]; omega))⟩
theorem Size_n {w : World} {lo f : Nat} {k : Int} {bs : List Int} (hF : Fil 83 w lo f k bs) (hk0 : 0 < k) (n : Nat) (hn : bs.length = n) (hn2 : n ≤ 1000000) : Calls Try.prog 55 #[.pointer (some ⟨f, 0, none⟩)] w fun e w' => e = .returned (.int .i64 (8 * (n : Int))) ∧ w = w' := by
  subst hn
  exact (Size_c hF hk0 hn2).mono fun e w' ⟨h1, h2⟩ => ⟨h1, h2.symm⟩
set_option maxHeartbeats 8000000 in
set_option maxRecDepth 100000 in
theorem lives_c (w : World) : Calls Try.prog 37 #[] w fun e w' => e = .returned (.bool true) ∧ Below w.heap.size w w' := by
  have kc := fun (w : World) (C : Array Value) (n c : Nat) => Lib.run_convert_bytes_const (P := Try.prog) w 27 5 C n c Try.underlying27 Try.underlying5
  obtain ⟨bs, hbs⟩ : ∃ bs, bs = addS 7 [0, 0] [97] := ⟨_, rfl⟩
  have hlen : bs.length = 2 := by rw [hbs, addS_len]; rfl
  have hmf : mayS 7 bs [97] = true := by rw [hbs]; exact may_self 7 [0, 0] [97] (zeros_B 2) (by decide) (by decide)
  have hmg : mayS 1 [0] [97] = false := may_none 1 1 [97] (by omega) (by omega) (by omega)
  have HB := Aside0.mk hbs
  have HL := Aside0.mk hlen
  have HMF := Aside0.mk hmf
  have HMG := Aside0.mk hmg
  clear hbs hlen hmf hmg
  go_enter Try.func37, Try.ntmps37
  go_upto_region 4 with (first | (go_at_call 53; with_reducible refine (New_f _).mono ?_; rintro e w1 ⟨f, rfl, hF, hb1⟩; replace hF := Aside0.mk hF; replace hb1 := Aside0.mk hb1) | (go_at_call 53; with_reducible refine (New_g _).mono ?_; rintro e w2 ⟨g, rfl, hG, hb2⟩; replace hG := Aside0.mk hG; replace hb2 := Aside0.mk hb2))
  go_upto_region 5 with (go_at_call 46; with_reducible refine (Add_a (hF.out.below hb2.out) (by decide) (by decide) (by decide) (by decide)).mono ?_; rintro e w4 ⟨rfl, hF4, hk⟩; rw [← HB.out] at hF4; have hG4 := hG.out.keep hk (.inl hF.out.lt); replace hF4 := Aside0.mk hF4; replace hG4 := Aside0.mk hG4; replace hk := Aside0.mk hk)
  go_wp2_with (first | (go_at_call 55; with_reducible refine (Size_n hF4.out (by decide) 2 HL.out (by decide)).mono ?_; rintro e w' ⟨rfl, rfl⟩) | (go_at_call 43; with_reducible refine (Places_a hF4.out (by decide) (by decide) (by rw [HL.out]; decide) (by rw [HL.out]; decide)).mono ?_; rintro e w5 ⟨A5, c5, rfl, hb5⟩; have hF5 := Aside0.mk (hF4.out.below hb5); have hG5 := Aside0.mk (hG4.out.below hb5); replace hb5 := Aside0.mk hb5) | (go_at_call 40; with_reducible refine (May_a hF5.out (by decide) (by decide) (by rw [HL.out]; decide) (by rw [HL.out]; decide) true HMF.out).mono ?_; rintro e w6 ⟨rfl, hb6⟩; have hG6 := Aside0.mk (hG5.out.below hb6); replace hb6 := Aside0.mk hb6) | (go_at_call 55; with_reducible refine (Size_n hG6.out (by decide) 1 rfl (by decide)).mono ?_; rintro e w' ⟨rfl, rfl⟩) | (go_at_call 40; with_reducible refine (May_a hG6.out (by decide) (by decide) (by decide) (by decide) false HMG.out).mono ?_; rintro e w7 ⟨rfl, hb7⟩; replace hb7 := Aside0.mk hb7))
  go_ret
  have h1 := hk.out.below (hb1.out.trans (hb2.out.mono hb1.out.size)) (Nat.le_refl _)
  have h2 := h1.trans (hb5.out.mono h1.size)
  have h3 := h2.trans (hb6.out.mono h2.size)
  exact ⟨rfl, h3.trans (hb7.out.mono h3.size)⟩
end Go.Proofs.Ytcopbkdlpfcjpaa.L
