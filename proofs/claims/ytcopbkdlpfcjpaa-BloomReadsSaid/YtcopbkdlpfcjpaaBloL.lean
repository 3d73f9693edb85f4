/- The law BloomReads, walked. -/
import Derived.Test.YtcopbkdlpfcjpaaBloK
import Derived.Test.YtcopbkdlpfcjpaaGiven
namespace Go.Proofs.Ytcopbkdlpfcjpaa.L
open Go.RowKit Go.Proofs.YtcopbkdlpfcjpaaW.PrintWords Go.Proofs.YtcopbkdlpfcjpaaW.PrintLast Go.Proofs.YtcopbkdlpfcjpaaW.PrintMore Go.Proofs.Ytcopbkdlpfcjpaa.B Go.Proofs.Ytcopbkdlpfcjpaa.M
attribute [local go_sem] max2_int min2_int max_two min_two max_three min_three max_four min_four
set_option linter.unusedVariables false
set_option linter.unusedSimpArgs false
set_option maxHeartbeats 8000000 in
set_option maxRecDepth 100000 in
theorem reads_c (w : World) (A0 : Option Addr) (c0 : Nat) (L : List Nat) (hL : ∀ x ∈ L, x < 256) (hC0 : Kd.C (Kd.int .u8) w A0 (Ma.up L).length (Ma.up L)) (hc0 : (Ma.up L).length ≤ c0) (hl0 : (Ma.up L).length ≤ 140737488351232)
    (A1 : Option Addr) (c1 : Nat) (K : List Nat) (hK : ∀ x ∈ K, x < 256) (hC1 : Kd.C (Kd.int .u8) w A1 (Ma.up K).length (Ma.up K)) (hc1 : (Ma.up K).length ≤ c1) (hl1 : (Ma.up K).length ≤ 140737488351232) :
    Calls Try.prog 7 #[.slice A0 (Ma.up L).length c0, .slice A1 (Ma.up K).length c1] w fun e w' => e = .returned (.bool true) ∧ Below w.heap.size w w' := by
  have hw : wrap64 (((Ma.up L).length : Int) + ((Ma.up K).length : Int)) = ((Ma.up L).length : Int) + ((Ma.up K).length : Int) := by unfold wrap64; omega
  by_cases hbig : 10000 < ((Ma.up L).length : Int) + ((Ma.up K).length : Int)
  · have hb : decide (10000 < ((Ma.up L).length : Int) + ((Ma.up K).length : Int)) = true := decide_eq_true hbig
    generalize Ma.up L = l at *
    generalize Ma.up K = kk at *
    clear hbig hL hK hC0 hC1 hc0 hc1 hl0 hl1
    go_enter Try.func7, Try.ntmps7
    go_wp2_with (go_at_call 37; with_reducible refine (lives_c _).mono ?_; rintro e w1 ⟨rfl, hb1⟩)
    go_ret
    exact ⟨rfl, hb1⟩
  · have hb : decide (10000 < ((Ma.up L).length : Int) + ((Ma.up K).length : Int)) = false := decide_eq_false hbig
    have hLl : L.length ≤ 10000 := by have := Ma.up_length L; omega
    have hKl : K.length ≤ 10000 := by have := Ma.up_length K; omega
    obtain ⟨q1, hq1⟩ := (Ma.Lend_ev (Ma.up L) (by rw [Ma.up_length]; omega)).rounds
    have hkp := Ma.Kept_eq (Ma.up L) (by rw [Ma.up_length]; omega)
    obtain ⟨WL, hWL⟩ : ∃ x : List Int, x = 165 :: (Ma.up L ++ [90]) := ⟨_, rfl⟩
    rw [← hWL] at hq1 hkp
    have HKP := Aside0.mk hkp
    have hS := okKey K hK (by omega)
    have HLn := Aside0.mk (skerryref01_Lend.calls q1 A0 c0 (Ma.up L) _ _ w hC0 hc0 hq1)
    have HC0 := Aside0.mk hC0
    have Hc0 := Aside0.mk hc0
    have HC1 := Aside0.mk hC1
    have Hc1 := Aside0.mk hc1
    have HLl := Aside0.mk (And.intro hLl hKl)
    have HLb := Aside0.mk hL
    have hrs : readS L = readS L := rfl
    cases hr : readS L with
    | none =>
      have HR := Aside0.mk hr
      clear hC0 hc0 hl0 hC1 hc1 hl1 hbig hL hK hLl hKl hq1 hr hrs hS hkp hWL
      go_enter Try.func7, Try.ntmps7
      go_wp2_with (first | (go_at_call 26; refine HLn.out.mono ?_; rintro e w1 ⟨v0, v1, rfl, hR1, hQ1, hb1⟩; obtain ⟨Aq, cq, eq_, _⟩ := Kd.Q_slice hQ1; subst eq_; replace hQ1 := Aside0.mk hQ1; replace hb1 := Aside0.mk hb1; clear hR1) | (go_at_call 38; with_reducible refine (Read_none HLb.out (by have := HLl.out; omega) HR.out (Kd.Q_reads' hQ1.out).2.2 (Kd.Q_reads' hQ1.out).2.1).mono ?_; rintro e w2 ⟨rfl, hb2⟩; have hb3 := Aside0.mk (hb1.out.trans (hb2.mono hb1.out.size)); clear hb2) | (go_at_call 39; with_reducible refine (ReadR_none HLb.out (by have := HLl.out; omega) HR.out (Kd.C_below HC0.out hb3.out) Hc0.out).mono ?_; rintro e w3 ⟨rfl, hb4⟩; have hb5 := Aside0.mk (hb3.out.trans (hb4.mono hb3.out.size)); clear hb4) | (go_at_call 37; with_reducible refine (lives_c _).mono ?_; rintro e w4 ⟨rfl, hb6⟩; replace hb6 := Aside0.mk hb6))
      go_ret
      exact ⟨rfl, hb5.out.trans (hb6.out.mono hb5.out.size)⟩
    | some p =>
      obtain ⟨k, R⟩ := p
      have HR := Aside0.mk hr
      obtain ⟨hcan, hk1, hk2, hR1, hR2, hRb⟩ := read_canon L hL k R hr
      have hlR : (Ma.up R).length = R.length := Ma.up_length R
      have HN := Aside0.mk (show (0 : Int) < (k : Int) ∧ (k : Int) ≤ 16 ∧ 0 < (Ma.up R).length ∧ (Ma.up R).length ≤ 1000000 from ⟨by omega, by omega, by omega, by omega⟩)
      have HOK := Aside0.mk hS
      have HCAN := Aside0.mk hcan
      have HMS := Aside0.mk (may_self (k : Int) (Ma.up R) (Ma.up K) ⟨R, hRb, rfl⟩ HN.out.2.2.1 HN.out.2.2.2)
      obtain ⟨q2, hq2⟩ := ints_self (plS (k : Int) (Ma.up R).length (Ma.up K)) (by rw [plS_len]; omega)
      have HQ2 := Aside0.mk hq2
      clear hC0 hc0 hl0 hC1 hc1 hl1 hbig hL hK hLl hKl hq1 hr hrs hS hkp hWL hcan hk1 hk2 hR1 hR2 hRb hlR hq2
      go_enter Try.func7, Try.ntmps7
      go_wp2_with (first | (go_at_call 26; refine HLn.out.mono ?_; rintro e w1 ⟨v0, v1, rfl, hR1, hQ1, hb1⟩; obtain ⟨Aq, cq, eq_, _⟩ := Kd.Q_slice hQ1; subst eq_; obtain ⟨Aw, cw, rfl⟩ := Kd.R_slice hR1; replace hQ1 := Aside0.mk hQ1; replace hb1 := Aside0.mk hb1; replace hR1 := Aside0.mk hR1) | (go_at_call 38; with_reducible refine (Read_some HLb.out (by have := HLl.out; omega) HR.out (Kd.Q_reads' hQ1.out).2.2 (Kd.Q_reads' hQ1.out).2.1).mono ?_; rintro e w2 ⟨f, rfl, hF, hb⟩; have hF2 := Aside0.mk hF; have hb2 := Aside0.mk (hb1.out.trans (hb.mono hb1.out.size)); have hs2 := Aside0.mk hb; clear hb hF) | (go_at_call 39; with_reducible refine (ReadR_some HLb.out (by have := HLl.out; omega) HR.out (Kd.C_below HC0.out hb2.out) Hc0.out).mono ?_; rintro e w3 ⟨g, rfl, hG, hb⟩; have hG3 := Aside0.mk hG; have hF3 := Aside0.mk (hF2.out.below hb); have hb3 := Aside0.mk (hb2.out.trans (hb.mono hb2.out.size)); have hs3 := Aside0.mk (hs2.out.trans (hb.mono hs2.out.size)); clear hb hG) | (go_at_call 40; with_reducible refine (May_c hF3.out A1 c1 (Ma.up K) (Kd.C_below HC1.out hb3.out) Hc1.out HN.out.1 HN.out.2.1 HN.out.2.2.1 HN.out.2.2.2).mono ?_; rintro e w4 ⟨rfl, hb⟩; have hF4 := Aside0.mk (hF3.out.below hb); have hG4 := Aside0.mk (hG3.out.below hb); have hb4 := Aside0.mk (hb3.out.trans (hb.mono hb3.out.size)); have hs4 := Aside0.mk (hs3.out.trans (hb.mono hs3.out.size)); clear hb) | (go_at_call 41; with_reducible refine (MayR_c hG4.out A1 c1 (Ma.up K) (Kd.C_below HC1.out hb4.out) Hc1.out HOK.out HN.out.1 HN.out.2.1 HN.out.2.2.1 HN.out.2.2.2).mono ?_; rintro e w5 ⟨rfl, hb⟩; have hF5 := Aside0.mk (hF4.out.below hb); have hG5 := Aside0.mk (hG4.out.below hb); have hb5 := Aside0.mk (hb4.out.trans (hb.mono hb4.out.size)); have hs5 := Aside0.mk (hs4.out.trans (hb.mono hs4.out.size)); clear hb) | (go_at_call 43; with_reducible refine (Places_c hF5.out A1 c1 (Ma.up K) (Kd.C_below HC1.out hb5.out) Hc1.out HN.out.1 HN.out.2.1 HN.out.2.2.1 HN.out.2.2.2).mono ?_; rintro e w6 ⟨vp, rfl, hRp, hb⟩; obtain ⟨Ap, cp, rfl⟩ := Kd.R_slice hRp; have hF6 := Aside0.mk (hF5.out.below hb); have hG6 := Aside0.mk (hG5.out.below hb); have hb6 := Aside0.mk (hb5.out.trans (hb.mono hb5.out.size)); have hs6 := Aside0.mk (hs5.out.trans (hb.mono hs5.out.size)); have hP6 := Aside0.mk hRp; clear hb hRp) | (go_at_call 44; with_reducible refine (PlacesR_c hG6.out A1 c1 (Ma.up K) (Kd.C_below HC1.out hb6.out) Hc1.out HOK.out HN.out.1 HN.out.2.1 HN.out.2.2.1 HN.out.2.2.2).mono ?_; rintro e w7 ⟨vp, rfl, hRp, hb⟩; obtain ⟨Ap2, cp2, rfl⟩ := Kd.R_slice hRp; have hF7 := Aside0.mk (hF6.out.below hb); have hG7 := Aside0.mk (hG6.out.below hb); have hb7 := Aside0.mk (hb6.out.trans (hb.mono hb6.out.size)); have hs7 := Aside0.mk (hs6.out.trans (hb.mono hs6.out.size)); have hP7 := Aside0.mk (Kd.R_below hP6.out hb); have hQ7 := Aside0.mk hRp; clear hb hRp) | (go_at_call 42; with_reducible refine (F.skerryref01_Ints.calls q2 Ap cp (plS (k : Int) (Ma.up R).length (Ma.up K)) Ap2 cp2 (plS (k : Int) (Ma.up R).length (Ma.up K)) true _ (Kd.R_reads' hP7.out).2.2 (Kd.R_reads' hP7.out).2.1 (Kd.R_reads' hQ7.out).2.2 (Kd.R_reads' hQ7.out).2.1 HQ2.out).mono ?_; rintro e w' ⟨rfl, ⟨nd, rfl⟩⟩; have hb := pw_below_drewN (Below.refl w7.heap.size w7) nd; have hF8 := Aside0.mk (hF7.out.below hb); have hG8 := Aside0.mk (hG7.out.below hb); have hb8 := Aside0.mk (hb7.out.trans (hb.mono hb7.out.size)); have hs8 := Aside0.mk (hs7.out.trans (hb.mono hs7.out.size)); clear hb) | (go_at_call 45; with_reducible refine (Bytes_c hF8.out HN.out.1 HN.out.2.1 HN.out.2.2.1 HN.out.2.2.2).mono ?_; rintro e w9 ⟨vp, rfl, hRp, hb⟩; rw [HCAN.out] at hRp; obtain ⟨Ab, cb, rfl⟩ := Kd.R_slice hRp; have hF9 := Aside0.mk (hF8.out.below hb); have hG9 := Aside0.mk (hG8.out.below hb); have hb9 := Aside0.mk (hb8.out.trans (hb.mono hb8.out.size)); have hs9 := Aside0.mk (hs8.out.trans (hb.mono hs8.out.size)); have hB9 := Aside0.mk hRp; clear hb hRp) | (go_at_call 28; with_reducible refine (skerryref01_Same.calls Ab cb (Ma.up L) A0 c0 (Ma.up L) true _ (Kd.R_reads' hB9.out).2.2 (Kd.R_reads' hB9.out).2.1 (Kd.C_below HC0.out hb9.out) Hc0.out (Ma.Same_self _)).mono ?_; rintro e w' ⟨rfl, ⟨nd2, rfl⟩⟩; have hb := pw_below_drewN (Below.refl w9.heap.size w9) nd2; have hF10 := Aside0.mk (hF9.out.below hb); have hG10 := Aside0.mk (hG9.out.below hb); have hb10 := Aside0.mk (hb9.out.trans (hb.mono hb9.out.size)); have hs10 := Aside0.mk (hs9.out.trans (hb.mono hs9.out.size)); clear hb) | (go_at_call 46; with_reducible refine (Add_c hF10.out A1 c1 (Ma.up K) (Kd.C_below HC1.out hb10.out) Hc1.out HN.out.1 HN.out.2.1 HN.out.2.2.1 HN.out.2.2.2).mono ?_; rintro e w11 ⟨rfl, hF, hk⟩; have hF11 := Aside0.mk hF; have hs11 := Aside0.mk (hk.below hs10.out (Nat.le_refl _)); have hb11 := Aside0.mk (hb1.out.trans (hs11.out.mono hb1.out.size)); clear hF hk) | (go_at_call 32; with_reducible refine (skerryref01_Kept.calls Aw cw WL A0 c0 (Ma.up L) true _ (Kd.R_reads' (Kd.R_below hR1.out hs11.out)).2.2 (Kd.R_reads' (Kd.R_below hR1.out hs11.out)).2.1 (Kd.C_below HC0.out hb11.out) Hc0.out HKP.out).mono ?_; rintro e w' ⟨rfl, ⟨nd3, rfl⟩⟩; have hb := pw_below_drewN (Below.refl w11.heap.size w11) nd3; have hF12 := Aside0.mk (hF11.out.below hb); have hb12 := Aside0.mk (hb11.out.trans (hb.mono hb11.out.size)); clear hb) | (go_at_call 40; with_reducible refine (May_c hF12.out A1 c1 (Ma.up K) (Kd.C_below HC1.out hb12.out) Hc1.out HN.out.1 HN.out.2.1 (by rw [addS_len]; exact HN.out.2.2.1) (by rw [addS_len]; exact HN.out.2.2.2)).mono ?_; rintro e w13 ⟨rfl, hb⟩; rw [HMS.out]; have hb13 := Aside0.mk (hb12.out.trans (hb.mono hb12.out.size)); clear hb) | (go_at_call 37; with_reducible refine (lives_c _).mono ?_; rintro e w14 ⟨rfl, hb⟩; have hb14 := Aside0.mk (hb13.out.trans (hb.mono hb13.out.size)); clear hb))
      go_ret
      exact ⟨rfl, hb14.out⟩
theorem bloomReads_walk (a0 : Option Addr) (len0 cap0 : Nat) (z0 : List Int) (a1 : Option Addr) (len1 cap1 : Nat) (z1 : List Int) (w : World)
    (w0 : (a0 = none ∧ len0 = 0 ∧ cap0 = 0 ∧ z0 = []) ∨ ∃ x, a0 = some x ∧ len0 ≤ cap0 ∧ cap0 ≤ maxLen ∧ z0.length = cap0 ∧ (∀ i, i < z0.length → w.cell? (x.add i) = some (.int .u8 (z0.getD i 0))) ∧ ∀ n ∈ z0, (Lit.int .u8 n).wf = true) (y0 : len0 * 1 ≤ 140737488351232)
    (w1 : (a1 = none ∧ len1 = 0 ∧ cap1 = 0 ∧ z1 = []) ∨ ∃ x, a1 = some x ∧ len1 ≤ cap1 ∧ cap1 ≤ maxLen ∧ z1.length = cap1 ∧ (∀ i, i < z1.length → w.cell? (x.add i) = some (.int .u8 (z1.getD i 0))) ∧ ∀ n ∈ z1, (Lit.int .u8 n).wf = true) (y1 : len1 * 1 ≤ 140737488351232) :
    Calls Try.prog 7 #[.slice a0 len0 cap0, .slice a1 len1 cap1] w fun e w' => e = .returned (.bool true) ∧ Below w.heap.size w w' := by
  obtain ⟨l0, rfl, hr0, hm0, hw0, hc0⟩ := ReadsInt.ofRowC w0
  obtain ⟨l1, rfl, hr1, hm1, hw1, hc1⟩ := ReadsInt.ofRowC w1
  obtain ⟨L, hL, rfl⟩ := Ma.up_of l0 hw0
  obtain ⟨K, hK, rfl⟩ := Ma.up_of l1 hw1
  exact reads_c w a0 cap0 L hL (Kd.C_of_reads (d := (0 : Int)) (h1 := fun _ => rfl) hr0) hc0 (by omega) a1 cap1 K hK (Kd.C_of_reads (d := (0 : Int)) (h1 := fun _ => rfl) hr1) hc1 (by omega)
end Go.Proofs.Ytcopbkdlpfcjpaa.L
