/- The bloom layer by hand: Bytes of both. -/
import Derived.Test.YtcopbkdlpfcjpaaBloE
import Derived.Test.YtcopbkdlpfcjpaaMb
namespace Go.Proofs.Ytcopbkdlpfcjpaa.L
open Go.RowKit Go.Proofs.YtcopbkdlpfcjpaaW.PrintWords Go.Proofs.YtcopbkdlpfcjpaaW.PrintLast Go.Proofs.YtcopbkdlpfcjpaaW.PrintMore Go.Proofs.Ytcopbkdlpfcjpaa.B Go.Proofs.Ytcopbkdlpfcjpaa.M
attribute [local go_sem] max2_int min2_int max_two min_two max_three min_three max_four min_four
set_option linter.unusedVariables false
set_option linter.unusedSimpArgs false
/-- A filter in bytes. -/
def bytesS (k : Int) (bs : List Int) : List Int := Ma.up (Ma.digN k.toNat) ++ Ma.up (Ma.digN bs.length) ++ bs
theorem put1 (k : Nat) (h : k < 18446744073709551616) : ∃ q, codec_Put.f q [] (k : Int) = some (Ma.up (Ma.digN k)) := by
  obtain ⟨q, hq⟩ := (Ma.Put_ev [] k h (by simp)).rounds
  exact ⟨q, hq⟩
theorem put2 (k n : Nat) (h : n < 18446744073709551616) (hk : k < 18446744073709551616) : ∃ q, codec_Put.f q (Ma.up (Ma.digN k)) (n : Int) = some (Ma.up (Ma.digN k) ++ Ma.up (Ma.digN n)) := by
  obtain ⟨q, hq⟩ := (Ma.Put_ev (Ma.digN k) n h (by have := Ma.digN_len64 k hk; omega)).rounds
  exact ⟨q, hq⟩
theorem put1R (k : Nat) (h : k < 18446744073709551616) : ∃ q, skerryref01_Put.f q [] (k : Int) = some (Ma.up (Ma.digN k)) := by
  obtain ⟨q, hq⟩ := (Ma.refPut_ev [] k h (by simp)).rounds
  exact ⟨q, hq⟩
theorem put2R (k n : Nat) (h : n < 18446744073709551616) (hk : k < 18446744073709551616) : ∃ q, skerryref01_Put.f q (Ma.up (Ma.digN k)) (n : Int) = some (Ma.up (Ma.digN k) ++ Ma.up (Ma.digN n)) := by
  obtain ⟨q, hq⟩ := (Ma.refPut_ev (Ma.digN k) n h (by have := Ma.digN_len64 k hk; omega)).rounds
  exact ⟨q, hq⟩
set_option maxHeartbeats 8000000 in
set_option maxRecDepth 100000 in
theorem Bytes_c {w : World} {lo f : Nat} {k : Int} {bs : List Int} (hF : Fil 83 w lo f k bs) (hk0 : 0 < k) (hk : k ≤ 16) (hn0 : 0 < bs.length) (hn : bs.length ≤ 1000000) :
    Calls Try.prog 45 #[.pointer (some ⟨f, 0, none⟩)] w fun e w' => ∃ v, e = .returned v ∧ (Kd.int .u8).R 5 w' w.heap.size (fun _ => True) v (bytesS k bs) ∧ Below w.heap.size w w' := by
  obtain ⟨K, rfl⟩ := Int.eq_ofNat_of_zero_le (show 0 ≤ k by omega)
  obtain ⟨q1, hq1⟩ := put1 K (by omega)
  obtain ⟨q2, hq2⟩ := put2 K bs.length (by omega) (by omega)
  have hbs : bytesS (K : Int) bs = Ma.up (Ma.digN K) ++ Ma.up (Ma.digN bs.length) ++ bs := rfl
  have hl1 : (Ma.up (Ma.digN K)).length ≤ 10 := by rw [Ma.up_length]; exact Ma.digN_len64 K (by omega)
  have hl2 : (Ma.up (Ma.digN bs.length)).length ≤ 10 := by rw [Ma.up_length]; exact Ma.digN_len64 _ (by omega)
  rw [hbs]
  have hl2 : (Ma.up (Ma.digN K) ++ Ma.up (Ma.digN bs.length)).length ≤ 20 := by rw [List.length_append]; omega
  generalize Ma.up (Ma.digN K) ++ Ma.up (Ma.digN bs.length) = d2 at *
  generalize Ma.up (Ma.digN K) = d1 at *
  have hmade := made_c hF
  rw [decide_eq_true hk0] at hmade
  have HM := Aside0.mk hmade
  obtain ⟨b, c, hc1, hlb, hbf, hR⟩ := hF.row hn0
  have hc0 := hF.cell0
  have hsz := hF.lt
  have HCb := Aside0.mk (Kd.R_reads' hR).2.2
  have HCc := Aside0.mk (Kd.R_reads' hR).2.1
  rw [← show IntKind.u64.wrap (K : Int) = (K : Int) by rw [IntKind.wrap_u64]; omega] at hq1
  rw [← show IntKind.u64.wrap (bs.length : Int) = (bs.length : Int) by rw [IntKind.wrap_u64]; omega] at hq2
  have HQ1 := Aside0.mk hq1
  have HQ2 := Aside0.mk hq2
  have HF := Aside0.mk (And.intro hsz (And.intro hl1 (And.intro hl2 hn)))
  have hS : Below w.heap.size w w.drew ∧ w.drew.cell? ⟨f, 0, none⟩ = some (.int .i64 (K : Int)) ∧ w.drew.cell? ⟨f, 1, none⟩ = some (.slice (some ⟨b, 0, none⟩) bs.length c) := ⟨pw_below_drewN (Below.refl _ _) 1, hc0, hc1⟩
  have hstep : ∀ W W1 : World, (Below w.heap.size w W ∧ W.cell? ⟨f, 0, none⟩ = some (.int .i64 (K : Int)) ∧ W.cell? ⟨f, 1, none⟩ = some (.slice (some ⟨b, 0, none⟩) bs.length c)) → Below W.heap.size W W1 → (Below w.heap.size w W1 ∧ W1.cell? ⟨f, 0, none⟩ = some (.int .i64 (K : Int)) ∧ W1.cell? ⟨f, 1, none⟩ = some (.slice (some ⟨b, 0, none⟩) bs.length c)) := by
    intro W W1 h hb
    have h1 := h.1.size
    exact ⟨h.1.trans (hb.mono h1), bcell hb h.2.1 (by show f < _; omega), bcell hb h.2.2 (by show f < _; omega)⟩
  have HST := Aside0.mk hstep
  clear hmade hF hR hlb hbf hk hk0 hn0 hq1 hq2 hstep hbs hl1 hl2 hsz hn
  go_enter Try.func45, Try.ntmps45
  go_upto_region 3 with (go_at_call 77; refine HM.out.mono ?_; rintro e w' ⟨rfl, h2⟩; obtain rfl := h2.symm)
  go_region_held3 (fun W => Below w.heap.size w W ∧ W.cell? ⟨f, 0, none⟩ = some (.int .i64 (K : Int)) ∧ W.cell? ⟨f, 1, none⟩ = some (.slice (some ⟨b, 0, none⟩) bs.length c)) (assumption) (first
    | (go_at_call 24; refine (codec_Put.calls q2 A1 c1 d1 _ _ _ (Kd.R_reads' hR1.out).2.2 (Kd.R_reads' hR1.out).2.1 HQ2.out).mono ?_; rintro e w2 ⟨v2, rfl, hR2, hb2⟩; obtain ⟨A2, c2, rfl⟩ := Kd.R_slice hR2; have hS2 := HST.out _ _ hS1 hb2; replace hR2 := Aside0.mk hR2; clear hb2)
    | (go_at_call 24; refine (codec_Put.calls q1 none 0 [] _ _ _ (Kd.C_nil _ _) (Nat.le_refl _) HQ1.out).mono ?_; rintro e w1 ⟨v1, rfl, hR1, hb1⟩; obtain ⟨A1, c1, rfl⟩ := Kd.R_slice hR1; have hS1 := HST.out _ _ hS hb1; replace hR1 := Aside0.mk hR1; clear hb1)
    | (refine Kd.R_append_rows_step (Kd.int .u8) (w0 := w) w.heap.size (by kernel_rfl) (.tmp 18) (.tmp 22) 27 5 (.int .u8 0) 1 rfl Try.underlying27 info5 rfl (by decide) (by omega) (.slice A2 d2.length c2) d2 bs (some ⟨b, 0, none⟩) bs.length c (fun _ => True) (fun _ => False) rfl rfl (Kd.R_lower hR2.out hS1.1.size) (Kd.C_below HCb.out hS2.1) (fun _ _ h => h) (fun _ h => h.elim) (fun _ _ => trivial) hS2.1 hS2.1.size (by have := HF.out; omega) ?_; intro v3 w3 hR3 hb3 hg3 hat; have hS3 : Below w.heap.size w w3 ∧ w3.cell? ⟨f, 0, none⟩ = some (.int .i64 (K : Int)) ∧ w3.cell? ⟨f, 1, none⟩ = some (.slice (some ⟨b, 0, none⟩) bs.length c) := ⟨hb3, bcell hb3 hc0 HF.out.1, bcell hb3 hc1 HF.out.1⟩; replace hR3 := Aside0.mk hR3; clear hg3 hat))
  go_wp2_with (fail)
  go_ret
  exact ⟨_, rfl, hR3.out, hS3.1⟩
set_option maxHeartbeats 8000000 in
set_option maxRecDepth 100000 in
theorem BytesR_c {w : World} {lo f : Nat} {k : Int} {bs : List Int} (hF : Fil 80 w lo f k bs) (hk0 : 0 < k) (hk : k ≤ 16) (hn0 : 0 < bs.length) (hn : bs.length ≤ 1000000) :
    Calls Try.prog 66 #[.pointer (some ⟨f, 0, none⟩)] w fun e w' => ∃ v, e = .returned v ∧ (Kd.int .u8).R 5 w' w.heap.size (fun _ => True) v (bytesS k bs) ∧ Below w.heap.size w w' := by
  obtain ⟨K, rfl⟩ := Int.eq_ofNat_of_zero_le (show 0 ≤ k by omega)
  obtain ⟨q1, hq1⟩ := put1R K (by omega)
  obtain ⟨q2, hq2⟩ := put2R K bs.length (by omega) (by omega)
  have hbs : bytesS (K : Int) bs = Ma.up (Ma.digN K) ++ Ma.up (Ma.digN bs.length) ++ bs := rfl
  have hl1 : (Ma.up (Ma.digN K)).length ≤ 10 := by rw [Ma.up_length]; exact Ma.digN_len64 K (by omega)
  have hl2 : (Ma.up (Ma.digN bs.length)).length ≤ 10 := by rw [Ma.up_length]; exact Ma.digN_len64 _ (by omega)
  rw [hbs]
  have hl2 : (Ma.up (Ma.digN K) ++ Ma.up (Ma.digN bs.length)).length ≤ 20 := by rw [List.length_append]; omega
  generalize Ma.up (Ma.digN K) ++ Ma.up (Ma.digN bs.length) = d2 at *
  generalize Ma.up (Ma.digN K) = d1 at *
  obtain ⟨b, c, hc1, hlb, hbf, hR⟩ := hF.row hn0
  have hc0 := hF.cell0
  have hsz := hF.lt
  have HCb := Aside0.mk (Kd.R_reads' hR).2.2
  have HCc := Aside0.mk (Kd.R_reads' hR).2.1
  rw [← show IntKind.u64.wrap (K : Int) = (K : Int) by rw [IntKind.wrap_u64]; omega] at hq1
  rw [← show IntKind.u64.wrap (bs.length : Int) = (bs.length : Int) by rw [IntKind.wrap_u64]; omega] at hq2
  have HQ1 := Aside0.mk hq1
  have HQ2 := Aside0.mk hq2
  have HF := Aside0.mk (And.intro hsz (And.intro hl1 (And.intro hl2 hn)))
  have hS : Below w.heap.size w w.drew ∧ w.drew.cell? ⟨f, 0, none⟩ = some (.int .i64 (K : Int)) ∧ w.drew.cell? ⟨f, 1, none⟩ = some (.slice (some ⟨b, 0, none⟩) bs.length c) := ⟨pw_below_drewN (Below.refl _ _) 1, hc0, hc1⟩
  have hstep : ∀ W W1 : World, (Below w.heap.size w W ∧ W.cell? ⟨f, 0, none⟩ = some (.int .i64 (K : Int)) ∧ W.cell? ⟨f, 1, none⟩ = some (.slice (some ⟨b, 0, none⟩) bs.length c)) → Below W.heap.size W W1 → (Below w.heap.size w W1 ∧ W1.cell? ⟨f, 0, none⟩ = some (.int .i64 (K : Int)) ∧ W1.cell? ⟨f, 1, none⟩ = some (.slice (some ⟨b, 0, none⟩) bs.length c)) := by
    intro W W1 h hb
    have h1 := h.1.size
    exact ⟨h.1.trans (hb.mono h1), bcell hb h.2.1 (by show f < _; omega), bcell hb h.2.2 (by show f < _; omega)⟩
  have HST := Aside0.mk hstep
  clear hF hR hlb hbf hk hk0 hn0 hq1 hq2 hstep hbs hl1 hl2 hsz hn
  go_enter Try.func66, Try.ntmps66
  go_upto_region 1 with (fail)
  go_region_held3 (fun W => Below w.heap.size w W ∧ W.cell? ⟨f, 0, none⟩ = some (.int .i64 (K : Int)) ∧ W.cell? ⟨f, 1, none⟩ = some (.slice (some ⟨b, 0, none⟩) bs.length c)) (assumption) (first
    | (go_at_call 29; refine (skerryref01_Put.calls q2 A1 c1 d1 _ _ _ (Kd.R_reads' hR1.out).2.2 (Kd.R_reads' hR1.out).2.1 HQ2.out).mono ?_; rintro e w2 ⟨v2, rfl, hR2, hb2⟩; obtain ⟨A2, c2, rfl⟩ := Kd.R_slice hR2; have hS2 := HST.out _ _ hS1 hb2; replace hR2 := Aside0.mk hR2; clear hb2)
    | (go_at_call 29; refine (skerryref01_Put.calls q1 none 0 [] _ _ _ (Kd.C_nil _ _) (Nat.le_refl _) HQ1.out).mono ?_; rintro e w1 ⟨v1, rfl, hR1, hb1⟩; obtain ⟨A1, c1, rfl⟩ := Kd.R_slice hR1; have hS1 := HST.out _ _ hS hb1; replace hR1 := Aside0.mk hR1; clear hb1)
    | (refine Kd.R_append_rows_step (Kd.int .u8) (w0 := w) w.heap.size (by kernel_rfl) (.tmp 15) (.tmp 19) 27 5 (.int .u8 0) 1 rfl Try.underlying27 info5 rfl (by decide) (by omega) (.slice A2 d2.length c2) d2 bs (some ⟨b, 0, none⟩) bs.length c (fun _ => True) (fun _ => False) rfl rfl (Kd.R_lower hR2.out hS1.1.size) (Kd.C_below HCb.out hS2.1) (fun _ _ h => h) (fun _ h => h.elim) (fun _ _ => trivial) hS2.1 hS2.1.size (by have := HF.out; omega) ?_; intro v3 w3 hR3 hb3 hg3 hat; have hS3 : Below w.heap.size w w3 ∧ w3.cell? ⟨f, 0, none⟩ = some (.int .i64 (K : Int)) ∧ w3.cell? ⟨f, 1, none⟩ = some (.slice (some ⟨b, 0, none⟩) bs.length c) := ⟨hb3, bcell hb3 hc0 HF.out.1, bcell hb3 hc1 HF.out.1⟩; replace hR3 := Aside0.mk hR3; clear hg3 hat))
  go_wp2_with (fail)
  go_ret
  exact ⟨_, rfl, hR3.out, hS3.1⟩
end Go.Proofs.Ytcopbkdlpfcjpaa.L
