/- The law BloomActs, walked. -/
import Derived.Test.YtcopbkdlpfcjpaaBloK
import Derived.Test.YtcopbkdlpfcjpaaFx4
namespace Go.Proofs.Ytcopbkdlpfcjpaa.L
open Go.RowKit Go.Proofs.YtcopbkdlpfcjpaaW.PrintWords Go.Proofs.YtcopbkdlpfcjpaaW.PrintLast Go.Proofs.YtcopbkdlpfcjpaaW.PrintMore Go.Proofs.Ytcopbkdlpfcjpaa.B Go.Proofs.Ytcopbkdlpfcjpaa.M Go.Proofs.Ytcopbkdlpfcjpaa.F
attribute [local go_sem] max2_int min2_int max_two min_two max_three min_three max_four min_four
set_option linter.unusedVariables false
set_option linter.unusedSimpArgs false
theorem rd_L2_mem (l : List (List Int)) (i : Nat) (hi : i < l.length) : rd_L2 l (i : Int) ∈ l := by
  have e : rd_L2 l (i : Int) = l[i] := by
    unfold rd_L2
    rw [Int.toNat_natCast, List.getD_eq_getElem?_getD, List.getElem?_eq_getElem hi]
    rfl
  rw [e]
  exact List.getElem_mem hi
theorem few_loop (l : List (List Int)) (hx : ∀ x ∈ l, x.length ≤ 140737488351232) (hl : l.length ≤ 140737488351232) (d : Nat) : ∀ i n : Nat, i + d = l.length → n ≤ 5000 → i ≤ n → ∃ r, Ev (fun k => skerrylaw08_few.l0 k (n : Int) l (l.length : Int) (i : Int)) r ∧ (r = true → l.length ≤ 5000 ∧ ∀ j, i ≤ j → j < l.length → (rd_L2 l (j : Int)).length ≤ 5000) := by
  induction d with
  | zero =>
    intro i n hi hn hin
    refine ⟨true, Ev.step (f := fun _ => some true) (fun k => ?_) (Ev.now _), fun _ => ⟨by omega, fun j h1 h2 => by omega⟩⟩
    rw [skerrylaw08_few.l0, if_neg (by omega)]
  | succ d ih =>
    intro i n hi hn hin
    have hb := hx _ (rd_L2_mem l i (by omega))
    have hw : wrap64 ((i : Int) + 1) = ((i + 1 : Nat) : Int) := by unfold wrap64; omega
    by_cases h : n + 1 + (rd_L2 l (i : Int)).length > 5000
    · refine ⟨false, Ev.step (f := fun _ => some false) (fun k => ?_) (Ev.now _), fun h => by cases h⟩
      have e : wrap64 ((n : Int) + wrap64 (1 + ((rd_L2 l (i : Int)).length : Int))) = ((n + 1 + (rd_L2 l (i : Int)).length : Nat) : Int) := by unfold wrap64; omega
      rw [skerrylaw08_few.l0, if_pos (by omega), if_pos (by omega), if_pos (by omega), e, if_pos (by omega)]
    · obtain ⟨r, hr, hr2⟩ := ih (i + 1) (n + 1 + (rd_L2 l (i : Int)).length) (by omega) (by omega) (by omega)
      refine ⟨r, Ev.step (fun k => ?_) hr, fun h1 => ⟨(hr2 h1).1, fun j h2 h3 => ?_⟩⟩
      · have e : wrap64 ((n : Int) + wrap64 (1 + ((rd_L2 l (i : Int)).length : Int))) = ((n + 1 + (rd_L2 l (i : Int)).length : Nat) : Int) := by unfold wrap64; omega
        rw [skerrylaw08_few.l0, if_pos (by omega), if_pos (by omega), if_pos (by omega), e, if_neg (by omega), hw]
      · by_cases hji : j = i
        · subst hji; omega
        · exact (hr2 h1).2 j (by omega) h3
theorem few_c {w : World} {A : Option Addr} {c : Nat} {l : List (List Int)} (hC : Kd.C (Kd.slice 5 (Kd.int .u8)) w A l.length l) (hc : l.length ≤ c) (hx : ∀ x ∈ l, x.length ≤ 140737488351232) (hl : l.length ≤ 140737488351232) :
    ∃ r, (r = true → l.length ≤ 5000 ∧ ∀ x ∈ l, x.length ≤ 5000) ∧ Calls Try.prog 54 #[.slice A l.length c] w fun e w' => e = .returned (.bool r) ∧ Below w.heap.size w w' := by
  obtain ⟨r, hr, h⟩ := few_loop l hx hl l.length 0 0 (by omega) (by omega) (by omega)
  obtain ⟨q, hq⟩ := hr.rounds
  refine ⟨r, fun h1 => ⟨(h h1).1, fun x hx => ?_⟩, (skerrylaw08_few.calls q A c l r w hC hc hq).mono fun e w' ⟨h1, h2⟩ => ⟨h1, h2.below⟩⟩
  obtain ⟨j, hj, rfl⟩ := List.getElem_of_mem hx
  have h2 := (h h1).2 j (by omega) hj
  have e : rd_L2 l (j : Int) = l[j] := by
    unfold rd_L2
    rw [Int.toNat_natCast, List.getD_eq_getElem?_getD, List.getElem?_eq_getElem hj]
    rfl
  rw [e] at h2
  exact h2
/-- What is asked of keys that came in. -/
structure Keys (w : World) (A : Option Addr) (c : Nat) (l : List (List Int)) : Prop where
  C : Kd.C (Kd.slice 5 (Kd.int .u8)) w A l.length l
  hc : l.length ≤ c
  hx : ∀ x ∈ l, x.length ≤ 140737488351232
  hl : l.length ≤ 140737488351232
  hb : ∀ x ∈ l, IsB x
theorem okB {key : List Int} (h : IsB key) (hl : key.length ≤ 1000000) : OkKey key := by
  obtain ⟨B, hB, rfl⟩ := h
  exact okKey B hB (by rw [Ma.up_length] at hl; omega)
set_option maxHeartbeats 8000000 in
set_option maxRecDepth 100000 in
theorem acts_bad (w : World) (n bits : Int) (h : n < 0 ∨ 100000 < n ∨ bits < 1 ∨ 32 < bits) (v : Value) : Calls Try.prog 17 #[.int .i64 n, .int .i64 bits, v] w fun e w' => e = .returned (.bool true) ∧ Below w.heap.size w w' := by
  have HF := Aside0.mk (fun w => New_bad n bits w h)
  have HG := Aside0.mk (fun w => NewR_bad n bits w h)
  clear h
  go_enter Try.func17, Try.ntmps17
  go_wp2_with (first | (go_at_call 53; with_reducible refine (HF.out _).mono ?_; rintro e w' ⟨rfl, h2⟩; obtain rfl := h2.symm) | (go_at_call 64; with_reducible refine (HG.out _).mono ?_; rintro e w' ⟨rfl, h2⟩; obtain rfl := h2.symm) | (go_at_call 37; with_reducible refine (lives_c _).mono ?_; rintro e w1 ⟨rfl, hb1⟩))
  go_ret
  exact ⟨rfl, hb1⟩
set_option maxHeartbeats 8000000 in
set_option maxRecDepth 100000 in
theorem acts_ok (w : World) (n bits : Int) (h0 : 0 ≤ n) (h1 : n ≤ 100000) (h2 : 1 ≤ bits) (h3 : bits ≤ 32) (A : Option Addr) (c : Nat) (l : List (List Int)) (HK : Keys w A c l) :
    Calls Try.prog 17 #[.int .i64 n, .int .i64 bits, .slice A l.length c] w fun e w' => e = .returned (.bool true) ∧ Below w.heap.size w w' := by
  have HF := Aside0.mk (fun w => New_ok n bits w h0 h1 h2 h3)
  have HG := Aside0.mk (fun w => NewR_ok n bits w h0 h1 h2 h3)
  have hKi := newK_in bits h2 h3
  have hNi := newN_in n bits h0 h1 h2 h3
  generalize newK bits = K at *
  obtain ⟨N, hN⟩ := Int.eq_ofNat_of_zero_le (show 0 ≤ newN n bits by omega)
  rw [hN] at HF HG hNi
  rw [Int.toNat_natCast] at HF HG
  have HN := Aside0.mk (show 0 < K ∧ K ≤ 16 from ⟨by omega, by omega⟩)
  have HNN := Aside0.mk (show 0 < N ∧ N ≤ 1000000 from ⟨by omega, by omega⟩)
  have HKE := Aside0.mk HK
  clear h0 h1 h2 h3 hKi hNi hN HK
  go_enter Try.func17, Try.ntmps17
  go_upto_region 4 with (first | (go_at_call 53; with_reducible refine (HF.out _).mono ?_; rintro e w1 ⟨f, rfl, hF, hb⟩; have hF1 := Aside0.mk hF; have hb1 := Aside0.mk hb; clear hF hb) | (go_at_call 64; with_reducible refine (HG.out _).mono ?_; rintro e w2 ⟨g, rfl, hG, hb⟩; have hG2 := Aside0.mk hG; have hF2 := Aside0.mk (hF1.out.below hb); have hb2 := Aside0.mk (hb1.out.trans (hb.mono hb1.out.size)); have hs2 := Aside0.mk (hF1.out.lt); clear hG hb))
  obtain ⟨r, hr, hfew⟩ := few_c (Kd.C_below HKE.out.C hb2.out) HKE.out.hc HKE.out.hx HKE.out.hl
  have HFW := Aside0.mk hfew
  have HR := Aside0.mk hr
  clear hfew hr
  cases r with
  | false =>
    go_wp2_with (first | (go_at_call 54; with_reducible refine HFW.out.mono ?_; rintro e w3 ⟨rfl, hb⟩; have hb3 := Aside0.mk (hb2.out.trans (hb.mono hb2.out.size)); clear hb) | (go_at_call 37; with_reducible refine (lives_c _).mono ?_; rintro e w4 ⟨rfl, hb⟩; have hb4 := Aside0.mk (hb3.out.trans (hb.mono hb3.out.size)); clear hb))
    go_ret
    exact ⟨rfl, hb4.out⟩
  | true =>
    have hsm := HR.out rfl
    have HSM := Aside0.mk hsm
    clear hsm
    have HFG := Aside0.mk (And.intro hs2.out hb1.out.size)
    go_wp2_with (go_at_call 54; with_reducible refine HFW.out.mono ?_; rintro e w3 ⟨rfl, hb⟩; have hF3 := Aside0.mk (hF2.out.below hb); have hG3 := Aside0.mk (hG2.out.below hb); have hb3 := Aside0.mk (hb2.out.trans (hb.mono hb2.out.size)); clear hb)
    go_loopg [32] l.length (fun kq v32 w' => ∃ (i : Nat) (bs : List Int), v32 = .int .i64 (i : Int) ∧ Aside0 (kq + i = l.length) ∧ Aside0 (Fil 83 w' w.heap.size f K bs) ∧ Aside0 (Fil 80 w' w1.heap.size g K bs) ∧ Aside0 (Below w.heap.size w w') ∧ Aside0 (IsB bs ∧ bs.length = N))
    case atStart => exact ⟨0, List.replicate N 0, rfl, ⟨by omega⟩, hF3, hG3, hb3, ⟨zeros_B N, List.length_replicate⟩⟩
    case round =>
      obtain ⟨i, bs, rfl, HKq, hF0, hG0, hb0, HBS⟩ := hrel
      have HL0 := Aside0.mk (show 0 < bs.length ∧ bs.length ≤ 1000000 by rw [HBS.out.2]; exact HNN.out)
      by_cases hi : (i : Int) < (l.length : Int)
      · have cb : decide ((i : Int) < (l.length : Int)) = true := decide_eq_true hi
        have cn : i < l.length := by omega
        obtain ⟨ad, A1, c1, rfl, hcell, hkc, hkC⟩ := at_L2 HKE.out.C (i : Int) (by omega) hi
        have hmem := rd_L2_mem l i cn
        have hkl := HSM.out.2 _ hmem
        have hkB := HKE.out.hb _ hmem
        have hcell := bcell hb0.out hcell (World.block_lt_of_cell? _ _ hcell)
        rw [Int.toNat_natCast] at hcell
        generalize rd_L2 l (i : Int) = key at *
        have HKC := Aside0.mk hkC
        have HKc := Aside0.mk hkc
        have HOK := Aside0.mk (okB hkB (by omega))
        obtain ⟨q2, hq2⟩ := ints_self (plS K bs.length key) (by rw [plS_len]; have := HN.out; omega)
        have HQ2 := Aside0.mk hq2
        have HI := Aside0.mk (And.intro hi cn)
        have hwr : wrap64 ((i : Int) + 1) = ((i + 1 : Nat) : Int) := by have := HSM.out.1; unfold wrap64; omega
        have hmod : Int.tmod (i : Int) 3 = (i : Int) % 3 := Int.tmod_eq_emod_of_nonneg (by omega)
        generalize (i : Int) % 3 = m3 at *
        clear hkC hkc hkl hkB hmem hq2 cn
        clear HSM HR HFW hF3 hG3 hb3 hF2 hG2 hb2 hF1 hs2
        by_cases h3 : (0 : Int) < m3
        · have hb3_ : decide ((0 : Int) < m3) = true := decide_eq_true h3
          clear h3
          go_wp2_with (first | (go_at_call 43; with_reducible refine (Places_c hF0.out A1 c1 key (Kd.C_below HKC.out hb0.out) HKc.out HN.out.1 HN.out.2 HL0.out.1 HL0.out.2).mono ?_; rintro e w1 ⟨vp, rfl, hRp, hb⟩; obtain ⟨Ap, cp, rfl⟩ := Kd.R_slice hRp; have hF1 := Aside0.mk (hF0.out.below hb); have hG1 := Aside0.mk (hG0.out.below hb); have hb1 := Aside0.mk (hb0.out.trans (hb.mono hb0.out.size)); have hP1 := Aside0.mk hRp; clear hb hRp) | (go_at_call 44; with_reducible refine (PlacesR_c hG1.out A1 c1 key (Kd.C_below HKC.out hb1.out) HKc.out HOK.out HN.out.1 HN.out.2 HL0.out.1 HL0.out.2).mono ?_; rintro e w2 ⟨vp, rfl, hRp, hb⟩; obtain ⟨Ap2, cp2, rfl⟩ := Kd.R_slice hRp; have hF2 := Aside0.mk (hF1.out.below hb); have hG2 := Aside0.mk (hG1.out.below hb); have hb2 := Aside0.mk (hb1.out.trans (hb.mono hb1.out.size)); have hP2 := Aside0.mk (Kd.R_below hP1.out hb); have hQ2 := Aside0.mk hRp; clear hb hRp) | (go_at_call 42; with_reducible refine (F.skerryref01_Ints.calls q2 Ap cp (plS K bs.length key) Ap2 cp2 (plS K bs.length key) true _ (Kd.R_reads' hP2.out).2.2 (Kd.R_reads' hP2.out).2.1 (Kd.R_reads' hQ2.out).2.2 (Kd.R_reads' hQ2.out).2.1 HQ2.out).mono ?_; rintro e w' ⟨rfl, ⟨nd, rfl⟩⟩; have hb := pw_below_drewN (Below.refl w2.heap.size w2) nd; have hF3 := Aside0.mk (hF2.out.below hb); have hG3 := Aside0.mk (hG2.out.below hb); have hb3 := Aside0.mk (hb2.out.trans (hb.mono hb2.out.size)); clear hb) | (go_at_call 40; with_reducible refine (May_c hF3.out A1 c1 key (Kd.C_below HKC.out hb3.out) HKc.out HN.out.1 HN.out.2 HL0.out.1 HL0.out.2).mono ?_; rintro e w4 ⟨rfl, hb⟩; have hF4 := Aside0.mk (hF3.out.below hb); have hG4 := Aside0.mk (hG3.out.below hb); have hb4 := Aside0.mk (hb3.out.trans (hb.mono hb3.out.size)); clear hb) | (go_at_call 41; with_reducible refine (MayR_c hG4.out A1 c1 key (Kd.C_below HKC.out hb4.out) HKc.out HOK.out HN.out.1 HN.out.2 HL0.out.1 HL0.out.2).mono ?_; rintro e w5 ⟨rfl, hb⟩; have hF5 := Aside0.mk (hF4.out.below hb); have hG5 := Aside0.mk (hG4.out.below hb); have hb5 := Aside0.mk (hb4.out.trans (hb.mono hb4.out.size)); clear hb) | (go_at_call 46; with_reducible refine (Add_c hF5.out A1 c1 key (Kd.C_below HKC.out hb5.out) HKc.out HN.out.1 HN.out.2 HL0.out.1 HL0.out.2).mono ?_; rintro e w6 ⟨rfl, hF, hk⟩; have hF6 := Aside0.mk hF; have hG6 := Aside0.mk (hG5.out.keep hk (.inl HFG.out.1)); have hb6 := Aside0.mk (hk.below hb5.out (Nat.le_refl _)); clear hF hk) | (go_at_call 65; with_reducible refine (AddR_c hG6.out A1 c1 key (Kd.C_below HKC.out hb6.out) HKc.out HOK.out HN.out.1 HN.out.2 HL0.out.1 HL0.out.2).mono ?_; rintro e w7 ⟨rfl, hG, hk⟩; have hG7 := Aside0.mk hG; have hF7 := Aside0.mk (hF6.out.keep hk (.inr HFG.out.1)); have hb7 := Aside0.mk (hk.below hb6.out HFG.out.2); clear hG hk))
          go_roundg (gk - 1)
          case measure => have := HKq.out; have := HI.out; omega
          case rel => exact ⟨i + 1, addS K bs key, (by first | rfl | (simp; done) | rw [hwr]), ⟨by have := HKq.out; have := HI.out; omega⟩, hF7, hG7, hb7, ⟨addS_B K bs key HBS.out.1 HL0.out.1 HL0.out.2, by rw [addS_len]; exact HBS.out.2⟩⟩
        · have hb3_ : decide ((0 : Int) < m3) = false := decide_eq_false h3
          clear h3
          go_wp2_with (first | (go_at_call 43; with_reducible refine (Places_c hF0.out A1 c1 key (Kd.C_below HKC.out hb0.out) HKc.out HN.out.1 HN.out.2 HL0.out.1 HL0.out.2).mono ?_; rintro e w1 ⟨vp, rfl, hRp, hb⟩; obtain ⟨Ap, cp, rfl⟩ := Kd.R_slice hRp; have hF1 := Aside0.mk (hF0.out.below hb); have hG1 := Aside0.mk (hG0.out.below hb); have hb1 := Aside0.mk (hb0.out.trans (hb.mono hb0.out.size)); have hP1 := Aside0.mk hRp; clear hb hRp) | (go_at_call 44; with_reducible refine (PlacesR_c hG1.out A1 c1 key (Kd.C_below HKC.out hb1.out) HKc.out HOK.out HN.out.1 HN.out.2 HL0.out.1 HL0.out.2).mono ?_; rintro e w2 ⟨vp, rfl, hRp, hb⟩; obtain ⟨Ap2, cp2, rfl⟩ := Kd.R_slice hRp; have hF2 := Aside0.mk (hF1.out.below hb); have hG2 := Aside0.mk (hG1.out.below hb); have hb2 := Aside0.mk (hb1.out.trans (hb.mono hb1.out.size)); have hP2 := Aside0.mk (Kd.R_below hP1.out hb); have hQ2 := Aside0.mk hRp; clear hb hRp) | (go_at_call 42; with_reducible refine (F.skerryref01_Ints.calls q2 Ap cp (plS K bs.length key) Ap2 cp2 (plS K bs.length key) true _ (Kd.R_reads' hP2.out).2.2 (Kd.R_reads' hP2.out).2.1 (Kd.R_reads' hQ2.out).2.2 (Kd.R_reads' hQ2.out).2.1 HQ2.out).mono ?_; rintro e w' ⟨rfl, ⟨nd, rfl⟩⟩; have hb := pw_below_drewN (Below.refl w2.heap.size w2) nd; have hF3 := Aside0.mk (hF2.out.below hb); have hG3 := Aside0.mk (hG2.out.below hb); have hb3 := Aside0.mk (hb2.out.trans (hb.mono hb2.out.size)); clear hb) | (go_at_call 40; with_reducible refine (May_c hF3.out A1 c1 key (Kd.C_below HKC.out hb3.out) HKc.out HN.out.1 HN.out.2 HL0.out.1 HL0.out.2).mono ?_; rintro e w4 ⟨rfl, hb⟩; have hF4 := Aside0.mk (hF3.out.below hb); have hG4 := Aside0.mk (hG3.out.below hb); have hb4 := Aside0.mk (hb3.out.trans (hb.mono hb3.out.size)); clear hb) | (go_at_call 41; with_reducible refine (MayR_c hG4.out A1 c1 key (Kd.C_below HKC.out hb4.out) HKc.out HOK.out HN.out.1 HN.out.2 HL0.out.1 HL0.out.2).mono ?_; rintro e w5 ⟨rfl, hb⟩; have hF5 := Aside0.mk (hF4.out.below hb); have hG5 := Aside0.mk (hG4.out.below hb); have hb5 := Aside0.mk (hb4.out.trans (hb.mono hb4.out.size)); clear hb))
          go_roundg (gk - 1)
          case measure => have := HKq.out; have := HI.out; omega
          case rel => exact ⟨i + 1, bs, (by first | rfl | (simp; done) | rw [hwr]), ⟨by have := HKq.out; have := HI.out; omega⟩, hF5, hG5, hb5, HBS⟩
      · have cb : decide ((i : Int) < (l.length : Int)) = false := decide_eq_false hi
        have hiK : l.length ≤ i := by omega
        clear hi
        clear HSM HR HFW hF3 hG3 hb3 hF2 hG2 hb2 hF1 hs2
        have hlB : Aside0 ((bytesS K bs).length ≤ 2000000) := ⟨by
          unfold bytesS
          rw [List.length_append, List.length_append, Ma.up_length, Ma.up_length]
          have h1 := Ma.digN_len64 K.toNat (by have := HN.out; omega)
          have h2 := Ma.digN_len64 bs.length (by have := HL0.out; omega)
          have := HL0.out
          omega⟩
        have hsame := Aside0.mk (Ma.Same_self (bytesS K bs))
        generalize hbb : bytesS K bs = bb at *
        replace hbb := Aside0.mk hbb
        go_upto_region 15 with (fail)
        obtain ⟨b, cb2, hc1, hlb, hbg, hRb⟩ := hG0.out.row HL0.out.1
        have hS : Below w.heap.size w wr.drew ∧ Below wr.heap.size wr wr.drew ∧ wr.drew.cell? ⟨g, 1, none⟩ = some (.slice (some ⟨b, 0, none⟩) bs.length cb2) := ⟨pw_below_drewN hb0.out 1, pw_below_drewN (Below.refl _ _) 1, hc1⟩
        have HST := Aside0.mk (show ∀ W W1 : World, (Below w.heap.size w W ∧ Below wr.heap.size wr W ∧ W.cell? ⟨g, 1, none⟩ = some (.slice (some ⟨b, 0, none⟩) bs.length cb2)) → Below W.heap.size W W1 → (Below w.heap.size w W1 ∧ Below wr.heap.size wr W1 ∧ W1.cell? ⟨g, 1, none⟩ = some (.slice (some ⟨b, 0, none⟩) bs.length cb2)) from fun W W1 h hb => ⟨h.1.trans (hb.mono h.1.size), h.2.1.trans (hb.mono h.2.1.size), bcell hb h.2.2 (Nat.lt_of_lt_of_le (show g < wr.heap.size from hG0.out.lt) h.2.1.size)⟩)
        clear hRb hlb hbg
        have hw8 : wrap64 (8 * (bs.length : Int)) = 8 * (bs.length : Int) := by have := HL0.out.2; unfold wrap64; omega
        obtain ⟨z, hz⟩ : ∃ z, 8 * (bs.length : Int) = z := ⟨_, rfl⟩
        rw [hz] at hw8
        have hw9 : IntKind.i64.wrap z = z := by rw [i64_w]; exact hw8
        replace hz := Aside0.mk hz
        go_region_held3 (fun W => Below w.heap.size w W ∧ Below wr.heap.size wr W ∧ W.cell? ⟨g, 1, none⟩ = some (.slice (some ⟨b, 0, none⟩) bs.length cb2)) (assumption) (first
          | (go_at_call 45; with_reducible refine (Bytes_c (hF0.out.below hS.2.1) HN.out.1 HN.out.2 HL0.out.1 HL0.out.2).mono ?_; rintro e w4 ⟨v4, rfl, hR4, hb⟩; rw [hbb.out] at hR4; obtain ⟨A4, c4, rfl⟩ := Kd.R_slice hR4; have hS4 := HST.out _ _ hS hb; replace hR4 := Aside0.mk hR4; clear hb)
          | (go_at_call 66; with_reducible refine (BytesR_c (hG0.out.below hS4.2.1) HN.out.1 HN.out.2 HL0.out.1 HL0.out.2).mono ?_; rintro e w5 ⟨v5, rfl, hR5, hb⟩; rw [hbb.out] at hR5; obtain ⟨A5, c5, rfl⟩ := Kd.R_slice hR5; have hS5 := HST.out _ _ hS4 hb; have hP5 := Aside0.mk (Kd.R_below hR4.out hb); replace hR5 := Aside0.mk hR5; clear hb)
          | (go_at_call 28; with_reducible refine (skerryref01_Same.calls A4 c4 bb A5 c5 bb true _ (Kd.R_reads' hP5.out).2.2 (Kd.R_reads' hP5.out).2.1 (Kd.R_reads' hR5.out).2.2 (Kd.R_reads' hR5.out).2.1 hsame.out).mono ?_; rintro e w6 ⟨rfl, h6⟩; have hS6 := HST.out _ _ hS5 h6.below; clear h6)
          | (go_at_call 55; with_reducible refine (Size_n (hF0.out.below hS6.2.1) HN.out.1 bs.length rfl HL0.out.2).mono ?_; rintro e w' ⟨rfl, rfl⟩; rw [hz.out])
          | (go_at_call 37; with_reducible refine (lives_c _).mono ?_; rintro e w8 ⟨rfl, hb⟩; have hS8 := HST.out _ _ hS6 hb; clear hb))
        go_wp2_with (fail)
        go_ret
        exact ⟨rfl, hS8.1⟩
end Go.Proofs.Ytcopbkdlpfcjpaa.L
