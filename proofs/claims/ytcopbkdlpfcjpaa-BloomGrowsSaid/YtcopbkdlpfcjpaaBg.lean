/- The law BloomGrows: the walk, and what it leans on of the walks of BloomActs and BloomNever (BloN, BloR, BloS, BloT, joined). -/
import Derived.Test.YtcopbkdlpfcjpaaBloK
import Derived.Test.YtcopbkdlpfcjpaaFx4
import Derived.Deep.Matrix
import Derived.SizedLaws
import Derived.ChangeSlices
namespace Go.Proofs.Ytcopbkdlpfcjpaa.L
open Go.RowKit Go.Proofs.YtcopbkdlpfcjpaaW.PrintWords Go.Proofs.YtcopbkdlpfcjpaaW.PrintLast Go.Proofs.YtcopbkdlpfcjpaaW.PrintMore Go.Proofs.Ytcopbkdlpfcjpaa.B Go.Proofs.Ytcopbkdlpfcjpaa.M Go.Proofs.Ytcopbkdlpfcjpaa.F
attribute [local go_sem] max2_int min2_int max_two min_two max_three min_three max_four min_four
set_option linter.unusedVariables false
set_option linter.unusedSimpArgs false
theorem rd_L2_mem (l : List (List Int)) (i : Nat) (hi : i < l.length) : rd_L2 l (i : Int) ∈ l := by
  have e : rd_L2 l (i : Int) = l[i] := by
    unfold rd_L2
    rw [Int.toNat_natCast, List.getD_eq_getElem?_getD, List.getElem?_eq_getElem hi]
    rfl
  rw [e]
  exact List.getElem_mem hi
theorem few_loop (l : List (List Int)) (hx : ∀ x ∈ l, x.length ≤ 140737488351232) (hl : l.length ≤ 140737488351232) (d : Nat) : ∀ i n : Nat, i + d = l.length → n ≤ 5000 → i ≤ n → ∃ r, Ev (fun k => skerrylaw08_few.l0 k (n : Int) l (l.length : Int) (i : Int)) r ∧ (r = true → l.length ≤ 5000 ∧ ∀ j, i ≤ j → j < l.length → (rd_L2 l (j : Int)).length ≤ 5000) := by
  induction d with
  | zero =>
    intro i n hi hn hin
    refine ⟨true, Ev.step (f := fun _ => some true) (fun k => ?_) (Ev.now _), fun _ => ⟨by omega, fun j h1 h2 => by omega⟩⟩
    rw [skerrylaw08_few.l0, if_neg (by omega)]
  | succ d ih =>
    intro i n hi hn hin
    have hb := hx _ (rd_L2_mem l i (by omega))
    have hw : wrap64 ((i : Int) + 1) = ((i + 1 : Nat) : Int) := by unfold wrap64; omega
    by_cases h : n + 1 + (rd_L2 l (i : Int)).length > 5000
    · refine ⟨false, Ev.step (f := fun _ => some false) (fun k => ?_) (Ev.now _), fun h => by cases h⟩
      have e : wrap64 ((n : Int) + wrap64 (1 + ((rd_L2 l (i : Int)).length : Int))) = ((n + 1 + (rd_L2 l (i : Int)).length : Nat) : Int) := by unfold wrap64; omega
      rw [skerrylaw08_few.l0, if_pos (by omega), if_pos (by omega), if_pos (by omega), e, if_pos (by omega)]
    · obtain ⟨r, hr, hr2⟩ := ih (i + 1) (n + 1 + (rd_L2 l (i : Int)).length) (by omega) (by omega) (by omega)
      refine ⟨r, Ev.step (fun k => ?_) hr, fun h1 => ⟨(hr2 h1).1, fun j h2 h3 => ?_⟩⟩
      · have e : wrap64 ((n : Int) + wrap64 (1 + ((rd_L2 l (i : Int)).length : Int))) = ((n + 1 + (rd_L2 l (i : Int)).length : Nat) : Int) := by unfold wrap64; omega
        rw [skerrylaw08_few.l0, if_pos (by omega), if_pos (by omega), if_pos (by omega), e, if_neg (by omega), hw]
      · by_cases hji : j = i
        · subst hji; omega
        · exact (hr2 h1).2 j (by omega) h3
theorem few_c {w : World} {A : Option Addr} {c : Nat} {l : List (List Int)} (hC : Kd.C (Kd.slice 5 (Kd.int .u8)) w A l.length l) (hc : l.length ≤ c) (hx : ∀ x ∈ l, x.length ≤ 140737488351232) (hl : l.length ≤ 140737488351232) :
    ∃ r, (r = true → l.length ≤ 5000 ∧ ∀ x ∈ l, x.length ≤ 5000) ∧ Calls Try.prog 54 #[.slice A l.length c] w fun e w' => e = .returned (.bool r) ∧ Below w.heap.size w w' := by
  obtain ⟨r, hr, h⟩ := few_loop l hx hl l.length 0 0 (by omega) (by omega) (by omega)
  obtain ⟨q, hq⟩ := hr.rounds
  refine ⟨r, fun h1 => ⟨(h h1).1, fun x hx => ?_⟩, (skerrylaw08_few.calls q A c l r w hC hc hq).mono fun e w' ⟨h1, h2⟩ => ⟨h1, h2.below⟩⟩
  obtain ⟨j, hj, rfl⟩ := List.getElem_of_mem hx
  have h2 := (h h1).2 j (by omega) hj
  have e : rd_L2 l (j : Int) = l[j] := by
    unfold rd_L2
    rw [Int.toNat_natCast, List.getD_eq_getElem?_getD, List.getElem?_eq_getElem hj]
    rfl
  rw [e] at h2
  exact h2
/-- What is asked of keys that came in. -/
structure Keys (w : World) (A : Option Addr) (c : Nat) (l : List (List Int)) : Prop where
  C : Kd.C (Kd.slice 5 (Kd.int .u8)) w A l.length l
  hc : l.length ≤ c
  hx : ∀ x ∈ l, x.length ≤ 140737488351232
  hl : l.length ≤ 140737488351232
  hb : ∀ x ∈ l, IsB x
theorem okB {key : List Int} (h : IsB key) (hl : key.length ≤ 1000000) : OkKey key := by
  obtain ⟨B, hB, rfl⟩ := h
  exact okKey B hB (by rw [Ma.up_length] at hl; omega)
set_option maxHeartbeats 8000000 in
set_option maxRecDepth 100000 in
theorem acts_bad (w : World) (n bits : Int) (h : n < 0 ∨ 100000 < n ∨ bits < 1 ∨ 32 < bits) (v : Value) : Calls Try.prog 17 #[.int .i64 n, .int .i64 bits, v] w fun e w' => e = .returned (.bool true) ∧ Below w.heap.size w w' := by
  have HF := Aside0.mk (fun w => New_bad n bits w h)
  have HG := Aside0.mk (fun w => NewR_bad n bits w h)
  clear h
  go_enter Try.func17, Try.ntmps17
  go_wp2_with (first | (go_at_call 53; with_reducible refine (HF.out _).mono ?_; rintro e w' ⟨rfl, h2⟩; obtain rfl := h2.symm) | (go_at_call 64; with_reducible refine (HG.out _).mono ?_; rintro e w' ⟨rfl, h2⟩; obtain rfl := h2.symm) | (go_at_call 37; with_reducible refine (lives_c _).mono ?_; rintro e w1 ⟨rfl, hb1⟩))
  go_ret
  exact ⟨rfl, hb1⟩
set_option maxHeartbeats 8000000 in
set_option maxRecDepth 100000 in
theorem acts_ok (w : World) (n bits : Int) (h0 : 0 ≤ n) (h1 : n ≤ 100000) (h2 : 1 ≤ bits) (h3 : bits ≤ 32) (A : Option Addr) (c : Nat) (l : List (List Int)) (HK : Keys w A c l) :
    Calls Try.prog 17 #[.int .i64 n, .int .i64 bits, .slice A l.length c] w fun e w' => e = .returned (.bool true) ∧ Below w.heap.size w w' := by
  have HF := Aside0.mk (fun w => New_ok n bits w h0 h1 h2 h3)
  have HG := Aside0.mk (fun w => NewR_ok n bits w h0 h1 h2 h3)
  have hKi := newK_in bits h2 h3
  have hNi := newN_in n bits h0 h1 h2 h3
  generalize newK bits = K at *
  obtain ⟨N, hN⟩ := Int.eq_ofNat_of_zero_le (show 0 ≤ newN n bits by omega)
  rw [hN] at HF HG hNi
  rw [Int.toNat_natCast] at HF HG
  have HN := Aside0.mk (show 0 < K ∧ K ≤ 16 from ⟨by omega, by omega⟩)
  have HNN := Aside0.mk (show 0 < N ∧ N ≤ 1000000 from ⟨by omega, by omega⟩)
  have HKE := Aside0.mk HK
  clear h0 h1 h2 h3 hKi hNi hN HK
  go_enter Try.func17, Try.ntmps17
  go_upto_region 4 with (first | (go_at_call 53; with_reducible refine (HF.out _).mono ?_; rintro e w1 ⟨f, rfl, hF, hb⟩; have hF1 := Aside0.mk hF; have hb1 := Aside0.mk hb; clear hF hb) | (go_at_call 64; with_reducible refine (HG.out _).mono ?_; rintro e w2 ⟨g, rfl, hG, hb⟩; have hG2 := Aside0.mk hG; have hF2 := Aside0.mk (hF1.out.below hb); have hb2 := Aside0.mk (hb1.out.trans (hb.mono hb1.out.size)); have hs2 := Aside0.mk (hF1.out.lt); clear hG hb))
  obtain ⟨r, hr, hfew⟩ := few_c (Kd.C_below HKE.out.C hb2.out) HKE.out.hc HKE.out.hx HKE.out.hl
  have HFW := Aside0.mk hfew
  have HR := Aside0.mk hr
  clear hfew hr
  cases r with
  | false =>
    go_wp2_with (first | (go_at_call 54; with_reducible refine HFW.out.mono ?_; rintro e w3 ⟨rfl, hb⟩; have hb3 := Aside0.mk (hb2.out.trans (hb.mono hb2.out.size)); clear hb) | (go_at_call 37; with_reducible refine (lives_c _).mono ?_; rintro e w4 ⟨rfl, hb⟩; have hb4 := Aside0.mk (hb3.out.trans (hb.mono hb3.out.size)); clear hb))
    go_ret
    exact ⟨rfl, hb4.out⟩
  | true =>
    have hsm := HR.out rfl
    have HSM := Aside0.mk hsm
    clear hsm
    have HFG := Aside0.mk (And.intro hs2.out hb1.out.size)
    go_wp2_with (go_at_call 54; with_reducible refine HFW.out.mono ?_; rintro e w3 ⟨rfl, hb⟩; have hF3 := Aside0.mk (hF2.out.below hb); have hG3 := Aside0.mk (hG2.out.below hb); have hb3 := Aside0.mk (hb2.out.trans (hb.mono hb2.out.size)); clear hb)
    go_loopg [32] l.length (fun kq v32 w' => ∃ (i : Nat) (bs : List Int), v32 = .int .i64 (i : Int) ∧ Aside0 (kq + i = l.length) ∧ Aside0 (Fil 83 w' w.heap.size f K bs) ∧ Aside0 (Fil 80 w' w1.heap.size g K bs) ∧ Aside0 (Below w.heap.size w w') ∧ Aside0 (IsB bs ∧ bs.length = N))
    case atStart => exact ⟨0, List.replicate N 0, rfl, ⟨by omega⟩, hF3, hG3, hb3, ⟨zeros_B N, List.length_replicate⟩⟩
    case round =>
      obtain ⟨i, bs, rfl, HKq, hF0, hG0, hb0, HBS⟩ := hrel
      have HL0 := Aside0.mk (show 0 < bs.length ∧ bs.length ≤ 1000000 by rw [HBS.out.2]; exact HNN.out)
      by_cases hi : (i : Int) < (l.length : Int)
      · have cb : decide ((i : Int) < (l.length : Int)) = true := decide_eq_true hi
        have cn : i < l.length := by omega
        obtain ⟨ad, A1, c1, rfl, hcell, hkc, hkC⟩ := at_L2 HKE.out.C (i : Int) (by omega) hi
        have hmem := rd_L2_mem l i cn
        have hkl := HSM.out.2 _ hmem
        have hkB := HKE.out.hb _ hmem
        have hcell := bcell hb0.out hcell (World.block_lt_of_cell? _ _ hcell)
        rw [Int.toNat_natCast] at hcell
        generalize rd_L2 l (i : Int) = key at *
        have HKC := Aside0.mk hkC
        have HKc := Aside0.mk hkc
        have HOK := Aside0.mk (okB hkB (by omega))
        obtain ⟨q2, hq2⟩ := ints_self (plS K bs.length key) (by rw [plS_len]; have := HN.out; omega)
        have HQ2 := Aside0.mk hq2
        have HI := Aside0.mk (And.intro hi cn)
        have hwr : wrap64 ((i : Int) + 1) = ((i + 1 : Nat) : Int) := by have := HSM.out.1; unfold wrap64; omega
        have hmod : Int.tmod (i : Int) 3 = (i : Int) % 3 := Int.tmod_eq_emod_of_nonneg (by omega)
        generalize (i : Int) % 3 = m3 at *
        clear hkC hkc hkl hkB hmem hq2 cn
        clear HSM HR HFW hF3 hG3 hb3 hF2 hG2 hb2 hF1 hs2
        by_cases h3 : (0 : Int) < m3
        · have hb3_ : decide ((0 : Int) < m3) = true := decide_eq_true h3
          clear h3
          go_wp2_with (first | (go_at_call 43; with_reducible refine (Places_c hF0.out A1 c1 key (Kd.C_below HKC.out hb0.out) HKc.out HN.out.1 HN.out.2 HL0.out.1 HL0.out.2).mono ?_; rintro e w1 ⟨vp, rfl, hRp, hb⟩; obtain ⟨Ap, cp, rfl⟩ := Kd.R_slice hRp; have hF1 := Aside0.mk (hF0.out.below hb); have hG1 := Aside0.mk (hG0.out.below hb); have hb1 := Aside0.mk (hb0.out.trans (hb.mono hb0.out.size)); have hP1 := Aside0.mk hRp; clear hb hRp) | (go_at_call 44; with_reducible refine (PlacesR_c hG1.out A1 c1 key (Kd.C_below HKC.out hb1.out) HKc.out HOK.out HN.out.1 HN.out.2 HL0.out.1 HL0.out.2).mono ?_; rintro e w2 ⟨vp, rfl, hRp, hb⟩; obtain ⟨Ap2, cp2, rfl⟩ := Kd.R_slice hRp; have hF2 := Aside0.mk (hF1.out.below hb); have hG2 := Aside0.mk (hG1.out.below hb); have hb2 := Aside0.mk (hb1.out.trans (hb.mono hb1.out.size)); have hP2 := Aside0.mk (Kd.R_below hP1.out hb); have hQ2 := Aside0.mk hRp; clear hb hRp) | (go_at_call 42; with_reducible refine (F.skerryref01_Ints.calls q2 Ap cp (plS K bs.length key) Ap2 cp2 (plS K bs.length key) true _ (Kd.R_reads' hP2.out).2.2 (Kd.R_reads' hP2.out).2.1 (Kd.R_reads' hQ2.out).2.2 (Kd.R_reads' hQ2.out).2.1 HQ2.out).mono ?_; rintro e w' ⟨rfl, ⟨nd, rfl⟩⟩; have hb := pw_below_drewN (Below.refl w2.heap.size w2) nd; have hF3 := Aside0.mk (hF2.out.below hb); have hG3 := Aside0.mk (hG2.out.below hb); have hb3 := Aside0.mk (hb2.out.trans (hb.mono hb2.out.size)); clear hb) | (go_at_call 40; with_reducible refine (May_c hF3.out A1 c1 key (Kd.C_below HKC.out hb3.out) HKc.out HN.out.1 HN.out.2 HL0.out.1 HL0.out.2).mono ?_; rintro e w4 ⟨rfl, hb⟩; have hF4 := Aside0.mk (hF3.out.below hb); have hG4 := Aside0.mk (hG3.out.below hb); have hb4 := Aside0.mk (hb3.out.trans (hb.mono hb3.out.size)); clear hb) | (go_at_call 41; with_reducible refine (MayR_c hG4.out A1 c1 key (Kd.C_below HKC.out hb4.out) HKc.out HOK.out HN.out.1 HN.out.2 HL0.out.1 HL0.out.2).mono ?_; rintro e w5 ⟨rfl, hb⟩; have hF5 := Aside0.mk (hF4.out.below hb); have hG5 := Aside0.mk (hG4.out.below hb); have hb5 := Aside0.mk (hb4.out.trans (hb.mono hb4.out.size)); clear hb) | (go_at_call 46; with_reducible refine (Add_c hF5.out A1 c1 key (Kd.C_below HKC.out hb5.out) HKc.out HN.out.1 HN.out.2 HL0.out.1 HL0.out.2).mono ?_; rintro e w6 ⟨rfl, hF, hk⟩; have hF6 := Aside0.mk hF; have hG6 := Aside0.mk (hG5.out.keep hk (.inl HFG.out.1)); have hb6 := Aside0.mk (hk.below hb5.out (Nat.le_refl _)); clear hF hk) | (go_at_call 65; with_reducible refine (AddR_c hG6.out A1 c1 key (Kd.C_below HKC.out hb6.out) HKc.out HOK.out HN.out.1 HN.out.2 HL0.out.1 HL0.out.2).mono ?_; rintro e w7 ⟨rfl, hG, hk⟩; have hG7 := Aside0.mk hG; have hF7 := Aside0.mk (hF6.out.keep hk (.inr HFG.out.1)); have hb7 := Aside0.mk (hk.below hb6.out HFG.out.2); clear hG hk))
          go_roundg (gk - 1)
          case measure => have := HKq.out; have := HI.out; omega
          case rel => exact ⟨i + 1, addS K bs key, (by first | rfl | (simp; done) | rw [hwr]), ⟨by have := HKq.out; have := HI.out; omega⟩, hF7, hG7, hb7, ⟨addS_B K bs key HBS.out.1 HL0.out.1 HL0.out.2, by rw [addS_len]; exact HBS.out.2⟩⟩
        · have hb3_ : decide ((0 : Int) < m3) = false := decide_eq_false h3
          clear h3
          go_wp2_with (first | (go_at_call 43; with_reducible refine (Places_c hF0.out A1 c1 key (Kd.C_below HKC.out hb0.out) HKc.out HN.out.1 HN.out.2 HL0.out.1 HL0.out.2).mono ?_; rintro e w1 ⟨vp, rfl, hRp, hb⟩; obtain ⟨Ap, cp, rfl⟩ := Kd.R_slice hRp; have hF1 := Aside0.mk (hF0.out.below hb); have hG1 := Aside0.mk (hG0.out.below hb); have hb1 := Aside0.mk (hb0.out.trans (hb.mono hb0.out.size)); have hP1 := Aside0.mk hRp; clear hb hRp) | (go_at_call 44; with_reducible refine (PlacesR_c hG1.out A1 c1 key (Kd.C_below HKC.out hb1.out) HKc.out HOK.out HN.out.1 HN.out.2 HL0.out.1 HL0.out.2).mono ?_; rintro e w2 ⟨vp, rfl, hRp, hb⟩; obtain ⟨Ap2, cp2, rfl⟩ := Kd.R_slice hRp; have hF2 := Aside0.mk (hF1.out.below hb); have hG2 := Aside0.mk (hG1.out.below hb); have hb2 := Aside0.mk (hb1.out.trans (hb.mono hb1.out.size)); have hP2 := Aside0.mk (Kd.R_below hP1.out hb); have hQ2 := Aside0.mk hRp; clear hb hRp) | (go_at_call 42; with_reducible refine (F.skerryref01_Ints.calls q2 Ap cp (plS K bs.length key) Ap2 cp2 (plS K bs.length key) true _ (Kd.R_reads' hP2.out).2.2 (Kd.R_reads' hP2.out).2.1 (Kd.R_reads' hQ2.out).2.2 (Kd.R_reads' hQ2.out).2.1 HQ2.out).mono ?_; rintro e w' ⟨rfl, ⟨nd, rfl⟩⟩; have hb := pw_below_drewN (Below.refl w2.heap.size w2) nd; have hF3 := Aside0.mk (hF2.out.below hb); have hG3 := Aside0.mk (hG2.out.below hb); have hb3 := Aside0.mk (hb2.out.trans (hb.mono hb2.out.size)); clear hb) | (go_at_call 40; with_reducible refine (May_c hF3.out A1 c1 key (Kd.C_below HKC.out hb3.out) HKc.out HN.out.1 HN.out.2 HL0.out.1 HL0.out.2).mono ?_; rintro e w4 ⟨rfl, hb⟩; have hF4 := Aside0.mk (hF3.out.below hb); have hG4 := Aside0.mk (hG3.out.below hb); have hb4 := Aside0.mk (hb3.out.trans (hb.mono hb3.out.size)); clear hb) | (go_at_call 41; with_reducible refine (MayR_c hG4.out A1 c1 key (Kd.C_below HKC.out hb4.out) HKc.out HOK.out HN.out.1 HN.out.2 HL0.out.1 HL0.out.2).mono ?_; rintro e w5 ⟨rfl, hb⟩; have hF5 := Aside0.mk (hF4.out.below hb); have hG5 := Aside0.mk (hG4.out.below hb); have hb5 := Aside0.mk (hb4.out.trans (hb.mono hb4.out.size)); clear hb))
          go_roundg (gk - 1)
          case measure => have := HKq.out; have := HI.out; omega
          case rel => exact ⟨i + 1, bs, (by first | rfl | (simp; done) | rw [hwr]), ⟨by have := HKq.out; have := HI.out; omega⟩, hF5, hG5, hb5, HBS⟩
      · have cb : decide ((i : Int) < (l.length : Int)) = false := decide_eq_false hi
        have hiK : l.length ≤ i := by omega
        clear hi
        clear HSM HR HFW hF3 hG3 hb3 hF2 hG2 hb2 hF1 hs2
        have hlB : Aside0 ((bytesS K bs).length ≤ 2000000) := ⟨by
          unfold bytesS
          rw [List.length_append, List.length_append, Ma.up_length, Ma.up_length]
          have h1 := Ma.digN_len64 K.toNat (by have := HN.out; omega)
          have h2 := Ma.digN_len64 bs.length (by have := HL0.out; omega)
          have := HL0.out
          omega⟩
        have hsame := Aside0.mk (Ma.Same_self (bytesS K bs))
        generalize hbb : bytesS K bs = bb at *
        replace hbb := Aside0.mk hbb
        go_upto_region 15 with (fail)
        obtain ⟨b, cb2, hc1, hlb, hbg, hRb⟩ := hG0.out.row HL0.out.1
        have hS : Below w.heap.size w wr.drew ∧ Below wr.heap.size wr wr.drew ∧ wr.drew.cell? ⟨g, 1, none⟩ = some (.slice (some ⟨b, 0, none⟩) bs.length cb2) := ⟨pw_below_drewN hb0.out 1, pw_below_drewN (Below.refl _ _) 1, hc1⟩
        have HST := Aside0.mk (show ∀ W W1 : World, (Below w.heap.size w W ∧ Below wr.heap.size wr W ∧ W.cell? ⟨g, 1, none⟩ = some (.slice (some ⟨b, 0, none⟩) bs.length cb2)) → Below W.heap.size W W1 → (Below w.heap.size w W1 ∧ Below wr.heap.size wr W1 ∧ W1.cell? ⟨g, 1, none⟩ = some (.slice (some ⟨b, 0, none⟩) bs.length cb2)) from fun W W1 h hb => ⟨h.1.trans (hb.mono h.1.size), h.2.1.trans (hb.mono h.2.1.size), bcell hb h.2.2 (Nat.lt_of_lt_of_le (show g < wr.heap.size from hG0.out.lt) h.2.1.size)⟩)
        clear hRb hlb hbg
        have hw8 : wrap64 (8 * (bs.length : Int)) = 8 * (bs.length : Int) := by have := HL0.out.2; unfold wrap64; omega
        obtain ⟨z, hz⟩ : ∃ z, 8 * (bs.length : Int) = z := ⟨_, rfl⟩
        rw [hz] at hw8
        have hw9 : IntKind.i64.wrap z = z := by rw [i64_w]; exact hw8
        replace hz := Aside0.mk hz
        go_region_held3 (fun W => Below w.heap.size w W ∧ Below wr.heap.size wr W ∧ W.cell? ⟨g, 1, none⟩ = some (.slice (some ⟨b, 0, none⟩) bs.length cb2)) (assumption) (first
          | (go_at_call 45; with_reducible refine (Bytes_c (hF0.out.below hS.2.1) HN.out.1 HN.out.2 HL0.out.1 HL0.out.2).mono ?_; rintro e w4 ⟨v4, rfl, hR4, hb⟩; rw [hbb.out] at hR4; obtain ⟨A4, c4, rfl⟩ := Kd.R_slice hR4; have hS4 := HST.out _ _ hS hb; replace hR4 := Aside0.mk hR4; clear hb)
          | (go_at_call 66; with_reducible refine (BytesR_c (hG0.out.below hS4.2.1) HN.out.1 HN.out.2 HL0.out.1 HL0.out.2).mono ?_; rintro e w5 ⟨v5, rfl, hR5, hb⟩; rw [hbb.out] at hR5; obtain ⟨A5, c5, rfl⟩ := Kd.R_slice hR5; have hS5 := HST.out _ _ hS4 hb; have hP5 := Aside0.mk (Kd.R_below hR4.out hb); replace hR5 := Aside0.mk hR5; clear hb)
          | (go_at_call 28; with_reducible refine (skerryref01_Same.calls A4 c4 bb A5 c5 bb true _ (Kd.R_reads' hP5.out).2.2 (Kd.R_reads' hP5.out).2.1 (Kd.R_reads' hR5.out).2.2 (Kd.R_reads' hR5.out).2.1 hsame.out).mono ?_; rintro e w6 ⟨rfl, h6⟩; have hS6 := HST.out _ _ hS5 h6.below; clear h6)
          | (go_at_call 55; with_reducible refine (Size_n (hF0.out.below hS6.2.1) HN.out.1 bs.length rfl HL0.out.2).mono ?_; rintro e w' ⟨rfl, rfl⟩; rw [hz.out])
          | (go_at_call 37; with_reducible refine (lives_c _).mono ?_; rintro e w8 ⟨rfl, hb⟩; have hS8 := HST.out _ _ hS6 hb; clear hb))
        go_wp2_with (fail)
        go_ret
        exact ⟨rfl, hS8.1⟩
end Go.Proofs.Ytcopbkdlpfcjpaa.L
namespace Go.Proofs.Ytcopbkdlpfcjpaa.L
open Go.ChangeShapes Go.WideShapes Go.RowKit Go.Proofs.YtcopbkdlpfcjpaaW.PrintWords
theorem weights_mem_all {H : Type} {P : Program} {e : TypeId} {d : DataW H} : ∀ {ds : List (DataW H)}, d ∈ ds → ∀ n ∈ d.weights P e, n ∈ DataW.weightsAll P e ds
  | d0 :: ds, h, n, hn => by
    simp only [DataW.weightsAll, List.mem_append]
    rcases List.mem_cons.1 h with rfl | h
    · exact .inl hn
    · exact .inr (weights_mem_all h n hn)
/-- A slice of slices of bytes that came in: its lists; none is greater than what an argument may hold. -/
theorem open_keys {H : Type} {enc : TypeId × Value → H} {P : Program} {W : World} {held : Bool} {t e q : TypeId} {a : Option Addr} {len cap : Nat} {d : DataW H} {ps : List MemPlace} {ts : List TypeId} {ds : List (DataW H)} {j : Nat}
    (hsz : (DataW.weightsEach P ts ds).all (· ≤ reachBytes) = true) (ht : ts[j]? = some t) (hd : ds[j]? = some d) (hu : P.underlying t = some (.slice e)) (he : P.underlying e = some (.slice q)) (hq : P.underlying q = some (.int .u8)) (ce : P.cellsOf e = 1) (cq : P.cellsOf q = 1) (hB : P.bytesOf q = 1) (hBe : 0 < P.bytesOf e)
    (h : DataW.Trod enc P W 0 (fun _ => true) held t (.slice a len cap) d ps) : ∃ l : List (List Int), len = l.length ∧ Keys W a cap l := by
  obtain ⟨fuel, hf⟩ := h
  rcases Deep.open_int_rows hu he hq ce cq hf with ⟨hcs, _⟩ | ⟨x, ln, c, A, L, C, Z, hcs, _, hl, hm, hx, hr⟩
  · simp [Value.cells] at hcs
    obtain ⟨rfl, rfl, rfl⟩ := hcs
    exact ⟨[], rfl, ⟨Kd.C_nil _ _, Nat.le_refl _, (fun x hx => by cases hx), Nat.zero_le _, (fun x hx => by cases hx)⟩⟩
  · simp [Value.cells] at hcs
    obtain ⟨rfl, rfl, rfl⟩ := hcs
    obtain ⟨hx, _⟩ := Prod.mk.inj hx
    subst hx
    have hlen : ((List.range len).map fun r => (Z r).take (L r)).length = len := by simp
    have hin : ∀ x ∈ (List.range len).map (fun r => (Z r).take (L r)), ∃ r, r < len ∧ x = (Z r).take (L r) := by
      intro x hx
      obtain ⟨r, hr, rfl⟩ := List.mem_map.1 hx
      exact ⟨r, List.mem_range.1 hr, rfl⟩
    have hlr : ∀ r, r < len → ((Z r).take (L r)).length = L r := by
      intro r hr1
      obtain ⟨_, h2, _, h4, _⟩ := hr r (by omega)
      rw [List.length_take, h4]
      omega
    have hweights : ∀ n ∈ DataW.weights P t (DataW.slice (H := H) ((List.range len).map fun r => Deep.intRow .u8 (A r) (L r) (Z r)) ((List.range (cap - len)).map fun j => Deep.intRow .u8 (A (len + j)) (L (len + j)) (Z (len + j)))), n ≤ reachBytes := by
      intro n hn
      have := List.all_eq_true.1 hsz _ (DataW.weights_mem_each ht hd n hn)
      simpa using this
    have hw : reachBytes = 140737488351232 := rfl
    refine ⟨_, hlen.symm, ?_⟩
    constructor
    · rw [hlen]
      refine ⟨hlen, by have : maxLen = 9223372036854775807 := rfl; omega, fun _ => ⟨x, rfl, fun j p hj => ?_⟩⟩
      have hjl : j < len := by
        have := (List.getElem?_eq_some_iff.1 hj).1
        rw [hlen] at this
        exact this
      have hp : p = (Z j).take (L j) := by
        rw [List.getElem?_map, List.getElem?_range hjl] at hj
        simpa using hj.symm
      subst hp
      obtain ⟨h1, h2, h3, h4, h5, h6, h7⟩ := hr j (by omega)
      refine ⟨[.slice (A j) (L j) (C j)], rfl, ⟨A j, C j, by rw [hlr j hjl], by rw [hlr j hjl]; exact h2, ?_⟩, fun i u hu => ?_⟩
      · rw [hlr j hjl]
        refine ⟨hlr j hjl, by have : maxLen = 9223372036854775807 := rfl; omega, fun hp => ?_⟩
        cases hA : A j with
        | none => have := h6 hA; omega
        | some a' =>
          obtain ⟨_, hc⟩ := h7 a' hA
          refine ⟨a', rfl, fun i p hi => ⟨[.int .u8 p], rfl, rfl, fun k u hu => ?_⟩⟩
          cases k with
          | succ k => simp at hu
          | zero =>
            simp only [List.getElem?_cons_zero, Option.some.injEq] at hu
            subst hu
            have hil : i < L j := by
              have := (List.getElem?_eq_some_iff.1 hi).1
              rw [hlr j hjl] at this
              exact this
            have := hc i (by omega)
            rw [show i * (Kd.int .u8).sz + 0 = i from by show i * 1 + 0 = i; omega, this, List.getD_eq_getElem?_getD]
            rw [List.getElem?_take_of_lt hil] at hi
            rw [hi]
            rfl
      · cases i with
        | succ i => simp at hu
        | zero =>
          simp only [List.getElem?_cons_zero, Option.some.injEq] at hu
          subst hu
          rw [show j * (Kd.slice 5 (Kd.int .u8)).sz + 0 = j from by show j * 1 + 0 = j; omega]
          exact h1
    · rw [hlen]; exact hl
    · intro y hy
      obtain ⟨r, hr1, rfl⟩ := hin y hy
      rw [hlr r hr1, ← hw]
      obtain ⟨h1, h2, h3, h4, h5, h6, h7⟩ := hr r (by omega)
      cases hA : A r with
      | none => have := h6 hA; omega
      | some a' =>
        have hm : Deep.intRow (H := H) .u8 (A r) (L r) (Z r) ∈ (List.range len).map (fun r => Deep.intRow (H := H) .u8 (A r) (L r) (Z r)) := List.mem_map.2 ⟨r, List.mem_range.2 hr1, rfl⟩
        have hx2 := hweights ((lits (H := H) .u8 ((Z r).take (L r))).length + (lits (H := H) .u8 ((Z r).drop (L r))).length) (by
          simp only [DataW.weights, hu, List.mem_cons, List.mem_append]
          refine .inr (.inl (weights_mem_all hm _ ?_))
          rw [hA]
          simp [Deep.intRow, DataW.weights, he, hB])
        simp only [lits, List.length_map, List.length_take, List.length_drop] at hx2
        omega
    · rw [hlen, ← hw]
      have hx2 := hweights _ (by simp only [DataW.weights, hu, List.mem_cons]; exact .inl rfl)
      simp only [List.length_map, List.length_range] at hx2
      have h2 : len * 1 ≤ (len + (cap - len)) * P.bytesOf e := Nat.mul_le_mul (by omega) hBe
      omega
    · intro y hy
      obtain ⟨r, hr1, rfl⟩ := hin y hy
      obtain ⟨h1, h2, h3, h4, h5, h6, h7⟩ := hr r (by omega)
      obtain ⟨B, hB1, hB2⟩ := Ma.up_of ((Z r).take (L r)) (fun n hn => h5 n (List.mem_of_mem_take hn))
      exact ⟨B, hB1, hB2⟩
theorem bloomActs_walk (n bits : Int) (A : Option Addr) (c : Nat) (l : List (List Int)) (w : World) (HK : Keys w A c l) :
    Calls Try.prog 17 #[.int .i64 n, .int .i64 bits, .slice A l.length c] w fun e w' => e = .returned (.bool true) ∧ Below w.heap.size w w' := by
  by_cases h : n < 0 ∨ 100000 < n ∨ bits < 1 ∨ 32 < bits
  · exact acts_bad w n bits h _
  · exact acts_ok w n bits (by omega) (by omega) (by omega) (by omega) A c l HK
end Go.Proofs.Ytcopbkdlpfcjpaa.L
namespace Go.Proofs.Ytcopbkdlpfcjpaa.L
open Go.RowKit Go.Proofs.YtcopbkdlpfcjpaaW.PrintWords Go.Proofs.YtcopbkdlpfcjpaaW.PrintLast Go.Proofs.YtcopbkdlpfcjpaaW.PrintMore Go.Proofs.Ytcopbkdlpfcjpaa.B Go.Proofs.Ytcopbkdlpfcjpaa.M Go.Proofs.Ytcopbkdlpfcjpaa.F
attribute [local go_sem] max2_int min2_int max_two min_two max_three min_three max_four min_four
set_option linter.unusedVariables false
set_option linter.unusedSimpArgs false
open Go.Proofs.Ytcopbkdlpfcjpaa.Ma (getS digN)
theorem digN_get (k : Nat) (h : k < 18446744073709551616) (R : List Nat) : getS (digN k ++ R) 0 0 = (k, (digN k).length) := by
  have := Ma.getS_dig k 0 0 R (by omega) (by omega) (by omega)
  rw [this]
  simp
theorem meas {g j n : Nat} (h : g + j = n) (hj : j < n) : g - 1 < g := by omega
theorem meas2 {g j n : Nat} (h : g + j = n) (hj : j < n) : g - 1 + (j + 1) = n := by omega
/-- What Bytes writes Read reads. -/
theorem read_back (k : Nat) (B : List Nat) (hk : 1 ≤ k) (hk2 : k ≤ 16) (hn : 1 ≤ B.length) (hn2 : B.length ≤ 400000) : readS (digN k ++ digN B.length ++ B) = some (k, B) := by
  have h1 : getS (digN k ++ digN B.length ++ B) 0 0 = (k, (digN k).length) := by rw [List.append_assoc]; exact digN_get k (by omega) _
  have h2 : (digN k ++ digN B.length ++ B).drop (digN k).length = digN B.length ++ B := by rw [List.append_assoc, List.drop_left]
  have h3 : getS (digN B.length ++ B) 0 0 = (B.length, (digN B.length).length) := digN_get _ (by omega) _
  have h4 : (digN k ++ digN B.length ++ B).drop ((digN k).length + (digN B.length).length) = B := by rw [← List.drop_drop, h2, List.drop_left]
  have h5 := Ma.digN_pos k
  have h6 := Ma.digN_pos B.length
  unfold readS
  rw [h1]
  simp only
  rw [h2, h3]
  simp only
  rw [h4, if_neg]
  simp only [List.length_append]
  omega
theorem Read_back {w : World} {A : Option Addr} {c : Nat} {k : Int} {bs : List Int} (hB : IsB bs) (hk : 1 ≤ k) (hk2 : k ≤ 16) (hn : 1 ≤ bs.length) (hn2 : bs.length ≤ 400000) (hC : Kd.C (Kd.int .u8) w A (bytesS k bs).length (bytesS k bs)) (hc : (bytesS k bs).length ≤ c) :
    Calls Try.prog 38 #[.slice A (bytesS k bs).length c] w fun e w' => ∃ g, e = .returned (.tuple #[.pointer (some ⟨g, 0, none⟩), .int .i64 0]) ∧ Fil 83 w' w.heap.size g k bs ∧ Below w.heap.size w w' := by
  obtain ⟨B, hB, rfl⟩ := hB
  obtain ⟨K, rfl⟩ := Int.eq_ofNat_of_zero_le (show 0 ≤ k by omega)
  rw [Ma.up_length] at hn hn2
  have e : bytesS (K : Int) (Ma.up B) = Ma.up (digN K ++ digN B.length ++ B) := by
    unfold bytesS
    rw [Int.toNat_natCast, Ma.up_length, ← Ma.up_append, ← Ma.up_append]
  rw [e] at hC hc ⊢
  have hl1 := Ma.digN_len64 K (by omega)
  have hl2 := Ma.digN_len64 B.length (by omega)
  refine Read_some ?_ ?_ (read_back K B (by omega) (by omega) hn hn2) hC hc
  · intro x hx
    rcases List.mem_append.1 hx with hx | hx
    · rcases List.mem_append.1 hx with hx | hx
      · exact Ma.digN_byte _ x hx
      · exact Ma.digN_byte _ x hx
    · exact hB x hx
  · rw [List.length_append, List.length_append]
    omega
/-- One key out of those that came in. -/
theorem key_at {w wr : World} {ad : Addr} {c : Nat} {l : List (List Int)} (HK : Keys w (some ad) c l) (hb : Below w.heap.size w wr) (hs : ∀ x ∈ l, x.length ≤ 5000) (i : Nat) (hi : i < l.length) : ∃ A1 c1, wr.cell? (ad.add i) = some (.slice A1 (rd_L2 l (i : Int)).length c1) ∧ (rd_L2 l (i : Int)).length ≤ c1 ∧ Kd.C (Kd.int .u8) w A1 (rd_L2 l (i : Int)).length (rd_L2 l (i : Int)) ∧ OkKey (rd_L2 l (i : Int)) ∧ rd_L2 l (i : Int) ∈ l := by
  obtain ⟨ad', A1, c1, e, hcell, hkc, hkC⟩ := at_L2 HK.C (i : Int) (by omega) (by omega)
  obtain rfl := Option.some.inj e
  have hmem := rd_L2_mem l i hi
  have h1 := bcell hb hcell (World.block_lt_of_cell? _ _ hcell)
  rw [Int.toNat_natCast] at h1
  exact ⟨A1, c1, h1, hkc, hkC, okB (HK.hb _ hmem) (by have := hs _ hmem; omega), hmem⟩
theorem keys_some {w : World} {A : Option Addr} {c : Nat} {l : List (List Int)} (HK : Keys w A c l) (hl : 0 < l.length) : ∃ ad, A = some ad := by
  obtain ⟨ad, h, _⟩ := HK.C.2.2 hl
  exact ⟨ad, h⟩
theorem take_mem (l : List (List Int)) (i : Nat) (hi : i < l.length) (x : List Int) (hx : x ∈ l.take (i + 1)) : x ∈ l.take i ∨ x = rd_L2 l (i : Int) := by
  have e : rd_L2 l (i : Int) = l[i] := by
    unfold rd_L2
    rw [Int.toNat_natCast, List.getD_eq_getElem?_getD, List.getElem?_eq_getElem hi]
    rfl
  rw [List.take_succ_eq_append_getElem hi, List.mem_append, List.mem_singleton] at hx
  rw [e]
  exact hx
set_option maxHeartbeats 8000000 in
set_option maxRecDepth 100000 in
theorem never_c (w : World) (n bits : Int) (hn0 : 0 ≤ n) (hn1 : n < 18446744073709551616) (hb0 : 0 ≤ bits) (hb1 : bits < 18446744073709551616) (A : Option Addr) (c : Nat) (l : List (List Int)) (HK : Keys w A c l) :
    Calls Try.prog 9 #[.int .u64 n, .int .u64 bits, .slice A l.length c] w fun e w' => e = .returned (.bool true) ∧ Below w.heap.size w w' := by
  have m1 : Int.tmod n 200 = n % 200 := Int.tmod_eq_emod_of_nonneg hn0
  have m2 : Int.tmod bits 32 = bits % 32 := Int.tmod_eq_emod_of_nonneg hb0
  have r1 : 0 ≤ n % 200 ∧ n % 200 < 200 := by omega
  have r2 : 0 ≤ bits % 32 ∧ bits % 32 < 32 := by omega
  generalize n % 200 = n1 at *
  generalize bits % 32 = b1 at *
  have w1 : wrap64 n1 = n1 := by unfold wrap64; omega
  have w2 : wrap64 b1 = b1 := by unfold wrap64; omega
  have w3 : wrap64 (1 + b1) = 1 + b1 := by unfold wrap64; omega
  have HF := Aside0.mk (fun w => New_ok n1 (1 + b1) w (by omega) (by omega) (by omega) (by omega))
  have hKi := newK_in (1 + b1) (by omega) (by omega)
  have hNi := newN_in n1 (1 + b1) (by omega) (by omega) (by omega) (by omega)
  generalize newK (1 + b1) = K at *
  obtain ⟨N, hN⟩ := Int.eq_ofNat_of_zero_le (show 0 ≤ newN n1 (1 + b1) by omega)
  rw [hN] at HF hNi
  rw [Int.toNat_natCast] at HF
  have HN := Aside0.mk (show 0 < K ∧ K ≤ 16 from ⟨by omega, by omega⟩)
  have HNN := Aside0.mk (show 0 < N ∧ N ≤ 400000 from ⟨by omega, by omega⟩)
  have HKE := Aside0.mk HK
  clear hKi hNi hN HK hn0 hn1 hb0 hb1 r1 r2
  go_enter Try.func9, Try.ntmps9
  go_upto_region 2 with (go_at_call 53; with_reducible refine (HF.out _).mono ?_; rintro e w1 ⟨f, rfl, hF, hb⟩; have hF1 := Aside0.mk hF; have hb1 := Aside0.mk hb; clear hF hb)
  obtain ⟨r, hr, hfew⟩ := few_c (Kd.C_below HKE.out.C hb1.out) HKE.out.hc HKE.out.hx HKE.out.hl
  have HFW := Aside0.mk hfew
  have HR := Aside0.mk hr
  clear hfew hr
  cases r with
  | false =>
    go_wp2_with (first | (go_at_call 54; with_reducible refine HFW.out.mono ?_; rintro e w3 ⟨rfl, hb⟩; have hb3 := Aside0.mk (hb1.out.trans (hb.mono hb1.out.size)); clear hb) | (go_at_call 37; with_reducible refine (lives_c _).mono ?_; rintro e w4 ⟨rfl, hb⟩; have hb4 := Aside0.mk (hb3.out.trans (hb.mono hb3.out.size)); clear hb))
    go_ret
    exact ⟨rfl, hb4.out⟩
  | true =>
    have HSM := Aside0.mk (HR.out rfl)
    go_wp2_with (go_at_call 54; with_reducible refine HFW.out.mono ?_; rintro e w3 ⟨rfl, hb⟩; have hF3 := Aside0.mk (hF1.out.below hb); have hb3 := Aside0.mk (hb1.out.trans (hb.mono hb1.out.size)); clear hb)
    go_loopg [38] l.length (fun kq v38 w' => ∃ (i : Nat) (bs : List Int), v38 = .int .i64 (i : Int) ∧ Aside0 (kq + i = l.length) ∧ Aside0 (Fil 83 w' w.heap.size f K bs) ∧ Aside0 (Below w.heap.size w w') ∧ Aside0 (IsB bs ∧ bs.length = N) ∧ Aside0 (∀ x ∈ l.take i, mayS K bs x = true))
    case atStart => exact ⟨0, List.replicate N 0, rfl, ⟨by omega⟩, hF3, hb3, ⟨zeros_B N, List.length_replicate⟩, ⟨by simp⟩⟩
    case round =>
      obtain ⟨i, bs, rfl, HKq, hF0, hb0, HBS, HMA⟩ := hrel
      have HL0 := Aside0.mk (show 0 < bs.length ∧ bs.length ≤ 1000000 by rw [HBS.out.2]; have := HNN.out; omega)
      clear HFW hF3 hb3 hF1 hb1
      by_cases hi : (i : Int) < (l.length : Int)
      · have cb : decide ((i : Int) < (l.length : Int)) = true := decide_eq_true hi
        have cn : i < l.length := by omega
        obtain ⟨ad, rfl⟩ := keys_some HKE.out (by omega)
        obtain ⟨A1, c1, hcell, hkc, hkC, hok, hmem⟩ := key_at HKE.out hb0.out HSM.out.2 i cn
        have htm := Aside0.mk (take_mem l i cn)
        have HI := Aside0.mk (And.intro hi cn)
        have hwr : wrap64 ((i : Int) + 1) = ((i + 1 : Nat) : Int) := by have := HSM.out.1; unfold wrap64; omega
        generalize rd_L2 l (i : Int) = key at *
        have HKC := Aside0.mk hkC
        have HKc := Aside0.mk hkc
        clear hkC hkc hmem cn hok
        go_wp2_with (go_at_call 46; with_reducible refine (Add_c hF0.out A1 c1 key (Kd.C_below HKC.out hb0.out) HKc.out HN.out.1 HN.out.2 HL0.out.1 HL0.out.2).mono ?_; rintro e w6 ⟨rfl, hF, hk⟩; have hF6 := Aside0.mk hF; have hb6 := Aside0.mk (hk.below hb0.out (Nat.le_refl _)); clear hF hk)
        go_roundg (gk - 1)
        case measure => exact meas HKq.out HI.out.2
        case rel =>
          refine ⟨i + 1, addS K bs key, (by first | rfl | (simp; done) | rw [hwr]), ⟨meas2 HKq.out HI.out.2⟩, hF6, hb6, ⟨addS_B K bs key HBS.out.1 HL0.out.1 HL0.out.2, by rw [addS_len]; exact HBS.out.2⟩, ⟨fun x hx => ?_⟩⟩
          rcases htm.out x hx with hx | rfl
          · exact may_mono K bs key x HBS.out.1 HL0.out.1 HL0.out.2 (HMA.out x hx)
          · exact may_self K bs x HBS.out.1 HL0.out.1 HL0.out.2
      · have cb : decide ((i : Int) < (l.length : Int)) = false := decide_eq_false hi
        have hiK : l.length ≤ i := by omega
        have hma := HMA.out
        rw [List.take_of_length_le hiK] at hma
        have HMAY := Aside0.mk hma
        clear hi hma HMA
        have hbb : ∃ bb, bb = bytesS K bs := ⟨_, rfl⟩
        obtain ⟨z, hz⟩ : ∃ z : Int, 8 * (bs.length : Int) = z := ⟨_, rfl⟩
        replace hz := Aside0.mk hz
        go_upto_region 10 with (first | (go_at_call 45; with_reducible refine (Bytes_c hF0.out HN.out.1 HN.out.2 HL0.out.1 HL0.out.2).mono ?_; rintro e w4 ⟨v4, rfl, hR4, hb⟩; obtain ⟨A4, c4, rfl⟩ := Kd.R_slice hR4; have hF4 := Aside0.mk (hF0.out.below hb); have hb4 := Aside0.mk (hb0.out.trans (hb.mono hb0.out.size)); replace hR4 := Aside0.mk hR4; clear hb) | (go_at_call 38; with_reducible refine (Read_back HBS.out.1 (by have := HN.out; omega) (by have := HN.out; omega) (by have := HL0.out; omega) (by have := HNN.out; have := HBS.out.2; omega) (Kd.R_reads' hR4.out).2.2 (Kd.R_reads' hR4.out).2.1).mono ?_; rintro e w5 ⟨g, rfl, hG, hb⟩; have hG5 := Aside0.mk hG; have hF5 := Aside0.mk (hF4.out.below hb); have hb5 := Aside0.mk (hb4.out.trans (hb.mono hb4.out.size)); clear hG hb))
        go_wp2_with (first | (go_at_call 55; with_reducible refine (Size_n hG5.out HN.out.1 bs.length rfl HL0.out.2).mono ?_; rintro e w' ⟨rfl, rfl⟩; rw [hz.out]) | (go_at_call 55; with_reducible refine (Size_n hF5.out HN.out.1 bs.length rfl HL0.out.2).mono ?_; rintro e w' ⟨rfl, rfl⟩; rw [hz.out]))
        go_loopg [67] l.length (fun kq v67 w' => ∃ (i : Nat), v67 = .int .i64 (i : Int) ∧ Aside0 (kq + i = l.length) ∧ Aside0 (∃ lo, Fil 83 w' w.heap.size f K bs ∧ Fil 83 w' lo g K bs) ∧ Aside0 (Below w.heap.size w w'))
        case atStart => exact ⟨0, rfl, ⟨by omega⟩, ⟨_, hF5.out, hG5.out⟩, hb5⟩
        case round =>
          clear hG5 hF5 hb5 hF4 hb4 hR4 hF0 hb0 HKq
          obtain ⟨i, rfl, HKq, hFG, hb0⟩ := hrel
          obtain ⟨lo, hFx, hGx⟩ := hFG.out
          have hF0 := Aside0.mk hFx
          have hG0 := Aside0.mk hGx
          clear hFG hFx hGx
          by_cases hi : (i : Int) < (l.length : Int)
          · have cb : decide ((i : Int) < (l.length : Int)) = true := decide_eq_true hi
            have cn : i < l.length := by omega
            obtain ⟨ad, rfl⟩ := keys_some HKE.out (by omega)
            obtain ⟨A1, c1, hcell, hkc, hkC, hok, hmem⟩ := key_at HKE.out hb0.out HSM.out.2 i cn
            have HI := Aside0.mk (And.intro hi cn)
            have hwr : wrap64 ((i : Int) + 1) = ((i + 1 : Nat) : Int) := by have := HSM.out.1; unfold wrap64; omega
            have hmy := HMAY.out _ hmem
            generalize rd_L2 l (i : Int) = key at *
            have HKC := Aside0.mk hkC
            have HKc := Aside0.mk hkc
            have hpin := plS_in K bs.length key HL0.out.1 HL0.out.2
            have hpl := plS_len K bs.length key
            generalize hP : plS K bs.length key = P at *
            have HP := Aside0.mk hP
            have HPI := Aside0.mk hpin
            have HPL := Aside0.mk (show P.length ≤ 1000 by have := HN.out; omega)
            have HMY := Aside0.mk hmy
            clear hkC hkc hmem cn hok hpin hpl hP hmy
            go_wp2_with (first | (go_at_call 40; with_reducible refine (May_c hF0.out A1 c1 key (Kd.C_below HKC.out hb0.out) HKc.out HN.out.1 HN.out.2 HL0.out.1 HL0.out.2).mono ?_; rintro e w6 ⟨rfl, hb⟩; rw [HMY.out]; have hF6 := Aside0.mk (hF0.out.below hb); have hG6 := Aside0.mk (hG0.out.below hb); have hb6 := Aside0.mk (hb0.out.trans (hb.mono hb0.out.size)); clear hb) | (go_at_call 40; with_reducible refine (May_c hG6.out A1 c1 key (Kd.C_below HKC.out hb6.out) HKc.out HN.out.1 HN.out.2 HL0.out.1 HL0.out.2).mono ?_; rintro e w7 ⟨rfl, hb⟩; rw [HMY.out]; have hF7 := Aside0.mk (hF6.out.below hb); have hG7 := Aside0.mk (hG6.out.below hb); have hb7 := Aside0.mk (hb6.out.trans (hb.mono hb6.out.size)); clear hb) | (go_at_call 43; with_reducible refine (Places_c hF7.out A1 c1 key (Kd.C_below HKC.out hb7.out) HKc.out HN.out.1 HN.out.2 HL0.out.1 HL0.out.2).mono ?_; rintro e w8 ⟨v8, rfl, hR8, hb⟩; rw [HP.out] at hR8; obtain ⟨A8, c8, rfl⟩ := Kd.R_slice hR8; have hF8 := Aside0.mk (hF7.out.below hb); have hG8 := Aside0.mk (hG7.out.below hb); have hb8 := Aside0.mk (hb7.out.trans (hb.mono hb7.out.size)); replace hR8 := Aside0.mk hR8; clear hb))
            obtain ⟨gko, hgko⟩ : ∃ x, x = gk := ⟨_, rfl⟩
            replace hgko := Aside0.mk hgko
            go_loopg [85] P.length (fun kq v85 w' => ∃ (j : Nat), v85 = .int .i64 (j : Int) ∧ Aside0 (kq + j = P.length) ∧ w' = w8)
            case atStart => exact ⟨0, rfl, ⟨by omega⟩, rfl⟩
            case round =>
              obtain ⟨j, rfl, HJ, rfl⟩ := hrel
              by_cases hj : (j : Int) < (P.length : Int)
              · have cbj : decide ((j : Int) < (P.length : Int)) = true := decide_eq_true hj
                have cnj : j < P.length := by omega
                obtain ⟨adp, rfl, hx⟩ := Kd.at_int (Kd.R_reads' hR8.out).2.2 (j : Int) (by omega) hj
                rw [Int.toNat_natCast] at hx
                have hpi := HPI.out _ (rd_mem P j cnj)
                have hwj : wrap64 ((j : Int) + 1) = ((j + 1 : Nat) : Int) := by have := HPL.out; unfold wrap64; omega
                generalize rd P (j : Int) = x at *
                have q1 : decide (x < 0) = false := decide_eq_false (by omega)
                have q2 : decide (z ≤ x) = false := decide_eq_false (by have := hz.out; omega)
                have HJI := Aside0.mk (And.intro hj cnj)
                clear hpi cnj
                go_wp2_with (go_at_call 55; with_reducible refine (Size_n hF8.out HN.out.1 bs.length rfl HL0.out.2).mono ?_; rintro e w' ⟨rfl, rfl⟩; rw [hz.out])
                go_roundg (gk - 1)
                case measure => exact meas HJ.out HJI.out.2
                case rel => exact ⟨j + 1, (by first | rfl | (simp; done) | rw [hwj]), ⟨meas2 HJ.out HJI.out.2⟩, rfl⟩
              · have cbj : decide ((j : Int) < (P.length : Int)) = false := decide_eq_false hj
                have hjK : P.length ≤ j := by omega
                clear hj
                go_wp2_with (fail)
                go_roundg (gko - 1)
                case measure => rw [hgko.out]; exact meas HKq.out HI.out.2
                case rel => exact ⟨i + 1, (by first | rfl | (simp; done) | rw [hwr]), ⟨by rw [hgko.out]; exact meas2 HKq.out HI.out.2⟩, ⟨lo, hF8.out, hG8.out⟩, hb8⟩
          · have cb : decide ((i : Int) < (l.length : Int)) = false := decide_eq_false hi
            have hiK : l.length ≤ i := by omega
            clear hi
            go_wp2_with (go_at_call 37; with_reducible refine (lives_c _).mono ?_; rintro e w9 ⟨rfl, hb⟩; have hb9 := Aside0.mk (hb0.out.trans (hb.mono hb0.out.size)); clear hb)
            go_ret
            exact ⟨rfl, hb9.out⟩
theorem bloomNever_walk (n bits : Int) (A : Option Addr) (c : Nat) (l : List (List Int)) (w : World) (hn : (Lit.int .u64 n).wf = true) (hb : (Lit.int .u64 bits).wf = true) (HK : Keys w A c l) :
    Calls Try.prog 9 #[.int .u64 n, .int .u64 bits, .slice A l.length c] w fun e w' => e = .returned (.bool true) ∧ Below w.heap.size w w' := by
  obtain ⟨h1, h2⟩ := Ma.u64_of hn
  obtain ⟨h3, h4⟩ := Ma.u64_of hb
  exact never_c w n bits h1 h2 h3 h4 A c l HK
end Go.Proofs.Ytcopbkdlpfcjpaa.L
namespace Go.Proofs.Ytcopbkdlpfcjpaa.L
open Go.RowKit Go.Proofs.YtcopbkdlpfcjpaaW.PrintWords Go.Proofs.YtcopbkdlpfcjpaaW.PrintLast Go.Proofs.YtcopbkdlpfcjpaaW.PrintMore Go.Proofs.Ytcopbkdlpfcjpaa.B Go.Proofs.Ytcopbkdlpfcjpaa.M Go.Proofs.Ytcopbkdlpfcjpaa.F
attribute [local go_sem] max2_int min2_int max_two min_two max_three min_three max_four min_four
set_option linter.unusedVariables false
set_option linter.unusedSimpArgs false
theorem info4 : (Try.prog.info? 4).map (fun i => (i.zero, i.size, i.bytes)) = some (some (.bool false), 1, 1) := by kernel_rfl
theorem grow_size (n bits : Int) (h0 : 0 ≤ n) (h1 : n ≤ 100000) (h2 : 1 ≤ bits) (h3 : bits ≤ 32) :
    wrap64 (n * bits) = n * bits ∧ wrap64 (n * bits + 7) = n * bits + 7 ∧ wrap64 (Int.tdiv (n * bits + 7) 8) = Int.tdiv (n * bits + 7) 8 ∧ wrap64 (Int.tdiv (n * bits + 7) 8 * 8) = Int.tdiv (n * bits + 7) 8 * 8 ∧
    (Int.tdiv (n * bits + 7) 8 * 8 < 8 → 8 * newN n bits = 8) ∧ (¬ Int.tdiv (n * bits + 7) 8 * 8 < 8 → 8 * newN n bits = Int.tdiv (n * bits + 7) 8 * 8) := by
  have hm := mul_in n bits h0 h1 h2 h3
  unfold newN
  generalize n * bits = m at *
  rw [Int.tdiv_eq_ediv_of_nonneg (by omega)]
  unfold wrap64
  refine ⟨by omega, by omega, by omega, by omega, fun h => ?_, fun h => ?_⟩
  · split <;> omega
  · rw [if_neg (by omega)]; omega
theorem R_kp2 {α : Type} {d : Kd α} {e base lo hi : Nat} {w w1 : World} {v : Value} {xs : List α} (h : d.R e w base (fun _ => True) v xs) (hk : Kp lo hi w w1) (hb : hi < base) : d.R e w1 base (fun _ => True) v xs :=
  Kd.R_mono (Kd.R_step (Kd.R_bound h) (fun j hj hlt => hk.block j hlt (.inr (by have := hj.2.1; omega)))) (fun _ _ => trivial)
theorem Kp.of_below0 {B hi : Nat} {w w' : World} (h : Below B w w') (hhi : w'.heap.size ≤ hi := by exact Nat.le_refl _) : Kp B hi w w' := ⟨h.os, h.tape, h.output, h.size, fun k hk hb => h.block k (by have := h.size; omega)⟩
theorem wl_in {m n : Nat} (h : m < n) (hn : n ≤ 5000) : (m + 1) * 1 ≤ 140737488355328 := by omega
theorem eq_end {g i n m : Nat} (h1 : m = i) (h2 : g + i = n) (h3 : n ≤ i) : m = n := by omega
theorem wr_in (i n : Nat) (h : n ≤ 5000) (hi : i < n) : wrap64 ((i : Int) + 1) = ((i + 1 : Nat) : Int) := by unfold wrap64; omega
/-- 'few', told once for all later worlds. -/
theorem few_all {w : World} {A : Option Addr} {c : Nat} {l : List (List Int)} (HK : Keys w A c l) :
    ∃ r, (r = true → l.length ≤ 5000 ∧ ∀ x ∈ l, x.length ≤ 5000) ∧ ∀ w1, Below w.heap.size w w1 → Calls Try.prog 54 #[.slice A l.length c] w1 fun e w' => e = .returned (.bool r) ∧ Below w1.heap.size w1 w' := by
  obtain ⟨r, hr, h⟩ := few_loop l HK.hx HK.hl l.length 0 0 (by omega) (by omega) (by omega)
  obtain ⟨q, hq⟩ := hr.rounds
  refine ⟨r, fun h1 => ⟨(h h1).1, fun x hx => ?_⟩, fun w1 hb => (skerrylaw08_few.calls q A c l r w1 (Kd.C_below HK.C hb) HK.hc hq).mono fun e w' ⟨h1, h2⟩ => ⟨h1, h2.below⟩⟩
  obtain ⟨j, hj, rfl⟩ := List.getElem_of_mem hx
  have h2 := (h h1).2 j (by omega) hj
  have e : rd_L2 l (j : Int) = l[j] := by
    unfold rd_L2
    rw [Int.toNat_natCast, List.getD_eq_getElem?_getD, List.getElem?_eq_getElem hj]
    rfl
  rw [e] at h2
  exact h2
set_option maxHeartbeats 8000000 in
set_option maxRecDepth 100000 in
theorem grows_c (w : World) (n bits : Int) (hn0 : 0 ≤ n) (hn1 : n < 18446744073709551616) (hb0 : 0 ≤ bits) (hb1 : bits < 18446744073709551616) (A : Option Addr) (c : Nat) (l : List (List Int)) (HK : Keys w A c l) (A' : Option Addr) (c' : Nat) (l' : List (List Int)) (HK' : Keys w A' c' l') :
    Calls Try.prog 16 #[.agg #[.int .u64 n, .int .u64 bits], .slice A l.length c, .slice A' l'.length c'] w fun e w' => e = .returned (.bool true) ∧ Below w.heap.size w w' := by
  have m1 : Int.tmod n 200 = n % 200 := Int.tmod_eq_emod_of_nonneg hn0
  have m2 : Int.tmod bits 32 = bits % 32 := Int.tmod_eq_emod_of_nonneg hb0
  have r1 : 0 ≤ n % 200 ∧ n % 200 < 200 := by omega
  have r2 : 0 ≤ bits % 32 ∧ bits % 32 < 32 := by omega
  generalize n % 200 = n1 at *
  generalize bits % 32 = b1 at *
  have w1 : wrap64 n1 = n1 := by unfold wrap64; omega
  have w2 : wrap64 b1 = b1 := by unfold wrap64; omega
  have w3 : wrap64 (1 + b1) = 1 + b1 := by unfold wrap64; omega
  have HF := Aside0.mk (fun w => New_ok n1 (1 + b1) w (by omega) (by omega) (by omega) (by omega))
  have hKi := newK_in (1 + b1) (by omega) (by omega)
  have hNi := newN_in n1 (1 + b1) (by omega) (by omega) (by omega) (by omega)
  obtain ⟨g1, g2, g3, g4, g5, g6⟩ := grow_size n1 (1 + b1) (by omega) (by omega) (by omega) (by omega)
  generalize newK (1 + b1) = K at *
  obtain ⟨N, hN⟩ := Int.eq_ofNat_of_zero_le (show 0 ≤ newN n1 (1 + b1) by omega)
  rw [hN] at HF hNi g5 g6
  rw [Int.toNat_natCast] at HF
  have HN := Aside0.mk (show 0 < K ∧ K ≤ 16 from ⟨by omega, by omega⟩)
  have HNN := Aside0.mk (show 0 < N ∧ N ≤ 400000 from ⟨by omega, by omega⟩)
  have HKE := Aside0.mk HK
  have HKE' := Aside0.mk HK'
  generalize hsz : Int.tdiv (n1 * (1 + b1) + 7) 8 * 8 = sz at *
  have G5 := Aside0.mk g5
  have G6 := Aside0.mk (show 8 ≤ sz → 8 * (N : Int) = sz from fun h => g6 (by omega))
  have hal : Below w.heap.size w (w.alloc (.cells #[.int .u64 n, .int .u64 bits] 75)) := below_alloc (Below.refl _ _) _
  have HAL := Aside0.mk hal
  have hx0 : (w.alloc (.cells #[.int .u64 n, .int .u64 bits] 75)).cell? ⟨w.heap.size, 0, none⟩ = some (.int .u64 n) := (blk_cell (heap_alloc_new w _) 0).trans rfl
  have hx1 : (w.alloc (.cells #[.int .u64 n, .int .u64 bits] 75)).cell? ⟨w.heap.size, 1, none⟩ = some (.int .u64 bits) := (blk_cell (heap_alloc_new w _) 1).trans rfl
  clear hKi hNi hN HK HK' hn0 hn1 hb0 hb1 r1 r2 g5 g6 hal
  go_enter Try.func16, Try.ntmps16
  go_upto_region 1 with (fail)
  have hi64_ := i64_w
  go_quiet (fail)
  clear hi64_
  clear hx0 hx1
  go_upto_region 3 with (go_at_call 53; with_reducible refine (HF.out _).mono ?_; rintro e w1 ⟨f, rfl, hF, hb⟩; have hF1 := Aside0.mk hF; have hb1 := Aside0.mk hb; clear hF hb)
  have hb1' : Below w.heap.size w w1 := (pw_below_drewN HAL.out nq).trans (hb1.out.mono (pw_below_drewN HAL.out nq).size)
  have hF1' : ∃ lo, w.heap.size ≤ lo ∧ Fil 83 w1 lo f K (List.replicate N 0) := ⟨_, (pw_below_drewN HAL.out nq).size, hF1.out⟩
  clear hF1 hb1 HAL
  obtain ⟨lo, hlo, hF1''⟩ := hF1'
  have hF1 := Aside0.mk hF1''
  have hb1 := Aside0.mk hb1'
  have HLO := Aside0.mk hlo
  clear hF1'' hb1' hlo
  obtain ⟨r, hr, hfew⟩ := few_all HKE.out
  obtain ⟨r', hr', hfew'⟩ := few_all HKE'.out
  have HFW := Aside0.mk hfew
  have HFW' := Aside0.mk hfew'
  have HR := Aside0.mk hr
  have HR' := Aside0.mk hr'
  clear hfew hr hfew' hr'
  cases r with
  | false =>
    go_wp2_with (first | (go_at_call 54; with_reducible refine (HFW.out _ hb1.out).mono ?_; rintro e w3 ⟨rfl, hb⟩; have hF3 := Aside0.mk (hF1.out.below hb); have hb3 := Aside0.mk (hb1.out.trans (hb.mono hb1.out.size)); clear hb) | (go_at_call 37; with_reducible refine (lives_c _).mono ?_; rintro e w4 ⟨rfl, hb⟩; have hb4 := Aside0.mk (hb3.out.trans (hb.mono hb3.out.size)); clear hb))
    go_ret
    exact ⟨rfl, hb4.out⟩
  | true =>
    have HSM := Aside0.mk (HR.out rfl)
    cases r' with
    | false =>
      go_wp2_with (first | (go_at_call 54; with_reducible refine (HFW.out _ hb1.out).mono ?_; rintro e w3 ⟨rfl, hb⟩; have hF3 := Aside0.mk (hF1.out.below hb); have hb3 := Aside0.mk (hb1.out.trans (hb.mono hb1.out.size)); clear hb) | (go_at_call 54; with_reducible refine (HFW'.out _ hb3.out).mono ?_; rintro e w4 ⟨rfl, hb⟩; have hF4 := Aside0.mk (hF3.out.below hb); have hb4 := Aside0.mk (hb3.out.trans (hb.mono hb3.out.size)); clear hb) | (go_at_call 37; with_reducible refine (lives_c _).mono ?_; rintro e w5 ⟨rfl, hb⟩; have hb5 := Aside0.mk (hb4.out.trans (hb.mono hb4.out.size)); clear hb))
      go_ret
      exact ⟨rfl, hb5.out⟩
    | true =>
      have HSM' := Aside0.mk (HR'.out rfl)
      clear HR HR'
      go_upto_if 58 with (first | (go_at_call 54; with_reducible refine (HFW.out _ hb1.out).mono ?_; rintro e w3 ⟨rfl, hb⟩; have hF3 := Aside0.mk (hF1.out.below hb); have hb3 := Aside0.mk (hb1.out.trans (hb.mono hb1.out.size)); clear hb) | (go_at_call 54; with_reducible refine (HFW'.out _ hb3.out).mono ?_; rintro e w4 ⟨rfl, hb⟩; have hF4 := Aside0.mk (hF3.out.below hb); have hb4 := Aside0.mk (hb3.out.trans (hb.mono hb3.out.size)); clear hb))
      go_cut [10] (fun v10 wc => v10 = .int .i64 (8 * (N : Int)) ∧ wc = w4)
      case first =>
        by_cases hs : sz < 8
        · have hb : decide (sz < 8) = true := decide_eq_true hs
          have h8 := G5.out hs
          (first | rw [hb] | skip)
          replace h8 := Aside0.mk h8
          clear hs
          go_wp2_with (fail)
          go_meet
          case rel => exact ⟨by first | (rw [h8.out]; done) | (rw [h8.out, g4]; done), rfl⟩
        · have hb : decide (sz < 8) = false := decide_eq_false hs
          have h8 := G6.out (by omega)
          (first | rw [hb] | skip)
          replace h8 := Aside0.mk h8
          clear hs
          go_wp2_with (fail)
          go_meet
          case rel => exact ⟨by first | (rw [h8.out]; done) | (rw [h8.out, g4]; done), rfl⟩
      case rest =>
        obtain ⟨rfl, h2⟩ := hcut
        obtain rfl := h2.symm
        clear HFW HFW' hF1 hb1 hF3 hb3
        go_wp2_with (fail)
        go_loopg [61] l.length (fun kq v61 w' => ∃ (i : Nat) (bs : List Int), v61 = .int .i64 (i : Int) ∧ Aside0 (kq + i = l.length) ∧ Aside0 (Fil 83 w' lo f K bs) ∧ Aside0 (Below w.heap.size w w') ∧ Aside0 (IsB bs ∧ bs.length = N))
        case atStart => exact ⟨0, List.replicate N 0, rfl, ⟨by omega⟩, hF4, hb4, ⟨zeros_B N, List.length_replicate⟩⟩
        case round =>
          clear hF4 hb4
          obtain ⟨i, bs, rfl, HKq, hF0, hb0, HBS⟩ := hrel
          have HL0 := Aside0.mk (show 0 < bs.length ∧ bs.length ≤ 1000000 by rw [HBS.out.2]; exact ⟨HNN.out.1, Nat.le_trans HNN.out.2 (by decide)⟩)
          by_cases hi : (i : Int) < (l.length : Int)
          · skip
            have cb : decide ((i : Int) < (l.length : Int)) = true := decide_eq_true hi
            have cn : i < l.length := by omega
            obtain ⟨ad, rfl⟩ := keys_some HKE.out (by omega)
            obtain ⟨A1, c1, hcell, hkc, hkC, hok, hmem⟩ := key_at HKE.out hb0.out HSM.out.2 i cn
            have htm := Aside0.mk (take_mem l i cn)
            have HI := Aside0.mk (And.intro hi cn)
            have hwr : wrap64 ((i : Int) + 1) = ((i + 1 : Nat) : Int) := wr_in i _ HSM.out.1 cn
            generalize rd_L2 l (i : Int) = key at *
            have HKC := Aside0.mk hkC
            have HKc := Aside0.mk hkc
            clear hkC hkc hmem cn hok
            go_wp2_with (go_at_call 46; with_reducible refine (Add_c hF0.out A1 c1 key (Kd.C_below HKC.out hb0.out) HKc.out HN.out.1 HN.out.2 HL0.out.1 HL0.out.2).mono ?_; rintro e wA ⟨rfl, hF, hk⟩; have hFA := Aside0.mk hF; have hbA := Aside0.mk (hk.below hb0.out HLO.out); clear hF hk)
            go_roundg (gk - 1)
            case measure => exact meas HKq.out HI.out.2
            case rel => exact ⟨i + 1, addS K bs key, (by first | rfl | (simp; done) | rw [hwr]), ⟨meas2 HKq.out HI.out.2⟩, hFA, hbA, ⟨addS_B K bs key HBS.out.1 HL0.out.1 HL0.out.2, by rw [addS_len]; exact HBS.out.2⟩⟩
          · have cb : decide ((i : Int) < (l.length : Int)) = false := decide_eq_false hi
            have hiK : l.length ≤ i := by omega
            have hdec : decide (i < l.length) = false := decide_eq_false (Nat.not_lt.mpr hiK)
            clear hi
            go_wp2_with (fail)
            (try rw [hdec])
            obtain ⟨B2, hB2⟩ : ∃ x, x = wr.heap.size := ⟨_, rfl⟩
            have HB2 := Aside0.mk (show f < B2 ∧ w.heap.size ≤ B2 from ⟨by rw [hB2]; exact hF0.out.lt, by rw [hB2]; exact hb0.out.size⟩)
            have hBw := Aside0.mk (show B2 ≤ wr.heap.size from Nat.le_of_eq hB2)
            clear hB2 hiK HKq hdec
            go_loopg [13, 71] l'.length (fun kq v13 v71 w' => ∃ (i : Nat) (bs : List Int) (ws : List Bool), v71 = .int .i64 (i : Int) ∧ Aside0 (kq + i = l'.length) ∧ Aside0 (Fil 83 w' lo f K bs) ∧ Aside0 (Below w.heap.size w w') ∧ Aside0 (IsB bs ∧ bs.length = N) ∧ Aside0 (ws.length = i) ∧ Aside0 (Kd.bool.R 4 w' B2 (fun _ => True) v13 ws) ∧ Aside0 (B2 ≤ w'.heap.size))
            case atStart => exact ⟨0, bs, [], rfl, ⟨by omega⟩, hF0, hb0, HBS, ⟨rfl⟩, ⟨Kd.R_nil _ _ _ _ _⟩, hBw⟩
            case round =>
              clear hF0 hb0 HL0 HBS hBw
              obtain ⟨i, bs, ws, rfl, HKq, hF0, hb0, HBS, HWL, HRW, hBw⟩ := hrel
              have HL0 := Aside0.mk (show 0 < bs.length ∧ bs.length ≤ 1000000 by rw [HBS.out.2]; exact ⟨HNN.out.1, Nat.le_trans HNN.out.2 (by decide)⟩)
              by_cases hi : (i : Int) < (l'.length : Int)
              · skip
                have cb : decide ((i : Int) < (l'.length : Int)) = true := decide_eq_true hi
                have cn : i < l'.length := by omega
                obtain ⟨ad, rfl⟩ := keys_some HKE'.out (by omega)
                obtain ⟨A1, c1, hcell, hkc, hkC, hok, hmem⟩ := key_at HKE'.out hb0.out HSM'.out.2 i cn
                have htm := Aside0.mk (take_mem l' i cn)
                have HI := Aside0.mk (And.intro hi cn)
                have hwr : wrap64 ((i : Int) + 1) = ((i + 1 : Nat) : Int) := wr_in i _ HSM'.out.1 cn
                have HWl := Aside0.mk (wl_in (Nat.lt_of_le_of_lt (Nat.le_of_eq HWL.out) cn) HSM'.out.1)
                generalize rd_L2 l' (i : Int) = key at *
                have HKC := Aside0.mk hkC
                have HKc := Aside0.mk hkc
                clear hkC hkc hmem cn hok
                go_wp2_with (first | (go_at_call 40; with_reducible refine (May_c hF0.out A1 c1 key (Kd.C_below HKC.out hb0.out) HKc.out HN.out.1 HN.out.2 HL0.out.1 HL0.out.2).mono ?_; rintro e wA ⟨rfl, hb⟩; have hFA := Aside0.mk (hF0.out.below hb); have hbA := Aside0.mk (hb0.out.trans (hb.mono hb0.out.size)); have hRA := Aside0.mk (Kd.R_below HRW.out hb); have hBA := Aside0.mk (Nat.le_trans hBw.out hb.size); clear hb; generalize mayS K bs key = mb) | ((with_reducible refine gate_builtin (b := .append) (xs := #[.tmp 75, .tmp 79]) rfl ?_); at_builtin; refine Kd.R_append Kd.bool B2 rfl (.tmp 75) (.tmp 79) 76 4 (.bool false) 1 rfl Try.underlying76 info4 rfl (by decide) (by omega) u13 ws mb [.bool mb] (fun _ => True) (fun _ => False) rfl rfl ?aP (fun _ hk => hk.elim) ?aF ?aO (Below.refl _ _) ?aS ?aL ?_; (case aP => exact rfl); (case aF => exact (fun _ _ => trivial)); (case aO => exact hRA.out); (case aS => exact hBA.out); (case aL => exact HWl.out); intro v1 w2 ho hb hg hat; have hFB := Aside0.mk (hFA.out.keep (lo' := B2) (hi' := w2.heap.size) (Kp.of_below0 hb) (.inr HB2.out.1)); have hbB := Aside0.mk (hbA.out.trans (hb.mono HB2.out.2)); have hRB := Aside0.mk ho; have hBB := Aside0.mk (Nat.le_trans hBA.out hb.size); clear ho hb hg hat))
                go_roundg (gk - 1)
                case measure => exact meas HKq.out HI.out.2
                case rel => exact ⟨i + 1, bs, ws ++ [mb], (by first | rfl | (simp; done) | rw [hwr]), ⟨meas2 HKq.out HI.out.2⟩, hFB, hbB, HBS, ⟨by rw [List.length_append, HWL.out]; rfl⟩, hRB, hBB⟩
              · have cb : decide ((i : Int) < (l'.length : Int)) = false := decide_eq_false hi
                have hiK : l'.length ≤ i := by omega
                have hdec : decide (i < l'.length) = false := decide_eq_false (Nat.not_lt.mpr hiK)
                clear hi
                have HWE := Aside0.mk (eq_end HWL.out HKq.out hiK)
                obtain ⟨A13, c13, rfl⟩ := Kd.R_slice HRW.out
                go_wp2_with (fail)
                (try rw [hdec])
                clear hiK HKq HWL hdec
                go_loopg [84] l.length (fun kq v84 w' => ∃ (i : Nat) (bs : List Int), v84 = .int .i64 (i : Int) ∧ Aside0 (kq + i = l.length) ∧ Aside0 (Fil 83 w' lo f K bs) ∧ Aside0 (Below w.heap.size w w') ∧ Aside0 (IsB bs ∧ bs.length = N) ∧ Aside0 (Kd.bool.R 4 w' B2 (fun _ => True) (.slice A13 ws.length c13) ws) ∧ Aside0 (B2 ≤ w'.heap.size))
                case atStart => exact ⟨0, bs, rfl, ⟨by omega⟩, hF0, hb0, HBS, HRW, hBw⟩
                case round =>
                  clear hF0 hb0 HL0 HBS HRW hBw
                  obtain ⟨i, bs, rfl, HKq, hF0, hb0, HBS, HRW, hBw⟩ := hrel
                  have HL0 := Aside0.mk (show 0 < bs.length ∧ bs.length ≤ 1000000 by rw [HBS.out.2]; exact ⟨HNN.out.1, Nat.le_trans HNN.out.2 (by decide)⟩)
                  by_cases hi : (i : Int) < (l.length : Int)
                  · skip
                    have cb : decide ((i : Int) < (l.length : Int)) = true := decide_eq_true hi
                    have cn : i < l.length := by omega
                    obtain ⟨ad, rfl⟩ := keys_some HKE.out (by omega)
                    obtain ⟨A1, c1, hcell, hkc, hkC, hok, hmem⟩ := key_at HKE.out hb0.out HSM.out.2 i cn
                    have htm := Aside0.mk (take_mem l i cn)
                    have HI := Aside0.mk (And.intro hi cn)
                    have hwr : wrap64 ((i : Int) + 1) = ((i + 1 : Nat) : Int) := wr_in i _ HSM.out.1 cn
                    generalize rd_L2 l (i : Int) = key at *
                    have HKC := Aside0.mk hkC
                    have HKc := Aside0.mk hkc
                    clear hkC hkc hmem cn hok
                    go_wp2_with (go_at_call 46; with_reducible refine (Add_c hF0.out A1 c1 key (Kd.C_below HKC.out hb0.out) HKc.out HN.out.1 HN.out.2 HL0.out.1 HL0.out.2).mono ?_; rintro e wA ⟨rfl, hF, hk⟩; have hFA := Aside0.mk hF; have hbA := Aside0.mk (hk.below hb0.out HLO.out); have hRA := Aside0.mk (R_kp2 HRW.out hk HB2.out.1); have hBA := Aside0.mk (Nat.le_trans hBw.out hk.size); clear hF hk)
                    go_roundg (gk - 1)
                    case measure => exact meas HKq.out HI.out.2
                    case rel => exact ⟨i + 1, addS K bs key, (by first | rfl | (simp; done) | rw [hwr]), ⟨meas2 HKq.out HI.out.2⟩, hFA, hbA, ⟨addS_B K bs key HBS.out.1 HL0.out.1 HL0.out.2, by rw [addS_len]; exact HBS.out.2⟩, hRA, hBA⟩
                  · have cb : decide ((i : Int) < (l.length : Int)) = false := decide_eq_false hi
                    have hiK : l.length ≤ i := by omega
                    have hdec : decide (i < l.length) = false := decide_eq_false (Nat.not_lt.mpr hiK)
                    clear hi
                    go_wp2_with (fail)
                    (try rw [hdec])
                    clear hiK HKq hdec
                    go_loopg [94] l'.length (fun kq v94 w' => ∃ (i : Nat) (bs : List Int), v94 = .int .i64 (i : Int) ∧ Aside0 (kq + i = l'.length) ∧ Aside0 (Fil 83 w' lo f K bs) ∧ Aside0 (Below w.heap.size w w') ∧ Aside0 (IsB bs ∧ bs.length = N) ∧ Aside0 (Kd.bool.R 4 w' B2 (fun _ => True) (.slice A13 ws.length c13) ws) ∧ Aside0 (B2 ≤ w'.heap.size) ∧ Aside0 (∀ x ∈ l'.take i, mayS K bs x = true))
                    case atStart => exact ⟨0, bs, rfl, ⟨by omega⟩, hF0, hb0, HBS, HRW, hBw, ⟨by simp⟩⟩
                    case round =>
                      clear hF0 hb0 HL0 HBS HRW hBw
                      obtain ⟨i, bs, rfl, HKq, hF0, hb0, HBS, HRW, hBw, HMA⟩ := hrel
                      have HL0 := Aside0.mk (show 0 < bs.length ∧ bs.length ≤ 1000000 by rw [HBS.out.2]; exact ⟨HNN.out.1, Nat.le_trans HNN.out.2 (by decide)⟩)
                      by_cases hi : (i : Int) < (l'.length : Int)
                      · skip
                        have cb : decide ((i : Int) < (l'.length : Int)) = true := decide_eq_true hi
                        have cn : i < l'.length := by omega
                        obtain ⟨ad, rfl⟩ := keys_some HKE'.out (by omega)
                        obtain ⟨A1, c1, hcell, hkc, hkC, hok, hmem⟩ := key_at HKE'.out hb0.out HSM'.out.2 i cn
                        have htm := Aside0.mk (take_mem l' i cn)
                        have HI := Aside0.mk (And.intro hi cn)
                        have hwr : wrap64 ((i : Int) + 1) = ((i + 1 : Nat) : Int) := wr_in i _ HSM'.out.1 cn
                        generalize rd_L2 l' (i : Int) = key at *
                        have HKC := Aside0.mk hkC
                        have HKc := Aside0.mk hkc
                        clear hkC hkc hmem cn hok
                        go_wp2_with (go_at_call 46; with_reducible refine (Add_c hF0.out A1 c1 key (Kd.C_below HKC.out hb0.out) HKc.out HN.out.1 HN.out.2 HL0.out.1 HL0.out.2).mono ?_; rintro e wA ⟨rfl, hF, hk⟩; have hFA := Aside0.mk hF; have hbA := Aside0.mk (hk.below hb0.out HLO.out); have hRA := Aside0.mk (R_kp2 HRW.out hk HB2.out.1); have hBA := Aside0.mk (Nat.le_trans hBw.out hk.size); clear hF hk)
                        go_roundg (gk - 1)
                        case measure => exact meas HKq.out HI.out.2
                        case rel =>
                          refine ⟨i + 1, addS K bs key, (by first | rfl | (simp; done) | rw [hwr]), ⟨meas2 HKq.out HI.out.2⟩, hFA, hbA, ⟨addS_B K bs key HBS.out.1 HL0.out.1 HL0.out.2, by rw [addS_len]; exact HBS.out.2⟩, hRA, hBA, ⟨fun x hx => ?_⟩⟩
                          rcases htm.out x hx with hx | rfl
                          · exact may_mono K bs key x HBS.out.1 HL0.out.1 HL0.out.2 (HMA.out x hx)
                          · exact may_self K bs x HBS.out.1 HL0.out.1 HL0.out.2
                      · have cb : decide ((i : Int) < (l'.length : Int)) = false := decide_eq_false hi
                        have hiK : l'.length ≤ i := by omega
                        have hdec : decide (i < l'.length) = false := decide_eq_false (Nat.not_lt.mpr hiK)
                        clear hi
                        have hma := HMA.out
                        rw [List.take_of_length_le hiK] at hma
                        have HMAY := Aside0.mk hma
                        clear hma HMA
                        go_wp2_with (fail)
                        (try rw [hdec])
                        clear hiK HKq hdec
                        go_loopg [104] l'.length (fun kq v104 w' => ∃ (i : Nat), v104 = .int .i64 (i : Int) ∧ Aside0 (kq + i = l'.length) ∧ Aside0 (Fil 83 w' lo f K bs) ∧ Aside0 (Below w.heap.size w w') ∧ Aside0 (Kd.bool.R 4 w' B2 (fun _ => True) (.slice A13 ws.length c13) ws))
                        case atStart => exact ⟨0, rfl, ⟨by omega⟩, hF0, hb0, HRW⟩
                        case round =>
                          clear hF0 hb0 HRW hBw
                          obtain ⟨i, rfl, HKq, hF0, hb0, HRW⟩ := hrel
                          by_cases hi : (i : Int) < (l'.length : Int)
                          · skip
                            have cb : decide ((i : Int) < (l'.length : Int)) = true := decide_eq_true hi
                            have cn : i < l'.length := by omega
                            obtain ⟨ad, rfl⟩ := keys_some HKE'.out (by omega)
                            obtain ⟨A1, c1, hcell, hkc, hkC, hok, hmem⟩ := key_at HKE'.out hb0.out HSM'.out.2 i cn
                            have htm := Aside0.mk (take_mem l' i cn)
                            have HI := Aside0.mk (And.intro hi cn)
                            have hwr : wrap64 ((i : Int) + 1) = ((i + 1 : Nat) : Int) := wr_in i _ HSM'.out.1 cn
                            have hmy := HMAY.out _ hmem
                            have HMY := Aside0.mk hmy
                            have hiw : (i : Int) < (ws.length : Int) := by rw [HWE.out]; exact hi
                            obtain ⟨adw, rfl, hxw⟩ := Kd.at_bool (Kd.R_reads' HRW.out).2.2 (i : Int) (Int.natCast_nonneg i) hiw
                            rw [Int.toNat_natCast] at hxw
                            generalize rd_L2 l' (i : Int) = key at *
                            have HKC := Aside0.mk hkC
                            have HKc := Aside0.mk hkc
                            clear hkC hkc hmem cn hok
                            clear hmy
                            generalize rdOf false ws (i : Int) = wb at *
                            cases wb with
                            | false =>
                              go_wp2_with (fail)
                              go_roundg (gk - 1)
                              case measure => exact meas HKq.out HI.out.2
                              case rel => exact ⟨i + 1, (by first | rfl | (simp; done) | rw [hwr]), ⟨meas2 HKq.out HI.out.2⟩, hF0, hb0, HRW⟩
                            | true =>
                              go_wp2_with (go_at_call 40; with_reducible refine (May_c hF0.out A1 c1 key (Kd.C_below HKC.out hb0.out) HKc.out HN.out.1 HN.out.2 HL0.out.1 HL0.out.2).mono ?_; rintro e wA ⟨rfl, hb⟩; rw [HMY.out]; have hFA := Aside0.mk (hF0.out.below hb); have hbA := Aside0.mk (hb0.out.trans (hb.mono hb0.out.size)); have hRA := Aside0.mk (Kd.R_below HRW.out hb); clear hb)
                              go_roundg (gk - 1)
                              case measure => exact meas HKq.out HI.out.2
                              case rel => exact ⟨i + 1, (by first | rfl | (simp; done) | rw [hwr]), ⟨meas2 HKq.out HI.out.2⟩, hFA, hbA, hRA⟩
                          · have cb : decide ((i : Int) < (l'.length : Int)) = false := decide_eq_false hi
                            have hiK : l'.length ≤ i := by omega
                            have hdec : decide (i < l'.length) = false := decide_eq_false (Nat.not_lt.mpr hiK)
                            clear hi
                            go_wp2_with (first | (go_at_call 55; with_reducible refine (Size_n hF0.out HN.out.1 N HBS.out.2 (Nat.le_trans HNN.out.2 (by decide))).mono ?_; rintro e w' ⟨rfl, rfl⟩) | (go_at_call 37; with_reducible refine (lives_c _).mono ?_; rintro e wZ ⟨rfl, hb⟩; have hbZ := Aside0.mk (hb0.out.trans (hb.mono hb0.out.size)); clear hb))
                            go_ret
                            exact ⟨rfl, hbZ.out⟩
theorem bloomGrows_walk (n bits : Int) (A : Option Addr) (c : Nat) (l : List (List Int)) (A' : Option Addr) (c' : Nat) (l' : List (List Int)) (w : World) (hn : (Lit.int .u64 n).wf = true) (hb : (Lit.int .u64 bits).wf = true) (HK : Keys w A c l) (HK' : Keys w A' c' l') :
    Calls Try.prog 16 #[.agg #[.int .u64 n, .int .u64 bits], .slice A l.length c, .slice A' l'.length c'] w fun e w' => e = .returned (.bool true) ∧ Below w.heap.size w w' := by
  obtain ⟨h1, h2⟩ := Ma.u64_of hn
  obtain ⟨h3, h4⟩ := Ma.u64_of hb
  exact grows_c w n bits h1 h2 h3 h4 A c l HK A' c' l' HK'
end Go.Proofs.Ytcopbkdlpfcjpaa.L
