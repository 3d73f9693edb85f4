/- The law BloomNever, walked. -/
import Derived.Test.YtcopbkdlpfcjpaaBloR
namespace Go.Proofs.Ytcopbkdlpfcjpaa.L
open Go.RowKit Go.Proofs.YtcopbkdlpfcjpaaW.PrintWords Go.Proofs.YtcopbkdlpfcjpaaW.PrintLast Go.Proofs.YtcopbkdlpfcjpaaW.PrintMore Go.Proofs.Ytcopbkdlpfcjpaa.B Go.Proofs.Ytcopbkdlpfcjpaa.M Go.Proofs.Ytcopbkdlpfcjpaa.F
attribute [local go_sem] max2_int min2_int max_two min_two max_three min_three max_four min_four
set_option linter.unusedVariables false
set_option linter.unusedSimpArgs false
open Go.Proofs.Ytcopbkdlpfcjpaa.Ma (getS digN)
theorem digN_get (k : Nat) (h : k < 18446744073709551616) (R : List Nat) : getS (digN k ++ R) 0 0 = (k, (digN k).length) := by
  have := Ma.getS_dig k 0 0 R (by omega) (by omega) (by omega)
  rw [this]
  simp
theorem meas {g j n : Nat} (h : g + j = n) (hj : j < n) : g - 1 < g := by omega
theorem meas2 {g j n : Nat} (h : g + j = n) (hj : j < n) : g - 1 + (j + 1) = n := by omega
/-- What Bytes writes Read reads. -/
theorem read_back (k : Nat) (B : List Nat) (hk : 1 ≤ k) (hk2 : k ≤ 16) (hn : 1 ≤ B.length) (hn2 : B.length ≤ 400000) : readS (digN k ++ digN B.length ++ B) = some (k, B) := by
  have h1 : getS (digN k ++ digN B.length ++ B) 0 0 = (k, (digN k).length) := by rw [List.append_assoc]; exact digN_get k (by omega) _
  have h2 : (digN k ++ digN B.length ++ B).drop (digN k).length = digN B.length ++ B := by rw [List.append_assoc, List.drop_left]
  have h3 : getS (digN B.length ++ B) 0 0 = (B.length, (digN B.length).length) := digN_get _ (by omega) _
  have h4 : (digN k ++ digN B.length ++ B).drop ((digN k).length + (digN B.length).length) = B := by rw [← List.drop_drop, h2, List.drop_left]
  have h5 := Ma.digN_pos k
  have h6 := Ma.digN_pos B.length
  unfold readS
  rw [h1]
  simp only
  rw [h2, h3]
  simp only
  rw [h4, if_neg]
  simp only [List.length_append]
  omega
theorem Read_back {w : World} {A : Option Addr} {c : Nat} {k : Int} {bs : List Int} (hB : IsB bs) (hk : 1 ≤ k) (hk2 : k ≤ 16) (hn : 1 ≤ bs.length) (hn2 : bs.length ≤ 400000) (hC : Kd.C (Kd.int .u8) w A (bytesS k bs).length (bytesS k bs)) (hc : (bytesS k bs).length ≤ c) :
    Calls Try.prog 38 #[.slice A (bytesS k bs).length c] w fun e w' => ∃ g, e = .returned (.tuple #[.pointer (some ⟨g, 0, none⟩), .int .i64 0]) ∧ Fil 83 w' w.heap.size g k bs ∧ Below w.heap.size w w' := by
  obtain ⟨B, hB, rfl⟩ := hB
  obtain ⟨K, rfl⟩ := Int.eq_ofNat_of_zero_le (show 0 ≤ k by omega)
  rw [Ma.up_length] at hn hn2
  have e : bytesS (K : Int) (Ma.up B) = Ma.up (digN K ++ digN B.length ++ B) := by
    unfold bytesS
    rw [Int.toNat_natCast, Ma.up_length, ← Ma.up_append, ← Ma.up_append]
  rw [e] at hC hc ⊢
  have hl1 := Ma.digN_len64 K (by omega)
  have hl2 := Ma.digN_len64 B.length (by omega)
  refine Read_some ?_ ?_ (read_back K B (by omega) (by omega) hn hn2) hC hc
  · intro x hx
    rcases List.mem_append.1 hx with hx | hx
    · rcases List.mem_append.1 hx with hx | hx
      · exact Ma.digN_byte _ x hx
      · exact Ma.digN_byte _ x hx
    · exact hB x hx
  · rw [List.length_append, List.length_append]
    omega
/-- One key out of those that came in. -/
theorem key_at {w wr : World} {ad : Addr} {c : Nat} {l : List (List Int)} (HK : Keys w (some ad) c l) (hb : Below w.heap.size w wr) (hs : ∀ x ∈ l, x.length ≤ 5000) (i : Nat) (hi : i < l.length) : ∃ A1 c1, wr.cell? (ad.add i) = some (.slice A1 (rd_L2 l (i : Int)).length c1) ∧ (rd_L2 l (i : Int)).length ≤ c1 ∧ Kd.C (Kd.int .u8) w A1 (rd_L2 l (i : Int)).length (rd_L2 l (i : Int)) ∧ OkKey (rd_L2 l (i : Int)) ∧ rd_L2 l (i : Int) ∈ l := by
  obtain ⟨ad', A1, c1, e, hcell, hkc, hkC⟩ := at_L2 HK.C (i : Int) (by omega) (by omega)
  obtain rfl := Option.some.inj e
  have hmem := rd_L2_mem l i hi
  have h1 := bcell hb hcell (World.block_lt_of_cell? _ _ hcell)
  rw [Int.toNat_natCast] at h1
  exact ⟨A1, c1, h1, hkc, hkC, okB (HK.hb _ hmem) (by have := hs _ hmem; omega), hmem⟩
theorem keys_some {w : World} {A : Option Addr} {c : Nat} {l : List (List Int)} (HK : Keys w A c l) (hl : 0 < l.length) : ∃ ad, A = some ad := by
  obtain ⟨ad, h, _⟩ := HK.C.2.2 hl
  exact ⟨ad, h⟩
theorem take_mem (l : List (List Int)) (i : Nat) (hi : i < l.length) (x : List Int) (hx : x ∈ l.take (i + 1)) : x ∈ l.take i ∨ x = rd_L2 l (i : Int) := by
  have e : rd_L2 l (i : Int) = l[i] := by
    unfold rd_L2
    rw [Int.toNat_natCast, List.getD_eq_getElem?_getD, List.getElem?_eq_getElem hi]
    rfl
  rw [List.take_succ_eq_append_getElem hi, List.mem_append, List.mem_singleton] at hx
  rw [e]
  exact hx
set_option maxHeartbeats 8000000 in
set_option maxRecDepth 100000 in
theorem never_c (w : World) (n bits : Int) (hn0 : 0 ≤ n) (hn1 : n < 18446744073709551616) (hb0 : 0 ≤ bits) (hb1 : bits < 18446744073709551616) (A : Option Addr) (c : Nat) (l : List (List Int)) (HK : Keys w A c l) :
    Calls Try.prog 9 #[.int .u64 n, .int .u64 bits, .slice A l.length c] w fun e w' => e = .returned (.bool true) ∧ Below w.heap.size w w' := by
  have m1 : Int.tmod n 200 = n % 200 := Int.tmod_eq_emod_of_nonneg hn0
  have m2 : Int.tmod bits 32 = bits % 32 := Int.tmod_eq_emod_of_nonneg hb0
  have r1 : 0 ≤ n % 200 ∧ n % 200 < 200 := by omega
  have r2 : 0 ≤ bits % 32 ∧ bits % 32 < 32 := by omega
  generalize n % 200 = n1 at *
  generalize bits % 32 = b1 at *
  have w1 : wrap64 n1 = n1 := by unfold wrap64; omega
  have w2 : wrap64 b1 = b1 := by unfold wrap64; omega
  have w3 : wrap64 (1 + b1) = 1 + b1 := by unfold wrap64; omega
  have HF := Aside0.mk (fun w => New_ok n1 (1 + b1) w (by omega) (by omega) (by omega) (by omega))
  have hKi := newK_in (1 + b1) (by omega) (by omega)
  have hNi := newN_in n1 (1 + b1) (by omega) (by omega) (by omega) (by omega)
  generalize newK (1 + b1) = K at *
  obtain ⟨N, hN⟩ := Int.eq_ofNat_of_zero_le (show 0 ≤ newN n1 (1 + b1) by omega)
  rw [hN] at HF hNi
  rw [Int.toNat_natCast] at HF
  have HN := Aside0.mk (show 0 < K ∧ K ≤ 16 from ⟨by omega, by omega⟩)
  have HNN := Aside0.mk (show 0 < N ∧ N ≤ 400000 from ⟨by omega, by omega⟩)
  have HKE := Aside0.mk HK
  clear hKi hNi hN HK hn0 hn1 hb0 hb1 r1 r2
  go_enter Try.func9, Try.ntmps9
  go_upto_region 2 with (go_at_call 53; with_reducible refine (HF.out _).mono ?_; rintro e w1 ⟨f, rfl, hF, hb⟩; have hF1 := Aside0.mk hF; have hb1 := Aside0.mk hb; clear hF hb)
  obtain ⟨r, hr, hfew⟩ := few_c (Kd.C_below HKE.out.C hb1.out) HKE.out.hc HKE.out.hx HKE.out.hl
  have HFW := Aside0.mk hfew
  have HR := Aside0.mk hr
  clear hfew hr
  cases r with
  | false =>
    go_wp2_with (first | (go_at_call 54; with_reducible refine HFW.out.mono ?_; rintro e w3 ⟨rfl, hb⟩; have hb3 := Aside0.mk (hb1.out.trans (hb.mono hb1.out.size)); clear hb) | (go_at_call 37; with_reducible refine (lives_c _).mono ?_; rintro e w4 ⟨rfl, hb⟩; have hb4 := Aside0.mk (hb3.out.trans (hb.mono hb3.out.size)); clear hb))
    go_ret
    exact ⟨rfl, hb4.out⟩
  | true =>
    have HSM := Aside0.mk (HR.out rfl)
    go_wp2_with (go_at_call 54; with_reducible refine HFW.out.mono ?_; rintro e w3 ⟨rfl, hb⟩; have hF3 := Aside0.mk (hF1.out.below hb); have hb3 := Aside0.mk (hb1.out.trans (hb.mono hb1.out.size)); clear hb)
    go_loopg [38] l.length (fun kq v38 w' => ∃ (i : Nat) (bs : List Int), v38 = .int .i64 (i : Int) ∧ Aside0 (kq + i = l.length) ∧ Aside0 (Fil 83 w' w.heap.size f K bs) ∧ Aside0 (Below w.heap.size w w') ∧ Aside0 (IsB bs ∧ bs.length = N) ∧ Aside0 (∀ x ∈ l.take i, mayS K bs x = true))
    case atStart => exact ⟨0, List.replicate N 0, rfl, ⟨by omega⟩, hF3, hb3, ⟨zeros_B N, List.length_replicate⟩, ⟨by simp⟩⟩
    case round =>
      obtain ⟨i, bs, rfl, HKq, hF0, hb0, HBS, HMA⟩ := hrel
      have HL0 := Aside0.mk (show 0 < bs.length ∧ bs.length ≤ 1000000 by rw [HBS.out.2]; have := HNN.out; omega)
      clear HFW hF3 hb3 hF1 hb1
      by_cases hi : (i : Int) < (l.length : Int)
      · have cb : decide ((i : Int) < (l.length : Int)) = true := decide_eq_true hi
        have cn : i < l.length := by omega
        obtain ⟨ad, rfl⟩ := keys_some HKE.out (by omega)
        obtain ⟨A1, c1, hcell, hkc, hkC, hok, hmem⟩ := key_at HKE.out hb0.out HSM.out.2 i cn
        have htm := Aside0.mk (take_mem l i cn)
        have HI := Aside0.mk (And.intro hi cn)
        have hwr : wrap64 ((i : Int) + 1) = ((i + 1 : Nat) : Int) := by have := HSM.out.1; unfold wrap64; omega
        generalize rd_L2 l (i : Int) = key at *
        have HKC := Aside0.mk hkC
        have HKc := Aside0.mk hkc
        clear hkC hkc hmem cn hok
        go_wp2_with (go_at_call 46; with_reducible refine (Add_c hF0.out A1 c1 key (Kd.C_below HKC.out hb0.out) HKc.out HN.out.1 HN.out.2 HL0.out.1 HL0.out.2).mono ?_; rintro e w6 ⟨rfl, hF, hk⟩; have hF6 := Aside0.mk hF; have hb6 := Aside0.mk (hk.below hb0.out (Nat.le_refl _)); clear hF hk)
        go_roundg (gk - 1)
        case measure => exact meas HKq.out HI.out.2
        case rel =>
          refine ⟨i + 1, addS K bs key, (by first | rfl | (simp; done) | rw [hwr]), ⟨meas2 HKq.out HI.out.2⟩, hF6, hb6, ⟨addS_B K bs key HBS.out.1 HL0.out.1 HL0.out.2, by rw [addS_len]; exact HBS.out.2⟩, ⟨fun x hx => ?_⟩⟩
          rcases htm.out x hx with hx | rfl
          · exact may_mono K bs key x HBS.out.1 HL0.out.1 HL0.out.2 (HMA.out x hx)
          · exact may_self K bs x HBS.out.1 HL0.out.1 HL0.out.2
      · have cb : decide ((i : Int) < (l.length : Int)) = false := decide_eq_false hi
        have hiK : l.length ≤ i := by omega
        have hma := HMA.out
        rw [List.take_of_length_le hiK] at hma
        have HMAY := Aside0.mk hma
        clear hi hma HMA
        have hbb : ∃ bb, bb = bytesS K bs := ⟨_, rfl⟩
        obtain ⟨z, hz⟩ : ∃ z : Int, 8 * (bs.length : Int) = z := ⟨_, rfl⟩
        replace hz := Aside0.mk hz
        go_upto_region 10 with (first | (go_at_call 45; with_reducible refine (Bytes_c hF0.out HN.out.1 HN.out.2 HL0.out.1 HL0.out.2).mono ?_; rintro e w4 ⟨v4, rfl, hR4, hb⟩; obtain ⟨A4, c4, rfl⟩ := Kd.R_slice hR4; have hF4 := Aside0.mk (hF0.out.below hb); have hb4 := Aside0.mk (hb0.out.trans (hb.mono hb0.out.size)); replace hR4 := Aside0.mk hR4; clear hb) | (go_at_call 38; with_reducible refine (Read_back HBS.out.1 (by have := HN.out; omega) (by have := HN.out; omega) (by have := HL0.out; omega) (by have := HNN.out; have := HBS.out.2; omega) (Kd.R_reads' hR4.out).2.2 (Kd.R_reads' hR4.out).2.1).mono ?_; rintro e w5 ⟨g, rfl, hG, hb⟩; have hG5 := Aside0.mk hG; have hF5 := Aside0.mk (hF4.out.below hb); have hb5 := Aside0.mk (hb4.out.trans (hb.mono hb4.out.size)); clear hG hb))
        go_wp2_with (first | (go_at_call 55; with_reducible refine (Size_n hG5.out HN.out.1 bs.length rfl HL0.out.2).mono ?_; rintro e w' ⟨rfl, rfl⟩; rw [hz.out]) | (go_at_call 55; with_reducible refine (Size_n hF5.out HN.out.1 bs.length rfl HL0.out.2).mono ?_; rintro e w' ⟨rfl, rfl⟩; rw [hz.out]))
        go_loopg [67] l.length (fun kq v67 w' => ∃ (i : Nat), v67 = .int .i64 (i : Int) ∧ Aside0 (kq + i = l.length) ∧ Aside0 (∃ lo, Fil 83 w' w.heap.size f K bs ∧ Fil 83 w' lo g K bs) ∧ Aside0 (Below w.heap.size w w'))
        case atStart => exact ⟨0, rfl, ⟨by omega⟩, ⟨_, hF5.out, hG5.out⟩, hb5⟩
        case round =>
          clear hG5 hF5 hb5 hF4 hb4 hR4 hF0 hb0 HKq
          obtain ⟨i, rfl, HKq, hFG, hb0⟩ := hrel
          obtain ⟨lo, hFx, hGx⟩ := hFG.out
          have hF0 := Aside0.mk hFx
          have hG0 := Aside0.mk hGx
          clear hFG hFx hGx
          by_cases hi : (i : Int) < (l.length : Int)
          · have cb : decide ((i : Int) < (l.length : Int)) = true := decide_eq_true hi
            have cn : i < l.length := by omega
            obtain ⟨ad, rfl⟩ := keys_some HKE.out (by omega)
            obtain ⟨A1, c1, hcell, hkc, hkC, hok, hmem⟩ := key_at HKE.out hb0.out HSM.out.2 i cn
            have HI := Aside0.mk (And.intro hi cn)
            have hwr : wrap64 ((i : Int) + 1) = ((i + 1 : Nat) : Int) := by have := HSM.out.1; unfold wrap64; omega
            have hmy := HMAY.out _ hmem
            generalize rd_L2 l (i : Int) = key at *
            have HKC := Aside0.mk hkC
            have HKc := Aside0.mk hkc
            have hpin := plS_in K bs.length key HL0.out.1 HL0.out.2
            have hpl := plS_len K bs.length key
            generalize hP : plS K bs.length key = P at *
            have HP := Aside0.mk hP
            have HPI := Aside0.mk hpin
            have HPL := Aside0.mk (show P.length ≤ 1000 by have := HN.out; omega)
            have HMY := Aside0.mk hmy
            clear hkC hkc hmem cn hok hpin hpl hP hmy
            go_wp2_with (first | (go_at_call 40; with_reducible refine (May_c hF0.out A1 c1 key (Kd.C_below HKC.out hb0.out) HKc.out HN.out.1 HN.out.2 HL0.out.1 HL0.out.2).mono ?_; rintro e w6 ⟨rfl, hb⟩; rw [HMY.out]; have hF6 := Aside0.mk (hF0.out.below hb); have hG6 := Aside0.mk (hG0.out.below hb); have hb6 := Aside0.mk (hb0.out.trans (hb.mono hb0.out.size)); clear hb) | (go_at_call 40; with_reducible refine (May_c hG6.out A1 c1 key (Kd.C_below HKC.out hb6.out) HKc.out HN.out.1 HN.out.2 HL0.out.1 HL0.out.2).mono ?_; rintro e w7 ⟨rfl, hb⟩; rw [HMY.out]; have hF7 := Aside0.mk (hF6.out.below hb); have hG7 := Aside0.mk (hG6.out.below hb); have hb7 := Aside0.mk (hb6.out.trans (hb.mono hb6.out.size)); clear hb) | (go_at_call 43; with_reducible refine (Places_c hF7.out A1 c1 key (Kd.C_below HKC.out hb7.out) HKc.out HN.out.1 HN.out.2 HL0.out.1 HL0.out.2).mono ?_; rintro e w8 ⟨v8, rfl, hR8, hb⟩; rw [HP.out] at hR8; obtain ⟨A8, c8, rfl⟩ := Kd.R_slice hR8; have hF8 := Aside0.mk (hF7.out.below hb); have hG8 := Aside0.mk (hG7.out.below hb); have hb8 := Aside0.mk (hb7.out.trans (hb.mono hb7.out.size)); replace hR8 := Aside0.mk hR8; clear hb))
            obtain ⟨gko, hgko⟩ : ∃ x, x = gk := ⟨_, rfl⟩
            replace hgko := Aside0.mk hgko
            go_loopg [85] P.length (fun kq v85 w' => ∃ (j : Nat), v85 = .int .i64 (j : Int) ∧ Aside0 (kq + j = P.length) ∧ w' = w8)
            case atStart => exact ⟨0, rfl, ⟨by omega⟩, rfl⟩
            case round =>
              obtain ⟨j, rfl, HJ, rfl⟩ := hrel
              by_cases hj : (j : Int) < (P.length : Int)
              · have cbj : decide ((j : Int) < (P.length : Int)) = true := decide_eq_true hj
                have cnj : j < P.length := by omega
                obtain ⟨adp, rfl, hx⟩ := Kd.at_int (Kd.R_reads' hR8.out).2.2 (j : Int) (by omega) hj
                rw [Int.toNat_natCast] at hx
                have hpi := HPI.out _ (rd_mem P j cnj)
                have hwj : wrap64 ((j : Int) + 1) = ((j + 1 : Nat) : Int) := by have := HPL.out; unfold wrap64; omega
                generalize rd P (j : Int) = x at *
                have q1 : decide (x < 0) = false := decide_eq_false (by omega)
                have q2 : decide (z ≤ x) = false := decide_eq_false (by have := hz.out; omega)
                have HJI := Aside0.mk (And.intro hj cnj)
                clear hpi cnj
                go_wp2_with (go_at_call 55; with_reducible refine (Size_n hF8.out HN.out.1 bs.length rfl HL0.out.2).mono ?_; rintro e w' ⟨rfl, rfl⟩; rw [hz.out])
                go_roundg (gk - 1)
                case measure => exact meas HJ.out HJI.out.2
                case rel => exact ⟨j + 1, (by first | rfl | (simp; done) | rw [hwj]), ⟨meas2 HJ.out HJI.out.2⟩, rfl⟩
              · have cbj : decide ((j : Int) < (P.length : Int)) = false := decide_eq_false hj
                have hjK : P.length ≤ j := by omega
                clear hj
                go_wp2_with (fail)
                go_roundg (gko - 1)
                case measure => rw [hgko.out]; exact meas HKq.out HI.out.2
                case rel => exact ⟨i + 1, (by first | rfl | (simp; done) | rw [hwr]), ⟨by rw [hgko.out]; exact meas2 HKq.out HI.out.2⟩, ⟨lo, hF8.out, hG8.out⟩, hb8⟩
          · have cb : decide ((i : Int) < (l.length : Int)) = false := decide_eq_false hi
            have hiK : l.length ≤ i := by omega
            clear hi
            go_wp2_with (go_at_call 37; with_reducible refine (lives_c _).mono ?_; rintro e w9 ⟨rfl, hb⟩; have hb9 := Aside0.mk (hb0.out.trans (hb.mono hb0.out.size)); clear hb)
            go_ret
            exact ⟨rfl, hb9.out⟩
theorem bloomNever_walk (n bits : Int) (A : Option Addr) (c : Nat) (l : List (List Int)) (w : World) (hn : (Lit.int .u64 n).wf = true) (hb : (Lit.int .u64 bits).wf = true) (HK : Keys w A c l) :
    Calls Try.prog 9 #[.int .u64 n, .int .u64 bits, .slice A l.length c] w fun e w' => e = .returned (.bool true) ∧ Below w.heap.size w w' := by
  obtain ⟨h1, h2⟩ := Ma.u64_of hn
  obtain ⟨h3, h4⟩ := Ma.u64_of hb
  exact never_c w n bits h1 h2 h3 h4 A c l HK
end Go.Proofs.Ytcopbkdlpfcjpaa.L
