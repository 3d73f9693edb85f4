/- CodecTells answers true for any bytes, any cut and any bit: a beginning of a frame is too short, a frame's content comes back whatever stands behind it, and a frame one bit of which behind its count was turned is none. No condition beyond the reach that every row has. -/
import Derived.Test.YtcopbkdlpfcjpaaCx6
import Derived.Test.YtcopbkdlpfcjpaaMc
import Derived.Test.YtcopbkdlpfcjpaaMd
namespace Go.Proofs.Ytcopbkdlpfcjpaa.Pure
open Go.RowKit Go.Proofs.Ytcopbkdlpfcjpaa.C Go.Proofs.YtcopbkdlpfcjpaaW.PrintWords Go.Proofs.YtcopbkdlpfcjpaaW.PrintMore Go.Proofs.Ytcopbkdlpfcjpaa.B Go.Proofs.Ytcopbkdlpfcjpaa.H Go.Proofs.Ytcopbkdlpfcjpaa.Ma

/-! ### the sum's steps lead back -/
theorem st_bit (c : Nat) (h : c < 4294967296) : (st c).testBit 31 = decide (c % 2 = 1) := by
  unfold st
  rw [Nat.testBit_xor]
  have h1 : (c / 2).testBit 31 = false := Nat.testBit_lt_two_pow (by omega)
  rw [h1]
  by_cases hc : c % 2 = 1
  · rw [if_pos hc, decide_eq_true hc]
    decide
  · rw [if_neg hc, decide_eq_false hc]
    decide
theorem xor_cancel (a b c : Nat) (h : a ^^^ c = b ^^^ c) : a = b := by
  have h1 : (a ^^^ c) ^^^ c = (b ^^^ c) ^^^ c := by rw [h]
  rwa [Nat.xor_assoc, Nat.xor_assoc, Nat.xor_self, Nat.xor_zero, Nat.xor_zero] at h1
theorem st_inj (a b : Nat) (ha : a < 4294967296) (hb : b < 4294967296) (h : st a = st b) : a = b := by
  have hbit := st_bit a ha
  rw [h, st_bit b hb] at hbit
  have hpar : a % 2 = 1 ↔ b % 2 = 1 := by
    constructor
    · intro h1
      rw [decide_eq_true h1] at hbit
      exact of_decide_eq_true hbit
    · intro h1
      rw [decide_eq_true h1] at hbit
      exact of_decide_eq_true hbit.symm
  unfold st at h
  by_cases hc : a % 2 = 1
  · rw [if_pos hc, if_pos (hpar.1 hc)] at h
    have h2 := xor_cancel _ _ _ h
    have := hpar.1 hc
    omega
  · rw [if_neg hc, if_neg (fun hh => hc (hpar.2 hh)), Nat.xor_zero, Nat.xor_zero] at h
    have : ¬ b % 2 = 1 := fun hh => hc (hpar.2 hh)
    omega
theorem stN_inj (n : Nat) : ∀ a b : Nat, a < 4294967296 → b < 4294967296 → stN n a = stN n b → a = b := by
  induction n with
  | zero => exact fun a b _ _ h => h
  | succ n ih => exact fun a b ha hb h => st_inj a b ha hb (ih _ _ (st_lt ha) (st_lt hb) h)
theorem crcL_inj (L : List Nat) : ∀ a b : Nat, a < 4294967296 → b < 4294967296 → (∀ x ∈ L, x < 256) → crcL a L = crcL b L → a = b := by
  induction L with
  | nil => exact fun a b _ _ _ h => h
  | cons x r ih =>
    intro a b ha hb hL h
    have hx := hL x List.mem_cons_self
    have h1 := ih (byt a x) (byt b x) (byt_lt ha hx) (byt_lt hb hx) (fun y hy => hL y (List.mem_cons_of_mem _ hy)) h
    have h2 := stN_inj 8 _ _ (Nat.xor_lt_two_pow (n := 32) (by omega) (by omega)) (Nat.xor_lt_two_pow (n := 32) (by omega) (by omega)) h1
    exact xor_cancel _ _ _ h2
/-- Another byte makes another sum. -/
theorem sum_other (A B : List Nat) (x y : Nat) (hA : ∀ z ∈ A, z < 256) (hB : ∀ z ∈ B, z < 256) (hx : x < 256) (hy : y < 256) (hne : x ≠ y) : sumL (A ++ x :: B) ≠ sumL (A ++ y :: B) := by
  unfold sumL
  rw [crcL_append, crcL_append]
  have hc := crcL_lt A (c := 4294967295) (by omega) hA
  generalize crcL 4294967295 A = c at hc
  have h1 := crcL_lt (x :: B) hc (fun z hz => by rcases List.mem_cons.1 hz with rfl | hz; exact hx; exact hB z hz)
  have h2 := crcL_lt (y :: B) hc (fun z hz => by rcases List.mem_cons.1 hz with rfl | hz; exact hy; exact hB z hz)
  intro h
  have h3 : crcL c (x :: B) = crcL c (y :: B) := by omega
  have h4 := crcL_inj B (byt c x) (byt c y) (byt_lt hc hx) (byt_lt hc hy) hB h3
  have h5 := stN_inj 8 _ _ (Nat.xor_lt_two_pow (n := 32) (by omega) (by omega)) (Nat.xor_lt_two_pow (n := 32) (by omega) (by omega)) h4
  rw [Nat.xor_comm c, Nat.xor_comm c] at h5
  exact hne (xor_cancel _ _ _ h5)
theorem four_other (L : List Nat) (hL : ∀ x ∈ L, x < 256) (j y : Nat) (hj : j < 4) (hl : 4 ≤ L.length) (_hy : y < 256) (hne : L.getD j 0 ≠ y) : fourN (L.set j y) ≠ fourN L := by
  have b0 := byte_at _ hL 0
  have b1 := byte_at _ hL 1
  have b2 := byte_at _ hL 2
  have b3 := byte_at _ hL 3
  have hs : ∀ i, i < 4 → (L.set j y).getD i 0 = if j = i then y else L.getD i 0 := by
    intro i hi
    rw [List.getD_eq_getElem?_getD, List.getD_eq_getElem?_getD, List.getElem?_set]
    by_cases e : j = i
    · subst e
      rw [if_pos rfl, if_pos (by omega), if_pos rfl]
      rfl
    · rw [if_neg e, if_neg e]
  unfold fourN
  rw [hs 0 (by omega), hs 1 (by omega), hs 2 (by omega), hs 3 (by omega)]
  obtain rfl | rfl | rfl | rfl : j = 0 ∨ j = 1 ∨ j = 2 ∨ j = 3 := by omega
  all_goals
    generalize L.getD 0 0 = a at *
    generalize L.getD 1 0 = b at *
    generalize L.getD 2 0 = c at *
    generalize L.getD 3 0 = d at *
    simp
    omega
/-! ### frames -/
theorem frameL_len (L : List Nat) : (frameL L).length = L.length + 8 := by
  unfold frameL
  rw [List.length_append, List.length_append, fourL_len, fourL_len]
  omega
theorem frameL_byte (L : List Nat) (hL : ∀ x ∈ L, x < 256) : ∀ x ∈ frameL L, x < 256 := by
  unfold frameL
  intro x hx
  rcases List.mem_append.1 hx with h | h
  · rcases List.mem_append.1 h with h | h
    · exact fourL_byte _ x h
    · exact fourL_byte _ x h
  · exact hL x h
theorem fourN_pre (L : List Nat) (c : Nat) (hc : 4 ≤ c) (_hL : 4 ≤ L.length) : fourN (L.take c) = fourN L := by
  unfold fourN
  simp only [List.getD_eq_getElem?_getD]
  rw [List.getElem?_take_of_lt (by omega), List.getElem?_take_of_lt (by omega), List.getElem?_take_of_lt (by omega), List.getElem?_take_of_lt (by omega)]
theorem fourN_frame (L R : List Nat) (h : L.length ≤ 262144) : fourN (frameL L ++ R) = L.length := by
  unfold frameL
  rw [List.append_assoc, List.append_assoc, fourN_fourL _ (by omega)]
theorem unf_cut (L : List Nat) (h : L.length ≤ 262144) (c : Nat) (hc : c < L.length + 8) : (unf ((frameL L).take c)).2.2 = 10 := by
  unfold unf
  have hl : ((frameL L).take c).length = c := by rw [List.length_take, frameL_len]; omega
  rw [hl]
  by_cases h8 : c < 8
  · rw [if_pos h8]
  · have hf : fourN ((frameL L).take c) = L.length := by
      rw [fourN_pre _ _ (by omega) (by rw [frameL_len]; omega)]
      have := fourN_frame L [] h
      rwa [List.append_nil] at this
    rw [if_neg h8, hf, if_neg (by omega), if_pos (by omega)]
theorem unf_whole (L : List Nat) (h : L.length ≤ 262144) (R : List Nat) : unf (frameL L ++ R) = (L, L.length + 8, 0) := by
  unfold unf
  have hf := fourN_frame L R h
  have e1 : (frameL L ++ R).take 4 = fourL L.length := by
    unfold frameL
    rw [List.append_assoc, List.append_assoc, List.take_left' (fourL_len _)]
  have e2 : (frameL L ++ R).take (8 + L.length) = frameL L := List.take_left' (by rw [frameL_len]; omega)
  have e3 : (frameL L).drop 8 = L := by
    unfold frameL
    exact List.drop_left' (by rw [List.length_append, fourL_len, fourL_len])
  have e4 : fourN ((frameL L ++ R).drop 4) = sumL (fourL L.length ++ L) := by
    unfold frameL
    rw [List.append_assoc, List.append_assoc, List.drop_left' (fourL_len _), fourN_fourL _ (sumL_lt _)]
  rw [hf, if_neg (by rw [List.length_append, frameL_len]; omega), if_neg (by omega), if_neg (by rw [List.length_append, frameL_len]; omega), e1, e2, e3, e4, if_pos rfl]
theorem unf_turned (L : List Nat) (hL : ∀ x ∈ L, x < 256) (h : L.length ≤ 262144) (i y : Nat) (hi : 4 ≤ i) (hi2 : i < L.length + 8) (hy : y < 256) (hne : (frameL L).getD i 0 ≠ y) : (unf ((frameL L).set i y)).2.2 = 8 := by
  have hfl := frameL_len L
  have hfour : fourN ((frameL L).set i y) = L.length := by
    have e : fourN ((frameL L).set i y) = fourN (frameL L) := by
      unfold fourN
      simp only [List.getD_eq_getElem?_getD]
      rw [List.getElem?_set_ne (by omega), List.getElem?_set_ne (by omega), List.getElem?_set_ne (by omega), List.getElem?_set_ne (by omega)]
    rw [e]
    have := fourN_frame L [] h
    rwa [List.append_nil] at this
  have hlen : ((frameL L).set i y).length = L.length + 8 := by rw [List.length_set, hfl]
  have e1 : ((frameL L).set i y).take 4 = fourL L.length := by
    rw [List.take_set_of_le hi]
    unfold frameL
    rw [List.append_assoc, List.take_left' (fourL_len _)]
  have e2 : ((frameL L).set i y).take (8 + L.length) = (frameL L).set i y := List.take_of_length_le (by omega)
  unfold unf
  rw [hlen, if_neg (by omega), hfour, if_neg (by omega), if_neg (by omega), e1, e2]
  rw [if_neg]
  by_cases h8 : i < 8
  · -- the sum was turned
    have d8 : ((frameL L).set i y).drop 8 = L := by
      rw [List.drop_set_of_lt h8]
      unfold frameL
      exact List.drop_left' (by rw [List.length_append, fourL_len, fourL_len])
    have d4 : ((frameL L).set i y).drop 4 = ((frameL L).drop 4).set (i - 4) y := by rw [List.drop_set, if_neg (by omega)]
    have df : (frameL L).drop 4 = fourL (sumL (fourL L.length ++ L)) ++ L := by
      unfold frameL
      rw [List.append_assoc, List.drop_left' (fourL_len _)]
    have dn : fourN ((frameL L).drop 4) = sumL (fourL L.length ++ L) := by rw [df, fourN_fourL _ (sumL_lt _)]
    rw [d8, d4, ← dn]
    refine fun hh => four_other ((frameL L).drop 4) (fun x hx => frameL_byte L hL x (List.mem_of_mem_drop hx)) (i - 4) y (by omega) (by rw [List.length_drop]; omega) hy ?_ hh.symm
    rw [List.getD_eq_getElem?_getD, List.getElem?_drop, show 4 + (i - 4) = i from by omega, ← List.getD_eq_getElem?_getD]
    exact hne
  · -- the content was turned
    have d4 : fourN (((frameL L).set i y).drop 4) = sumL (fourL L.length ++ L) := by
      have e : fourN (((frameL L).set i y).drop 4) = fourN ((frameL L).drop 4) := by
        unfold fourN
        simp only [List.getD_eq_getElem?_getD, List.getElem?_drop]
        rw [List.getElem?_set_ne (by omega), List.getElem?_set_ne (by omega), List.getElem?_set_ne (by omega), List.getElem?_set_ne (by omega)]
      rw [e]
      unfold frameL
      rw [List.append_assoc, List.drop_left' (fourL_len _), fourN_fourL _ (sumL_lt _)]
    have d8 : ((frameL L).set i y).drop 8 = L.set (i - 8) y := by
      have e8 : (frameL L).drop 8 = L := by
        unfold frameL
        exact List.drop_left' (by rw [List.length_append, fourL_len, fourL_len])
      rw [List.drop_set, if_neg (by omega), e8]
    have hj : i - 8 < L.length := by omega
    have hx : (frameL L).getD i 0 = L[i - 8] := by
      unfold frameL
      rw [List.getD_eq_getElem?_getD, List.getElem?_append_right (by rw [List.length_append, fourL_len, fourL_len]; omega), List.length_append, fourL_len, fourL_len, List.getElem?_eq_getElem hj]
      rfl
    rw [d4, d8]
    have s1 : L = L.take (i - 8) ++ L[i - 8] :: L.drop (i - 8 + 1) := by rw [← List.drop_eq_getElem_cons hj, List.take_append_drop]
    have s2 : L.set (i - 8) y = L.take (i - 8) ++ y :: L.drop (i - 8 + 1) := List.set_eq_take_append_cons_drop.trans (if_pos hj)
    rw [s2]
    intro hh
    have hh2 : sumL (fourL L.length ++ L) = sumL ((fourL L.length ++ L.take (i - 8)) ++ L[i - 8] :: L.drop (i - 8 + 1)) := by rw [List.append_assoc, ← s1]
    rw [hh2, ← List.append_assoc] at hh
    refine sum_other (fourL L.length ++ L.take (i - 8)) (L.drop (i - 8 + 1)) y L[i - 8] (fun z hz => ?_) (fun z hz => hL z (List.mem_of_mem_drop hz)) hy (hL _ (List.getElem_mem hj)) (fun e => hne (hx.trans e.symm)) hh
    rcases List.mem_append.1 hz with hz | hz
    · exact fourL_byte _ z hz
    · exact hL z (List.mem_of_mem_take hz)
theorem shl1_u8 : ∀ m : Nat, m < 8 → shl .u8 1 (m : Int) = ((2 ^ m : Nat) : Int) ∧ 2 ^ m < 256 ∧ 0 < 2 ^ m := by
  intro m hm
  obtain rfl | rfl | rfl | rfl | rfl | rfl | rfl | rfl : m = 0 ∨ m = 1 ∨ m = 2 ∨ m = 3 ∨ m = 4 ∨ m = 5 ∨ m = 6 ∨ m = 7 := by omega
  all_goals exact ⟨by decide +kernel, by decide, by decide⟩
theorem tmod_nat (a b : Nat) : Int.tmod (a : Int) (b : Int) = ((a % b : Nat) : Int) := by
  rw [Int.tmod_eq_emod_of_nonneg (by omega)]
  rfl
theorem turn_ev (L : List Nat) (hL : ∀ x ∈ L, x < 256) (h : L.length ≤ 262144) (u : Nat) (_hu : u < 18446744073709551616) :
    Ev (fun k => skerrylaw01_CodecTells.j0 k (up L) (u : Int) (up (frameL L)) false) true := by
  have hl : (up L).length = L.length := up_length L
  have hfl : (up (frameL L)).length = L.length + 8 := by rw [up_length, frameL_len]
  obtain ⟨M, hM⟩ : ∃ M, M = 8 * (L.length + 4) := ⟨_, rfl⟩
  have hw : IntKind.u64.wrap (wrap64 (8 * (wrap64 ((L.length : Int) + 4)))) = (M : Int) := by
    rw [wrap_in (n := (L.length : Int) + 4) (by omega), wrap_in (by omega), IntKind.wrap_u64]
    omega
  have hq : u % M < M := Nat.mod_lt _ (by omega)
  obtain ⟨q, hqq⟩ : ∃ q, q = u % M := ⟨_, rfl⟩
  rw [← hqq] at hq
  have ht1 : Int.tmod (u : Int) (M : Int) = (q : Int) := by rw [tmod_nat, hqq]
  have ht2 : Int.tmod (q : Int) 8 = ((q % 8 : Nat) : Int) := tmod_nat q 8
  have ht3 : Int.tdiv (q : Int) 8 = ((q / 8 : Nat) : Int) := by rw [Int.tdiv_eq_ediv_of_nonneg (by omega)]; rfl
  have hi : IntKind.u64.wrap (4 + IntKind.u64.wrap ((q / 8 : Nat) : Int)) = ((4 + q / 8 : Nat) : Int) := by
    rw [IntKind.wrap_u64, IntKind.wrap_u64]
    omega
  obtain ⟨s1, s2, s3⟩ := shl1_u8 (q % 8) (by omega)
  have hb := byte_at (frameL L) (frameL_byte L hL) (4 + q / 8)
  have hy : (frameL L).getD (4 + q / 8) 0 ^^^ 2 ^ (q % 8) < 256 := Nat.xor_lt_two_pow (n := 8) hb s2
  have hne : (frameL L).getD (4 + q / 8) 0 ≠ (frameL L).getD (4 + q / 8) 0 ^^^ 2 ^ (q % 8) := by
    intro e
    have e2 : 0 ^^^ (frameL L).getD (4 + q / 8) 0 = 2 ^ (q % 8) ^^^ (frameL L).getD (4 + q / 8) 0 := by rw [Nat.zero_xor, Nat.xor_comm (2 ^ (q % 8))]; exact e
    have := xor_cancel _ _ _ e2
    omega
  have hset : (up (frameL L)).set (4 + q / 8) (((frameL L).getD (4 + q / 8) 0 ^^^ 2 ^ (q % 8) : Nat) : Int) = up ((frameL L).set (4 + q / 8) ((frameL L).getD (4 + q / 8) 0 ^^^ 2 ^ (q % 8))) := by
    unfold up
    rw [List.map_set]
    rfl
  have h8 := unf_turned L hL h (4 + q / 8) _ (by omega) (by omega) hy hne
  refine Ev.step (f := fun k => (codec_Unframe.f k (up ((frameL L).set (4 + q / 8) ((frameL L).getD (4 + q / 8) 0 ^^^ 2 ^ (q % 8))))).bind fun bt => if bt.2.2 = 8 then (skerrylaw01_lives.f.bind fun t => some t) else some false) (fun k => ?_) ?_
  · rw [skerrylaw01_CodecTells.j0, if_neg (by simp), hl, hw, ht1, ht2, ht3, hi, s1, rd_up, u8_xor_nat _ _ hb s2, if_neg (by omega), if_pos (by omega), if_pos (by rw [hfl]; omega), if_pos (by omega), Int.toNat_natCast, hset]
  · refine Ev.bind (Unframe_ev _ (fun x hx => ?_) (by rw [List.length_set, frameL_len]; omega)) ?_
    · rcases List.mem_or_eq_of_mem_set hx with hx | rfl
      · exact frameL_byte L hL x hx
      · exact hy
    · refine Ev.congr (fun k => ?_) (Ev.now _)
      have e : (pr3 (unf ((frameL L).set (4 + q / 8) ((frameL L).getD (4 + q / 8) 0 ^^^ 2 ^ (q % 8))))).2.2 = 8 := by
        unfold pr3
        rw [h8]
        rfl
      rw [if_pos e]
      rfl
theorem CodecTells : skerrylaw01_CodecTells.Pure := by
  intro l cut bit _ hl2 hb hcut hbit
  have bc := u64_of hcut
  have bb := u64_of hbit
  obtain ⟨L, hL, rfl⟩ := up_of l hb
  obtain ⟨c, rfl⟩ := Int.eq_ofNat_of_zero_le bc.1
  obtain ⟨u, rfl⟩ := Int.eq_ofNat_of_zero_le bb.1
  have hl : (up L).length = L.length := up_length L
  by_cases h : L.length ≤ 262144
  · have hfl : (up (frameL L)).length = L.length + 8 := by rw [up_length, frameL_len]
    have ht : Int.tmod (c : Int) (IntKind.u64.wrap (((L.length + 8 : Nat) : Int))) = ((c % (L.length + 8) : Nat) : Int) := by
      have e : IntKind.u64.wrap (((L.length + 8 : Nat) : Int)) = ((L.length + 8 : Nat) : Int) := by rw [IntKind.wrap_u64]; omega
      rw [e, tmod_nat]
    have hwn : ¬ IntKind.u64.wrap (((L.length + 8 : Nat) : Int)) = 0 := by rw [IntKind.wrap_u64]; omega
    have hm : c % (L.length + 8) < L.length + 8 := Nat.mod_lt _ (by omega)
    have hF := frameL_byte L hL
    have g1 : Ev (fun k => codec_Unframe.f k (up ((frameL L).take (c % (L.length + 8))))) (pr3 (unf ((frameL L).take (c % (L.length + 8))))) :=
      Unframe_ev _ (fun x hx => hF x (List.mem_of_mem_take hx)) (by rw [List.length_take, frameL_len]; omega)
    have u10 := unf_cut L h (c % (L.length + 8)) hm
    have g2 : Ev (fun k => codec_Unframe.f k (up (frameL L ++ [1, 2]))) (pr3 (L, L.length + 8, 0)) := by
      rw [← unf_whole L h [1, 2]]
      refine Unframe_ev _ (fun x hx => ?_) (by rw [List.length_append, frameL_len]; simp; omega)
      rcases List.mem_append.1 hx with hx | hx
      · exact hF x hx
      · simp at hx; omega
    refine Ev.rounds ?_
    unfold skerrylaw01_CodecTells.f
    refine Ev.bind (Frame_ev L hL h) ?_
    have hw8 : wrap64 ((L.length : Int) + 8) = ((L.length + 8 : Nat) : Int) := by rw [wrap_in (by omega)]; omega
    refine Ev.congr (f := fun k => (codec_Unframe.f k (up ((frameL L).take (c % (L.length + 8))))).bind fun p => (codec_Unframe.f k (up (frameL L ++ [1, 2]))).bind fun q => if p.2.2 = 10 then (if q.2.2 = 0 then (if q.2.1 = ((L.length + 8 : Nat) : Int) then (skerryref01_Same.f q.1 (up L)).bind fun t => skerrylaw01_CodecTells.j0 k (up L) (u : Int) (up (frameL L)) (!t) else skerrylaw01_CodecTells.j0 k (up L) (u : Int) (up (frameL L)) true) else skerrylaw01_CodecTells.j0 k (up L) (u : Int) (up (frameL L)) true) else skerrylaw01_CodecTells.j0 k (up L) (u : Int) (up (frameL L)) true) (fun k => ?_) (Ev.bind g1 (Ev.bind g2 ?_))
    · rw [hl, if_neg (by omega), hfl, hw8, if_pos rfl, if_neg hwn, ht, if_pos (by omega), if_pos (by omega), Int.toNat_natCast, up_take]
      congr 1
      funext p
      have e12 : up (frameL L) ++ [1, 2] = up (frameL L ++ [1, 2]) := by rw [up_append]; rfl
      simp only [Option.bind_some, List.nil_append, List.length_nil, Nat.zero_add, hfl]
      rw [if_pos (by omega), if_pos (by simp; omega), e12]
    · have e1 : (pr3 (unf ((frameL L).take (c % (L.length + 8))))).2.2 = 10 := by
        unfold pr3
        rw [u10]
        rfl
      refine Ev.congr (fun k => ?_) (turn_ev L hL h u (by omega))
      rw [if_pos e1, if_pos (show (pr3 (L, L.length + 8, 0)).2.2 = 0 from rfl), if_pos (show (pr3 (L, L.length + 8, 0)).2.1 = ((L.length + 8 : Nat) : Int) from rfl)]
      show (skerryref01_Same.f (up L) (up L)).bind _ = _
      rw [Same_self]
      rfl
  · refine ⟨0, ?_⟩
    unfold skerrylaw01_CodecTells.f codec_Frame.f
    rw [if_pos (by omega), Option.bind_some, if_pos (by omega), if_pos (show (([] : List Int).length : Int) = 0 from rfl)]
    rfl

end Go.Proofs.Ytcopbkdlpfcjpaa.Pure
