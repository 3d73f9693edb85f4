/- The bloom layer by hand: Read of both. -/
import Derived.Test.YtcopbkdlpfcjpaaBl
namespace Go.Proofs.Ytcopbkdlpfcjpaa.L
open Go.RowKit Go.Proofs.YtcopbkdlpfcjpaaW.PrintWords Go.Proofs.YtcopbkdlpfcjpaaW.PrintLast Go.Proofs.YtcopbkdlpfcjpaaW.PrintMore Go.Proofs.Ytcopbkdlpfcjpaa.B Go.Proofs.Ytcopbkdlpfcjpaa.M
attribute [local go_sem] max2_int min2_int max_two min_two max_three min_three max_four min_four
set_option linter.unusedVariables false
set_option linter.unusedSimpArgs false
theorem eq_nil (ad : Addr) (n c : Nat) (w : World) : (binOp .eql 27 (.slice (some ad) n c) (.slice none 0 0)).run Try.prog w = .ok (.bool false) w := by kernel_rfl
set_option maxHeartbeats 8000000 in
set_option maxRecDepth 100000 in
theorem Clone_c (w : World) (A : Option Addr) (c : Nat) (l : List Int) (hC : Kd.C (Kd.int .u8) w A l.length l) (hc : l.length ≤ c) (hl : 0 < l.length) (hl2 : l.length ≤ 1000000000) :
    Calls Try.prog 75 #[.slice A l.length c] w fun e w' => ∃ v, e = .returned v ∧ (Kd.int .u8).R 5 w' w.heap.size (fun _ => True) v l ∧ Below w.heap.size w w' := by
  obtain ⟨ad, rfl, _⟩ := hC.2.2 hl
  have he := eq_nil ad l.length c
  have HC := Aside0.mk hC
  have HL := Aside0.mk hl2
  clear hC hc hl hl2
  go_enter Try.func75, Try.ntmps75
  go_wp2_with (first | ((with_reducible refine gate_dst (N := 5) rfl ?_); refine Kd.R_lit (Kd.int .u8) _ 5 ?hg (N := 5) ?hd (xs := ([] : List Int)) (inner := []) (ok := fun _ => True) (okp := fun _ => True) ?hr ?hp (fun _ hk => hk) trivial (Below.refl _ _) (Nat.le_refl _) (by simp) ?_; (case hd => rfl); (case hg => rfl); (case hr => first | (go_simp; done) | (go_simp; rfl)); (case hp => exact (Reps.none _ _)); intro v w1 hR1 hb1 hg_ hnew_; clear hg_ hnew_; replace hR1 := Aside0.mk hR1; replace hb1 := Aside0.mk hb1) | ((with_reducible refine gate_builtin (b := .append) (xs := #[.tmp 5, .tmp 6]) rfl ?_); at_builtin; refine Kd.R_append_rows (Kd.int .u8) (w0 := w) w.heap.size rfl (.tmp 5) (.tmp 6) 27 5 (.int .u8 0) 1 rfl Try.underlying27 info5 rfl (by decide) (by omega) v [] l _ _ _ (fun _ => True) (fun _ => False) rfl rfl hR1.out (Kd.C_below HC.out hb1.out) (fun _ _ h => h) (fun _ h => h.elim) (fun _ _ => trivial) hb1.out hb1.out.size (by have := HL.out; simp; omega) ?_; intro v2 w2 hR2 hb2 hg hat; replace hR2 := Aside0.mk hR2; replace hb2 := Aside0.mk hb2; clear hg hat))
  go_ret
  exact ⟨_, rfl, hR2.out, hb2.out⟩

open Go.Proofs.Ytcopbkdlpfcjpaa.Ma (getS Get_all refGet_all)
theorem u64_small (m : Nat) (h : m ≤ 1000000) : IntKind.u64.wrap (m : Int) = (m : Int) := by rw [IntKind.wrap_u64]; omega
/-- What bytes say as a filter. -/
def readS (L : List Nat) : Option (Nat × List Nat) :=
  if (getS L 0 0).2 = 0 ∨ (getS (L.drop (getS L 0 0).2) 0 0).2 = 0 ∨ (getS L 0 0).1 < 1 ∨ 16 < (getS L 0 0).1 ∨ (getS (L.drop (getS L 0 0).2) 0 0).1 < 1 ∨ 400000 < (getS (L.drop (getS L 0 0).2) 0 0).1 ∨ (getS (L.drop (getS L 0 0).2) 0 0).1 ≠ L.length - (getS L 0 0).2 - (getS (L.drop (getS L 0 0).2) 0 0).2 then none
  else some ((getS L 0 0).1, L.drop ((getS L 0 0).2 + (getS (L.drop (getS L 0 0).2) 0 0).2))
theorem getS_le (L : List Nat) : ∀ i u, (getS L i u).2 ≤ i + L.length := by
  induction L with
  | nil => intro i u; simp [getS]
  | cons x r ih =>
    intro i u
    rw [getS]
    split
    · simp
    · split
      · simp
      · have := ih (i + 1) (u + 2 ^ (7 * i) * (x % 128)); rw [List.length_cons]; omega
theorem get_q (L : List Nat) (hL : ∀ x ∈ L, x < 256) (hlen : L.length ≤ 1000000000) : ∃ q, codec_Get.f q (Ma.up L) = some (((getS L 0 0).1 : Int), ((getS L 0 0).2 : Int)) := (Get_all L hL hlen).rounds
theorem getR_q (L : List Nat) (hL : ∀ x ∈ L, x < 256) (hlen : L.length ≤ 1000000000) : ∃ q, skerryref01_Get.f q (Ma.up L) = some (((getS L 0 0).1 : Int), ((getS L 0 0).2 : Int)) := (refGet_all L hL hlen).rounds
/-- The filter that Read makes. -/
theorem Fil_box {w1 : World} {T : TypeId} {lo : Nat} {v : Value} {k : Int} {bs : List Int} (hlo : lo ≤ w1.heap.size) (hR : (Kd.int .u8).R 5 w1 lo (fun _ => True) v bs) : Fil T (w1.alloc (.cells #[.int .i64 k, v] T)) lo w1.heap.size k bs :=
  ⟨hlo, v, heap_alloc_new w1 _, Kd.R_alloc (Kd.R_mono (Kd.R_bound hR) (fun j hj => hj.2.2.1)) _⟩
set_option maxHeartbeats 8000000 in
set_option maxRecDepth 100000 in
theorem Read_c (w : World) (A : Option Addr) (c : Nat) (L : List Nat) (hL : ∀ x ∈ L, x < 256) (hlen : L.length ≤ 1000000) (hC : Kd.C (Kd.int .u8) w A (Ma.up L).length (Ma.up L)) (hc : (Ma.up L).length ≤ c) :
    Calls Try.prog 38 #[.slice A (Ma.up L).length c] w fun e w' => Below w.heap.size w w' ∧ ((readS L = none ∧ e = .returned (.tuple #[.pointer none, .int .i64 8])) ∨ ∃ k R g, readS L = some (k, R) ∧ e = .returned (.tuple #[.pointer (some ⟨g, 0, none⟩), .int .i64 0]) ∧ Fil 83 w' w.heap.size g (k : Int) (Ma.up R)) := by
  obtain ⟨q1, hq1⟩ := get_q L hL (by omega)
  obtain ⟨q2, hq2⟩ := get_q (L.drop (getS L 0 0).2) (fun x hx => hL x (List.mem_of_mem_drop hx)) (by rw [List.length_drop]; omega)
  have hi : (getS L 0 0).2 ≤ L.length := by have := getS_le L 0 0; omega
  have hj : (getS (L.drop (getS L 0 0).2) 0 0).2 ≤ L.length - (getS L 0 0).2 := by have := getS_le (L.drop (getS L 0 0).2) 0 0; rw [List.length_drop] at this; omega
  have hr : readS L = if (getS L 0 0).2 = 0 ∨ (getS (L.drop (getS L 0 0).2) 0 0).2 = 0 ∨ (getS L 0 0).1 < 1 ∨ 16 < (getS L 0 0).1 ∨ (getS (L.drop (getS L 0 0).2) 0 0).1 < 1 ∨ 400000 < (getS (L.drop (getS L 0 0).2) 0 0).1 ∨ (getS (L.drop (getS L 0 0).2) 0 0).1 ≠ L.length - (getS L 0 0).2 - (getS (L.drop (getS L 0 0).2) 0 0).2 then none
    else some ((getS L 0 0).1, L.drop ((getS L 0 0).2 + (getS (L.drop (getS L 0 0).2) 0 0).2)) := rfl
  generalize (getS (L.drop (getS L 0 0).2) 0 0).1 = n at *
  generalize (getS (L.drop (getS L 0 0).2) 0 0).2 = j at *
  generalize (getS L 0 0).1 = k at *
  generalize (getS L 0 0).2 = i at *
  have hul : (Ma.up L).length = L.length := Ma.up_length L
  obtain ⟨A1, cut1, HR1, HC1⟩ := cutC (k := i) hC hc (by omega)
  obtain ⟨A2, cut2, HR2, HC2⟩ := cutC (k := i + j) hC hc (by omega)
  rw [Ma.up_drop] at cut1 HR1 HC1 cut2 HR2 HC2
  have hl2 : (Ma.up (L.drop (i + j))).length = L.length - i - j := by rw [Ma.up_length, List.length_drop]; omega
  have hR0 : readS L = some (k, L.drop (i + j)) ∨ readS L = none := by rw [hr]; split <;> simp
  generalize hl : Ma.up L = l at *
  generalize hl1 : Ma.up (L.drop i) = l1 at *
  have HL2 := Aside0.mk hl2
  obtain ⟨R, hRR⟩ : ∃ R, R = L.drop (i + j) := ⟨_, rfl⟩
  rw [← hRR] at hr HL2 cut2 HR2 HC2 hR0
  clear hl2 hl hl1 hRR
  have HC := Aside0.mk hC
  have HLC := Aside0.mk hc
  have HQ1 := Aside0.mk hq1
  have HQ2 := Aside0.mk hq2
  replace HR1 := Aside0.mk HR1
  replace HC1 := Aside0.mk HC1
  replace HR2 := Aside0.mk HR2
  replace HC2 := Aside0.mk HC2
  have HR := Aside0.mk hr
  have hw1 : wrap64 ((l.length : Int) - (i : Int)) = ((L.length - i : Nat) : Int) := by rw [hul]; unfold wrap64; omega
  have hw2 : wrap64 (((L.length - i : Nat) : Int) - (j : Int)) = ((L.length - i - j : Nat) : Int) := by unfold wrap64; omega
  have hw3 : wrap64 ((i : Int) + (j : Int)) = ((i + j : Nat) : Int) := by unfold wrap64; omega
  have hb1 : ((i : Int) ≤ (l.length : Int)) = True := eq_true (by omega)
  have hb2 : (((i + j : Nat) : Int) ≤ (l.length : Int)) = True := eq_true (by omega)
  have HM := Aside0.mk (show ((L.length - i - j : Nat) : Int) = ((L.length - i - j : Nat) : Int) from rfl)
  generalize hm1 : ((L.length - i : Nat) : Int) = m1 at *
  generalize hm2 : ((L.length - i - j : Nat) : Int) = m2 at *
  generalize hx : ((i + j : Nat) : Int) = x at *
  replace hm2 := Aside0.mk hm2
  replace hm1 := Aside0.mk hm1
  replace hx := Aside0.mk hx
  replace hul := Aside0.mk hul
  have HI := Aside0.mk (And.intro hi (And.intro hj hlen))
  clear hC hc hq1 hq2 hr HM hR0 hi hj hlen hL
  by_cases c1 : (i : Int) = 0
  · have c1b : ((i : Int) == 0) = true := beq_iff_eq.mpr c1
    have hno : Aside0 (readS L = none) := ⟨by rw [HR.out, if_pos (by omega)]⟩
    clear c1
    go_enter Try.func38, Try.ntmps38
    go_wp2_with (first | (go_at_call 25; with_reducible refine (codec_Get.calls q1 A c l _ _ _ HC.out HLC.out HQ1.out).mono ?_; rintro e w' ⟨rfl, ⟨nd1, rfl⟩⟩) | (go_at_call 25; with_reducible refine (codec_Get.calls q2 A1 (c - i) l1 _ _ _ (Kd.C_drewN HR1.out nd1) HC1.out HQ2.out).mono ?_; rintro e w' ⟨rfl, ⟨nd2, rfl⟩⟩))
    go_ret2
    exact ⟨pw_below_drewN (Below.refl _ _) _, .inl ⟨hno.out, rfl⟩⟩
  have c1b : ((i : Int) == 0) = false := beq_eq_false_iff_ne.mpr c1
  have Kc1 := Aside0.mk c1
  clear c1
  by_cases c2 : (j : Int) = 0
  · have c2b : ((j : Int) == 0) = true := beq_iff_eq.mpr c2
    have hno : Aside0 (readS L = none) := ⟨by rw [HR.out, if_pos (by omega)]⟩
    clear c2
    go_enter Try.func38, Try.ntmps38
    go_wp2_with (first | (go_at_call 25; with_reducible refine (codec_Get.calls q1 A c l _ _ _ HC.out HLC.out HQ1.out).mono ?_; rintro e w' ⟨rfl, ⟨nd1, rfl⟩⟩) | (go_at_call 25; with_reducible refine (codec_Get.calls q2 A1 (c - i) l1 _ _ _ (Kd.C_drewN HR1.out nd1) HC1.out HQ2.out).mono ?_; rintro e w' ⟨rfl, ⟨nd2, rfl⟩⟩))
    go_ret2
    exact ⟨pw_below_drewN (Below.refl _ _) _, .inl ⟨hno.out, rfl⟩⟩
  have c2b : ((j : Int) == 0) = false := beq_eq_false_iff_ne.mpr c2
  have Kc2 := Aside0.mk c2
  clear c2
  by_cases c3 : (k : Int) < 1
  · have c3b : decide ((k : Int) < 1) = true := decide_eq_true c3
    have hno : Aside0 (readS L = none) := ⟨by rw [HR.out, if_pos (by omega)]⟩
    clear c3
    go_enter Try.func38, Try.ntmps38
    go_wp2_with (first | (go_at_call 25; with_reducible refine (codec_Get.calls q1 A c l _ _ _ HC.out HLC.out HQ1.out).mono ?_; rintro e w' ⟨rfl, ⟨nd1, rfl⟩⟩) | (go_at_call 25; with_reducible refine (codec_Get.calls q2 A1 (c - i) l1 _ _ _ (Kd.C_drewN HR1.out nd1) HC1.out HQ2.out).mono ?_; rintro e w' ⟨rfl, ⟨nd2, rfl⟩⟩))
    go_ret2
    exact ⟨pw_below_drewN (Below.refl _ _) _, .inl ⟨hno.out, rfl⟩⟩
  have c3b : decide ((k : Int) < 1) = false := decide_eq_false c3
  have Kc3 := Aside0.mk c3
  clear c3
  by_cases c4 : 16 < (k : Int)
  · have c4b : decide (16 < (k : Int)) = true := decide_eq_true c4
    have hno : Aside0 (readS L = none) := ⟨by rw [HR.out, if_pos (by omega)]⟩
    clear c4
    go_enter Try.func38, Try.ntmps38
    go_wp2_with (first | (go_at_call 25; with_reducible refine (codec_Get.calls q1 A c l _ _ _ HC.out HLC.out HQ1.out).mono ?_; rintro e w' ⟨rfl, ⟨nd1, rfl⟩⟩) | (go_at_call 25; with_reducible refine (codec_Get.calls q2 A1 (c - i) l1 _ _ _ (Kd.C_drewN HR1.out nd1) HC1.out HQ2.out).mono ?_; rintro e w' ⟨rfl, ⟨nd2, rfl⟩⟩))
    go_ret2
    exact ⟨pw_below_drewN (Below.refl _ _) _, .inl ⟨hno.out, rfl⟩⟩
  have c4b : decide (16 < (k : Int)) = false := decide_eq_false c4
  have Kc4 := Aside0.mk c4
  clear c4
  by_cases c5 : (n : Int) < 1
  · have c5b : decide ((n : Int) < 1) = true := decide_eq_true c5
    have hno : Aside0 (readS L = none) := ⟨by rw [HR.out, if_pos (by omega)]⟩
    clear c5
    go_enter Try.func38, Try.ntmps38
    go_wp2_with (first | (go_at_call 25; with_reducible refine (codec_Get.calls q1 A c l _ _ _ HC.out HLC.out HQ1.out).mono ?_; rintro e w' ⟨rfl, ⟨nd1, rfl⟩⟩) | (go_at_call 25; with_reducible refine (codec_Get.calls q2 A1 (c - i) l1 _ _ _ (Kd.C_drewN HR1.out nd1) HC1.out HQ2.out).mono ?_; rintro e w' ⟨rfl, ⟨nd2, rfl⟩⟩))
    go_ret2
    exact ⟨pw_below_drewN (Below.refl _ _) _, .inl ⟨hno.out, rfl⟩⟩
  have c5b : decide ((n : Int) < 1) = false := decide_eq_false c5
  have Kc5 := Aside0.mk c5
  clear c5
  by_cases c6 : 400000 < (n : Int)
  · have c6b : decide (400000 < (n : Int)) = true := decide_eq_true c6
    have hno : Aside0 (readS L = none) := ⟨by rw [HR.out, if_pos (by omega)]⟩
    clear c6
    go_enter Try.func38, Try.ntmps38
    go_wp2_with (first | (go_at_call 25; with_reducible refine (codec_Get.calls q1 A c l _ _ _ HC.out HLC.out HQ1.out).mono ?_; rintro e w' ⟨rfl, ⟨nd1, rfl⟩⟩) | (go_at_call 25; with_reducible refine (codec_Get.calls q2 A1 (c - i) l1 _ _ _ (Kd.C_drewN HR1.out nd1) HC1.out HQ2.out).mono ?_; rintro e w' ⟨rfl, ⟨nd2, rfl⟩⟩))
    go_ret2
    exact ⟨pw_below_drewN (Below.refl _ _) _, .inl ⟨hno.out, rfl⟩⟩
  have c6b : decide (400000 < (n : Int)) = false := decide_eq_false c6
  have Kc6 := Aside0.mk c6
  clear c6
  have hwn : wrap64 (n : Int) = (n : Int) := by have := of_decide_eq_false c6b; unfold wrap64; omega
  by_cases c7 : (n : Int) = m2
  · have c7b : ((n : Int) != m2) = false := by rw [c7]; simp
    have hsome : Aside0 (readS L = some (k, R)) := ⟨by rw [HR.out, if_neg (by have := hm2.out; have := Kc1.out; have := Kc2.out; have := Kc3.out; have := Kc4.out; have := Kc5.out; have := Kc6.out; omega)]⟩
    have hpos : Aside0 (0 < (Ma.up R).length ∧ (Ma.up R).length ≤ 1000000000) := ⟨by rw [HL2.out]; have := hm2.out; have := Kc5.out; have := HI.out; omega⟩
    have hwk : wrap64 (k : Int) = (k : Int) := by have := Kc4.out; have := Kc3.out; unfold wrap64; omega
    generalize hl2 : Ma.up R = l2 at *
    replace hl2 := Aside0.mk hl2
    replace hno := Aside0.mk c7
    subst c7
    clear hno
    go_enter Try.func38, Try.ntmps38
    go_wp2_with (first | (go_at_call 25; with_reducible refine (codec_Get.calls q1 A c l _ _ _ HC.out HLC.out HQ1.out).mono ?_; rintro e w' ⟨rfl, ⟨nd1, rfl⟩⟩) | (go_at_call 25; with_reducible refine (codec_Get.calls q2 A1 (c - i) l1 _ _ _ (Kd.C_drewN HR1.out nd1) HC1.out HQ2.out).mono ?_; rintro e w' ⟨rfl, ⟨nd2, rfl⟩⟩) | (go_at_call 75; with_reducible refine (Clone_c _ A2 (c - (i + j)) l2 (Kd.C_drewN HR2.out _) HC2.out hpos.out.1 hpos.out.2).mono ?_; rintro e w2 ⟨v, rfl, hRv, hbv⟩; obtain ⟨A3, c3, rfl⟩ := Kd.R_slice hRv; replace hRv := Aside0.mk hRv; replace hbv := Aside0.mk hbv))
    go_ret2
    exact ⟨below_alloc ((pw_below_drewN (Below.refl _ _) _).trans hbv.out) _, .inr ⟨k, R, w2.heap.size, hsome.out, rfl, by rw [hl2.out]; exact Fil_box hbv.out.size hRv.out⟩⟩
  · have c7b : ((n : Int) != m2) = true := bne_iff_ne.mpr c7
    have hno : Aside0 (readS L = none) := ⟨by rw [HR.out, if_pos (by have := hm2.out; omega)]⟩
    clear c7
    go_enter Try.func38, Try.ntmps38
    go_wp2_with (first | (go_at_call 25; with_reducible refine (codec_Get.calls q1 A c l _ _ _ HC.out HLC.out HQ1.out).mono ?_; rintro e w' ⟨rfl, ⟨nd1, rfl⟩⟩) | (go_at_call 25; with_reducible refine (codec_Get.calls q2 A1 (c - i) l1 _ _ _ (Kd.C_drewN HR1.out nd1) HC1.out HQ2.out).mono ?_; rintro e w' ⟨rfl, ⟨nd2, rfl⟩⟩))
    go_ret2
    exact ⟨pw_below_drewN (Below.refl _ _) _, .inl ⟨hno.out, rfl⟩⟩
set_option maxHeartbeats 8000000 in
set_option maxRecDepth 100000 in
theorem ReadR_c (w : World) (A : Option Addr) (c : Nat) (L : List Nat) (hL : ∀ x ∈ L, x < 256) (hlen : L.length ≤ 1000000) (hC : Kd.C (Kd.int .u8) w A (Ma.up L).length (Ma.up L)) (hc : (Ma.up L).length ≤ c) :
    Calls Try.prog 39 #[.slice A (Ma.up L).length c] w fun e w' => Below w.heap.size w w' ∧ ((readS L = none ∧ e = .returned (.tuple #[.pointer none, .int .i64 8])) ∨ ∃ k R g, readS L = some (k, R) ∧ e = .returned (.tuple #[.pointer (some ⟨g, 0, none⟩), .int .i64 0]) ∧ Fil 80 w' w.heap.size g (k : Int) (Ma.up R)) := by
  obtain ⟨q1, hq1⟩ := getR_q L hL (by omega)
  obtain ⟨q2, hq2⟩ := getR_q (L.drop (getS L 0 0).2) (fun x hx => hL x (List.mem_of_mem_drop hx)) (by rw [List.length_drop]; omega)
  have hi : (getS L 0 0).2 ≤ L.length := by have := getS_le L 0 0; omega
  have hj : (getS (L.drop (getS L 0 0).2) 0 0).2 ≤ L.length - (getS L 0 0).2 := by have := getS_le (L.drop (getS L 0 0).2) 0 0; rw [List.length_drop] at this; omega
  have hr : readS L = if (getS L 0 0).2 = 0 ∨ (getS (L.drop (getS L 0 0).2) 0 0).2 = 0 ∨ (getS L 0 0).1 < 1 ∨ 16 < (getS L 0 0).1 ∨ (getS (L.drop (getS L 0 0).2) 0 0).1 < 1 ∨ 400000 < (getS (L.drop (getS L 0 0).2) 0 0).1 ∨ (getS (L.drop (getS L 0 0).2) 0 0).1 ≠ L.length - (getS L 0 0).2 - (getS (L.drop (getS L 0 0).2) 0 0).2 then none
    else some ((getS L 0 0).1, L.drop ((getS L 0 0).2 + (getS (L.drop (getS L 0 0).2) 0 0).2)) := rfl
  generalize (getS (L.drop (getS L 0 0).2) 0 0).1 = n at *
  generalize (getS (L.drop (getS L 0 0).2) 0 0).2 = j at *
  generalize (getS L 0 0).1 = k at *
  generalize (getS L 0 0).2 = i at *
  have hul : (Ma.up L).length = L.length := Ma.up_length L
  obtain ⟨A1, cut1, HR1, HC1⟩ := cutC (k := i) hC hc (by omega)
  obtain ⟨A2, cut2, HR2, HC2⟩ := cutC (k := i + j) hC hc (by omega)
  rw [Ma.up_drop] at cut1 HR1 HC1 cut2 HR2 HC2
  have hl2 : (Ma.up (L.drop (i + j))).length = L.length - i - j := by rw [Ma.up_length, List.length_drop]; omega
  have hR0 : readS L = some (k, L.drop (i + j)) ∨ readS L = none := by rw [hr]; split <;> simp
  generalize hl : Ma.up L = l at *
  generalize hl1 : Ma.up (L.drop i) = l1 at *
  have HL2 := Aside0.mk hl2
  obtain ⟨R, hRR⟩ : ∃ R, R = L.drop (i + j) := ⟨_, rfl⟩
  rw [← hRR] at hr HL2 cut2 HR2 HC2 hR0
  clear hl2 hl hl1 hRR
  have HC := Aside0.mk hC
  have HLC := Aside0.mk hc
  have HQ1 := Aside0.mk hq1
  have HQ2 := Aside0.mk hq2
  replace HR1 := Aside0.mk HR1
  replace HC1 := Aside0.mk HC1
  replace HR2 := Aside0.mk HR2
  replace HC2 := Aside0.mk HC2
  have HR := Aside0.mk hr
  have hw1 : wrap64 ((l.length : Int) - (i : Int)) = ((L.length - i : Nat) : Int) := by rw [hul]; unfold wrap64; omega
  have hw2 : wrap64 (((L.length - i : Nat) : Int) - (j : Int)) = ((L.length - i - j : Nat) : Int) := by unfold wrap64; omega
  have hw3 : wrap64 ((i : Int) + (j : Int)) = ((i + j : Nat) : Int) := by unfold wrap64; omega
  have hb1 : ((i : Int) ≤ (l.length : Int)) = True := eq_true (by omega)
  have hb2 : (((i + j : Nat) : Int) ≤ (l.length : Int)) = True := eq_true (by omega)
  have HM := Aside0.mk (show ((L.length - i - j : Nat) : Int) = ((L.length - i - j : Nat) : Int) from rfl)
  generalize hm1 : ((L.length - i : Nat) : Int) = m1 at *
  generalize hm2 : ((L.length - i - j : Nat) : Int) = m2 at *
  generalize hx : ((i + j : Nat) : Int) = x at *
  have hwm : IntKind.u64.wrap m2 = m2 := by rw [← hm2]; exact u64_small _ (Nat.le_trans (Nat.sub_le _ _) (Nat.le_trans (Nat.sub_le _ _) hlen))
  replace hm2 := Aside0.mk hm2
  replace hm1 := Aside0.mk hm1
  replace hx := Aside0.mk hx
  replace hul := Aside0.mk hul
  have HI := Aside0.mk (And.intro hi (And.intro hj hlen))
  clear hC hc hq1 hq2 hr HM hR0 hi hj hlen hL
  by_cases c1 : (i : Int) = 0
  · have c1b : ((i : Int) == 0) = true := beq_iff_eq.mpr c1
    have hno : Aside0 (readS L = none) := ⟨by rw [HR.out, if_pos (by omega)]⟩
    clear c1
    go_enter Try.func39, Try.ntmps39
    go_wp2_with (first | (go_at_call 27; with_reducible refine (skerryref01_Get.calls q1 A c l _ _ _ HC.out HLC.out HQ1.out).mono ?_; rintro e w' ⟨rfl, ⟨nd1, rfl⟩⟩) | (go_at_call 27; with_reducible refine (skerryref01_Get.calls q2 A1 (c - i) l1 _ _ _ (Kd.C_drewN HR1.out nd1) HC1.out HQ2.out).mono ?_; rintro e w' ⟨rfl, ⟨nd2, rfl⟩⟩))
    go_ret2
    exact ⟨pw_below_drewN (Below.refl _ _) _, .inl ⟨hno.out, rfl⟩⟩
  have c1b : ((i : Int) == 0) = false := beq_eq_false_iff_ne.mpr c1
  have Kc1 := Aside0.mk c1
  clear c1
  by_cases c3 : (k : Int) < 1
  · have c3b : decide ((k : Int) < 1) = true := decide_eq_true c3
    have hno : Aside0 (readS L = none) := ⟨by rw [HR.out, if_pos (by omega)]⟩
    clear c3
    go_enter Try.func39, Try.ntmps39
    go_wp2_with (first | (go_at_call 27; with_reducible refine (skerryref01_Get.calls q1 A c l _ _ _ HC.out HLC.out HQ1.out).mono ?_; rintro e w' ⟨rfl, ⟨nd1, rfl⟩⟩) | (go_at_call 27; with_reducible refine (skerryref01_Get.calls q2 A1 (c - i) l1 _ _ _ (Kd.C_drewN HR1.out nd1) HC1.out HQ2.out).mono ?_; rintro e w' ⟨rfl, ⟨nd2, rfl⟩⟩))
    go_ret2
    exact ⟨pw_below_drewN (Below.refl _ _) _, .inl ⟨hno.out, rfl⟩⟩
  have c3b : decide ((k : Int) < 1) = false := decide_eq_false c3
  have Kc3 := Aside0.mk c3
  clear c3
  by_cases c4 : 16 < (k : Int)
  · have c4b : decide (16 < (k : Int)) = true := decide_eq_true c4
    have hno : Aside0 (readS L = none) := ⟨by rw [HR.out, if_pos (by omega)]⟩
    clear c4
    go_enter Try.func39, Try.ntmps39
    go_wp2_with (first | (go_at_call 27; with_reducible refine (skerryref01_Get.calls q1 A c l _ _ _ HC.out HLC.out HQ1.out).mono ?_; rintro e w' ⟨rfl, ⟨nd1, rfl⟩⟩) | (go_at_call 27; with_reducible refine (skerryref01_Get.calls q2 A1 (c - i) l1 _ _ _ (Kd.C_drewN HR1.out nd1) HC1.out HQ2.out).mono ?_; rintro e w' ⟨rfl, ⟨nd2, rfl⟩⟩))
    go_ret2
    exact ⟨pw_below_drewN (Below.refl _ _) _, .inl ⟨hno.out, rfl⟩⟩
  have c4b : decide (16 < (k : Int)) = false := decide_eq_false c4
  have Kc4 := Aside0.mk c4
  clear c4
  by_cases c2 : (j : Int) = 0
  · have c2b : ((j : Int) == 0) = true := beq_iff_eq.mpr c2
    have hno : Aside0 (readS L = none) := ⟨by rw [HR.out, if_pos (by omega)]⟩
    clear c2
    go_enter Try.func39, Try.ntmps39
    go_wp2_with (first | (go_at_call 27; with_reducible refine (skerryref01_Get.calls q1 A c l _ _ _ HC.out HLC.out HQ1.out).mono ?_; rintro e w' ⟨rfl, ⟨nd1, rfl⟩⟩) | (go_at_call 27; with_reducible refine (skerryref01_Get.calls q2 A1 (c - i) l1 _ _ _ (Kd.C_drewN HR1.out nd1) HC1.out HQ2.out).mono ?_; rintro e w' ⟨rfl, ⟨nd2, rfl⟩⟩))
    go_ret2
    exact ⟨pw_below_drewN (Below.refl _ _) _, .inl ⟨hno.out, rfl⟩⟩
  have c2b : ((j : Int) == 0) = false := beq_eq_false_iff_ne.mpr c2
  have Kc2 := Aside0.mk c2
  clear c2
  by_cases c5 : (n : Int) < 1
  · have c5b : decide ((n : Int) < 1) = true := decide_eq_true c5
    have hno : Aside0 (readS L = none) := ⟨by rw [HR.out, if_pos (by omega)]⟩
    clear c5
    go_enter Try.func39, Try.ntmps39
    go_wp2_with (first | (go_at_call 27; with_reducible refine (skerryref01_Get.calls q1 A c l _ _ _ HC.out HLC.out HQ1.out).mono ?_; rintro e w' ⟨rfl, ⟨nd1, rfl⟩⟩) | (go_at_call 27; with_reducible refine (skerryref01_Get.calls q2 A1 (c - i) l1 _ _ _ (Kd.C_drewN HR1.out nd1) HC1.out HQ2.out).mono ?_; rintro e w' ⟨rfl, ⟨nd2, rfl⟩⟩))
    go_ret2
    exact ⟨pw_below_drewN (Below.refl _ _) _, .inl ⟨hno.out, rfl⟩⟩
  have c5b : decide ((n : Int) < 1) = false := decide_eq_false c5
  have Kc5 := Aside0.mk c5
  clear c5
  by_cases c6 : 400000 < (n : Int)
  · have c6b : decide (400000 < (n : Int)) = true := decide_eq_true c6
    have hno : Aside0 (readS L = none) := ⟨by rw [HR.out, if_pos (by omega)]⟩
    clear c6
    go_enter Try.func39, Try.ntmps39
    go_wp2_with (first | (go_at_call 27; with_reducible refine (skerryref01_Get.calls q1 A c l _ _ _ HC.out HLC.out HQ1.out).mono ?_; rintro e w' ⟨rfl, ⟨nd1, rfl⟩⟩) | (go_at_call 27; with_reducible refine (skerryref01_Get.calls q2 A1 (c - i) l1 _ _ _ (Kd.C_drewN HR1.out nd1) HC1.out HQ2.out).mono ?_; rintro e w' ⟨rfl, ⟨nd2, rfl⟩⟩))
    go_ret2
    exact ⟨pw_below_drewN (Below.refl _ _) _, .inl ⟨hno.out, rfl⟩⟩
  have c6b : decide (400000 < (n : Int)) = false := decide_eq_false c6
  have Kc6 := Aside0.mk c6
  clear c6
  by_cases c7 : m2 = (n : Int)
  · have c7b : (m2 != (n : Int)) = false := by rw [c7]; simp
    have hsome : Aside0 (readS L = some (k, R)) := ⟨by rw [HR.out, if_neg (by have := hm2.out; have := Kc1.out; have := Kc2.out; have := Kc3.out; have := Kc4.out; have := Kc5.out; have := Kc6.out; omega)]⟩
    have hpos : Aside0 (0 < (Ma.up R).length ∧ (Ma.up R).length ≤ 1000000000) := ⟨by rw [HL2.out]; have := hm2.out; have := Kc5.out; have := HI.out; omega⟩
    have hwk : wrap64 (k : Int) = (k : Int) := by have := Kc4.out; have := Kc3.out; unfold wrap64; omega
    generalize hl2 : Ma.up R = l2 at *
    replace hl2 := Aside0.mk hl2
    subst c7
    go_enter Try.func39, Try.ntmps39
    go_wp2_with (first | (go_at_call 27; with_reducible refine (skerryref01_Get.calls q1 A c l _ _ _ HC.out HLC.out HQ1.out).mono ?_; rintro e w' ⟨rfl, ⟨nd1, rfl⟩⟩) | (go_at_call 27; with_reducible refine (skerryref01_Get.calls q2 A1 (c - i) l1 _ _ _ (Kd.C_drewN HR1.out nd1) HC1.out HQ2.out).mono ?_; rintro e w' ⟨rfl, ⟨nd2, rfl⟩⟩) | ((with_reducible refine gate_dst (N := 53) rfl ?_); refine Kd.R_lit (Kd.int .u8) _ 5 ?hg (N := 53) ?hd (xs := ([] : List Int)) (inner := []) (ok := fun _ => True) (okp := fun _ => True) ?hr ?hp (fun _ hk => hk) trivial (Below.refl _ _) (Nat.le_refl _) (by simp) ?_; (case hd => rfl); (case hg => rfl); (case hr => first | (go_simp; done) | (go_simp; rfl)); (case hp => exact (Reps.none _ _)); intro v w1 hR1 hb1 hg_ hnew_; clear hg_ hnew_; have hb2 := Aside0.mk ((pw_below_drewN (Below.refl w.heap.size w) _).trans hb1); replace hR1 := Aside0.mk hR1; clear hb1) | ((with_reducible refine gate_builtin (b := .append) (xs := #[.tmp 53, .tmp 58]) rfl ?_); at_builtin; refine Kd.R_append_rows (Kd.int .u8) (w0 := w) w.heap.size rfl (.tmp 53) (.tmp 58) 27 5 (.int .u8 0) 1 rfl Try.underlying27 info5 rfl (by decide) (by omega) v [] l2 _ _ _ (fun _ => True) (fun _ => False) rfl rfl hR1.out (Kd.C_below HR2.out hb2.out) (fun _ _ h => h) (fun _ h => h.elim) (fun _ _ => trivial) hb2.out hb2.out.size (by have := hpos.out; simp; omega) ?_; intro v2 w2 hRv hbv hg hat; obtain ⟨A3, c3, rfl⟩ := Kd.R_slice hRv; replace hRv := Aside0.mk hRv; replace hbv := Aside0.mk hbv; clear hg hat))
    go_ret2
    exact ⟨below_alloc hbv.out _, .inr ⟨k, R, w2.heap.size, hsome.out, rfl, by rw [hl2.out]; exact Fil_box hbv.out.size hRv.out⟩⟩
  · have c7b : (m2 != (n : Int)) = true := bne_iff_ne.mpr c7
    have hno : Aside0 (readS L = none) := ⟨by rw [HR.out, if_pos (by have := hm2.out; omega)]⟩
    clear c7
    go_enter Try.func39, Try.ntmps39
    go_wp2_with (first | (go_at_call 27; with_reducible refine (skerryref01_Get.calls q1 A c l _ _ _ HC.out HLC.out HQ1.out).mono ?_; rintro e w' ⟨rfl, ⟨nd1, rfl⟩⟩) | (go_at_call 27; with_reducible refine (skerryref01_Get.calls q2 A1 (c - i) l1 _ _ _ (Kd.C_drewN HR1.out nd1) HC1.out HQ2.out).mono ?_; rintro e w' ⟨rfl, ⟨nd2, rfl⟩⟩))
    go_ret2
    exact ⟨pw_below_drewN (Below.refl _ _) _, .inl ⟨hno.out, rfl⟩⟩
end Go.Proofs.Ytcopbkdlpfcjpaa.L
