/- Plain laws beneath the codec's statements: numbers in bytes, there and back. -/
import Derived.Test.YtcopbkdlpfcjpaaMa
import Derived.Test.YtcopbkdlpfcjpaaBx4
import Derived.Test.YtcopbkdlpfcjpaaBx5
import Derived.Test.YtcopbkdlpfcjpaaBx6
namespace Go.Proofs.Ytcopbkdlpfcjpaa.Ma
open Go.RowKit Go.Proofs.YtcopbkdlpfcjpaaW.PrintWords Go.Proofs.YtcopbkdlpfcjpaaW.PrintLast Go.Proofs.YtcopbkdlpfcjpaaW.PrintMore Go.Proofs.Ytcopbkdlpfcjpaa.B

/-- Bytes as the printed functions have them. -/
def up (L : List Nat) : List Int := L.map Int.ofNat
theorem up_length (L : List Nat) : (up L).length = L.length := by simp [up]
theorem up_append (A B : List Nat) : up (A ++ B) = up A ++ up B := by simp [up]
theorem up_drop (A : List Nat) (n : Nat) : (up A).drop n = up (A.drop n) := by simp [up, List.map_drop]
theorem up_take (A : List Nat) (n : Nat) : (up A).take n = up (A.take n) := by simp [up, List.map_take]
theorem rd_up (L : List Nat) (i : Nat) : rd (up L) (i : Int) = ((L.getD i 0 : Nat) : Int) := by
  unfold rd up
  simp only [Int.toNat_natCast, List.getD_eq_getElem?_getD, List.getElem?_map]
  cases L[i]? <;> rfl
theorem up_of (l : List Int) (h : ∀ x ∈ l, (Lit.int .u8 x).wf = true) : ∃ L : List Nat, (∀ x ∈ L, x < 256) ∧ l = up L := by
  refine ⟨l.map Int.toNat, fun x hx => ?_, ?_⟩
  · obtain ⟨y, hy, rfl⟩ := List.mem_map.1 hx
    have := u8_of (h y hy)
    omega
  · unfold up
    rw [List.map_map]
    conv => lhs; rw [← List.map_id l]
    apply List.map_congr_left
    intro a ha
    have := u8_of (h a ha)
    simp only [id_eq, Function.comp_apply, Int.ofNat_eq_natCast]
    omega
/-- A number's digits to base 128. -/
def digN (u : Nat) : List Nat := if u < 128 then [u] else (u % 128 + 128) :: digN (u / 128)
termination_by u
decreasing_by omega
theorem digN_lo {u : Nat} (h : u < 128) : digN u = [u] := by rw [digN, if_pos h]
theorem digN_hi {u : Nat} (h : ¬ u < 128) : digN u = (u % 128 + 128) :: digN (u / 128) := by rw [digN, if_neg h]
theorem or128 : ∀ m : Nat, m < 256 → m ||| 128 = m % 128 + 128 := by decide +kernel
theorem and127 : ∀ m : Nat, m < 256 → m &&& 127 = m % 128 := by decide +kernel
/-- The count of digits: below what 7 bits each can hold. -/
theorem digN_len (n : Nat) : ∀ u, u < 128 ^ n → 0 < n → (digN u).length ≤ n := by
  induction n with
  | zero => intro u _ h; omega
  | succ n ih =>
    intro u hu _
    by_cases h : u < 128
    · rw [digN_lo h]; simp
    · rw [digN_hi h, List.length_cons]
      have hn : 0 < n := by
        rcases Nat.eq_zero_or_pos n with rfl | hn
        · simp at hu; omega
        · exact hn
      have := ih (u / 128) (by rw [Nat.pow_succ] at hu; exact Nat.div_lt_of_lt_mul (by omega)) hn
      omega
theorem digN_len64 (u : Nat) (h : u < 18446744073709551616) : (digN u).length ≤ 10 := digN_len 10 u (by omega) (by omega)
theorem put_ev (u : Nat) : ∀ x0 : List Int, u < 18446744073709551616 → x0.length + (digN u).length ≤ 140737488355328 → Ev (fun k => codec_put.l0 k x0 (u : Int)) (x0 ++ up (digN u)) := by
  induction u using Nat.strongRecOn with
  | ind u ih =>
    intro x0 hu hl
    by_cases h : u < 128
    · rw [digN_lo h] at hl ⊢
      simp only [List.length_singleton] at hl
      refine Ev.step (f := fun _ => some (x0 ++ [(u : Int)])) (fun k => ?_) (Ev.now _)
      simp only [codec_put.l0]
      rw [if_neg (by omega), if_pos (by omega), show (u : Int) % 256 = u from by omega]
    · rw [digN_hi h] at hl ⊢
      simp only [List.length_cons] at hl
      have h0 := ih (u / 128) (by omega) (x0 ++ [((u % 128 + 128 : Nat) : Int)]) (by omega) (by rw [List.length_append, List.length_singleton]; omega)
      refine Ev.step (f := fun k => codec_put.l0 k (x0 ++ [((u % 128 + 128 : Nat) : Int)]) ((u / 128 : Nat) : Int)) (fun k => ?_) ?_
      · simp only [codec_put.l0]
        rw [if_pos (by omega), if_pos (by omega)]
        have e : bits .or .u8 ((u : Int) % 256) 128 = ((u % 128 + 128 : Nat) : Int) := by
          have e1 : (u : Int) % 256 = ((u % 256 : Nat) : Int) := by omega
          rw [e1, show (128 : Int) = ((128 : Nat) : Int) from rfl, u8_or_nat _ _ (by omega) (by omega), or128 _ (by omega)]
          congr 1
          omega
        rw [e]
        rfl
      · have e : x0 ++ up ((u % 128 + 128) :: digN (u / 128)) = (x0 ++ [((u % 128 + 128 : Nat) : Int)]) ++ up (digN (u / 128)) := by rw [List.append_assoc]; rfl
        rw [e]
        exact h0
theorem Put_ev (L : List Nat) (u : Nat) (hu : u < 18446744073709551616) (hl : L.length ≤ 1000000000) : Ev (fun k => codec_Put.f k (up L) (u : Int)) (up L ++ up (digN u)) := by
  have hd := digN_len64 u hu
  have h := put_ev u (up L) hu (by rw [up_length]; omega)
  refine Ev.congr (f := fun k => (codec_put.l0 k (up L) (u : Int)).bind fun t => some t) (fun k => ?_) (Ev.bind (f := fun _ t => some t) h (Ev.now _))
  unfold codec_Put.f codec_put.f
  rw [if_pos (by rw [up_length]; simp; omega), List.nil_append]
theorem refput_ev (u : Nat) : ∀ x0 : List Int, u < 18446744073709551616 → x0.length + (digN u).length ≤ 140737488355328 → Ev (fun k => skerryref01_Put.l0 k (u : Int) x0) (x0 ++ up (digN u)) := by
  induction u using Nat.strongRecOn with
  | ind u ih =>
    intro x0 hu hl
    by_cases h : u < 128
    · rw [digN_lo h] at hl ⊢
      simp only [List.length_singleton] at hl
      refine Ev.step (f := fun _ => some (x0 ++ [(u : Int)])) (fun k => ?_) (Ev.now _)
      simp only [skerryref01_Put.l0]
      rw [if_neg (by omega), if_pos (by omega), show (u : Int) % 256 = u from by omega]
    · rw [digN_hi h] at hl ⊢
      simp only [List.length_cons] at hl
      have h0 := ih (u / 128) (by omega) (x0 ++ [((u % 128 + 128 : Nat) : Int)]) (by omega) (by rw [List.length_append, List.length_singleton]; omega)
      refine Ev.step (f := fun k => skerryref01_Put.l0 k ((u / 128 : Nat) : Int) (x0 ++ [((u % 128 + 128 : Nat) : Int)])) (fun k => ?_) ?_
      · simp only [skerryref01_Put.l0]
        rw [if_pos (by omega), if_pos (by omega), Int.tdiv_eq_ediv_of_nonneg (by omega), Int.tmod_eq_emod_of_nonneg (by omega), IntKind.wrap_u64]
        have e1 : ((u : Int) / 128) % 18446744073709551616 = ((u / 128 : Nat) : Int) := by omega
        have e2 : ((u : Int) % 128 + 128) % 256 = ((u % 128 + 128 : Nat) : Int) := by omega
        rw [e1, e2]
      · have e : x0 ++ up ((u % 128 + 128) :: digN (u / 128)) = (x0 ++ [((u % 128 + 128 : Nat) : Int)]) ++ up (digN (u / 128)) := by rw [List.append_assoc]; rfl
        rw [e]
        exact h0
theorem refPut_ev (L : List Nat) (u : Nat) (hu : u < 18446744073709551616) (hl : L.length ≤ 1000000000) : Ev (fun k => skerryref01_Put.f k (up L) (u : Int)) (up L ++ up (digN u)) := by
  have hd := digN_len64 u hu
  have h := refput_ev u (up L) hu (by rw [up_length]; omega)
  refine Ev.congr (fun k => ?_) h
  unfold skerryref01_Put.f
  simp only [Option.bind_some, List.nil_append]
  rw [if_pos (by rw [up_length]; simp; omega)]
/-- The number that bytes begin with, from byte i on, u being told already. -/
def getS : List Nat → Nat → Nat → Nat × Nat
  | [], _, _ => (0, 0)
  | x :: r, i, u => if i = 9 ∧ x > 1 ∨ i > 0 ∧ x = 0 then (0, 0) else if x < 128 then (u + 2 ^ (7 * i) * (x % 128), i + 1) else getS r (i + 1) (u + 2 ^ (7 * i) * (x % 128))
def pr (p : Nat × Nat) : Int × Int := ((p.1 : Int), (p.2 : Int))
theorem shl_u64 (x i : Nat) (hi : i ≤ 9) (hx : x < 128) (h9 : i = 9 → x ≤ 1) (c : Int) (hc : c = 7 * (i : Int)) : shl .u64 (x : Int) c = ((2 ^ (7 * i) * x : Nat) : Int) ∧ 2 ^ (7 * i) * x < 18446744073709551616 := by
  subst hc
  have hp : 2 ^ (7 * i) * x < 18446744073709551616 := by
    rcases Nat.lt_or_ge i 9 with h | h
    · have h1 : 2 ^ (7 * i) ≤ 2 ^ 56 := Nat.pow_le_pow_right (by omega) (by omega)
      calc 2 ^ (7 * i) * x ≤ 2 ^ 56 * 127 := Nat.mul_le_mul h1 (by omega)
        _ < 18446744073709551616 := by decide
    · have : i = 9 := by omega
      subst this
      have := h9 rfl
      calc 2 ^ (7 * 9) * x ≤ 2 ^ (7 * 9) * 1 := Nat.mul_le_mul_left _ this
        _ < 18446744073709551616 := by decide
  refine ⟨?_, hp⟩
  unfold shl
  have e : min ((7 * (i : Int)).toNat) (IntKind.bits .u64) = 7 * i := by
    have : IntKind.bits .u64 = 64 := rfl
    rw [this]
    omega
  rw [e, IntKind.wrap_u64]
  have e2 : (x : Int) * 2 ^ (7 * i) = ((2 ^ (7 * i) * x : Nat) : Int) := by
    push_cast
    rw [Int.mul_comm]
  rw [e2]
  omega
theorem pow_next (u i x : Nat) (hu : u < 2 ^ (7 * i)) (hx : x < 128) : u + 2 ^ (7 * i) * x < 2 ^ (7 * (i + 1)) := by
  have e : 2 ^ (7 * (i + 1)) = 2 ^ (7 * i) * 128 := by rw [Nat.mul_add, Nat.pow_add]
  rw [e]
  have h1 : 2 ^ (7 * i) * x + 2 ^ (7 * i) ≤ 2 ^ (7 * i) * 128 := by rw [← Nat.mul_succ]; exact Nat.mul_le_mul_left _ hx
  omega
theorem Get_ev (L : List Nat) (hL : ∀ x ∈ L, x < 256) (hlen : L.length ≤ 1000000000) (d : Nat) : ∀ i u : Nat, i + d = L.length → i ≤ 9 ∨ d = 0 → u < 2 ^ (7 * i) → Ev (fun k => codec_Get.l0 k (u : Int) (up L) ((up L).length : Int) (i : Int)) (pr (getS (L.drop i) i u)) := by
  induction d with
  | zero =>
    intro i u hd _ _
    have e : L.drop i = [] := List.drop_eq_nil_of_le (by omega)
    rw [e]
    refine Ev.step (f := fun _ => some (0, 0)) (fun k => ?_) (Ev.now _)
    simp only [codec_Get.l0]
    rw [if_neg (by rw [up_length]; omega)]
  | succ d ih =>
    intro i u hd hi hu
    have hi9 : i ≤ 9 := by omega
    have hlt : i < L.length := by omega
    have hx : L.getD i 0 < 256 := by
      rw [List.getD_eq_getElem?_getD, List.getElem?_eq_getElem hlt]
      exact hL _ (List.getElem_mem hlt)
    have edrop : L.drop i = L.getD i 0 :: L.drop (i + 1) := by
      rw [List.drop_eq_getElem_cons hlt, List.getD_eq_getElem?_getD, List.getElem?_eq_getElem hlt]
      rfl
    rw [edrop]
    generalize hxx : L.getD i 0 = x at *
    have hrd : rd (up L) (i : Int) = (x : Int) := by rw [rd_up, hxx]
    have hul : ((up L).length : Int) = (L.length : Int) := by rw [up_length]
    have hw7 : wrap64 (7 * (i : Int)) = 7 * (i : Int) := wrap_in (by omega)
    have hand : bits .and .u8 (x : Int) 127 = ((x % 128 : Nat) : Int) := by
      rw [show (127 : Int) = ((127 : Nat) : Int) from rfl, u8_and_nat _ _ hx (by omega), and127 _ hx]
    have hwu : IntKind.u64.wrap ((x % 128 : Nat) : Int) = ((x % 128 : Nat) : Int) := by rw [IntKind.wrap_u64]; omega
    refine Ev.step (f := fun k => codec_Get.j1 k (u : Int) (i : Int) (x : Int) (up L) ((up L).length : Int) (i : Int) (decide (i = 9 ∧ x > 1 ∨ i > 0 ∧ x = 0))) (fun k => ?_) ?_
    · simp only [codec_Get.l0]
      rw [hrd, hul, if_pos (by omega), if_pos (by omega), if_pos (by omega)]
      by_cases h9 : i = 9
      · rw [if_pos (by omega)]
        by_cases h1 : x > 1
        · rw [if_pos (by omega), decide_eq_true (p := (i = 9 ∧ x > 1 ∨ i > 0 ∧ x = 0)) (by omega)]
        · rw [if_neg (by omega), if_pos (by omega)]
          congr 1
          by_cases h0 : x = 0
          · rw [decide_eq_true (p := (i = 9 ∧ x > 1 ∨ i > 0 ∧ x = 0)) (by omega)]
            exact beq_iff_eq.mpr (by omega)
          · rw [decide_eq_false (p := (i = 9 ∧ x > 1 ∨ i > 0 ∧ x = 0)) (by omega)]
            exact beq_eq_false_iff_ne.mpr (by omega)
      · rw [if_neg (by omega)]
        by_cases hp : i > 0
        · rw [if_pos (by omega)]
          congr 1
          by_cases h0 : x = 0
          · rw [decide_eq_true (p := (i = 9 ∧ x > 1 ∨ i > 0 ∧ x = 0)) (by omega)]
            exact beq_iff_eq.mpr (by omega)
          · rw [decide_eq_false (p := (i = 9 ∧ x > 1 ∨ i > 0 ∧ x = 0)) (by omega)]
            exact beq_eq_false_iff_ne.mpr (by omega)
        · rw [if_neg (by omega), decide_eq_false (p := (i = 9 ∧ x > 1 ∨ i > 0 ∧ x = 0)) (by omega)]
    · by_cases hc : i = 9 ∧ x > 1 ∨ i > 0 ∧ x = 0
      · rw [decide_eq_true hc, getS, if_pos hc]
        refine Ev.step (f := fun _ => some (0, 0)) (fun k => ?_) (Ev.now _)
        simp only [codec_Get.j1, if_true]
      · rw [decide_eq_false hc, getS, if_neg hc]
        have hs := shl_u64 (x % 128) i hi9 (by omega) (by omega) (7 * (i : Int)) rfl
        have hor : bits .or .u64 (u : Int) ((2 ^ (7 * i) * (x % 128) : Nat) : Int) = ((u + 2 ^ (7 * i) * (x % 128) : Nat) : Int) := by
          have hu2 : u < 18446744073709551616 := by
            have : 2 ^ (7 * i) ≤ 2 ^ 63 := Nat.pow_le_pow_right (by omega) (by omega)
            have e : (2 : Nat) ^ 63 < 18446744073709551616 := by decide
            omega
          rw [u64_or_nat _ _ hu2 hs.2, Nat.or_comm, ← Nat.two_pow_add_eq_or_of_lt hu, Nat.add_comm]
        by_cases hb : x < 128
        · rw [if_pos hb]
          refine Ev.step (f := fun _ => some (pr (u + 2 ^ (7 * i) * (x % 128), i + 1))) (fun k => ?_) (Ev.now _)
          simp only [codec_Get.j1]
          rw [if_neg (by simp), hw7, if_pos (by omega), if_pos (by omega), hand, hwu, hs.1, hor, wrap_in (by omega)]
          rfl
        · rw [if_neg hb]
          have h0 := ih (i + 1) (u + 2 ^ (7 * i) * (x % 128)) (by omega) (by omega) (pow_next u i _ hu (by omega))
          refine Ev.step (fun k => ?_) h0
          simp only [codec_Get.j1]
          rw [if_neg (by simp), hw7, if_pos (by omega), if_neg (by omega), hand, hwu, hs.1, hor, wrap_in (by omega)]
          rfl
theorem refGet_ev (L : List Nat) (hL : ∀ x ∈ L, x < 256) (hlen : L.length ≤ 1000000000) (d : Nat) : ∀ i u : Nat, i + d = L.length → i ≤ 9 ∨ d = 0 → u < 2 ^ (7 * i) → Ev (fun k => skerryref01_Get.l0 k (up L) (u : Int) (i : Int)) (pr (getS (L.drop i) i u)) := by
  induction d with
  | zero =>
    intro i u hd _ _
    have e : L.drop i = [] := List.drop_eq_nil_of_le (by omega)
    rw [e]
    refine Ev.step (f := fun k => skerryref01_Get.j1 k (up L) (u : Int) (i : Int) false) (fun k => ?_) (Ev.step (f := fun _ => some (0, 0)) (fun k => ?_) (Ev.now _))
    · simp only [skerryref01_Get.l0]
      rw [if_neg (by rw [up_length]; omega)]
    · simp only [skerryref01_Get.j1]
      rw [if_neg (by simp)]
  | succ d ih =>
    intro i u hd hi hu
    have hi9 : i ≤ 9 := by omega
    have hlt : i < L.length := by omega
    have hx : L.getD i 0 < 256 := by
      rw [List.getD_eq_getElem?_getD, List.getElem?_eq_getElem hlt]
      exact hL _ (List.getElem_mem hlt)
    have edrop : L.drop i = L.getD i 0 :: L.drop (i + 1) := by
      rw [List.drop_eq_getElem_cons hlt, List.getD_eq_getElem?_getD, List.getElem?_eq_getElem hlt]
      rfl
    rw [edrop]
    generalize hxx : L.getD i 0 = x at *
    have hrd : rd (up L) (i : Int) = (x : Int) := by rw [rd_up, hxx]
    have hul : ((up L).length : Int) = (L.length : Int) := by rw [up_length]
    have hw7 : wrap64 (7 * (i : Int)) = 7 * (i : Int) := wrap_in (by omega)
    have hwc : IntKind.u64.wrap (7 * (i : Int)) = 7 * (i : Int) := by rw [IntKind.wrap_u64]; omega
    have hmod : Int.tmod (x : Int) 128 = ((x % 128 : Nat) : Int) := by rw [Int.tmod_eq_emod_of_nonneg (by omega)]; omega
    have hwu : IntKind.u64.wrap ((x % 128 : Nat) : Int) = ((x % 128 : Nat) : Int) := by rw [IntKind.wrap_u64]; omega
    refine Ev.step (f := fun k => skerryref01_Get.j1 k (up L) (u : Int) (i : Int) true) (fun k => ?_) ?_
    · simp only [skerryref01_Get.l0]
      rw [hul, if_pos (by omega), decide_eq_true (p := ((i : Int) < 10)) (by omega)]
    refine Ev.step (f := fun k => skerryref01_Get.j2 k (up L) (u : Int) (i : Int) (decide (i = 9 ∧ x > 1))) (fun k => ?_) ?_
    · simp only [skerryref01_Get.j1, if_true]
      rw [hrd, hul]
      by_cases h9 : i = 9
      · rw [if_pos (by omega), if_pos (by omega), if_pos (by omega)]
        congr 1
        by_cases h1 : x > 1
        · rw [decide_eq_true (p := (i = 9 ∧ x > 1)) ⟨h9, h1⟩]; exact decide_eq_true (by omega)
        · rw [decide_eq_false (p := (i = 9 ∧ x > 1)) (by omega)]; exact decide_eq_false (by omega)
      · rw [if_neg (by omega), decide_eq_false (p := (i = 9 ∧ x > 1)) (by omega)]
    · by_cases hc : i = 9 ∧ x > 1
      · rw [decide_eq_true hc, getS, if_pos (.inl hc)]
        refine Ev.step (f := fun _ => some (0, 0)) (fun k => ?_) (Ev.now _)
        simp only [skerryref01_Get.j2, if_true]
      · rw [decide_eq_false hc, getS]
        have hs := shl_u64 (x % 128) i hi9 (by omega) (by omega) (7 * (i : Int)) rfl
        have hn := pow_next u i (x % 128) hu (by omega)
        have h70 : (2 : Nat) ^ (7 * i) * (x % 128) + u < 18446744073709551616 := by
          rcases Nat.lt_or_ge i 9 with h | h
          · have h1 : 2 ^ (7 * (i + 1)) ≤ 2 ^ 63 := Nat.pow_le_pow_right (by omega) (by omega)
            have e : (2 : Nat) ^ 63 < 18446744073709551616 := by decide
            omega
          · have : i = 9 := by omega
            subst this
            have e : (2 : Nat) ^ (7 * 9) = 9223372036854775808 := by decide
            rw [e] at hu ⊢
            have : x % 128 ≤ 1 := by omega
            have := Nat.mul_le_mul_left 9223372036854775808 this
            omega
        have hor : IntKind.u64.wrap ((u : Int) + ((2 ^ (7 * i) * (x % 128) : Nat) : Int)) = ((u + 2 ^ (7 * i) * (x % 128) : Nat) : Int) := by
          rw [IntKind.wrap_u64, ← Int.natCast_add]
          omega
        by_cases hb : x < 128
        · by_cases hz : i > 0 ∧ x = 0
          · rw [if_pos (.inr hz)]
            refine Ev.step (f := fun _ => some (0, 0)) (fun k => ?_) (Ev.now _)
            simp only [skerryref01_Get.j2]
            rw [if_neg (by simp), if_pos (by omega), hul, if_pos (by omega), hw7, hwc, if_pos (by omega), hrd, if_pos (by omega), if_pos (by omega), if_pos (by omega)]
          · rw [if_neg (by omega), if_pos hb]
            refine Ev.step (f := fun _ => some (pr (u + 2 ^ (7 * i) * (x % 128), i + 1))) (fun k => ?_) (Ev.now _)
            simp only [skerryref01_Get.j2]
            rw [if_neg (by simp), if_pos (by omega), hul, if_pos (by omega), hw7, hwc, if_pos (by omega), hrd, if_pos (by omega), hmod, hwu, hs.1, hor, wrap_in (by omega)]
            by_cases hp : i > 0
            · rw [if_pos (by omega), if_neg (by omega)]
              rfl
            · rw [if_neg (by omega)]
              rfl
        · rw [if_neg (by omega), if_neg hb]
          have h0 := ih (i + 1) (u + 2 ^ (7 * i) * (x % 128)) (by omega) (by omega) hn
          refine Ev.step (fun k => ?_) h0
          simp only [skerryref01_Get.j2]
          rw [if_neg (by simp), if_pos (by omega), hul, if_pos (by omega), hw7, hwc, if_pos (by omega), hrd, if_neg (by omega), hmod, hwu, hs.1, hor, wrap_in (by omega)]
          rfl
theorem Get_all (L : List Nat) (hL : ∀ x ∈ L, x < 256) (hlen : L.length ≤ 1000000000) : Ev (fun k => codec_Get.f k (up L)) (pr (getS L 0 0)) :=
  Get_ev L hL hlen L.length 0 0 (by omega) (by omega) (by decide)
theorem refGet_all (L : List Nat) (hL : ∀ x ∈ L, x < 256) (hlen : L.length ≤ 1000000000) : Ev (fun k => skerryref01_Get.f k (up L)) (pr (getS L 0 0)) :=
  refGet_ev L hL hlen L.length 0 0 (by omega) (by omega) (by decide)
/-- What Put writes Get reads, whatever stands behind it. -/
theorem getS_dig (v : Nat) : ∀ i u : Nat, ∀ rest : List Nat, 2 ^ (7 * i) * v < 18446744073709551616 → i ≤ 9 → (i > 0 → v > 0) → getS (digN v ++ rest) i u = (u + 2 ^ (7 * i) * v, i + (digN v).length) := by
  induction v using Nat.strongRecOn with
  | ind v ih =>
    intro i u rest hv hi hp
    have h9 : i = 9 → v ≤ 1 := by
      rintro rfl
      have : (2 : Nat) ^ (7 * 9) = 9223372036854775808 := by decide
      rw [this] at hv
      omega
    by_cases h : v < 128
    · rw [digN_lo h, List.singleton_append, getS, if_neg (by omega), if_pos h, Nat.mod_eq_of_lt h, List.length_singleton]
    · rw [digN_hi h, List.cons_append, getS, if_neg (by omega), if_neg (by omega), List.length_cons]
      have e : 2 ^ (7 * (i + 1)) = 2 ^ (7 * i) * 128 := by rw [Nat.mul_add, Nat.pow_add]
      rw [ih (v / 128) (by omega) (i + 1) _ rest (by rw [e, Nat.mul_assoc]; exact Nat.lt_of_le_of_lt (Nat.mul_le_mul_left _ (by omega)) hv) (by omega) (by omega), e]
      have e2 : (v % 128 + 128) % 128 = v % 128 := by omega
      rw [e2, Nat.mul_assoc]
      have e3 : 2 ^ (7 * i) * (v % 128) + 2 ^ (7 * i) * (128 * (v / 128)) = 2 ^ (7 * i) * v := by rw [← Nat.mul_add]; congr 1; omega
      ext
      · show u + _ + _ = _
        omega
      · show i + 1 + _ = _
        omega
theorem getS_high (L : List Nat) (h : ∀ x ∈ L, 128 ≤ x) : ∀ i u, getS L i u = (0, 0) := by
  induction L with
  | nil => intro i u; rfl
  | cons x r ih =>
    intro i u
    rw [getS]
    split
    · rfl
    · have := h x List.mem_cons_self
      rw [if_neg (by omega)]
      exact ih (fun y hy => h y (List.mem_cons_of_mem _ hy)) _ _
theorem getS_high0 (L : List Nat) (h : ∀ x ∈ L, 128 ≤ x) : ∀ i u, i > 0 ∨ L ≠ [] → getS (L ++ [0]) i u = (0, 0) := by
  induction L with
  | nil =>
    intro i u hi
    have : i > 0 := by simpa using hi
    rw [List.nil_append, getS, if_pos (.inr ⟨this, rfl⟩)]
  | cons x r ih =>
    intro i u _
    rw [List.cons_append, getS]
    split
    · rfl
    · have := h x List.mem_cons_self
      rw [if_neg (by omega)]
      exact ih (fun y hy => h y (List.mem_cons_of_mem _ hy)) _ _ (.inl (by omega))
theorem digN_byte (u : Nat) : ∀ x ∈ digN u, x < 256 := by
  induction u using Nat.strongRecOn with
  | ind u ih =>
    intro x hx
    by_cases h : u < 128
    · rw [digN_lo h, List.mem_singleton] at hx
      omega
    · rw [digN_hi h, List.mem_cons] at hx
      rcases hx with rfl | hx
      · omega
      · exact ih (u / 128) (by omega) x hx
theorem digN_ne (u : Nat) : digN u ≠ [] := by
  by_cases h : u < 128
  · rw [digN_lo h]; simp
  · rw [digN_hi h]; simp
theorem digN_pos (u : Nat) : 0 < (digN u).length := List.length_pos_iff.mpr (digN_ne u)
end Go.Proofs.Ytcopbkdlpfcjpaa.Ma
