/- Plain laws beneath the codec's statements: the sum of bytes (CRC-32), step by step, and frames. -/
import Derived.Test.YtcopbkdlpfcjpaaMb
import Derived.Test.YtcopbkdlpfcjpaaGiven
import Derived.Test.YtcopbkdlpfcjpaaBx8
import Derived.Test.YtcopbkdlpfcjpaaBx2
import Derived.Test.YtcopbkdlpfcjpaaBx3
import Derived.Test.YtcopbkdlpfcjpaaBx7
import Derived.Test.YtcopbkdlpfcjpaaBx9
import Derived.Test.YtcopbkdlpfcjpaaBx10
namespace Go.Proofs.Ytcopbkdlpfcjpaa.Ma
open Go.RowKit Go.Proofs.YtcopbkdlpfcjpaaW.PrintWords Go.Proofs.YtcopbkdlpfcjpaaW.PrintMore Go.Proofs.Ytcopbkdlpfcjpaa.B

/-- One bit's step of the sum. -/
def st (c : Nat) : Nat := c / 2 ^^^ (if c % 2 = 1 then 3988292384 else 0)
def stN : Nat → Nat → Nat
  | 0, c => c
  | n + 1, c => stN n (st c)
theorem st_lt {c : Nat} (h : c < 4294967296) : st c < 4294967296 := by
  unfold st
  exact Nat.xor_lt_two_pow (n := 32) (by omega) (by split <;> decide)
theorem stN_lt (n : Nat) : ∀ {c : Nat}, c < 4294967296 → stN n c < 4294967296 := by
  induction n with
  | zero => exact fun h => h
  | succ n ih => exact fun h => ih (st_lt h)
/-- A byte's step. -/
def byt (c x : Nat) : Nat := stN 8 (c ^^^ x)
def crcL (c : Nat) (L : List Nat) : Nat := L.foldl byt c
theorem byt_lt {c x : Nat} (h : c < 4294967296) (hx : x < 256) : byt c x < 4294967296 := stN_lt 8 (Nat.xor_lt_two_pow (n := 32) (by omega) (by omega))
theorem crcL_lt (L : List Nat) : ∀ {c : Nat}, c < 4294967296 → (∀ x ∈ L, x < 256) → crcL c L < 4294967296 := by
  induction L with
  | nil => exact fun h _ => h
  | cons x r ih => exact fun h hx => ih (byt_lt h (hx x List.mem_cons_self)) (fun y hy => hx y (List.mem_cons_of_mem _ hy))
theorem st_code (c : Nat) (h : c < 4294967296) : bits .xor .u32 ((c : Int) / 2) (bits .and .u32 3988292384 ((-(bits .and .u32 (c : Int) 1)) % 4294967296)) = ((st c : Nat) : Int) := by
  have e1 : bits .and .u32 (c : Int) 1 = ((c % 2 : Nat) : Int) := by
    rw [show (1 : Int) = ((1 : Nat) : Int) from rfl, u32_and_nat _ _ h (by omega), Nat.and_one_is_mod]
  have e2 : (c : Int) / 2 = ((c / 2 : Nat) : Int) := by omega
  rw [e1, e2]
  unfold st
  by_cases hc : c % 2 = 1
  · rw [hc, if_pos rfl]
    have e3 : (-((1 : Nat) : Int)) % 4294967296 = ((4294967295 : Nat) : Int) := by omega
    have e4 : bits .and .u32 3988292384 ((4294967295 : Nat) : Int) = ((3988292384 : Nat) : Int) := by
      rw [show (3988292384 : Int) = ((3988292384 : Nat) : Int) from rfl, u32_and_nat _ _ (by omega) (by omega)]
      congr 1
    rw [e3, e4, u32_xor_nat _ _ (by omega) (by omega)]
  · rw [show c % 2 = 0 from by omega, if_neg (by omega)]
    have e3 : (-((0 : Nat) : Int)) % 4294967296 = ((0 : Nat) : Int) := by omega
    have e4 : bits .and .u32 3988292384 ((0 : Nat) : Int) = ((0 : Nat) : Int) := by
      rw [show (3988292384 : Int) = ((3988292384 : Nat) : Int) from rfl, u32_and_nat _ _ (by omega) (by omega)]
      congr 1
    rw [e3, e4, u32_xor_nat _ _ (by omega) (by omega)]
theorem crc_bits (l : List Int) (x8 x9 : Int) (r : Int) (d : Nat) : ∀ (i c : Nat), i + d = 8 → c < 4294967296 → Ev (fun k => codec_crc.l0 k ((stN d c : Nat) : Int) l x8 (wrap64 (x9 + 1))) r → Ev (fun k => codec_crc.l1 k (c : Int) l x8 x9 (i : Int)) r := by
  induction d with
  | zero =>
    intro i c hi hc h
    refine Ev.step (fun k => ?_) h
    rw [codec_crc.l1, if_neg (by omega)]
    rfl
  | succ d ih =>
    intro i c hi hc h
    refine Ev.step (f := fun k => codec_crc.l1 k ((st c : Nat) : Int) l x8 x9 ((i + 1 : Nat) : Int)) (fun k => ?_) (ih (i + 1) (st c) (by omega) (st_lt hc) h)
    rw [codec_crc.l1, if_pos (by omega), st_code c hc, wrap_in (by omega)]
    rfl
theorem crc_ev (L : List Nat) (hL : ∀ x ∈ L, x < 256) (hlen : L.length ≤ 1000000000) (d : Nat) : ∀ i c : Nat, i + d = L.length → c < 4294967296 → Ev (fun k => codec_crc.l0 k (c : Int) (up L) ((up L).length : Int) (i : Int)) ((crcL c (L.drop i) : Nat) : Int) := by
  induction d with
  | zero =>
    intro i c hd _
    rw [List.drop_eq_nil_of_le (by omega)]
    refine Ev.step (f := fun _ => some (c : Int)) (fun k => ?_) (Ev.now _)
    rw [codec_crc.l0, if_neg (by rw [up_length]; omega)]
  | succ d ih =>
    intro i c hd hc
    have hlt : i < L.length := by omega
    have hx : L.getD i 0 < 256 := by
      rw [List.getD_eq_getElem?_getD, List.getElem?_eq_getElem hlt]
      exact hL _ (List.getElem_mem hlt)
    have edrop : L.drop i = L.getD i 0 :: L.drop (i + 1) := by
      rw [List.drop_eq_getElem_cons hlt, List.getD_eq_getElem?_getD, List.getElem?_eq_getElem hlt]
      rfl
    have hxc : c ^^^ L.getD i 0 < 4294967296 := Nat.xor_lt_two_pow (n := 32) (by omega) (by omega)
    rw [edrop]
    show Ev _ ((crcL (byt c (L.getD i 0)) (L.drop (i + 1)) : Nat) : Int)
    refine Ev.step (f := fun k => codec_crc.l1 k ((c ^^^ L.getD i 0 : Nat) : Int) (up L) ((up L).length : Int) (i : Int) ((0 : Nat) : Int)) (fun k => ?_) (crc_bits (up L) _ (i : Int) _ 8 0 (c ^^^ L.getD i 0) (by omega) hxc ?_)
    · have e : ((L.getD i 0 : Nat) : Int) % 4294967296 = ((L.getD i 0 : Nat) : Int) := by omega
      rw [codec_crc.l0, rd_up, e, u32_xor_nat _ _ hc (by omega), if_pos (by rw [up_length]; omega), if_pos (by omega), if_pos (by rw [up_length]; omega)]
      rfl
    · rw [wrap_in (by omega)]
      exact ih (i + 1) (byt c (L.getD i 0)) (by omega) (byt_lt hc hx)
theorem crc_all (L : List Nat) (hL : ∀ x ∈ L, x < 256) (hlen : L.length ≤ 1000000000) (c : Nat) (hc : c < 4294967296) : Ev (fun k => codec_crc.f k (c : Int) (up L)) ((crcL c L : Nat) : Int) :=
  crc_ev L hL hlen L.length 0 c (by omega) hc
/-- The sum of bytes. -/
def sumL (L : List Nat) : Nat := 4294967295 - crcL 4294967295 L
theorem turn32 (c : Nat) (h : c < 4294967296) : bits .xor .u32 4294967295 (c : Int) = ((4294967295 - c : Nat) : Int) := by
  rw [show (4294967295 : Int) = ((4294967295 : Nat) : Int) from rfl, u32_xor_nat _ _ (by omega) h, Nat.xor_comm, xor_ones32 c h]
theorem Sum_ev (L : List Nat) (hL : ∀ x ∈ L, x < 256) (hlen : L.length ≤ 1000000000) : Ev (fun k => codec_Sum.f k (up L)) ((sumL L : Nat) : Int) := by
  unfold codec_Sum.f
  refine Ev.bind (f := fun _ t => some (bits .xor .u32 4294967295 t)) (crc_all L hL hlen 4294967295 (by omega)) ?_
  rw [turn32 _ (crcL_lt L (by omega) hL)]
  exact Ev.now _
theorem crcL_append (c : Nat) (A B : List Nat) : crcL c (A ++ B) = crcL (crcL c A) B := List.foldl_append
theorem seal_ev (A B : List Nat) (hA : ∀ x ∈ A, x < 256) (hB : ∀ x ∈ B, x < 256) (hlA : A.length ≤ 1000000000) (hlB : B.length ≤ 1000000000) : Ev (fun k => codec_seal.f k (up A) (up B)) ((sumL (A ++ B) : Nat) : Int) := by
  unfold codec_seal.f
  refine Ev.bind (crc_all A hA hlA 4294967295 (by omega)) ?_
  refine Ev.bind (f := fun _ t => some (bits .xor .u32 4294967295 t)) (crc_all B hB hlB _ (crcL_lt A (by omega) hA)) ?_
  rw [turn32 _ (crcL_lt B (crcL_lt A (by omega) hA) hB), ← crcL_append]
  exact Ev.now _
/-! ### the reference's sum -/
theorem st_turn (r y : Nat) : st (r ^^^ y) = (r / 2 ^^^ (if (r ^^^ y) % 2 = 1 then 3988292384 else 0)) ^^^ (y / 2) := by
  unfold st
  have e : (r ^^^ y) / 2 = r / 2 ^^^ y / 2 := by
    have q : ∀ m : Nat, m >>> 1 = m / 2 := fun m => by rw [Nat.shiftRight_eq_div_pow]
    rw [← q, ← q, ← q, Nat.shiftRight_xor_distrib]
  rw [e, Nat.xor_assoc, Nat.xor_assoc, Nat.xor_comm (y / 2)]
theorem shr_u8 (x i : Nat) (_hx : x < 256) (hi : i ≤ 8) : shr .u8 (x : Int) (i : Int) = ((x / 2 ^ i : Nat) : Int) := by
  unfold shr
  have e : min ((i : Int).toNat) (IntKind.bits .u8) = i := by
    have : IntKind.bits .u8 = 8 := rfl
    rw [this]
    omega
  rw [e]
  push_cast
  rfl
theorem poly_xor (c : Nat) (h : c < 4294967296) : bits .xor .u32 (c : Int) 3988292384 = ((c ^^^ 3988292384 : Nat) : Int) := by
  rw [show (3988292384 : Int) = ((3988292384 : Nat) : Int) from rfl, u32_xor_nat _ _ h (by omega)]
theorem refsum_bits (l : List Int) (x9 x10 : Int) (res : Int) (x : Nat) (hx : x < 256) (d : Nat) : ∀ (i r : Nat), i + d = 8 → r < 4294967296 → Ev (fun k => skerryref01_Sum.l0 k ((stN d (r ^^^ x / 2 ^ i) : Nat) : Int) l x9 (wrap64 (x10 + 1))) res → Ev (fun k => skerryref01_Sum.l1 k (r : Int) (x : Int) (i : Int) l x9 x10) res := by
  induction d with
  | zero =>
    intro i r hi hr h
    have hi8 : i = 8 := by omega
    subst hi8
    refine Ev.step (fun k => ?_) h
    have e : x / 2 ^ 8 = 0 := by
      have : (2 : Nat) ^ 8 = 256 := by decide
      rw [this]; omega
    rw [skerryref01_Sum.l1, if_neg (by omega), e, Nat.xor_zero]
    rfl
  | succ d ih =>
    intro i r hi hr h
    have c1 : (i : Int) < 8 := by omega
    have c2 : (0 : Int) ≤ (i : Int) := by omega
    have c3 : i ≤ 8 := by omega
    have c4 : IntKind.u64.wrap (i : Int) = (i : Int) := by rw [IntKind.wrap_u64]; omega
    have c5 : wrap64 ((i : Int) + 1) = ((i + 1 : Nat) : Int) := by rw [wrap_in (by omega)]; omega
    have c6 : i + 1 + d = 8 := by omega
    have hy : x / 2 ^ i < 256 := Nat.lt_of_le_of_lt (Nat.div_le_self _ _) hx
    have e2 : x / 2 ^ (i + 1) = x / 2 ^ i / 2 := by rw [Nat.pow_succ, Nat.div_div_eq_div_mul]
    have hr2 : (r / 2 ^^^ (if (r ^^^ x / 2 ^ i) % 2 = 1 then 3988292384 else 0)) < 4294967296 := Nat.xor_lt_two_pow (n := 32) (by omega) (by split <;> decide)
    have hst : st (r ^^^ x / 2 ^ i) = (r / 2 ^^^ (if (r ^^^ x / 2 ^ i) % 2 = 1 then 3988292384 else 0)) ^^^ x / 2 ^ (i + 1) := by rw [st_turn, e2]
    refine Ev.step (f := fun k => skerryref01_Sum.l1 k (((r / 2 ^^^ (if (r ^^^ x / 2 ^ i) % 2 = 1 then 3988292384 else 0)) : Nat) : Int) (x : Int) ((i + 1 : Nat) : Int) l x9 x10) (fun k => ?_) (ih (i + 1) _ c6 hr2 (by rw [← hst]; exact h))
    have em : ((x / 2 ^ i : Nat) : Int) % 4294967296 = ((x / 2 ^ i : Nat) : Int) := by
      generalize x / 2 ^ i = y at hy
      omega
    have eh : (r : Int) / 2 = ((r / 2 : Nat) : Int) := by omega
    have ea : bits .and .u32 (bits .xor .u32 (r : Int) ((x / 2 ^ i : Nat) : Int)) 1 = (((r ^^^ x / 2 ^ i) % 2 : Nat) : Int) := by
      rw [u32_xor_nat _ _ hr (Nat.lt_trans hy (by decide)), show (1 : Int) = ((1 : Nat) : Int) from rfl, u32_and_nat _ _ (Nat.xor_lt_two_pow (n := 32) hr (Nat.lt_trans hy (by decide))) (by decide), Nat.and_one_is_mod]
    rw [skerryref01_Sum.l1, if_pos c1, c4, if_pos c2, shr_u8 x i hx c3, em, ea, c5, eh]
    by_cases hb : (r ^^^ x / 2 ^ i) % 2 = 1
    · have eq : (if (r ^^^ x / 2 ^ i) % 2 = 1 then 3988292384 else 0) = 3988292384 := if_pos hb
      have ec : (((r ^^^ x / 2 ^ i) % 2 : Nat) : Int) = 1 := by rw [hb]; rfl
      rw [eq, ec, if_pos rfl, poly_xor _ (Nat.lt_of_le_of_lt (Nat.div_le_self _ _) hr)]
    · have eq : (if (r ^^^ x / 2 ^ i) % 2 = 1 then 3988292384 else 0) = 0 := if_neg hb
      have ec : ¬ (((r ^^^ x / 2 ^ i) % 2 : Nat) : Int) = 1 := by
        generalize (r ^^^ x / 2 ^ i) = y at hb
        omega
      rw [eq, if_neg ec, Nat.xor_zero]
theorem refsum_ev (L : List Nat) (hL : ∀ x ∈ L, x < 256) (hlen : L.length ≤ 1000000000) (d : Nat) : ∀ i c : Nat, i + d = L.length → c < 4294967296 → Ev (fun k => skerryref01_Sum.l0 k (c : Int) (up L) ((up L).length : Int) (i : Int)) ((4294967295 - crcL c (L.drop i) : Nat) : Int) := by
  induction d with
  | zero =>
    intro i c hd hc
    rw [List.drop_eq_nil_of_le (by omega)]
    refine Ev.step (f := fun _ => some ((4294967295 - c : Nat) : Int)) (fun k => ?_) (Ev.now _)
    rw [skerryref01_Sum.l0, if_neg (by rw [up_length]; omega), show (4294967295 : Int) = ((4294967295 : Nat) : Int) from rfl, u32_xor_nat _ _ hc (by omega), xor_ones32 c hc]
  | succ d ih =>
    intro i c hd hc
    have hlt : i < L.length := by omega
    have hx : L.getD i 0 < 256 := by
      rw [List.getD_eq_getElem?_getD, List.getElem?_eq_getElem hlt]
      exact hL _ (List.getElem_mem hlt)
    have edrop : L.drop i = L.getD i 0 :: L.drop (i + 1) := by
      rw [List.drop_eq_getElem_cons hlt, List.getD_eq_getElem?_getD, List.getElem?_eq_getElem hlt]
      rfl
    rw [edrop]
    show Ev _ ((4294967295 - crcL (byt c (L.getD i 0)) (L.drop (i + 1)) : Nat) : Int)
    have e0 : L.getD i 0 / 2 ^ 0 = L.getD i 0 := by rw [Nat.pow_zero, Nat.div_one]
    refine Ev.step (f := fun k => skerryref01_Sum.l1 k (c : Int) ((L.getD i 0 : Nat) : Int) ((0 : Nat) : Int) (up L) ((up L).length : Int) (i : Int)) (fun k => ?_) (refsum_bits (up L) _ (i : Int) _ (L.getD i 0) hx 8 0 c (by omega) hc ?_)
    · rw [skerryref01_Sum.l0, rd_up, if_pos (by rw [up_length]; omega), if_pos (by omega), if_pos (by rw [up_length]; omega)]
      rfl
    · rw [wrap_in (by omega), e0]
      exact ih (i + 1) (byt c (L.getD i 0)) (by omega) (byt_lt hc hx)
theorem refSum_ev (L : List Nat) (hL : ∀ x ∈ L, x < 256) (hlen : L.length ≤ 1000000000) : Ev (fun k => skerryref01_Sum.f k (up L)) ((sumL L : Nat) : Int) :=
  refsum_ev L hL hlen L.length 0 4294967295 (by omega) (by omega)
theorem sumL_lt (L : List Nat) : sumL L < 4294967296 := by unfold sumL; omega
/-! ### a number in four bytes -/
def fourL (n : Nat) : List Nat := [n / 16777216 % 256, n / 65536 % 256, n / 256 % 256, n % 256]
def fourN (L : List Nat) : Nat := ((L.getD 0 0 * 256 + L.getD 1 0) * 256 + L.getD 2 0) * 256 + L.getD 3 0
theorem fourN_fourL (n : Nat) (h : n < 4294967296) (R : List Nat) : fourN (fourL n ++ R) = n := by
  unfold fourN fourL
  simp
  omega
theorem fourL_byte (n : Nat) : ∀ x ∈ fourL n, x < 256 := by
  unfold fourL
  intro x hx
  simp at hx
  omega
theorem fourL_len (n : Nat) : (fourL n).length = 4 := rfl
theorem four_up (n : Nat) : ([((n : Int) / 16777216) % 256, ((n : Int) / 65536) % 256, ((n : Int) / 256) % 256, (n : Int) % 256] : List Int) = up (fourL n) := by
  unfold up fourL
  simp
theorem four_eq (l : List Int) (n : Nat) (h : l.length ≤ 1000000000) : codec_four.f l (n : Int) = some (l ++ up (fourL n)) := by
  unfold codec_four.f
  simp only [Option.bind_some]
  rw [four_up, if_pos (by rw [up_length, fourL_len]; omega)]
theorem refFour_eq (n : Nat) : skerryref01_Four.f (n : Int) = some (up (fourL n)) := by
  unfold skerryref01_Four.f
  rw [four_up]
theorem or_next (n x : Nat) (hx : x < 256) : n * 256 ||| x = n * 256 + x := by
  have h := Nat.two_pow_add_eq_or_of_lt (i := 8) (b := x) (by omega) n
  have e : 2 ^ 8 * n = n * 256 := by rw [Nat.mul_comm]
  rw [e] at h
  exact h.symm
theorem byte_at (L : List Nat) (hL : ∀ x ∈ L, x < 256) (i : Nat) : L.getD i 0 < 256 := by
  rw [List.getD_eq_getElem?_getD]
  rcases Nat.lt_or_ge i L.length with h | h
  · rw [List.getElem?_eq_getElem h]
    exact hL _ (List.getElem_mem h)
  · rw [List.getElem?_eq_none h]
    show 0 < 256
    omega
theorem or_code (n x : Nat) (hn : n < 16777216) (hx : x < 256) : bits .or .u32 ((n : Int) * 256 % 4294967296) ((x : Int) % 4294967296) = ((n * 256 + x : Nat) : Int) := by
  have e1 : (n : Int) * 256 % 4294967296 = ((n * 256 : Nat) : Int) := by omega
  have e2 : (x : Int) % 4294967296 = (x : Int) := by omega
  have h1 : n * 256 < 4294967296 := by omega
  have h2 : x < 4294967296 := by omega
  rw [e1, e2, u32_or_nat _ _ h1 h2, or_next _ _ hx]
theorem fourth_step (L : List Nat) (hL : ∀ x ∈ L, x < 256) (k n : Nat) (i : Nat) (h4 : L.length = 4) (hi : i < 4) (hn : n < 16777216) : codec_fourth.l0 (k + 1) (n : Int) (up L) ((up L).length : Int) (i : Int) = codec_fourth.l0 k ((n * 256 + L.getD i 0 : Nat) : Int) (up L) ((up L).length : Int) ((i + 1 : Nat) : Int) := by
  have hb := byte_at L hL i
  have e3 : wrap64 ((i : Int) + 1) = ((i + 1 : Nat) : Int) := by rw [wrap_in (by omega)]; omega
  rw [codec_fourth.l0, rd_up, if_pos (by rw [up_length]; omega), if_pos (by omega), if_pos (by rw [up_length]; omega), or_code n _ hn hb, e3]
theorem getD_take4 (L : List Nat) (i : Nat) (hi : i < 4) : (L.take 4).getD i 0 = L.getD i 0 := by
  rw [List.getD_eq_getElem?_getD, List.getD_eq_getElem?_getD, List.getElem?_take_of_lt hi]
theorem fourth_ev (L : List Nat) (hL : ∀ x ∈ L, x < 256) (h4 : 4 ≤ L.length) : Ev (fun k => codec_fourth.f k (up L)) ((fourN L : Nat) : Int) := by
  have hT : ∀ x ∈ L.take 4, x < 256 := fun x hx => hL x (List.mem_of_mem_take hx)
  have hl : (L.take 4).length = 4 := by rw [List.length_take]; omega
  have b0 := byte_at _ hT 0
  have b1 := byte_at _ hT 1
  have b2 := byte_at _ hT 2
  have b3 := byte_at _ hT 3
  refine Ev.congr (f := fun k => codec_fourth.l0 k ((0 : Nat) : Int) (up (L.take 4)) ((up (L.take 4)).length : Int) ((0 : Nat) : Int)) (fun k => ?_) ?_
  · unfold codec_fourth.f
    rw [if_pos (by rw [up_length]; omega), up_take]
    rfl
  · refine Ev.step (fun k => fourth_step _ hT k 0 0 hl (by omega) (by omega)) ?_
    refine Ev.step (fun k => fourth_step _ hT k _ 1 hl (by omega) (by omega)) ?_
    refine Ev.step (fun k => fourth_step _ hT k _ 2 hl (by omega) (by omega)) ?_
    refine Ev.step (fun k => fourth_step _ hT k _ 3 hl (by omega) (by omega)) ?_
    refine Ev.step (f := fun _ => some ((fourN L : Nat) : Int)) (fun k => ?_) (Ev.now _)
    rw [codec_fourth.l0, if_neg (by rw [up_length]; omega)]
    unfold fourN
    rw [getD_take4 L 0 (by omega), getD_take4 L 1 (by omega), getD_take4 L 2 (by omega), getD_take4 L 3 (by omega), Nat.zero_mul, Nat.zero_add]
theorem or_p24 (a y : Nat) (hy : y < 16777216) : a * 16777216 ||| y = a * 16777216 + y := by
  have h := Nat.two_pow_add_eq_or_of_lt (i := 24) (b := y) hy a
  have e : 2 ^ 24 * a = a * 16777216 := Nat.mul_comm _ _
  rw [e] at h
  exact h.symm
theorem or_p16 (a y : Nat) (hy : y < 65536) : a * 65536 ||| y = a * 65536 + y := by
  have h := Nat.two_pow_add_eq_or_of_lt (i := 16) (b := y) hy a
  have e : 2 ^ 16 * a = a * 65536 := Nat.mul_comm _ _
  rw [e] at h
  exact h.symm
theorem lt_a (a : Nat) (h : a < 256) : a * 16777216 < 4294967296 := by omega
theorem lt_b (a : Nat) (h : a < 256) : a * 65536 < 4294967296 := by omega
theorem lt_c (a : Nat) (h : a < 256) : a * 256 < 4294967296 := by omega
theorem lt_d (a : Nat) (h : a < 256) : a < 4294967296 := by omega
theorem lt_e (a b : Nat) (h : a < 256) (h1 : b < 256) : (a * 256 + b) * 65536 < 4294967296 := by omega
theorem lt_f (a b c : Nat) (h : a < 256) (h1 : b < 256) (h2 : c < 256) : ((a * 256 + b) * 256 + c) * 256 < 4294967296 := by omega
theorem lt_g (a : Nat) (h : a < 256) : a * 65536 < 16777216 := by omega
theorem lt_h (a : Nat) (h : a < 256) : a * 256 < 65536 := by omega
theorem or_three (a b c d : Nat) (h0 : a < 256) (h1 : b < 256) (h2 : c < 256) (h3 : d < 256) :
    bits .or .u32 (bits .or .u32 (bits .or .u32 (((a : Int) % 4294967296 * 16777216) % 4294967296) (((b : Int) % 4294967296 * 65536) % 4294967296)) (((c : Int) % 4294967296 * 256) % 4294967296)) ((d : Int) % 4294967296) = ((((a * 256 + b) * 256 + c) * 256 + d : Nat) : Int) := by
  have l0 := lt_a a h0
  have l1 := lt_b b h1
  have l2 := lt_c c h2
  have l3 := lt_d d h3
  have l4 := lt_e a b h0 h1
  have l5 := lt_f a b c h0 h1 h2
  have p1 := lt_g b h1
  have p2 := lt_h c h2
  have e0 : ((a : Int) % 4294967296 * 16777216) % 4294967296 = ((a * 16777216 : Nat) : Int) := by clear l0 l1 l2 l3 l4 l5 p1 p2; omega
  have e1 : ((b : Int) % 4294967296 * 65536) % 4294967296 = ((b * 65536 : Nat) : Int) := by clear l0 l1 l2 l3 l4 l5 p1 p2 e0; omega
  have e2 : ((c : Int) % 4294967296 * 256) % 4294967296 = ((c * 256 : Nat) : Int) := by clear l0 l1 l2 l3 l4 l5 p1 p2 e0 e1; omega
  have e3 : (d : Int) % 4294967296 = (d : Int) := by clear l0 l1 l2 l3 l4 l5 p1 p2 e0 e1 e2; omega
  have s1 : a * 16777216 + b * 65536 = (a * 256 + b) * 65536 := by clear l0 l1 l2 l3 l4 l5 p1 p2 e0 e1 e2 e3; omega
  have s2 : (a * 256 + b) * 65536 + c * 256 = ((a * 256 + b) * 256 + c) * 256 := by clear l0 l1 l2 l3 l4 l5 p1 p2 e0 e1 e2 e3 s1; omega
  rw [e0, e1, e2, e3, u32_or_nat _ _ l0 l1, or_p24 _ _ p1, s1, u32_or_nat _ _ l4 l2, or_p16 _ _ p2, s2, u32_or_nat _ _ l5 l3, or_next _ _ h3]
theorem refFourth_eq (L : List Nat) (hL : ∀ x ∈ L, x < 256) (h4 : 4 ≤ L.length) : skerryref01_Fourth.f (up L) = some ((fourN L : Nat) : Int) := by
  have b0 := byte_at _ hL 0
  have b1 := byte_at _ hL 1
  have b2 := byte_at _ hL 2
  have b3 := byte_at _ hL 3
  have r0 : rd (up L) 0 = ((L.getD 0 0 : Nat) : Int) := rd_up L 0
  have r1 : rd (up L) 1 = ((L.getD 1 0 : Nat) : Int) := rd_up L 1
  have r2 : rd (up L) 2 = ((L.getD 2 0 : Nat) : Int) := rd_up L 2
  have r3 : rd (up L) 3 = ((L.getD 3 0 : Nat) : Int) := rd_up L 3
  unfold skerryref01_Fourth.f fourN
  rw [r0, r1, r2, r3, if_pos (by rw [up_length]; omega), if_pos (by rw [up_length]; omega), if_pos (by rw [up_length]; omega), if_pos (by rw [up_length]; omega)]
  generalize L.getD 0 0 = a at *
  generalize L.getD 1 0 = b at *
  generalize L.getD 2 0 = c at *
  generalize L.getD 3 0 = d at *
  rw [or_three a b c d b0 b1 b2 b3]
/-! ### frames -/
def frameL (L : List Nat) : List Nat := fourL L.length ++ fourL (sumL (fourL L.length ++ L)) ++ L
/-- What both frames' last steps answer. -/
def endF (a b : List Int) : Option (List Int) := if a.length + b.length < 140737488355328 then some (a ++ b) else none
theorem endF_some (a b : List Int) (h : a.length + b.length < 140737488355328) : endF a b = some (a ++ b) := if_pos h
theorem Frame_ev (L : List Nat) (hL : ∀ x ∈ L, x < 256) (hlen : L.length ≤ 262144) : Ev (fun k => codec_Frame.f k (up L)) (up (frameL L)) := by
  have em : (L.length : Int) % 4294967296 = (L.length : Int) := by omega
  have hl : (up L).length = L.length := up_length L
  refine Ev.congr (f := fun k => (codec_seal.f k (up (fourL L.length)) (up L)).bind fun t => (codec_four.f (up (fourL L.length)) t).bind fun u => endF u (up L)) (fun k => ?_) ?_
  · unfold codec_Frame.f endF
    rw [hl, if_neg (by omega), wrap_in (by omega), if_pos (by omega), if_pos (by omega), em, four_eq [] L.length (by simp)]
    simp only [Option.bind_some, List.nil_append]
  · refine Ev.bind (seal_ev (fourL L.length) L (fourL_byte _) hL (by rw [fourL_len]; omega) (by omega)) ?_
    refine Ev.congr (fun k => ?_) (Ev.now _)
    rw [four_eq _ _ (by rw [up_length, fourL_len]; omega), Option.bind_some, endF_some _ _ (by rw [List.length_append, up_length, up_length, up_length, fourL_len, fourL_len]; omega), ← up_append, ← up_append]
    rfl
theorem refFrame_ev (L : List Nat) (hL : ∀ x ∈ L, x < 256) (hlen : L.length ≤ 262144) : Ev (fun k => skerryref01_Frame.f k (up L)) (up (frameL L)) := by
  have em : (L.length : Int) % 4294967296 = (L.length : Int) := by omega
  have hl : (up L).length = L.length := up_length L
  have hf : (up (fourL L.length)).length = 4 := by rw [up_length, fourL_len]
  refine Ev.congr (f := fun k => (skerryref01_Sum.f k (up (fourL L.length ++ L))).bind fun t => (skerryref01_Four.f t).bind fun u => (endF (up (fourL L.length)) u).bind fun v => endF v (up L)) (fun k => ?_) ?_
  · unfold skerryref01_Frame.f endF
    rw [hl, if_neg (by omega), em, refFour_eq]
    simp only [Option.bind_some, List.nil_append, hf, List.length_nil]
    rw [if_pos (by omega), if_pos (by omega), up_append]
    congr 1
  · refine Ev.bind (refSum_ev _ (fun x hx => ?_) (by rw [List.length_append, fourL_len]; omega)) ?_
    · rcases List.mem_append.1 hx with h | h
      · exact fourL_byte _ x h
      · exact hL x h
    · refine Ev.congr (fun k => ?_) (Ev.now _)
      rw [refFour_eq, Option.bind_some, endF_some _ _ (by rw [up_length, up_length, fourL_len, fourL_len]; omega), Option.bind_some, endF_some _ _ (by rw [List.length_append, up_length, up_length, up_length, fourL_len, fourL_len]; omega), ← up_append, ← up_append]
      rfl
/-- What the frame is that bytes begin with: the content, how long it is, the error. -/
def unf (L : List Nat) : List Nat × Nat × Nat :=
  if L.length < 8 then ([], 0, 10) else if fourN L > 262144 then ([], 0, 6) else if fourN L > L.length - 8 then ([], 0, 10) else
  if sumL (L.take 4 ++ (L.take (8 + fourN L)).drop 8) = fourN (L.drop 4) then ((L.take (8 + fourN L)).drop 8, fourN L + 8, 0) else ([], 0, 8)
def pr3 (p : List Nat × Nat × Nat) : List Int × Int × Int := (up p.1, (p.2.1 : Int), (p.2.2 : Int))
theorem fourN_lt (L : List Nat) (hL : ∀ x ∈ L, x < 256) : fourN L < 4294967296 := by
  have b0 := byte_at _ hL 0
  have b1 := byte_at _ hL 1
  have b2 := byte_at _ hL 2
  have b3 := byte_at _ hL 3
  unfold fourN
  omega
/-- What codec.Unframe answers behind the count. -/
def unfC (k : Nat) (l0 : List Int) (t177 : Int) : Option (List Int × Int × Int) := if (wrap64 (t177)) > 262144 then (some (([] : List Int), 0, 6)) else (if (wrap64 (t177)) > (wrap64 ((l0.length : Int) - 8)) then (some (([] : List Int), 0, 10)) else (if 4 ≤ (l0.length : Int) then (if 8 ≤ (wrap64 (8 + (wrap64 (t177)))) then (if (wrap64 (8 + (wrap64 (t177)))) ≤ (l0.length : Int) then ((some ((l0.take ((wrap64 (8 + (wrap64 (t177)))) : Int).toNat).drop 8 : List Int)).bind fun y182 => ((codec_seal.f k (l0.take 4) y182).bind fun t186 => ((codec_fourth.f k (l0.drop 4)).bind fun t191 => (if t186 = t191 then (if ([] : List Int).length + y182.length < 140737488355328 then (some ((([] : List Int) ++ y182), wrap64 ((wrap64 (t177)) + 8), 0)) else (none)) else (some (([] : List Int), 0, 8)))))) else (none)) else (none)) else (none)))
def unfC2 (y : List Int) (n : Int) (a b : Int) : Option (List Int × Int × Int) := if a = b then (if y.length < 140737488355328 then some (y, n + 8, 0) else none) else some ([], 0, 8)
theorem Unframe_ev (L : List Nat) (hL : ∀ x ∈ L, x < 256) (hlen : L.length ≤ 1000000000) : Ev (fun k => codec_Unframe.f k (up L)) (pr3 (unf L)) := by
  have hl : (up L).length = L.length := up_length L
  unfold unf
  by_cases h8 : L.length < 8
  · rw [if_pos h8]
    refine Ev.congr (fun k => ?_) (Ev.now _)
    unfold codec_Unframe.f
    rw [if_pos (by omega)]
    rfl
  · have hn := fourN_lt L hL
    rw [if_neg h8]
    refine Ev.congr (f := fun k => (codec_fourth.f k (up L)).bind fun t => unfC k (up L) t) (fun k => ?_) (Ev.bind (fourth_ev L hL (by omega)) ?_)
    · unfold codec_Unframe.f unfC
      rw [if_neg (by omega)]
    by_cases h6 : fourN L > 262144
    · rw [if_pos h6]
      refine Ev.congr (fun k => ?_) (Ev.now _)
      unfold unfC
      rw [wrap_in (n := ((fourN L : Nat) : Int)) (by omega), if_pos (by omega)]
      rfl
    · rw [if_neg h6]
      by_cases h10 : fourN L > L.length - 8
      · rw [if_pos h10]
        refine Ev.congr (fun k => ?_) (Ev.now _)
        unfold unfC
        rw [wrap_in (n := ((fourN L : Nat) : Int)) (by omega), if_neg (by omega), hl, wrap_in (n := (L.length : Int) - 8) (by omega), if_pos (by omega)]
        rfl
      · rw [if_neg h10]
        have et : (8 + ((fourN L : Nat) : Int)).toNat = 8 + fourN L := by omega
        have hsub : ∀ x ∈ (L.take (8 + fourN L)).drop 8, x < 256 := fun x hx => hL x (List.mem_of_mem_take (List.mem_of_mem_drop hx))
        have hy : (up ((L.take (8 + fourN L)).drop 8)).length < 140737488355328 := by rw [up_length, List.length_drop, List.length_take]; omega
        refine Ev.congr (f := fun k => (codec_seal.f k (up (L.take 4)) (up ((L.take (8 + fourN L)).drop 8))).bind fun a => (codec_fourth.f k (up (L.drop 4))).bind fun b => unfC2 (up ((L.take (8 + fourN L)).drop 8)) ((fourN L : Nat) : Int) a b) (fun k => ?_) ?_
        · unfold unfC unfC2
          rw [wrap_in (n := ((fourN L : Nat) : Int)) (by omega), if_neg (by omega), hl, wrap_in (n := (L.length : Int) - 8) (by omega), if_neg (by omega), if_pos (by omega), wrap_in (n := 8 + ((fourN L : Nat) : Int)) (by omega), if_pos (by omega), if_pos (by omega), et, up_take, up_drop, up_take, up_drop, wrap_in (n := ((fourN L : Nat) : Int) + 8) (by omega)]
          simp only [Option.bind_some, List.nil_append, List.length_nil, Nat.zero_add]
        · refine Ev.bind (seal_ev (L.take 4) _ (fun x hx => hL x (List.mem_of_mem_take hx)) hsub (by rw [List.length_take]; omega) (by rw [List.length_drop, List.length_take]; omega)) ?_
          refine Ev.bind (fourth_ev (L.drop 4) (fun x hx => hL x (List.mem_of_mem_drop hx)) (by rw [List.length_drop]; omega)) ?_
          refine Ev.congr (fun k => ?_) (Ev.now _)
          unfold unfC2
          by_cases hs : sumL (L.take 4 ++ (L.take (8 + fourN L)).drop 8) = fourN (L.drop 4)
          · rw [if_pos hs, if_pos (by rw [hs]), if_pos hy]
            rfl
          · rw [if_neg hs, if_neg (fun h => hs (Int.natCast_inj.1 h))]
            rfl
/-- What the reference's Unframe answers behind the count. -/
def unfR (k : Nat) (l0 : List Int) (t204 : Int) : Option (List Int × Int × Int) := if (wrap64 (t204)) > 262144 then (some (([] : List Int), 0, 6)) else (if (wrap64 ((l0.length : Int) - 8)) < (wrap64 (t204)) then (some (([] : List Int), 0, 10)) else ((some (([] : List Int) : List Int)).bind fun y205 => (if 8 ≤ (wrap64 (8 + (wrap64 (t204)))) then (if (wrap64 (8 + (wrap64 (t204)))) ≤ (l0.length : Int) then (if y205.length + ((l0.take ((wrap64 (8 + (wrap64 (t204)))) : Int).toNat).drop 8).length < 140737488355328 then ((some (y205 ++ ((l0.take ((wrap64 (8 + (wrap64 (t204)))) : Int).toNat).drop 8) : List Int)).bind fun y209 => ((some (([] : List Int) : List Int)).bind fun y212 => (if 4 ≤ (l0.length : Int) then (if y212.length + (l0.take 4).length < 140737488355328 then ((some (y212 ++ (l0.take 4) : List Int)).bind fun y216 => (if y216.length + y209.length < 140737488355328 then ((skerryref01_Sum.f k (y216 ++ y209)).bind fun t222 => (if 4 ≤ 8 then (if 8 ≤ (l0.length : Int) then ((skerryref01_Fourth.f ((l0.take 8).drop 4)).bind fun t224 => (if t222 = t224 then (some (y209, wrap64 ((wrap64 (t204)) + 8), 0)) else (some (([] : List Int), 0, 8)))) else (none)) else (none))) else (none))) else (none)) else (none)))) else (none)) else (none)) else (none))))
def unfR2 (y : List Int) (n : Int) (a b : Int) : Option (List Int × Int × Int) := if a = b then some (y, n + 8, 0) else some ([], 0, 8)
theorem fourN_take (L : List Nat) : fourN ((L.take 8).drop 4) = fourN (L.drop 4) := by
  unfold fourN
  simp only [List.getD_eq_getElem?_getD, List.getElem?_drop]
  rw [List.getElem?_take_of_lt (by omega), List.getElem?_take_of_lt (by omega), List.getElem?_take_of_lt (by omega), List.getElem?_take_of_lt (by omega)]
theorem refUnframe_ev (L : List Nat) (hL : ∀ x ∈ L, x < 256) (hlen : L.length ≤ 1000000000) : Ev (fun k => skerryref01_Unframe.f k (up L)) (pr3 (unf L)) := by
  have hl : (up L).length = L.length := up_length L
  unfold unf
  by_cases h8 : L.length < 8
  · rw [if_pos h8]
    refine Ev.congr (fun k => ?_) (Ev.now _)
    unfold skerryref01_Unframe.f
    rw [if_pos (by omega)]
    rfl
  · have hn := fourN_lt L hL
    rw [if_neg h8]
    refine Ev.congr (f := fun k => unfR k (up L) ((fourN L : Nat) : Int)) (fun k => ?_) ?_
    · unfold skerryref01_Unframe.f
      rw [if_neg (by omega), refFourth_eq L hL (by omega), Option.bind_some]
      rfl
    by_cases h6 : fourN L > 262144
    · rw [if_pos h6]
      refine Ev.congr (fun k => ?_) (Ev.now _)
      unfold unfR
      rw [wrap_in (n := ((fourN L : Nat) : Int)) (by omega), if_pos (by omega)]
      rfl
    · rw [if_neg h6]
      by_cases h10 : fourN L > L.length - 8
      · rw [if_pos h10]
        refine Ev.congr (fun k => ?_) (Ev.now _)
        unfold unfR
        rw [wrap_in (n := ((fourN L : Nat) : Int)) (by omega), if_neg (by omega), hl, wrap_in (n := (L.length : Int) - 8) (by omega), if_pos (by omega)]
        rfl
      · rw [if_neg h10]
        have et : (8 + ((fourN L : Nat) : Int)).toNat = 8 + fourN L := by omega
        have hsub : ∀ x ∈ (L.take (8 + fourN L)).drop 8, x < 256 := fun x hx => hL x (List.mem_of_mem_take (List.mem_of_mem_drop hx))
        have hy : (up ((L.take (8 + fourN L)).drop 8)).length ≤ 1000000000 := by rw [up_length, List.length_drop, List.length_take]; omega
        have h4 : (up (L.take 4)).length ≤ 4 := by rw [up_length, List.length_take]; omega
        refine Ev.congr (f := fun k => (skerryref01_Sum.f k (up (L.take 4 ++ (L.take (8 + fourN L)).drop 8))).bind fun a => unfR2 (up ((L.take (8 + fourN L)).drop 8)) ((fourN L : Nat) : Int) a ((fourN (L.drop 4) : Nat) : Int)) (fun k => ?_) ?_
        · unfold unfR unfR2
          rw [wrap_in (n := ((fourN L : Nat) : Int)) (by omega), if_neg (by omega), hl, wrap_in (n := (L.length : Int) - 8) (by omega), if_neg (by omega), wrap_in (n := 8 + ((fourN L : Nat) : Int)) (by omega)]
          simp only [Option.bind_some, List.nil_append, List.length_nil, Nat.zero_add]
          rw [if_pos (by omega), if_pos (by omega), et, up_take, up_drop, up_take, up_take, up_drop, if_pos (by omega), if_pos (by omega), if_pos (by omega), if_pos (by omega), wrap_in (n := ((fourN L : Nat) : Int) + 8) (by omega), ← up_append]
          congr 1
          funext t
          rw [if_pos (by omega), if_pos (by omega), refFourth_eq _ (fun x hx => hL x (List.mem_of_mem_take (List.mem_of_mem_drop hx))) (by rw [List.length_drop, List.length_take]; omega), Option.bind_some, fourN_take]
        · refine Ev.bind (refSum_ev _ (fun x hx => ?_) (by rw [List.length_append, List.length_take, List.length_drop, List.length_take]; omega)) ?_
          · rcases List.mem_append.1 hx with h | h
            · exact hL x (List.mem_of_mem_take h)
            · exact hsub x h
          refine Ev.congr (fun k => ?_) (Ev.now _)
          unfold unfR2
          by_cases hs : sumL (L.take 4 ++ (L.take (8 + fourN L)).drop 8) = fourN (L.drop 4)
          · rw [if_pos hs, if_pos (by rw [hs])]
            rfl
          · rw [if_neg hs, if_neg (fun h => hs (Int.natCast_inj.1 h))]
            rfl
end Go.Proofs.Ytcopbkdlpfcjpaa.Ma
