/- Plain laws of murmur: words of eight bytes, and the document's sum. -/
import Derived.Test.YtcopbkdlpfcjpaaMb
import Derived.Test.YtcopbkdlpfcjpaaMurC
import Derived.Test.YtcopbkdlpfcjpaaBx12
namespace Go.Proofs.Ytcopbkdlpfcjpaa.Ma
open Go.RowKit Go.Proofs.YtcopbkdlpfcjpaaW.PrintWords Go.Proofs.YtcopbkdlpfcjpaaW.PrintLast Go.Proofs.YtcopbkdlpfcjpaaW.PrintMore Go.Proofs.Ytcopbkdlpfcjpaa.B Go.Proofs.Ytcopbkdlpfcjpaa.M

/-- The first n bytes, the lowest first. -/
def leN : Nat → List Nat → Nat
  | 0, _ => 0
  | _ + 1, [] => 0
  | n + 1, x :: t => x + 256 * leN n t
theorem leN_nil (n : Nat) : leN n [] = 0 := by cases n <;> rfl
theorem leN_stop (n : Nat) : ∀ (m : Nat) (L : List Nat), L.length ≤ n → L.length ≤ m → leN n L = leN m L := by
  induction n with
  | zero => intro m L h _; have : L = [] := List.length_eq_zero_iff.mp (by omega); subst this; rw [leN_nil, leN_nil]
  | succ n ih =>
    intro m L h h2
    cases L with
    | nil => rw [leN_nil, leN_nil]
    | cons x t =>
      cases m with
      | zero => simp at h2
      | succ m =>
        simp only [leN]
        rw [ih m t (by simp at h; omega) (by simp at h2; omega)]
theorem leN_lt (n : Nat) : ∀ L : List Nat, (∀ x ∈ L, x < 256) → leN n L < 256 ^ n := by
  induction n with
  | zero => intro L _; simp [leN]
  | succ n ih =>
    intro L h
    cases L with
    | nil => rw [leN_nil]; exact Nat.pow_pos (by omega)
    | cons x t =>
      have h1 := ih t (fun y hy => h y (List.mem_cons_of_mem _ hy))
      have h2 := h x List.mem_cons_self
      simp only [leN]
      rw [Nat.pow_succ]
      omega
theorem leN_snoc (n : Nat) : ∀ L : List Nat, leN (n + 1) L = leN n L + 256 ^ n * L.getD n 0 := by
  induction n with
  | zero => intro L; cases L <;> simp [leN]
  | succ n ih =>
    intro L
    cases L with
    | nil => rw [leN_nil, leN_nil]; simp
    | cons x t =>
      rw [leN, ih t]
      simp only [leN, List.getD_cons_succ]
      rw [Nat.pow_succ, Nat.mul_add, Nat.mul_comm (256 ^ n) 256, Nat.mul_assoc, Nat.add_assoc]
theorem drop_getD (L : List Nat) (i : Nat) (hlt : i < L.length) : L.drop i = L.getD i 0 :: L.drop (i + 1) := by
  rw [List.drop_eq_getElem_cons hlt, List.getD_eq_getElem?_getD, List.getElem?_eq_getElem hlt]
  rfl
theorem drop_byte (L : List Nat) (hL : ∀ x ∈ L, x < 256) (i : Nat) : ∀ x ∈ L.drop i, x < 256 := fun x hx => hL x (List.mem_of_mem_drop hx)
theorem getD_byte (L : List Nat) (hL : ∀ x ∈ L, x < 256) (i : Nat) : L.getD i 0 < 256 := by
  rw [List.getD_eq_getElem?_getD]
  rcases Nat.lt_or_ge i L.length with h | h
  · rw [List.getElem?_eq_getElem h]; exact hL _ (List.getElem_mem h)
  · rw [List.getElem?_eq_none h]; simp
theorem or_byte (u x : Nat) (hx : x < 256) : (256 * u ||| x) = x + 256 * u := by
  have h := Nat.two_pow_add_eq_or_of_lt (i := 8) (b := x) (by omega) u
  rw [show (2 : Nat) ^ 8 = 256 from rfl] at h
  omega
theorem word_loop (L : List Nat) (hL : ∀ x ∈ L, x < 256) (m : Nat) (hm : m ≤ L.length) (h8 : m ≤ 8) (i : Nat) : i ≤ m → ∀ k, i < k → murmur_word.l0 k (up L) ((leN (m - i) (L.drop i) : Nat) : Int) ((i : Int) - 1) = some ((leN m L : Nat) : Int) := by
  induction i with
  | zero =>
    intro _ k hk
    obtain ⟨k, rfl⟩ : ∃ j, k = j + 1 := ⟨k - 1, by omega⟩
    rw [murmur_word.l0, if_neg (by omega)]
    rfl
  | succ i ih =>
    intro hi k hk
    obtain ⟨k, rfl⟩ : ∃ j, k = j + 1 := ⟨k - 1, by omega⟩
    have ih := ih (by omega) k (by omega)
    have hd := drop_getD L i (by omega)
    have hx := getD_byte L hL i
    have hlt := leN_lt (m - (i + 1)) (L.drop (i + 1)) (drop_byte L hL _)
    have hp : 256 ^ (m - (i + 1)) ≤ 256 ^ 7 := Nat.pow_le_pow_right (by omega) (by omega)
    have e7 : (256 : Nat) ^ 7 = 72057594037927936 := by decide
    have e1 : leN (m - i) (L.drop i) = L.getD i 0 + 256 * leN (m - (i + 1)) (L.drop (i + 1)) := by
      rw [hd, show m - i = (m - (i + 1)) + 1 by omega, leN]
    rw [e1] at ih
    generalize hx0 : L.getD i 0 = x at *
    generalize leN (m - (i + 1)) (L.drop (i + 1)) = u at *
    have hr : rd (up L) (i : Int) = (x : Int) := by rw [rd_up, hx0]
    have hw : wrap64 ((i : Int) - 1) = (i : Int) - 1 := wrap_in (by omega)
    have hu : IntKind.u64.wrap ((u : Int) * 256) = ((256 * u : Nat) : Int) := by rw [IntKind.wrap_u64]; omega
    have hxw : IntKind.u64.wrap (x : Int) = (x : Int) := by rw [IntKind.wrap_u64]; omega
    have hor : Go.bits .or .u64 ((256 * u : Nat) : Int) (x : Int) = ((x + 256 * u : Nat) : Int) := by
      rw [u64_or_nat _ _ (by omega) (by omega), or_byte u x hx]
    rw [murmur_word.l0, show (((i + 1 : Nat) : Int) - 1) = (i : Int) by omega, if_pos (by omega), if_pos (by omega), if_pos (by rw [up_length]; omega), hr, hw, hu, hxw, hor]
    exact ih
theorem wordS_up (L : List Nat) (hL : ∀ x ∈ L, x < 256) : wordS (up L) = ((leN 8 L : Nat) : Int) := by
  have h : murmur_word.f 10 (up L) = some ((leN 8 L : Nat) : Int) := by
    unfold murmur_word.f
    rcases Nat.lt_or_ge L.length 8 with h | h
    · rw [show (mn ((up L).length : Int) 8) = (L.length : Int) by unfold mn; rw [up_length]; split <;> omega]
      have h1 := word_loop L hL L.length (by omega) (by omega) L.length (by omega) 10 (by omega)
      rw [Nat.sub_self, leN, leN_stop L.length 8 L (by omega) (by omega)] at h1
      exact h1
    · rw [show (mn ((up L).length : Int) 8) = 8 by unfold mn; rw [up_length]; split <;> omega]
      exact word_loop L hL 8 (by omega) (by omega) 8 (by omega) 10 (by omega)
  have h2 := word_ (up L)
  rw [h] at h2
  exact (Option.some.inj h2).symm
theorem shl8_u64 (x i : Nat) (hi : i < 8) (hx : x < 256) : shl .u64 (x : Int) (8 * (i : Int)) = ((256 ^ i * x : Nat) : Int) ∧ 256 ^ i * x < 18446744073709551616 := by
  have e0 : 256 ^ i = 2 ^ (8 * i) := by rw [Nat.pow_mul]
  have hp : 256 ^ i * x < 18446744073709551616 := by
    have h1 : 256 ^ i ≤ 256 ^ 7 := Nat.pow_le_pow_right (by omega) (by omega)
    calc 256 ^ i * x ≤ 256 ^ 7 * 255 := Nat.mul_le_mul h1 (by omega)
      _ < 18446744073709551616 := by decide
  refine ⟨?_, hp⟩
  unfold shl
  have e : min ((8 * (i : Int)).toNat) (IntKind.bits .u64) = 8 * i := by
    have : IntKind.bits .u64 = 64 := rfl
    rw [this]
    omega
  rw [e, IntKind.wrap_u64]
  have e2 : (x : Int) * 2 ^ (8 * i) = ((256 ^ i * x : Nat) : Int) := by
    rw [e0]
    push_cast
    rw [Int.mul_comm]
  rw [e2]
  omega
theorem eight_loop (L : List Nat) (hL : ∀ x ∈ L, x < 256) (hlen : L.length ≤ 1000000000) (a : Nat) (ha : a ≤ 1000000100) (d : Nat) : ∀ i : Nat, i + d = 8 → Ev (fun k => skerryref02_eight.l0 k (up L) (a : Int) ((leN i (L.drop a) : Nat) : Int) (i : Int)) ((leN 8 (L.drop a) : Nat) : Int) := by
  induction d with
  | zero =>
    intro i hi
    obtain rfl : i = 8 := by omega
    refine Ev.step (f := fun _ => some ((leN 8 (L.drop a) : Nat) : Int)) (fun k => ?_) (Ev.now _)
    rw [skerryref02_eight.l0, if_neg (by omega)]
  | succ d ih =>
    intro i hi
    have hw : wrap64 ((a : Int) + (i : Int)) = ((a + i : Nat) : Int) := by rw [wrap_in (by omega)]; omega
    by_cases h : a + i < L.length
    · refine Ev.step (fun k => ?_) (ih (i + 1) (by omega))
      have hw8 : wrap64 (8 * (i : Int)) = 8 * (i : Int) := wrap_in (by omega)
      have hwu : IntKind.u64.wrap (8 * (i : Int)) = 8 * (i : Int) := by rw [IntKind.wrap_u64]; omega
      have hw1 : wrap64 ((i : Int) + 1) = ((i + 1 : Nat) : Int) := by rw [wrap_in (by omega)]; omega
      have hx := getD_byte L hL (a + i)
      have hg : (L.drop a).getD i 0 = L.getD (a + i) 0 := by
        rw [List.getD_eq_getElem?_getD, List.getD_eq_getElem?_getD, List.getElem?_drop]
      have hlt := leN_lt i (L.drop a) (drop_byte L hL _)
      have hs : leN (i + 1) (L.drop a) = leN i (L.drop a) + 256 ^ i * L.getD (a + i) 0 := by rw [leN_snoc, hg]
      rw [hs]
      generalize hx0 : L.getD (a + i) 0 = x at *
      generalize leN i (L.drop a) = u at *
      have hr : rd (up L) ((a + i : Nat) : Int) = (x : Int) := by rw [rd_up, hx0]
      have hxw : IntKind.u64.wrap (x : Int) = (x : Int) := by rw [IntKind.wrap_u64]; omega
      have hsh := shl8_u64 x i (by omega) hx
      have hp : 256 ^ i ≤ 256 ^ 7 := Nat.pow_le_pow_right (by omega) (by omega)
      have e7 : (256 : Nat) ^ 7 = 72057594037927936 := by decide
      have hor : Go.bits .or .u64 (u : Int) ((256 ^ i * x : Nat) : Int) = ((u + 256 ^ i * x : Nat) : Int) := by
        rw [u64_or_nat _ _ (by omega) hsh.2, Nat.or_comm]
        have e0 : 256 ^ i = 2 ^ (8 * i) := by rw [Nat.pow_mul]
        rw [e0] at hlt ⊢
        rw [← Nat.two_pow_add_eq_or_of_lt hlt, Nat.add_comm]
      simp only [skerryref02_eight.l0]
      rw [if_pos (by omega), hw, if_pos (by rw [up_length]; omega), if_pos (by omega), hw8, hwu, if_pos (by omega), hr, hxw, hsh.1, hor, hw1]
    · have e : leN 8 (L.drop a) = leN i (L.drop a) := leN_stop _ _ _ (by rw [List.length_drop]; omega) (by rw [List.length_drop]; omega)
      rw [e]
      refine Ev.step (f := fun _ => some ((leN i (L.drop a) : Nat) : Int)) (fun k => ?_) (Ev.now _)
      rw [skerryref02_eight.l0, if_pos (by omega), hw, if_neg (by rw [up_length]; omega)]
theorem eight_ev (L : List Nat) (hL : ∀ x ∈ L, x < 256) (hlen : L.length ≤ 1000000000) (a : Nat) (ha : a ≤ 1000000100) : Ev (fun k => skerryref02_eight.f k (up L) (a : Int)) (wordS (up (L.drop a))) := by
  rw [wordS_up _ (drop_byte L hL a)]
  exact eight_loop L hL hlen a ha 8 0 (by omega)
theorem rotl27 (x : Int) : skerryref02_rotl.f x 27 = some (rot x 27) := by rfl
theorem rotl31 (x : Int) : skerryref02_rotl.f x 31 = some (rot x 31) := by rfl
theorem rotl33 (x : Int) : skerryref02_rotl.f x 33 = some (rot x 33) := by rfl

theorem sub_in (n a : Nat) (hn : n ≤ 1000000000) (ha : a ≤ n) : wrap64 ((n : Int) - (a : Int)) = ((n - a : Nat) : Int) := by rw [wrap_in (by omega)]; omega
theorem add_in (n a : Nat) (hn : n ≤ 1000000000) (ha : a ≤ 1000) : wrap64 ((n : Int) + (a : Int)) = ((n + a : Nat) : Int) := by rw [wrap_in (by omega)]; omega
theorem ev_eq {α : Type} {g : Nat → Option α} {r s : α} (h : Ev g r) (e : r = s) : Ev g s := e ▸ h
theorem ev_some {α : Type} {r s : α} (e : r = s) : Ev (fun _ => some r) s := e ▸ Ev.now _
theorem refSum_j1 (L : List Nat) (hL : ∀ x ∈ L, x < 256) (hlen : L.length ≤ 1000000000) (a : Nat) (ha : a ≤ L.length) (h g : Int) (s : Int × Int)
    (hs : s = (let h1 := if 0 < (L.drop a).length then Go.bits .xor .u64 h (lowS (up (L.drop a))) else h
      let h2 := Go.bits .xor .u64 h1 (IntKind.u64.wrap ((up L).length : Int))
      let g2 := Go.bits .xor .u64 g (IntKind.u64.wrap ((up L).length : Int))
      let h3 := IntKind.u64.wrap (h2 + g2)
      let g3 := IntKind.u64.wrap (g2 + h3)
      let h5 := IntKind.u64.wrap (mixS h3 + mixS g3)
      (h5, IntKind.u64.wrap (mixS g3 + h5)))) :
    Ev (fun k => skerryref02_Sum.j1 k (up L) h g (a : Int)) s := by
  have hsub : wrap64 (((up L).length : Int) - (a : Int)) = ((L.length - a : Nat) : Int) := by rw [up_length]; exact sub_in _ _ hlen ha
  by_cases h0 : a < L.length
  · rw [if_pos (by rw [List.length_drop]; omega)] at hs
    refine Ev.step (f := ?f1) (fun k => ?h1) ?rest1
    case h1 => simp only [skerryref02_Sum.j1]; rw [hsub, if_pos (by omega)]
    refine Ev.bind (eight_ev L hL hlen a (by omega)) ?_
    refine Ev.bind (f := fun _ _ => _) (a := rot _ 31) (Ev.congr (fun _ => rotl31 _) (Ev.now _)) ?_
    refine Ev.bind (Ev.congr (fun _ => refMix_ _) (Ev.now _)) ?_
    refine Ev.bind (Ev.congr (fun _ => refMix_ _) (Ev.now _)) ?_
    exact ev_some hs.symm
  · rw [if_neg (by rw [List.length_drop]; omega)] at hs
    refine Ev.step (f := ?f2) (fun k => ?h2) ?rest2
    case h2 => simp only [skerryref02_Sum.j1]; rw [hsub, if_neg (by omega)]
    refine Ev.bind (Ev.congr (fun _ => refMix_ _) (Ev.now _)) ?_
    refine Ev.bind (Ev.congr (fun _ => refMix_ _) (Ev.now _)) ?_
    exact ev_some hs.symm

/-- What comes behind the blocks. -/
theorem refSum_end (L : List Nat) (hL : ∀ x ∈ L, x < 256) (hlen : L.length ≤ 1000000000) (a : Nat) (ha : a ≤ L.length) (h16 : L.length - a < 16) (h g : Int) :
    Ev (fun k => skerryref02_Sum.l0 k (up L) h g (a : Int)) (sumE (IntKind.u64.wrap ((up L).length : Int)) (up (L.drop a)) h g) := by
  have hsub : wrap64 (((up L).length : Int) - (a : Int)) = ((L.length - a : Nat) : Int) := by rw [up_length]; exact sub_in _ _ hlen ha
  have h8w : wrap64 ((a : Int) + 8) = ((a + 8 : Nat) : Int) := by rw [wrap_in (by omega)]; omega
  by_cases h8 : 8 < L.length - a
  · refine Ev.step (f := ?f5) (fun k => ?h5) ?rest5
    case h5 => simp only [skerryref02_Sum.l0]; rw [hsub, if_neg (by omega), if_pos (by omega), h8w]
    refine Ev.bind (eight_ev L hL hlen (a + 8) (by omega)) ?_
    refine Ev.bind (f := fun _ _ => _) (a := rot _ 33) (Ev.congr (fun _ => rotl33 _) (Ev.now _)) ?_
    refine refSum_j1 L hL hlen a ha _ _ _ ?_
    have e : up (L.drop (a + 8)) = (up (L.drop a)).drop 8 := by rw [up_drop, List.drop_drop]
    rw [e]
    simp only [sumE, up_length, List.length_drop, if_pos h8]
    rfl
  · refine Ev.step (f := ?f6) (fun k => ?h6) ?rest6
    case h6 => simp only [skerryref02_Sum.l0]; rw [hsub, if_neg (by omega), if_neg (by omega)]
    refine refSum_j1 L hL hlen a ha _ _ _ ?_
    simp only [sumE, up_length, List.length_drop, if_neg h8]
theorem refSum_loop (L : List Nat) (hL : ∀ x ∈ L, x < 256) (hlen : L.length ≤ 1000000000) (n : Nat) : ∀ (a : Nat) (h g : Int), a ≤ L.length → L.length - a ≤ n →
    Ev (fun k => skerryref02_Sum.l0 k (up L) h g (a : Int)) (sumE (IntKind.u64.wrap ((up L).length : Int)) (sumL n (up (L.drop a)) h g).1 (sumL n (up (L.drop a)) h g).2.1 (sumL n (up (L.drop a)) h g).2.2) := by
  induction n with
  | zero =>
    intro a h g ha hn
    exact refSum_end L hL hlen a ha (by omega) h g
  | succ n ih =>
    intro a h g ha hn
    by_cases h16 : L.length - a < 16
    · rw [sumL_end _ _ _ _ (by rw [up_length, List.length_drop]; omega)]
      exact refSum_end L hL hlen a ha h16 h g
    · rw [sumL, if_neg (by rw [up_length, List.length_drop]; omega), up_drop, List.drop_drop]
      have hsub : wrap64 (((up L).length : Int) - (a : Int)) = ((L.length - a : Nat) : Int) := by rw [up_length]; exact sub_in _ _ hlen ha
      have h8w : wrap64 ((a : Int) + 8) = ((a + 8 : Nat) : Int) := by rw [wrap_in (by omega)]; omega
      have h16w : wrap64 ((a : Int) + 16) = ((a + 16 : Nat) : Int) := by rw [wrap_in (by omega)]; omega
      refine Ev.step (f := ?f7) (fun k => ?h7) ?rest7
      case h7 => simp only [skerryref02_Sum.l0]; rw [hsub, if_pos (by omega), h8w, h16w]
      refine Ev.bind (eight_ev L hL hlen a (by omega)) ?_
      refine Ev.bind (eight_ev L hL hlen (a + 8) (by omega)) ?_
      refine Ev.bind (f := fun _ _ => _) (a := rot _ 31) (Ev.congr (fun _ => rotl31 _) (Ev.now _)) ?_
      refine Ev.bind (f := fun _ _ => _) (a := rot _ 27) (Ev.congr (fun _ => rotl27 _) (Ev.now _)) ?_
      refine Ev.bind (f := fun _ _ => _) (a := rot _ 33) (Ev.congr (fun _ => rotl33 _) (Ev.now _)) ?_
      refine Ev.bind (f := fun _ _ => _) (a := rot _ 31) (Ev.congr (fun _ => rotl31 _) (Ev.now _)) ?_
      have e : up (L.drop (a + 8)) = (up (L.drop a)).drop 8 := by rw [up_drop, List.drop_drop]
      rw [e]
      exact ih (a + 16) (sumH (up (L.drop a)) h g) (sumG (up (L.drop a)) (sumH (up (L.drop a)) h g) g) (by omega) (by omega)
theorem refSum_ev (L : List Nat) (hL : ∀ x ∈ L, x < 256) (hlen : L.length ≤ 1000000000) (h : Int) : Ev (fun k => skerryref02_Sum.f k (up L) h) (sumS (up L) h) := by
  have h1 := refSum_loop L hL hlen L.length 0 h h (by omega) (by omega)
  rw [List.drop_zero] at h1
  unfold sumS
  rw [up_length] at *
  exact h1
end Go.Proofs.Ytcopbkdlpfcjpaa.Ma
