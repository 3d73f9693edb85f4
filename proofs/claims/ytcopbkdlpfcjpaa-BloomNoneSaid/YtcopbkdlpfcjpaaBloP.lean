/- Plain laws of filters: bits that are set stay set; a key that was added may be there. -/
import Derived.Test.YtcopbkdlpfcjpaaBloE
import Derived.Test.YtcopbkdlpfcjpaaMb
namespace Go.Proofs.Ytcopbkdlpfcjpaa.L
open Go.RowKit Go.Proofs.YtcopbkdlpfcjpaaW.PrintWords Go.Proofs.YtcopbkdlpfcjpaaW.PrintLast Go.Proofs.YtcopbkdlpfcjpaaW.PrintMore Go.Proofs.Ytcopbkdlpfcjpaa.B Go.Proofs.Ytcopbkdlpfcjpaa.M
open Go.Proofs.Ytcopbkdlpfcjpaa.Ma (up rd_up up_length up_of)
/-- A list of bytes. -/
def IsB (l : List Int) : Prop := ∃ B : List Nat, (∀ x ∈ B, x < 256) ∧ l = up B
def bitN (B : List Nat) (p : Nat) : Bool := (B.getD (p / 8) 0).testBit (p % 8)
def setN (B : List Nat) (p : Nat) : List Nat := B.set (p / 8) (B.getD (p / 8) 0 ||| 2 ^ (p % 8))
theorem getD_lt (B : List Nat) (h : ∀ x ∈ B, x < 256) (i : Nat) : B.getD i 0 < 256 := by
  rw [List.getD_eq_getElem?_getD]
  rcases Nat.lt_or_ge i B.length with hl | hl
  · rw [List.getElem?_eq_getElem hl]; exact h _ (List.getElem_mem hl)
  · rw [List.getElem?_eq_none hl]; simp
theorem unset_up (B : List Nat) (h : ∀ x ∈ B, x < 256) (p : Nat) : unset (up B) (p : Int) = !bitN B p := by
  have e1 : (p : Int) / 8 = ((p / 8 : Nat) : Int) := by omega
  have e2 : (p : Int) % 8 = ((p % 8 : Nat) : Int) := by omega
  have hx := getD_lt B h (p / 8)
  unfold unset bitN
  rw [e1, rd_up, shr_r _ _ (by omega), e2, Int.toNat_natCast]
  generalize B.getD (p / 8) 0 = x at *
  have e3 : (x : Int) / 2 ^ (p % 8) = ((x / 2 ^ (p % 8) : Nat) : Int) := by push_cast; rfl
  have h3 : x / 2 ^ (p % 8) < 256 := Nat.lt_of_le_of_lt (Nat.div_le_self _ _) hx
  rw [e3, show (1 : Int) = ((1 : Nat) : Int) from rfl, u8_and_nat _ _ h3 (by omega), Nat.and_one_is_mod, Nat.testBit_eq_decide_div_mod_eq]
  rcases Nat.mod_two_eq_zero_or_one (x / 2 ^ (p % 8)) with h2 | h2 <;> rw [h2] <;> rfl
theorem pow_small : ∀ r : Nat, r < 8 → 2 ^ r < 256 := by decide
theorem up_set (B : List Nat) (i x : Nat) : (up B).set i (x : Int) = up (B.set i x) := by unfold Ma.up; rw [List.map_set]; rfl
theorem setS_up (B : List Nat) (h : ∀ x ∈ B, x < 256) (p : Nat) : setS (up B) (p : Int) = up (setN B p) := by
  have e1 : (p : Int) / 8 = ((p / 8 : Nat) : Int) := by omega
  have e2 : (p : Int) % 8 = ((p % 8 : Nat) : Int) := by omega
  have hx := getD_lt B h (p / 8)
  unfold setS setN
  rw [e1, rd_up, e2, shl_r _ _ (by omega), IntKind.wrap_u8, Int.one_mul, Int.toNat_natCast, Int.toNat_natCast]
  have hp := pow_small (p % 8) (by omega)
  have e3 : (2 : Int) ^ (p % 8) % 256 = ((2 ^ (p % 8) : Nat) : Int) := by
    have : (2 : Int) ^ (p % 8) = ((2 ^ (p % 8) : Nat) : Int) := by push_cast; rfl
    rw [this]; generalize 2 ^ (p % 8) = y at hp ⊢; omega
  rw [e3, u8_or_nat _ _ hx hp]
  exact up_set B _ _
theorem setN_lt (B : List Nat) (h : ∀ x ∈ B, x < 256) (p : Nat) : ∀ x ∈ setN B p, x < 256 := by
  intro x hx
  unfold setN at hx
  rcases List.mem_or_eq_of_mem_set hx with h1 | rfl
  · exact h x h1
  · exact Nat.or_lt_two_pow (n := 8) (getD_lt B h _) (pow_small _ (by omega))
theorem setN_len (B : List Nat) (p : Nat) : (setN B p).length = B.length := by unfold setN; rw [List.length_set]
theorem bit_set (B : List Nat) (p q : Nat) (hp : p < 8 * B.length) : bitN (setN B p) q = (bitN B q || decide (q = p)) := by
  unfold bitN setN
  by_cases h : q / 8 = p / 8
  · rw [h, List.getD_eq_getElem?_getD, List.getElem?_set_self (by omega)]
    simp only [Option.getD_some]
    rw [Nat.testBit_or, Nat.testBit_two_pow]
    congr 1
    rw [decide_eq_decide]
    omega
  · rw [List.getD_eq_getElem?_getD, List.getElem?_set_ne (by omega), ← List.getD_eq_getElem?_getD, decide_eq_false (show ¬ q = p by rintro rfl; exact h rfl), Bool.or_false]
theorem fold_up (l : List Int) : ∀ (B : List Nat), (∀ x ∈ B, x < 256) → (∀ p ∈ l, 0 ≤ p ∧ p < 8 * (B.length : Int)) → ∃ C : List Nat, l.foldl setS (up B) = up C ∧ C.length = B.length ∧ (∀ x ∈ C, x < 256) ∧ ∀ q, bitN C q = (bitN B q || decide ((q : Int) ∈ l)) := by
  induction l with
  | nil => intro B h _; exact ⟨B, rfl, rfl, h, fun q => by simp⟩
  | cons p l ih =>
    intro B h hl
    obtain ⟨h0, h1⟩ := hl p List.mem_cons_self
    obtain ⟨P, rfl⟩ := Int.eq_ofNat_of_zero_le h0
    obtain ⟨C, hC, hlen, hlt, hb⟩ := ih (setN B P) (setN_lt B h P) (by rw [setN_len]; exact fun q hq => hl q (List.mem_cons_of_mem _ hq))
    refine ⟨C, ?_, by rw [hlen, setN_len], hlt, fun q => ?_⟩
    · rw [List.foldl_cons, setS_up B h P]
      exact hC
    · rw [hb, bit_set B P q (by omega), Bool.or_assoc]
      congr 1
      rw [Bool.eq_iff_iff, Bool.or_eq_true, decide_eq_true_eq, decide_eq_true_eq, decide_eq_true_eq, List.mem_cons]
      constructor
      · rintro (h | h)
        · exact .inl (by omega)
        · exact .inr h
      · rintro (h | h)
        · exact .inl (by omega)
        · exact .inr h
theorem may_up (B : List Nat) (h : ∀ x ∈ B, x < 256) (k : Int) (key : List Int) (hn : 0 < B.length) (hn2 : B.length ≤ 1000000) : mayS k (up B) key = (plS k B.length key).all (fun p => bitN B p.toNat) := by
  have hin := plS_in k B.length key hn hn2
  unfold mayS
  rw [up_length]
  generalize plS k B.length key = l at *
  induction l with
  | nil => rfl
  | cons p l ih =>
    have h0 := (hin p List.mem_cons_self).1
    obtain ⟨P, rfl⟩ := Int.eq_ofNat_of_zero_le h0
    have ih := ih (fun q hq => hin q (List.mem_cons_of_mem _ hq))
    simp only [List.any_cons, List.all_cons, Bool.not_or, Int.toNat_natCast]
    rw [ih, unset_up B h, Bool.not_not]
theorem add_up (B : List Nat) (h : ∀ x ∈ B, x < 256) (k : Int) (key : List Int) (hn : 0 < B.length) (hn2 : B.length ≤ 1000000) : ∃ C : List Nat, addS k (up B) key = up C ∧ C.length = B.length ∧ (∀ x ∈ C, x < 256) ∧ ∀ q, bitN C q = (bitN B q || decide ((q : Int) ∈ plS k B.length key)) := by
  unfold addS
  rw [up_length]
  exact fold_up _ B h (plS_in k B.length key hn hn2)
theorem addS_len (k : Int) (bs key : List Int) : (addS k bs key).length = bs.length := fold_len _ _
theorem addS_B (k : Int) (bs key : List Int) (h : IsB bs) (hn : 0 < bs.length) (hn2 : bs.length ≤ 1000000) : IsB (addS k bs key) := by
  obtain ⟨B, hB, rfl⟩ := h
  rw [up_length] at hn hn2
  obtain ⟨C, e, _, hC, _⟩ := add_up B hB k key hn hn2
  exact ⟨C, hC, e⟩
theorem may_self (k : Int) (bs key : List Int) (h : IsB bs) (hn : 0 < bs.length) (hn2 : bs.length ≤ 1000000) : mayS k (addS k bs key) key = true := by
  obtain ⟨B, hB, rfl⟩ := h
  rw [up_length] at hn hn2
  obtain ⟨C, e, hl, hC, hb⟩ := add_up B hB k key hn hn2
  rw [e, may_up C hC k key (by omega) (by omega), List.all_eq_true, hl]
  intro p hp
  have h0 := (plS_in k B.length key hn hn2 p hp).1
  rw [hb, Int.toNat_of_nonneg h0, decide_eq_true hp, Bool.or_true]
theorem may_mono (k : Int) (bs key key2 : List Int) (h : IsB bs) (hn : 0 < bs.length) (hn2 : bs.length ≤ 1000000) (hm : mayS k bs key2 = true) : mayS k (addS k bs key) key2 = true := by
  obtain ⟨B, hB, rfl⟩ := h
  rw [up_length] at hn hn2
  obtain ⟨C, e, hl, hC, hb⟩ := add_up B hB k key hn hn2
  rw [may_up B hB k key2 hn hn2, List.all_eq_true] at hm
  rw [e, may_up C hC k key2 (by omega) (by omega), List.all_eq_true, hl]
  intro p hp
  rw [hb, hm p hp, Bool.true_or]
theorem zeros_B (n : Nat) : IsB (List.replicate n 0) := ⟨List.replicate n 0, fun x hx => by rw [List.eq_of_mem_replicate hx]; omega, by unfold Ma.up; rw [List.map_replicate]; rfl⟩
theorem may_none (k : Int) (n : Nat) (key : List Int) (hk : 0 < k) (hn : 0 < n) (hn2 : n ≤ 1000000) : mayS k (List.replicate n 0) key = false := by
  have e : (List.replicate n 0 : List Int) = up (List.replicate n 0) := by unfold Ma.up; rw [List.map_replicate]; rfl
  rw [e, may_up _ (fun x hx => by rw [List.eq_of_mem_replicate hx]; omega) k key (by rw [List.length_replicate]; exact hn) (by rw [List.length_replicate]; exact hn2), List.length_replicate]
  have hl := plS_len k n key
  cases hp : plS k n key with
  | nil => rw [hp] at hl; simp at hl; omega
  | cons p l =>
    rw [List.all_cons]
    have : bitN (List.replicate n 0) p.toNat = false := by
      unfold bitN
      have : (List.replicate n 0).getD (p.toNat / 8) 0 = 0 := by
        rw [List.getD_eq_getElem?_getD]
        rcases Nat.lt_or_ge (p.toNat / 8) n with h | h
        · rw [List.getElem?_replicate_of_lt h]; rfl
        · rw [List.getElem?_eq_none (by rw [List.length_replicate]; exact h)]; rfl
      rw [this, Nat.zero_testBit]
    rw [this, Bool.false_and]
end Go.Proofs.Ytcopbkdlpfcjpaa.L
