/- The law BloomReads: plain laws, and the walk. -/
import Derived.Test.YtcopbkdlpfcjpaaBloJ
import Derived.Test.YtcopbkdlpfcjpaaFx3
import Derived.Test.YtcopbkdlpfcjpaaMd
import Derived.Test.YtcopbkdlpfcjpaaMf
namespace Go.Proofs.Ytcopbkdlpfcjpaa.L
open Go.RowKit Go.Proofs.YtcopbkdlpfcjpaaW.PrintWords Go.Proofs.YtcopbkdlpfcjpaaW.PrintLast Go.Proofs.YtcopbkdlpfcjpaaW.PrintMore Go.Proofs.Ytcopbkdlpfcjpaa.B Go.Proofs.Ytcopbkdlpfcjpaa.M
attribute [local go_sem] max2_int min2_int max_two min_two max_three min_three max_four min_four
set_option linter.unusedVariables false
set_option linter.unusedSimpArgs false
open Go.Proofs.Ytcopbkdlpfcjpaa.Ma (getS digN digN_lo digN_hi)
theorem getS_canon (L : List Nat) (hL : ∀ x ∈ L, x < 256) : ∀ i u v c, getS L i u = (v, c) → c ≠ 0 → ∃ m v', c = i + m ∧ v = u + 2 ^ (7 * i) * v' ∧ L.take m = digN v' ∧ m ≤ L.length ∧ (i > 0 → v' > 0) := by
  induction L with
  | nil => intro i u v c h hc; simp [getS] at h; omega
  | cons x r ih =>
    intro i u v c h hc
    have hx := hL x List.mem_cons_self
    rw [getS] at h
    by_cases hb : i = 9 ∧ x > 1 ∨ i > 0 ∧ x = 0
    · rw [if_pos hb] at h
      simp at h
      omega
    · rw [if_neg hb] at h
      by_cases h8 : x < 128
      · rw [if_pos h8] at h
        simp only [Prod.mk.injEq] at h
        refine ⟨1, x, by omega, ?_, ?_, by simp, by omega⟩
        · rw [← h.1, Nat.mod_eq_of_lt h8]
        · rw [digN_lo h8]; rfl
      · rw [if_neg h8] at h
        obtain ⟨m, v', h1, h2, h3, h4, h5⟩ := ih (fun y hy => hL y (List.mem_cons_of_mem _ hy)) (i + 1) _ v c h hc
        have h6 := h5 (by omega)
        refine ⟨m + 1, x % 128 + 128 * v', by omega, ?_, ?_, by simp; omega, by omega⟩
        · rw [h2, Nat.mul_add, Nat.pow_add, Nat.mul_add, ← Nat.add_assoc]
          congr 1
          rw [Nat.mul_assoc]
        · rw [List.take_succ_cons, h3, digN_hi (u := x % 128 + 128 * v') (by omega)]
          congr 1
          · omega
          · congr 1
            omega
theorem digN_take (L : List Nat) (hL : ∀ x ∈ L, x < 256) (h : (getS L 0 0).2 ≠ 0) : L.take (getS L 0 0).2 = digN (getS L 0 0).1 := by
  obtain ⟨m, v', h1, h2, h3, h4, _⟩ := getS_canon L hL 0 0 _ _ (rfl : getS L 0 0 = ((getS L 0 0).1, (getS L 0 0).2)) h
  rw [h1, h2]
  simpa using h3
theorem read_canon (L : List Nat) (hL : ∀ x ∈ L, x < 256) (k : Nat) (R : List Nat) (h : readS L = some (k, R)) : bytesS (k : Int) (Ma.up R) = Ma.up L ∧ 1 ≤ k ∧ k ≤ 16 ∧ 1 ≤ R.length ∧ R.length ≤ 400000 ∧ ∀ x ∈ R, x < 256 := by
  unfold readS at h
  by_cases hc : (getS L 0 0).2 = 0 ∨ (getS (L.drop (getS L 0 0).2) 0 0).2 = 0 ∨ (getS L 0 0).1 < 1 ∨ 16 < (getS L 0 0).1 ∨ (getS (L.drop (getS L 0 0).2) 0 0).1 < 1 ∨ 400000 < (getS (L.drop (getS L 0 0).2) 0 0).1 ∨ (getS (L.drop (getS L 0 0).2) 0 0).1 ≠ L.length - (getS L 0 0).2 - (getS (L.drop (getS L 0 0).2) 0 0).2
  · rw [if_pos hc] at h; cases h
  · rw [if_neg hc] at h
    have h := Option.some.inj h
    simp only [Prod.mk.injEq] at h
    have hL2 : ∀ x ∈ L.drop (getS L 0 0).2, x < 256 := fun x hx => hL x (List.mem_of_mem_drop hx)
    have d1 := digN_take L hL (by omega)
    have d2 := digN_take _ hL2 (by omega)
    have hi := getS_le L 0 0
    have hj := getS_le (L.drop (getS L 0 0).2) 0 0
    rw [List.length_drop] at hj
    generalize (getS (L.drop (getS L 0 0).2) 0 0).1 = n at *
    generalize (getS (L.drop (getS L 0 0).2) 0 0).2 = j at *
    generalize (getS L 0 0).1 = k0 at *
    generalize (getS L 0 0).2 = i at *
    obtain ⟨rfl, rfl⟩ := h
    have hlen : (L.drop (i + j)).length = n := by rw [List.length_drop]; omega
    refine ⟨?_, by omega, by omega, by omega, by omega, fun x hx => hL x (List.mem_of_mem_drop hx)⟩
    unfold bytesS
    rw [Int.toNat_natCast, Ma.up_length, hlen, ← d1, ← d2, ← Ma.up_append, ← Ma.up_append]
    congr 1
    rw [List.append_assoc, ← List.drop_drop, List.take_append_drop, List.take_append_drop]
theorem ints_self (l : List Int) (hl : l.length ≤ 1000000) : ∃ q, F.skerryref01_Ints.f q l l = some true := by
  have h : ∀ d i : Nat, i + d = l.length → Ev (fun k => F.skerryref01_Ints.l0 k l l (l.length : Int) (i : Int)) true := by
    intro d
    induction d with
    | zero =>
      intro i hi
      refine Ev.step (f := fun _ => some true) (fun k => ?_) (Ev.now _)
      rw [F.skerryref01_Ints.l0, if_neg (by omega)]
    | succ d ih =>
      intro i hi
      refine Ev.step (fun k => ?_) (ih (i + 1) (by omega))
      have hw : wrap64 ((i : Int) + 1) = ((i + 1 : Nat) : Int) := by unfold wrap64; omega
      rw [F.skerryref01_Ints.l0, if_pos (by omega), if_pos (by omega), if_pos (by omega), if_pos (by omega), if_pos rfl, hw]
  obtain ⟨q, hq⟩ := (h l.length 0 (by omega)).rounds
  exact ⟨q, by unfold F.skerryref01_Ints.f; rw [if_pos rfl]; exact hq⟩
theorem okKey (K : List Nat) (hK : ∀ x ∈ K, x < 256) (hl : K.length ≤ 1000000000) : OkKey (Ma.up K) := (Ma.refSum_ev K hK hl 0).rounds
theorem Read_none {w : World} {A : Option Addr} {c : Nat} {L : List Nat} (hL : ∀ x ∈ L, x < 256) (hlen : L.length ≤ 1000000) (hr : readS L = none) (hC : Kd.C (Kd.int .u8) w A (Ma.up L).length (Ma.up L)) (hc : (Ma.up L).length ≤ c) :
    Calls Try.prog 38 #[.slice A (Ma.up L).length c] w fun e w' => e = .returned (.tuple #[.pointer none, .int .i64 8]) ∧ Below w.heap.size w w' :=
  (Read_c w A c L hL hlen hC hc).mono fun e w' ⟨hb, h⟩ => by
    rcases h with ⟨_, h⟩ | ⟨k, R, g, h, _⟩
    · exact ⟨h, hb⟩
    · rw [hr] at h; cases h
theorem Read_some {w : World} {A : Option Addr} {c : Nat} {L R : List Nat} {k : Nat} (hL : ∀ x ∈ L, x < 256) (hlen : L.length ≤ 1000000) (hr : readS L = some (k, R)) (hC : Kd.C (Kd.int .u8) w A (Ma.up L).length (Ma.up L)) (hc : (Ma.up L).length ≤ c) :
    Calls Try.prog 38 #[.slice A (Ma.up L).length c] w fun e w' => ∃ g, e = .returned (.tuple #[.pointer (some ⟨g, 0, none⟩), .int .i64 0]) ∧ Fil 83 w' w.heap.size g (k : Int) (Ma.up R) ∧ Below w.heap.size w w' :=
  (Read_c w A c L hL hlen hC hc).mono fun e w' ⟨hb, h⟩ => by
    rcases h with ⟨h, _⟩ | ⟨k1, R1, g, h, h2, h3⟩
    · rw [hr] at h; cases h
    · rw [hr] at h
      have h := Option.some.inj h
      simp only [Prod.mk.injEq] at h
      obtain ⟨rfl, rfl⟩ := h
      exact ⟨g, h2, h3, hb⟩
theorem ReadR_none {w : World} {A : Option Addr} {c : Nat} {L : List Nat} (hL : ∀ x ∈ L, x < 256) (hlen : L.length ≤ 1000000) (hr : readS L = none) (hC : Kd.C (Kd.int .u8) w A (Ma.up L).length (Ma.up L)) (hc : (Ma.up L).length ≤ c) :
    Calls Try.prog 39 #[.slice A (Ma.up L).length c] w fun e w' => e = .returned (.tuple #[.pointer none, .int .i64 8]) ∧ Below w.heap.size w w' :=
  (ReadR_c w A c L hL hlen hC hc).mono fun e w' ⟨hb, h⟩ => by
    rcases h with ⟨_, h⟩ | ⟨k, R, g, h, _⟩
    · exact ⟨h, hb⟩
    · rw [hr] at h; cases h
theorem ReadR_some {w : World} {A : Option Addr} {c : Nat} {L R : List Nat} {k : Nat} (hL : ∀ x ∈ L, x < 256) (hlen : L.length ≤ 1000000) (hr : readS L = some (k, R)) (hC : Kd.C (Kd.int .u8) w A (Ma.up L).length (Ma.up L)) (hc : (Ma.up L).length ≤ c) :
    Calls Try.prog 39 #[.slice A (Ma.up L).length c] w fun e w' => ∃ g, e = .returned (.tuple #[.pointer (some ⟨g, 0, none⟩), .int .i64 0]) ∧ Fil 80 w' w.heap.size g (k : Int) (Ma.up R) ∧ Below w.heap.size w w' :=
  (ReadR_c w A c L hL hlen hC hc).mono fun e w' ⟨hb, h⟩ => by
    rcases h with ⟨h, _⟩ | ⟨k1, R1, g, h, h2, h3⟩
    · rw [hr] at h; cases h
    · rw [hr] at h
      have h := Option.some.inj h
      simp only [Prod.mk.injEq] at h
      obtain ⟨rfl, rfl⟩ := h
      exact ⟨g, h2, h3, hb⟩
end Go.Proofs.Ytcopbkdlpfcjpaa.L
