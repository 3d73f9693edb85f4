/- Rows of lists of bytes, as arguments of laws. -/
import Derived.Test.YtcopbkdlpfcjpaaBloN
import Derived.Deep.Matrix
import Derived.SizedLaws
import Derived.ChangeSlices
namespace Go.Proofs.Ytcopbkdlpfcjpaa.L
open Go.ChangeShapes Go.WideShapes Go.RowKit Go.Proofs.YtcopbkdlpfcjpaaW.PrintWords
theorem weights_mem_all {H : Type} {P : Program} {e : TypeId} {d : DataW H} : ∀ {ds : List (DataW H)}, d ∈ ds → ∀ n ∈ d.weights P e, n ∈ DataW.weightsAll P e ds
  | d0 :: ds, h, n, hn => by
    simp only [DataW.weightsAll, List.mem_append]
    rcases List.mem_cons.1 h with rfl | h
    · exact .inl hn
    · exact .inr (weights_mem_all h n hn)
/-- A slice of slices of bytes that came in: its lists; none is greater than what an argument may hold. -/
theorem open_keys {H : Type} {enc : TypeId × Value → H} {P : Program} {W : World} {held : Bool} {t e q : TypeId} {a : Option Addr} {len cap : Nat} {d : DataW H} {ps : List MemPlace} {ts : List TypeId} {ds : List (DataW H)} {j : Nat}
    (hsz : (DataW.weightsEach P ts ds).all (· ≤ reachBytes) = true) (ht : ts[j]? = some t) (hd : ds[j]? = some d) (hu : P.underlying t = some (.slice e)) (he : P.underlying e = some (.slice q)) (hq : P.underlying q = some (.int .u8)) (ce : P.cellsOf e = 1) (cq : P.cellsOf q = 1) (hB : P.bytesOf q = 1) (hBe : 0 < P.bytesOf e)
    (h : DataW.Trod enc P W 0 (fun _ => true) held t (.slice a len cap) d ps) : ∃ l : List (List Int), len = l.length ∧ Keys W a cap l := by
  obtain ⟨fuel, hf⟩ := h
  rcases Deep.open_int_rows hu he hq ce cq hf with ⟨hcs, _⟩ | ⟨x, ln, c, A, L, C, Z, hcs, _, hl, hm, hx, hr⟩
  · simp [Value.cells] at hcs
    obtain ⟨rfl, rfl, rfl⟩ := hcs
    exact ⟨[], rfl, ⟨Kd.C_nil _ _, Nat.le_refl _, (fun x hx => by cases hx), Nat.zero_le _, (fun x hx => by cases hx)⟩⟩
  · simp [Value.cells] at hcs
    obtain ⟨rfl, rfl, rfl⟩ := hcs
    obtain ⟨hx, _⟩ := Prod.mk.inj hx
    subst hx
    have hlen : ((List.range len).map fun r => (Z r).take (L r)).length = len := by simp
    have hin : ∀ x ∈ (List.range len).map (fun r => (Z r).take (L r)), ∃ r, r < len ∧ x = (Z r).take (L r) := by
      intro x hx
      obtain ⟨r, hr, rfl⟩ := List.mem_map.1 hx
      exact ⟨r, List.mem_range.1 hr, rfl⟩
    have hlr : ∀ r, r < len → ((Z r).take (L r)).length = L r := by
      intro r hr1
      obtain ⟨_, h2, _, h4, _⟩ := hr r (by omega)
      rw [List.length_take, h4]
      omega
    have hweights : ∀ n ∈ DataW.weights P t (DataW.slice (H := H) ((List.range len).map fun r => Deep.intRow .u8 (A r) (L r) (Z r)) ((List.range (cap - len)).map fun j => Deep.intRow .u8 (A (len + j)) (L (len + j)) (Z (len + j)))), n ≤ reachBytes := by
      intro n hn
      have := List.all_eq_true.1 hsz _ (DataW.weights_mem_each ht hd n hn)
      simpa using this
    have hw : reachBytes = 140737488351232 := rfl
    refine ⟨_, hlen.symm, ?_⟩
    constructor
    · rw [hlen]
      refine ⟨hlen, by have : maxLen = 9223372036854775807 := rfl; omega, fun _ => ⟨x, rfl, fun j p hj => ?_⟩⟩
      have hjl : j < len := by
        have := (List.getElem?_eq_some_iff.1 hj).1
        rw [hlen] at this
        exact this
      have hp : p = (Z j).take (L j) := by
        rw [List.getElem?_map, List.getElem?_range hjl] at hj
        simpa using hj.symm
      subst hp
      obtain ⟨h1, h2, h3, h4, h5, h6, h7⟩ := hr j (by omega)
      refine ⟨[.slice (A j) (L j) (C j)], rfl, ⟨A j, C j, by rw [hlr j hjl], by rw [hlr j hjl]; exact h2, ?_⟩, fun i u hu => ?_⟩
      · rw [hlr j hjl]
        refine ⟨hlr j hjl, by have : maxLen = 9223372036854775807 := rfl; omega, fun hp => ?_⟩
        cases hA : A j with
        | none => have := h6 hA; omega
        | some a' =>
          obtain ⟨_, hc⟩ := h7 a' hA
          refine ⟨a', rfl, fun i p hi => ⟨[.int .u8 p], rfl, rfl, fun k u hu => ?_⟩⟩
          cases k with
          | succ k => simp at hu
          | zero =>
            simp only [List.getElem?_cons_zero, Option.some.injEq] at hu
            subst hu
            have hil : i < L j := by
              have := (List.getElem?_eq_some_iff.1 hi).1
              rw [hlr j hjl] at this
              exact this
            have := hc i (by omega)
            rw [show i * (Kd.int .u8).sz + 0 = i from by show i * 1 + 0 = i; omega, this, List.getD_eq_getElem?_getD]
            rw [List.getElem?_take_of_lt hil] at hi
            rw [hi]
            rfl
      · cases i with
        | succ i => simp at hu
        | zero =>
          simp only [List.getElem?_cons_zero, Option.some.injEq] at hu
          subst hu
          rw [show j * (Kd.slice 5 (Kd.int .u8)).sz + 0 = j from by show j * 1 + 0 = j; omega]
          exact h1
    · rw [hlen]; exact hl
    · intro y hy
      obtain ⟨r, hr1, rfl⟩ := hin y hy
      rw [hlr r hr1, ← hw]
      obtain ⟨h1, h2, h3, h4, h5, h6, h7⟩ := hr r (by omega)
      cases hA : A r with
      | none => have := h6 hA; omega
      | some a' =>
        have hm : Deep.intRow (H := H) .u8 (A r) (L r) (Z r) ∈ (List.range len).map (fun r => Deep.intRow (H := H) .u8 (A r) (L r) (Z r)) := List.mem_map.2 ⟨r, List.mem_range.2 hr1, rfl⟩
        have hx2 := hweights ((lits (H := H) .u8 ((Z r).take (L r))).length + (lits (H := H) .u8 ((Z r).drop (L r))).length) (by
          simp only [DataW.weights, hu, List.mem_cons, List.mem_append]
          refine .inr (.inl (weights_mem_all hm _ ?_))
          rw [hA]
          simp [Deep.intRow, DataW.weights, he, hB])
        simp only [lits, List.length_map, List.length_take, List.length_drop] at hx2
        omega
    · rw [hlen, ← hw]
      have hx2 := hweights _ (by simp only [DataW.weights, hu, List.mem_cons]; exact .inl rfl)
      simp only [List.length_map, List.length_range] at hx2
      have h2 : len * 1 ≤ (len + (cap - len)) * P.bytesOf e := Nat.mul_le_mul (by omega) hBe
      omega
    · intro y hy
      obtain ⟨r, hr1, rfl⟩ := hin y hy
      obtain ⟨h1, h2, h3, h4, h5, h6, h7⟩ := hr r (by omega)
      obtain ⟨B, hB1, hB2⟩ := Ma.up_of ((Z r).take (L r)) (fun n hn => h5 n (List.mem_of_mem_take hn))
      exact ⟨B, hB1, hB2⟩
theorem bloomActs_walk (n bits : Int) (A : Option Addr) (c : Nat) (l : List (List Int)) (w : World) (HK : Keys w A c l) :
    Calls Try.prog 17 #[.int .i64 n, .int .i64 bits, .slice A l.length c] w fun e w' => e = .returned (.bool true) ∧ Below w.heap.size w w' := by
  by_cases h : n < 0 ∨ 100000 < n ∨ bits < 1 ∨ 32 < bits
  · exact acts_bad w n bits h _
  · exact acts_ok w n bits (by omega) (by omega) (by omega) (by omega) A c l HK
end Go.Proofs.Ytcopbkdlpfcjpaa.L
