/- Joined by a program of this session (slim.py) out of: CelE, CelF, CelG, CelH, CelI, CelN, Gx2: what this claim uses of them. -/
import Derived.Deep.RegionLaw
import Derived.Test.YtcopbkdlpfcjpaaSa1
namespace Go.Proofs.Ytcopbkdlpfcjpaa.K
open Go.RowKit Go.Proofs.YtcopbkdlpfcjpaaW.PrintWords Go.Proofs.YtcopbkdlpfcjpaaW.PrintLast Go.Proofs.YtcopbkdlpfcjpaaW.PrintMore Go.Proofs.Ytcopbkdlpfcjpaa.B Go.Proofs.Ytcopbkdlpfcjpaa.G
attribute [local go_sem] max2_int min2_int max_two min_two max_three min_three max_four min_four
set_option linter.unusedVariables false
set_option linter.unusedSectionVars false
set_option linter.unusedSimpArgs false
/-- As many cells as n says, and what is left. -/
def readS : Nat → List Nat → Option (List S101 × List Nat)
  | 0, L => some ([], L)
  | n + 1, L => (cellS L).bind fun p => (readS n p.2).bind fun q => some (p.1 :: q.1, q.2)
/-- All cells of the bytes, none of which is left over. -/
def readCellsS (L : List Nat) : Option (List S101) := (numS L).bind fun p => (readS p.1 p.2).bind fun q => if q.2 = [] then some q.1 else none
/-- Where the named results lie. -/
structure PX (w0 w1 : World) (v x : Value) : Prop where
  below : Below w0.heap.size w0 w1
  res : w1.heap[w0.heap.size]? = some (.cells #[v] 85 (0, 0))
  err : w1.heap[w0.heap.size + 1]? = some (.cells #[x] 42 (0, 0))
/-- Within ReadCells: the reader at g = w0.heap.size + 2. -/
structure RI (w0 w1 : World) (L : List Nat) (xs : List S101) (v : Value) : Prop where
  rdr : Rdr w0 w1 (w0.heap.size + 2) L
  ok : OkB L
  px : PX w0 w1 v (.int .i64 0)
  row : k101.R 101 w1 (w0.heap.size + 3) (fun k => w0.heap.size + 3 ≤ k) v xs
theorem PX.step {w0 w1 w2 : World} {v x : Value} (h : PX w0 w1 v x) (hk : Kp (w0.heap.size + 2) (w0.heap.size + 2) w1 w2) : PX w0 w2 v x :=
  ⟨hk.below h.below (by omega), (hk.block _ (blk_lt h.res) (.inl (by omega))).trans h.res, (hk.block _ (blk_lt h.err) (.inl (by omega))).trans h.err⟩
theorem RI.step {w0 w1 w2 : World} {L L' : List Nat} {xs : List S101} {v : Value} (h : RI w0 w1 L xs v) (hR : Rdr w0 w2 (w0.heap.size + 2) L') (hO : OkB L') (hk : Kp (w0.heap.size + 2) (w0.heap.size + 2) w1 w2) : RI w0 w2 L' xs v :=
  ⟨hR, hO, h.px.step hk, Kd.R_step h.row (fun k ho hlt => hk.block k hlt (.inr (by omega)))⟩
theorem RI.init {w : World} {A : Option Addr} {c : Nat} {L : List Nat} (hC : Kd.C (Kd.int .u8) w A (Ma.up L).length (Ma.up L)) (hc : (Ma.up L).length ≤ c) (hO : OkB L) :
    RI w (((w.alloc (.cells #[.slice none 0 0] 85)).alloc (.cells #[.int .i64 0] 42)).alloc (.cells #[.slice A (Ma.up L).length c] 119)) L [] (.slice none 0 0) := by
  have b1 : Below w.heap.size w (w.alloc (.cells #[.slice none 0 0] 85)) := below_alloc (Below.refl _ _) _
  have b2 := b1.alloc b1.size (.cells #[.int .i64 0] 42)
  have b3 := b2.alloc b2.size (.cells #[.slice A (Ma.up L).length c] 119)
  have s1 : (w.alloc (.cells #[.slice none 0 0] 85)).heap.size = w.heap.size + 1 := Array.size_push _
  have s2 : ((w.alloc (.cells #[.slice none 0 0] 85)).alloc (.cells #[.int .i64 0] 42)).heap.size = w.heap.size + 2 := by
    have : ((w.alloc (.cells #[.slice none 0 0] 85)).alloc (.cells #[.int .i64 0] 42)).heap.size = (w.alloc (.cells #[.slice none 0 0] 85)).heap.size + 1 := Array.size_push _
    omega
  have n1 := blk_new w (.cells #[.slice none 0 0] 85)
  have n2 := blk_new (w.alloc (.cells #[.slice none 0 0] 85)) (.cells #[.int .i64 0] 42)
  have n3 := blk_new ((w.alloc (.cells #[.slice none 0 0] 85)).alloc (.cells #[.int .i64 0] 42)) (.cells #[.slice A (Ma.up L).length c] 119)
  rw [s1] at n2
  rw [s2] at n3
  exact ⟨⟨A, c, n3, hc, hC, by omega, b3⟩, hO, ⟨b3, blk_alloc (blk_alloc n1 _) _, blk_alloc n2 _⟩, Kd.R_nil _ _ _ _ _⟩
theorem num_ri {w0 w1 : World} {L : List Nat} {xs : List S101} {v : Value} (h : RI w0 w1 L xs v) : Calls Try.prog 93 #[.pointer (some ⟨w0.heap.size + 1 + 1, 0, none⟩)] w1 fun e w' => (∃ (n : Nat) (L' : List Nat), Aside0 (numS L = some (n, L')) ∧ e = .returned (.int .u64 (n : Int)) ∧ Aside0 (RI w0 w' L' xs v)) ∨ (Aside0 (numS L = none) ∧ e = .panicked PW ∧ Aside0 (PX w0 w' v (.int .i64 0))) :=
  (num_c h.rdr h.ok).mono fun e w' k => k.imp (fun ⟨v, L', h1, h2, h3, h4⟩ => ⟨v, L', .mk h1, h2, .mk (h.step h3 (numS_ok h1 h.ok) h4)⟩) (fun ⟨h1, h2, h3⟩ => ⟨.mk h1, h2, .mk (h.px.step h3)⟩)
theorem PX.caught {w0 w1 : World} {v x : Value} (h : PX w0 w1 v x) (W : World) (hW : W = ((w1.alloc (.cells #[] 116)).setCell ⟨w0.heap.size, 0, none⟩ (.slice none 0 0)).setCell ⟨w0.heap.size + 1, 0, none⟩ (.int .i64 8)) : W.cell? ⟨w0.heap.size, 0, none⟩ = some (.slice none 0 0) ∧ W.cell? ⟨w0.heap.size + 1, 0, none⟩ = some (.int .i64 8) ∧ Below w0.heap.size w0 W := by
  have e1 := blk_put (blk_alloc h.res (.cells #[] 116)) 0 (.slice none 0 0) rfl
  have e2 := (Below.heap_setCell (w1.alloc (.cells #[] 116)) ⟨w0.heap.size, 0, none⟩ (.slice none 0 0) (w0.heap.size + 1) (by show w0.heap.size + 1 ≠ w0.heap.size; omega)).trans (blk_alloc h.err (.cells #[] 116))
  have e3 := blk_put e2 0 (.int .i64 8) rfl
  have e4 := (Below.heap_setCell ((w1.alloc (.cells #[] 116)).setCell ⟨w0.heap.size, 0, none⟩ (.slice none 0 0)) ⟨w0.heap.size + 1, 0, none⟩ (.int .i64 8) w0.heap.size (by show w0.heap.size ≠ w0.heap.size + 1; omega)).trans e1
  subst hW
  exact ⟨(blk_cell e4 0).trans rfl, (blk_cell e3 0).trans rfl, Below.setCell (Below.setCell (h.below.alloc h.below.size _) (Nat.le_refl _) _) (by show w0.heap.size ≤ w0.heap.size + 1; omega) _⟩
set_option maxHeartbeats 8000000 in
set_option maxRecDepth 100000 in
/-- The end of ReadCells, where the body panics. -/
theorem bad_end {w0 w1 : World} {v x : Value} (h : PX w0 w1 v x) {R : Ending → World → Prop} (hR : ∀ W, Below w0.heap.size w0 W → R (.returned (.tuple #[.slice none 0 0, .int .i64 8])) W) {tmps : Array Value}
    (h2 : tmps[2]? = some (.pointer (some ⟨w0.heap.size, 0, none⟩))) (h3 : tmps[3]? = some (.pointer (some ⟨w0.heap.size + 1, 0, none⟩))) :
    bodyPostD Try.prog Try.f68 R (.panic PW) { tmps := tmps, defers := [{ target := .fn (.func 92) #[.pointer (some ⟨w0.heap.size, 0, none⟩), .pointer (some ⟨w0.heap.size + 1, 0, none⟩)], args := #[] }] } w1 := by
  refine leaves_cons (f := 92) (args := #[.pointer (some ⟨w0.heap.size, 0, none⟩), .pointer (some ⟨w0.heap.size + 1, 0, none⟩)]) (by simp) (by simp [go_sem]) ?_
  refine (catch_panicking w0.heap.size (w0.heap.size + 1) _ _ w1 h.res h.err (by omega)).mono ?_
  rintro e u' w2 ⟨rfl, rfl, hw⟩
  obtain ⟨q1, q2, q3⟩ := h.caught w2 hw
  clear hw
  have q4 := hR w2 q3
  simp [Leaves, settle, results, Try.results68, go_sem, q1, q2, h2, h3]
  exact q4
set_option maxHeartbeats 8000000 in
set_option maxRecDepth 100000 in
/-- The end of ReadCells, where the body returns. -/
theorem good_end {w0 w1 : World} {v x : Value} (h : PX w0 w1 v x) {R : Ending → World → Prop} (hR : R (.returned (.tuple #[v, x])) w1) {tmps : Array Value}
    (h2 : tmps[2]? = some (.pointer (some ⟨w0.heap.size, 0, none⟩))) (h3 : tmps[3]? = some (.pointer (some ⟨w0.heap.size + 1, 0, none⟩))) :
    bodyPostD Try.prog Try.f68 R .ret { tmps := tmps, defers := [{ target := .fn (.func 92) #[.pointer (some ⟨w0.heap.size, 0, none⟩), .pointer (some ⟨w0.heap.size + 1, 0, none⟩)], args := #[] }] } w1 := by
  refine leaves_cons (f := 92) (args := #[.pointer (some ⟨w0.heap.size, 0, none⟩), .pointer (some ⟨w0.heap.size + 1, 0, none⟩)]) (by simp) (by simp [go_sem]) ?_
  refine (catch_idle ⟨w0.heap.size, 0, none⟩ ⟨w0.heap.size + 1, 0, none⟩ w1).mono ?_
  rintro e u' w2 ⟨rfl, rfl, rfl⟩
  have q1 : w2.cell? ⟨w0.heap.size, 0, none⟩ = some v := (blk_cell h.res 0).trans rfl
  have q2 : w2.cell? ⟨w0.heap.size + 1, 0, none⟩ = some x := (blk_cell h.err 0).trans rfl
  simp [Leaves, settle, results, Try.results68, go_sem, q1, q2, h2, h3]
  exact hR
/-- The ten cells of a cell. -/
def cellsOf (v : S101) : List Value := [.string v.f0.f0, .string v.f0.f1, .int .i64 v.f0.f2, .string v.f0.f3, .int .i64 v.f1.f0, .bool v.f1.f1, .int .i64 v.f1.f2, .int .i64 v.f1.f3.f0, .int .i64 v.f1.f3.f1, .string v.f1.f3.f2]
theorem numS_len {L L' : List Nat} {v : Nat} (h : numS L = some (v, L')) : L'.length ≤ L.length := by
  unfold numS at h
  split at h
  · cases h
  · have h := Option.some.inj h
    simp only [Prod.mk.injEq] at h
    rw [← h.2, List.length_drop]; omega
theorem numS_lt {L L' : List Nat} {v : Nat} (hO : OkB L) (h : numS L = some (v, L')) : v < 18446744073709551616 := by
  have := getS_lt L hO.1 (by have := hO.2; omega)
  unfold numS at h
  split at h
  · cases h
  · have h := Option.some.inj h
    simp only [Prod.mk.injEq] at h
    omega
theorem textS_len {L L' : List Nat} {v : ByteArray} (h : textS L = some (v, L')) : L'.length + 1 ≤ L.length := by
  have hle := getS_le L 0 0
  unfold textS at h
  split at h
  · cases h
  · split at h
    · cases h
    · have h := Option.some.inj h
      simp only [Prod.mk.injEq] at h
      rw [← h.2, List.length_drop]; omega
theorem intS_len {L L' : List Nat} {v : Int} (h : intS L = some (v, L')) : L'.length ≤ L.length := by
  unfold intS at h
  cases h1 : numS L with
  | none => rw [h1] at h; cases h
  | some p =>
    obtain ⟨a, b⟩ := p
    rw [h1] at h
    simp only [Option.map_some, Option.some.injEq, Prod.mk.injEq] at h
    obtain ⟨_, rfl⟩ := h
    exact numS_len h1
theorem flagS_len {L L' : List Nat} {v : Bool} (h : flagS L = some (v, L')) : L'.length ≤ L.length := by
  cases L with
  | nil => cases h
  | cons x r =>
    replace h : (if x > 1 then none else some (x == 1, r)) = some (v, L') := h
    by_cases hx : x > 1
    · rw [if_pos hx] at h; cases h
    · rw [if_neg hx] at h
      have h := Option.some.inj h
      simp only [Prod.mk.injEq] at h
      rw [← h.2, List.length_cons]; omega
theorem cellS_prop {L L' : List Nat} {c : S101} (h : cellS L = some (c, L')) (hO : OkB L) : OkB L' ∧ L'.length + 1 ≤ L.length := by
  unfold cellS at h
  simp only [Option.bind_eq_some_iff] at h
  obtain ⟨⟨v1, L1⟩, h1, ⟨v2, L2⟩, h2, ⟨v3, L3⟩, h3, ⟨v4, L4⟩, h4, ⟨v5, L5⟩, h5, ⟨v6, L6⟩, h6, h⟩ := h
  simp only at h2 h3 h4 h5 h6 h
  have o6 := flagS_ok h6 (intS_ok h5 (textS_ok h4 (intS_ok h3 (textS_ok h2 (textS_ok h1 hO)))))
  have l1 := textS_len h1; have l2 := textS_len h2; have l3 := intS_len h3; have l4 := textS_len h4; have l5 := intS_len h5; have l6 := flagS_len h6
  split at h
  · simp only [Option.bind_eq_some_iff] at h
    obtain ⟨⟨v7, L7⟩, h7, h⟩ := h
    have l7 := intS_len h7
    have h := Option.some.inj h
    simp only [Prod.mk.injEq] at h
    obtain ⟨_, rfl⟩ := h
    exact ⟨intS_ok h7 o6, by omega⟩
  · simp only [Option.bind_eq_some_iff] at h
    obtain ⟨⟨v7, L7⟩, h7, ⟨v8, L8⟩, h8, ⟨v9, L9⟩, h9, h⟩ := h
    simp only at h8 h9 h
    have l7 := numS_len h7; have l8 := intS_len h8; have l9 := textS_len h9
    have h := Option.some.inj h
    simp only [Prod.mk.injEq] at h
    obtain ⟨_, rfl⟩ := h
    exact ⟨textS_ok h9 (intS_ok h8 (numS_ok h7 o6)), by omega⟩
theorem RI.drew {w0 w1 : World} {L : List Nat} {xs : List S101} {v : Value} (h : RI w0 w1 L xs v) : RI w0 w1.drew L xs v :=
  h.step (h.rdr.keep (below_drew (Below.refl _ _))) h.ok (Kp.drew (Kp.refl _ _ _))
theorem RI.alloc {w0 w1 : World} {L : List Nat} {xs : List S101} {v : Value} (h : RI w0 w1 L xs v) (o : Obj) : RI w0 (w1.alloc o) L xs v :=
  h.step (h.rdr.keep (below_alloc (Below.refl _ _) _)) h.ok (Kp.of_below (below_alloc (Below.refl _ _) _))
theorem RI.cell {w0 w1 : World} {L : List Nat} {xs : List S101} {v : Value} (h : RI w0 w1 L xs v) : w1.cell? ⟨w0.heap.size, 0, none⟩ = some v ∧ w1.frozen? ⟨w0.heap.size, 0, none⟩ = false := ⟨(blk_cell h.px.res 0).trans rfl, blk_frozen h.px.res 0⟩
theorem cell_ri_none {w0 w1 : World} {L : List Nat} {xs : List S101} {v : Value} (h : RI w0 w1 L xs v) (hc : cellS L = none) : Calls Try.prog 94 #[.pointer (some ⟨w0.heap.size + 1 + 1, 0, none⟩)] w1 fun e w' => e = .panicked PW ∧ Aside0 (PX w0 w' v (.int .i64 0)) :=
  (cell_c h.rdr h.ok).mono fun e w' k => k.elim (fun ⟨a, b, h1, _⟩ => by rw [hc] at h1; cases h1) (fun ⟨_, h2, h3⟩ => ⟨h2, .mk (h.px.step h3)⟩)
theorem cell_ri_some {w0 w1 : World} {L L' : List Nat} {xs : List S101} {v : Value} {c : S101} (h : RI w0 w1 L xs v) (hc : cellS L = some (c, L')) : Calls Try.prog 94 #[.pointer (some ⟨w0.heap.size + 1 + 1, 0, none⟩)] w1 fun e w' => e = .returned (.agg (cellsOf c).toArray) ∧ Aside0 (RI w0 w' L' xs v) :=
  (cell_c h.rdr h.ok).mono fun e w' k => k.elim (fun ⟨a, b, h1, h2, h3, h4⟩ => by
    rw [hc] at h1
    have h1 := Option.some.inj h1
    simp only [Prod.mk.injEq] at h1
    obtain ⟨rfl, rfl⟩ := h1
    exact ⟨h2, .mk (h.step h3 (cellS_prop hc h.ok).1 h4)⟩) (fun ⟨h1, _, _⟩ => by rw [hc] at h1; cases h1)
theorem info101z : (Try.prog.info? 101).map (fun i => (i.zero, i.size, i.bytes)) = some (some (.agg Z10), 10, 112) := by kernel_rfl
theorem PX.fin {w0 w1 : World} {v x y : Value} (h : PX w0 w1 v x) : PX w0 ((w1.setCell ⟨w0.heap.size, 0, none⟩ v).setCell ⟨w0.heap.size + 1, 0, none⟩ y) v y ∧ (w1.setCell ⟨w0.heap.size, 0, none⟩ v).cell? ⟨w0.heap.size + 1, 0, none⟩ = some x ∧ (w1.setCell ⟨w0.heap.size, 0, none⟩ v).frozen? ⟨w0.heap.size + 1, 0, none⟩ = false := by
  have e1 := blk_put h.res 0 v rfl
  have e2 := (Below.heap_setCell w1 ⟨w0.heap.size, 0, none⟩ v (w0.heap.size + 1) (by show w0.heap.size + 1 ≠ w0.heap.size; omega)).trans h.err
  have e3 := blk_put e2 0 y rfl
  have e4 := (Below.heap_setCell (w1.setCell ⟨w0.heap.size, 0, none⟩ v) ⟨w0.heap.size + 1, 0, none⟩ y w0.heap.size (by show w0.heap.size ≠ w0.heap.size + 1; omega)).trans e1
  exact ⟨⟨Below.setCell (Below.setCell h.below (Nat.le_refl _) _) (by show w0.heap.size ≤ w0.heap.size + 1; omega) _, e4, e3⟩, (blk_cell e2 0).trans rfl, blk_frozen e2 0⟩
theorem C_one {W : World} {b : Nat} {c : S101} (h : W.heap[b]? = some (.cells (cellsOf c).toArray 101 (0, 0))) : Kd.C k101 W (some ⟨b, 0, none⟩) 1 [c] := by
  refine ⟨rfl, by omega, fun _ => ⟨_, rfl, fun j p hp => ?_⟩⟩
  cases j with
  | succ j => simp at hp
  | zero =>
    obtain rfl : c = p := by simpa using hp
    refine ⟨cellsOf c, rfl, k101_mk _ _, fun i u hu => ?_⟩
    have e : (⟨b, 0, none⟩ : Addr).add (0 * k101.sz + i) = ⟨b, i, none⟩ := by
      rw [Nat.zero_mul, Nat.zero_add]
      unfold Addr.add
      by_cases hi : i = 0
      · rw [if_pos hi, hi]
      · rw [if_neg hi]; simp
    rw [e, blk_cell h i]
    simpa using hu
theorem RI.app {w0 W w5 : World} {L : List Nat} {xs ys : List S101} {v v4 : Value} (h : RI w0 W L xs v) (hr : k101.R 101 w5 (w0.heap.size + 3) (fun k => w0.heap.size + 3 ≤ k) v4 ys) (hb : Below (w0.heap.size + 3) W w5) :
    (w5.cell? ⟨w0.heap.size, 0, none⟩ = some v ∧ w5.frozen? ⟨w0.heap.size, 0, none⟩ = false) ∧ Aside0 (RI w0 (w5.setCell ⟨w0.heap.size, 0, none⟩ v4) L ys v4) := by
  have f1 := (hb.block w0.heap.size (by omega)).trans h.px.res
  have f2 := (hb.block (w0.heap.size + 1) (by omega)).trans h.px.err
  have hbb : Below w0.heap.size w0 w5 := ⟨hb.os.trans h.px.below.os, hb.tape.trans h.px.below.tape, hb.output.trans h.px.below.output, Nat.le_trans h.px.below.size hb.size, fun k hk => (hb.block k (by omega)).trans (h.px.below.block k hk)⟩
  refine ⟨⟨(blk_cell f1 0).trans rfl, blk_frozen f1 0⟩, ⟨?_, h.ok, ⟨?_, blk_put f1 0 v4 rfl, ?_⟩, Kd.R_far hr (fun k hk => by show k ≠ w0.heap.size; omega) _⟩⟩
  · obtain ⟨A, c, k1, k2, k3, k4, k5⟩ := h.rdr
    exact ⟨A, c, (Below.heap_setCell w5 _ v4 _ (by show w0.heap.size + 2 ≠ w0.heap.size; omega)).trans ((hb.block _ (by omega)).trans k1), k2, k3, k4, Below.setCell hbb (Nat.le_refl _) _⟩
  · exact Below.setCell hbb (Nat.le_refl _) _
  · exact (Below.heap_setCell w5 _ v4 _ (by show w0.heap.size + 1 ≠ w0.heap.size; omega)).trans f2
theorem RI.lt {w0 W : World} {L : List Nat} {xs : List S101} {v : Value} (h : RI w0 W L xs v) : w0.heap.size + 3 ≤ W.heap.size := by have := h.rdr.below; omega
set_option maxHeartbeats 8000000 in
set_option maxRecDepth 100000 in
theorem cells_c {w : World} {A : Option Addr} {c : Nat} {L : List Nat} (hC : Kd.C (Kd.int .u8) w A (Ma.up L).length (Ma.up L)) (hc : (Ma.up L).length ≤ c) (hO : OkB L) :
   Calls Try.prog 68 #[.slice A (Ma.up L).length c] w fun e w' => (∃ xs v, readCellsS L = some xs ∧ e = .returned (.tuple #[v, .int .i64 0]) ∧ k101.R 101 w' w.heap.size (fun _ => True) v xs ∧ Below w.heap.size w w') ∨ (readCellsS L = none ∧ e = .returned (.tuple #[.slice none 0 0, .int .i64 8]) ∧ Below w.heap.size w w') := by
  have HI := Aside0.mk (RI.init hC hc hO)
  have hmf : ∀ (fn : Fn) (first cap : Array Value) (w : World), (Instr.makeFunc fn first cap).run Try.prog w = .ok (.func fn first cap) w := fun _ _ _ _ => rfl
  clear hC hc hO
  generalize hl : Ma.up L = l at *
  clear hl
  go_enter_defers Try.func68, Try.ntmps68
  go_wp2_with (fail)
  with_reducible refine (num_ri HI.out).mono ?_
  rintro e w1 (⟨n, L1, hs1, rfl, HI1⟩ | ⟨hs1, rfl, hx⟩)
  rotate_left
  · go_wp2_with (fail)
    exact bad_end hx.out (fun W hb => .inr ⟨by simp [readCellsS, hs1.out], rfl, hb⟩) rfl rfl
  · have hn := Aside0.mk (numS_lt HI.out.ok hs1.out)
    have hl1 := Aside0.mk (show L1.length ≤ 1000000 from HI1.out.ok.2)
    clear HI
    go_wp2_with (fail)
    go_loopg [5] n (fun kq v5 w' => v5 = .int .u64 (kq : Int) ∧ ∃ Lc xs v, Aside0 (RI w w' Lc xs v) ∧ Aside0 (readS n L1 = (readS kq Lc).map fun p => (xs ++ p.1, p.2)) ∧ Aside0 (kq < 18446744073709551616) ∧ Aside0 (xs.length + Lc.length ≤ 1000000))
    case atStart => exact ⟨rfl, L1, [], _, HI1, ⟨by cases readS n L1 <;> rfl⟩, hn, ⟨by simpa using hl1.out⟩⟩
    case round =>
      obtain ⟨rfl, Lc, xs, v, HR, HE, HB, HX⟩ := hrel
      obtain ⟨A5, c5, rfl⟩ := Kd.R_slice HR.out.row
      cases gk with
      | zero =>
        have c1 : decide ((0 : Int) < ((0 : Nat) : Int)) = false := rfl
        have hr0 := HR.out.rdr.cell
        obtain ⟨A1, c3, hc1, _, _⟩ := hr0
        replace hc1 : World.cell? _ ⟨w.heap.size + 1 + 1, 0, none⟩ = some (Value.slice A1 (Ma.up Lc).length c3) := hc1
        have hul := Ma.up_length Lc
        by_cases hLc : Lc = []
        · have c4 : decide ((0 : Int) < ((Ma.up Lc).length : Int)) = false := decide_eq_false (by rw [hul, hLc]; decide)
          have c5 : decide (0 < (Ma.up Lc).length) = false := decide_eq_false (by rw [hul, hLc]; decide)
          have k1 := HR.out.cell.1
          have k2 := HR.out.cell.2
          have HF := HR.out.px.fin (y := .int .i64 0)
          have k3 := HF.2.1
          have k4 := HF.2.2
          replace HF := Aside0.mk HF.1
          replace hLc := Aside0.mk hLc
          clear hul
          generalize (Ma.up Lc).length = ll at *
          go_wp2_with (fail)
          refine good_end HF.out (.inl ⟨xs, _, ?_, rfl, ?_, HF.out.below⟩) rfl rfl
          · have he := HE.out
            simp only [readS, Option.map_some, List.append_nil] at he
            simp [readCellsS, hs1.out, he, hLc.out]
          · exact Kd.R_mono (Kd.R_far (Kd.R_far HR.out.row (fun k hk => by show k ≠ w.heap.size; omega) _) (fun k hk => by show k ≠ w.heap.size + 1; omega) _) (fun _ _ => trivial) |> fun h => Kd.R_lower h (by omega)
        · have c4 : decide ((0 : Int) < ((Ma.up Lc).length : Int)) = true := decide_eq_true (by rw [hul]; have := List.length_pos_iff.mpr hLc; omega)
          have c5 : decide (0 < (Ma.up Lc).length) = true := decide_eq_true (by rw [hul]; exact List.length_pos_iff.mpr hLc)
          replace hLc := Aside0.mk hLc
          clear hul
          generalize (Ma.up Lc).length = ll at *
          go_wp2_with (fail)
          refine bad_end HR.out.px (fun W hb => .inr ⟨?_, rfl, hb⟩) rfl rfl
          have he := HE.out
          simp only [readS, Option.map_some, List.append_nil] at he
          simp [readCellsS, hs1.out, he, hLc.out]
      | succ m =>
        have c1 : decide ((0 : Int) < ((m + 1 : Nat) : Int)) = true := decide_eq_true (by omega)
        have c2 : IntKind.u64.wrap (((m + 1 : Nat) : Int) - 1) = (m : Int) := by rw [IntKind.wrap_u64]; have := HB.out; omega
        have c3 : IntKind.u64.wrap ((m : Int) + 1 - 1) = (m : Int) := by rw [IntKind.wrap_u64]; have := HB.out; omega
        have c4 : IntKind.u64.wrap (m : Int) = (m : Int) := by rw [IntKind.wrap_u64]; have := HB.out; omega
        have hrd : readS (m + 1) Lc = (cellS Lc).bind fun p => (readS m p.2).bind fun q => some (p.1 :: q.1, q.2) := rfl
        rw [hrd] at HE
        clear hrd
        cases hcs : cellS Lc with
        | none =>
          rw [hcs] at HE
          have HC := Aside0.mk (cell_ri_none HR.out.drew hcs)
          have k1 := HR.out.drew.cell.1
          have k2 := HR.out.drew.cell.2
          have hno : Aside0 (readCellsS L = none) := ⟨by have he := HE.out; simp only [Option.bind_none, Option.map_none] at he; simp [readCellsS, hs1.out, he]⟩
          clear hcs
          go_upto_region 6 with (fail)
          refine wp_region_held_drew (S := fun _ => True) (by kernel_rfl) trivial (fun _ => ?_)
          refine wpAnyH_ready (rs := [0, 1]) (by kernel_rfl) (by simp) ?_
          refine AllReadyH.cons rfl (fun K hK => ?_) (AllReadyH.cons rfl (fun K hK => ?_) AllReadyH.nil)
          · go_simp
            refine hK.out _ _ trivial (fun _ => ?_)
            clear hK K
            try simp only [Act.put, List.setIfInBounds_toArray, List.set_cons_zero, List.set_cons_succ]
            refine wpAnyH_ready (rs := [1]) (by kernel_rfl) (by simp) ?_
            refine AllReadyH.cons rfl (fun K hK => ?_) AllReadyH.nil
            go_simp
            refine hK.out _ _ trivial (fun _ => ?_)
            clear hK K
            try simp only [Act.put, List.setIfInBounds_toArray, List.set_cons_zero, List.set_cons_succ]
            refine wpAnyH_ready (rs := [2]) (by kernel_rfl) (by simp) ?_
            refine AllReadyH.cons rfl (fun K hK => ?_) AllReadyH.nil
            go_simp
            refine HC.out.mono ?_
            rintro e w2 ⟨rfl, hx⟩
            exact bad_end hx.out (fun W hb => .inr ⟨hno.out, rfl, hb⟩) rfl rfl
          · go_simp
            refine hK.out _ _ trivial (fun _ => ?_)
            clear hK K
            try simp only [Act.put, List.setIfInBounds_toArray, List.set_cons_zero, List.set_cons_succ]
            refine wpAnyH_ready (rs := [0, 2]) (by kernel_rfl) (by simp) ?_
            refine AllReadyH.cons rfl (fun K hK => ?_) (AllReadyH.cons rfl (fun K hK => ?_) AllReadyH.nil)
            · go_simp
              refine hK.out _ _ trivial (fun _ => ?_)
              clear hK K
              try simp only [Act.put, List.setIfInBounds_toArray, List.set_cons_zero, List.set_cons_succ]
              refine wpAnyH_ready (rs := [2]) (by kernel_rfl) (by simp) ?_
              refine AllReadyH.cons rfl (fun K hK => ?_) AllReadyH.nil
              go_simp
              refine HC.out.mono ?_
              rintro e w2 ⟨rfl, hx⟩
              exact bad_end hx.out (fun W hb => .inr ⟨hno.out, rfl, hb⟩) rfl rfl
            · go_simp
              refine HC.out.mono ?_
              rintro e w2 ⟨rfl, hx⟩
              exact bad_end hx.out (fun W hb => .inr ⟨hno.out, rfl, hb⟩) rfl rfl
        | some p =>
          obtain ⟨c, L2⟩ := p
          rw [hcs] at HE
          have hp := cellS_prop hcs HR.out.ok
          have HC := Aside0.mk (cell_ri_some HR.out.drew hcs)
          have hS := HR.out.drew.cell
          have hX2 : Aside0 ((xs ++ [c]).length + L2.length ≤ 1000000) := ⟨by have := HX.out; have := hp.2; rw [List.length_append, List.length_singleton]; omega⟩
          have hE2 : Aside0 (readS n L1 = (readS m L2).map fun p => ((xs ++ [c]) ++ p.1, p.2)) := ⟨by rw [HE.out]; simp only [Option.bind_some]; cases readS m L2 <;> simp⟩
          have hlx : Aside0 ((xs.length + 1) * 112 ≤ 140737488355328) := ⟨by have := HX.out; have := hp.2; omega⟩
          clear hcs hp
          go_upto_region 6 with (fail)
          refine wp_region_noPanic ?_
          have hS0 := hS.1
          have hZ0 := hS.2
          clear hS
          go_region_law (first
            | (refine Kd.R_append_rows_step k101 (w0 := w2.alloc (.cells (cellsOf c).toArray 101)) (w.heap.size + 3) (by kernel_rfl) (.tmp 16) (.tmp 19) 85 101 (.agg Z10) 112 rfl Try.underlying85 info101z rfl (by decide) (by omega) _ xs [c] (some ⟨w2.heap.size, 0, none⟩) 1 1 (fun k => w.heap.size + 3 ≤ k) (fun _ => False) rfl rfl hA.out.row hO.out (fun x cs h => by obtain rfl := k101_open h; exact k101_mkM _ _ _ _) (fun _ h => h.elim) (fun k hk => Nat.le_trans hA.out.lt hk) (Below.refl _ _) hA.out.lt hlx.out ?_; intro v4 w5 hR4 hb4 _ _; obtain ⟨A4, c4, rfl⟩ := Kd.R_slice hR4; rw [List.length_append, List.length_singleton] at hR4; have hS3 := (hA.out.app hR4 hb4).1.1; have hZ3 := (hA.out.app hR4 hb4).1.2; have hR5 := (hA.out.app hR4 hb4).2; clear hR4 hb4)
            | (go_simp; go_at_call 94; with_reducible refine HC.out.mono ?_; rintro e w2 ⟨rfl, hR2⟩; have hS1 := hR2.out.cell.1; have hZ1 := hR2.out.cell.2; have hS2 := (hR2.out.alloc (.cells (cellsOf c).toArray 101)).cell.1; have hZ2 := (hR2.out.alloc (.cells (cellsOf c).toArray 101)).cell.2; have hA := Aside0.mk (hR2.out.alloc (.cells (cellsOf c).toArray 101)); have hO := Aside0.mk (C_one (c := c) (blk_new w2 (.cells (cellsOf c).toArray 101))); simp only [cellsOf] at hS2 hZ2 hA hO ⊢))
          all_goals refine NoPanic.normal ?_
          all_goals go_wp2_with (fail)
          all_goals go_roundg m
          all_goals first
            | (have := HB.out; omega)
            | (refine ⟨rfl, L2, xs ++ [c], _, hR5, hE2, ⟨by have := HB.out; omega⟩, hX2⟩)
end Go.Proofs.Ytcopbkdlpfcjpaa.K
namespace Go.Proofs.Ytcopbkdlpfcjpaa.K
open Go.RowKit Go.Proofs.YtcopbkdlpfcjpaaW.PrintWords Go.Proofs.YtcopbkdlpfcjpaaW.PrintLast Go.Proofs.YtcopbkdlpfcjpaaW.PrintMore Go.Proofs.Ytcopbkdlpfcjpaa.B Go.Proofs.Ytcopbkdlpfcjpaa.G
attribute [local go_sem] max2_int min2_int max_two min_two max_three min_three max_four min_four
set_option linter.unusedVariables false
set_option linter.unusedSimpArgs false
open Go.Proofs.Ytcopbkdlpfcjpaa.Ma (getS digN Get_all refGet_all)
/-- The document's reader at block g: the bytes L are still to be read; b: something was wrong. -/
def RdB (w0 w : World) (g : Nat) (L : List Nat) (b : Bool) : Prop :=
  ∃ A c, w.heap[g]? = some (.cells #[.slice A (Ma.up L).length c, .bool b] 124 (0, 0)) ∧ (Ma.up L).length ≤ c ∧ Kd.C (Kd.int .u8) w0 A (Ma.up L).length (Ma.up L) ∧ w0.heap.size ≤ g ∧ Below w0.heap.size w0 w
theorem RdB.keep {w0 w w1 : World} {g : Nat} {L : List Nat} {b : Bool} (h : RdB w0 w g L b) (hb : Below w.heap.size w w1) : RdB w0 w1 g L b := by
  obtain ⟨A, c, h1, h2, h3, h4, h5⟩ := h
  exact ⟨A, c, (hb.block g (blk_lt h1)).trans h1, h2, h3, h4, h5.trans (hb.mono h5.size)⟩
theorem refget_q (L : List Nat) (hO : OkB L) : ∃ q, skerryref01_Get.f q (Ma.up L) = some (((getS L 0 0).1 : Int), ((getS L 0 0).2 : Int)) := (refGet_all L hO.1 (by have := hO.2; omega)).rounds
/-- The reader after it found something wrong. -/
theorem RdB.wrong {w0 w : World} {g : Nat} {L : List Nat} {b : Bool} (h : RdB w0 w g L b) (nd : Nat) : RdB w0 (((w.drewN nd).setCell ⟨g, 1, none⟩ (.bool true)).setCell ⟨g, 0, none⟩ (.slice none 0 0)) g [] true ∧ Kp g g w (((w.drewN nd).setCell ⟨g, 1, none⟩ (.bool true)).setCell ⟨g, 0, none⟩ (.slice none 0 0)) := by
  obtain ⟨A, c, h1, h2, h3, h4, h5⟩ := h
  have b1 : Below w0.heap.size w0 (w.drewN nd) := pw_below_drewN h5 nd
  refine ⟨⟨none, 0, blk_put (blk_put (blk_drewN h1 nd) 1 (.bool true) rfl) 0 (.slice none 0 0) rfl, Nat.le_refl _, Kd.C_nil _ _, h4, Below.setCell (Below.setCell b1 h4 _) h4 _⟩, ?_⟩
  exact ((Kp.of_below (pw_below_drewN (Below.refl _ _) nd)).trans (Kp.set _ g 1 _)).trans (Kp.set _ g 0 _)
set_option maxHeartbeats 8000000 in
set_option maxRecDepth 100000 in
theorem numB_none {w0 w : World} {g : Nat} {L : List Nat} {b : Bool} (hR : RdB w0 w g L b) (hO : OkB L) (h : numS L = none) : Calls Try.prog 95 #[.pointer (some ⟨g, 0, none⟩)] w fun e w' => e = .returned (.int .u64 0) ∧ RdB w0 w' g [] true ∧ Kp g g w w' := by
  obtain ⟨q, hq⟩ := refget_q L hO
  have HW := Aside0.mk (fun nd => hR.wrong nd)
  obtain ⟨A, c, h1, h2, h3, h4, h5⟩ := hR
  have h0 : (getS L 0 0).2 = 0 := by
    unfold numS at h
    by_cases h0 : (getS L 0 0).2 = 0
    · exact h0
    · rw [if_neg h0] at h; cases h
  rw [h0] at hq
  have HG := Aside0.mk (skerryref01_Get.calls q A c (Ma.up L) _ _ w (Kd.C_below h3 h5) h2 hq)
  have hc := (blk_cell h1 0).trans rfl
  have hc1 := (blk_cell h1 1).trans rfl
  have hz := blk_frozen h1 0
  have hz1 := blk_frozen h1 1
  clear h h1 h2 h3 h4 h5 hq h0 hO
  generalize Ma.up L = l at *
  go_enter Try.func95, Try.ntmps95
  go_wp2_with (first | (go_at_call 27; with_reducible refine HG.out.mono ?_; rintro e w' ⟨rfl, ⟨nd, rfl⟩⟩))
  first | go_end0 | go_ret2 | go_ret
  exact ⟨rfl, (HW.out _).1, (HW.out _).2⟩
set_option maxHeartbeats 8000000 in
set_option maxRecDepth 100000 in
theorem numB_some {w0 w : World} {g : Nat} {L L' : List Nat} {b : Bool} {v : Nat} (hR : RdB w0 w g L b) (hO : OkB L) (h : numS L = some (v, L')) : Calls Try.prog 95 #[.pointer (some ⟨g, 0, none⟩)] w fun e w' => e = .returned (.int .u64 (v : Int)) ∧ RdB w0 w' g L' b ∧ Kp g g w w' := by
  obtain ⟨q, hq⟩ := refget_q L hO
  obtain ⟨A, c, h1, h2, h3, h4, h5⟩ := hR
  have hle := getS_le L 0 0
  unfold numS at h
  by_cases h0 : (getS L 0 0).2 = 0
  · rw [if_pos h0] at h; cases h
  · rw [if_neg h0] at h
    have h := Option.some.inj h
    simp only [Prod.mk.injEq] at h
    obtain ⟨rfl, rfl⟩ := h
    have hul := Ma.up_length L
    obtain ⟨A1, cut1, HR1, HC1⟩ := cutC (k := (getS L 0 0).2) h3 h2 (by omega)
    rw [Ma.up_drop] at cut1 HR1 HC1
    have hb : (((getS L 0 0).2 : Int) == 0) = false := beq_eq_false_iff_ne.mpr (by omega)
    have HG := Aside0.mk (skerryref01_Get.calls q A c (Ma.up L) _ _ w (Kd.C_below h3 h5) h2 hq)
    have HE := Aside0.mk (And.intro h1 (And.intro HC1 (And.intro HR1 (And.intro h4 h5))))
    have hc := (blk_cell h1 0).trans rfl
    have hz := blk_frozen h1 0
    clear h1 h2 h3 h4 h5 hq h0 hO hle hul HR1 HC1
    generalize (getS L 0 0).1 = v at *
    generalize (getS L 0 0).2 = n at *
    generalize Ma.up L = l at *
    go_enter Try.func95, Try.ntmps95
    go_wp2_with (first | (go_at_call 27; with_reducible refine HG.out.mono ?_; rintro e w' ⟨rfl, ⟨nd, rfl⟩⟩))
    go_ret
    obtain ⟨k1, k2, k3, k4, k5⟩ := HE.out
    exact ⟨rfl, ⟨A1, c - n, blk_put (blk_drewN k1 _) 0 _ rfl, k2, k3, k4, Below.setCell (pw_below_drewN k5 _) k4 _⟩, (Kp.of_below (pw_below_drewN (Below.refl _ _) _)).trans (Kp.set _ g 0 _)⟩
theorem refgt_q (L : List Nat) (h : OkB L) : ∃ q, skerryref01_GetText.f q (Ma.up L) = some (if (getS L 0 0).2 = 0 then ((⟨#[]⟩ : ByteArray), 0) else if (getS L 0 0).1 > L.length - (getS L 0 0).2 then ((⟨#[]⟩ : ByteArray), 0)
  else (strOfNums (((Ma.up L).take ((getS L 0 0).2 + (getS L 0 0).1)).drop (getS L 0 0).2), (((getS L 0 0).2 + (getS L 0 0).1 : Nat) : Int))) := by
  obtain ⟨q, hq⟩ := refget_q L h
  have hul := Ma.up_length L
  have h2 := h.2
  have hle := getS_le L 0 0
  refine ⟨q, ?_⟩
  unfold skerryref01_GetText.f
  rw [hq, Option.bind_some]
  generalize (getS L 0 0).1 = a at *
  generalize (getS L 0 0).2 = b at *
  rw [hul]
  simp only
  by_cases c1 : b = 0
  · subst c1; rw [if_pos rfl]; rfl
  · rw [if_neg (by omega), if_neg c1]
    have e1 : wrap64 ((L.length : Int) - (b : Int)) = (L.length : Int) - (b : Int) := Ma.wrap_in (by omega)
    rw [e1, IntKind.wrap_u64]
    have e : ((L.length : Int) - (b : Int)) % 18446744073709551616 = (L.length : Int) - (b : Int) := by omega
    rw [e]
    by_cases c2 : a > L.length - b
    · rw [if_pos (by omega), if_pos c2]
    · have e2 : wrap64 ((a : Nat) : Int) = (a : Int) := Ma.wrap_in (by omega)
      have e3 : wrap64 ((b : Int) + (a : Int)) = (b : Int) + (a : Int) := Ma.wrap_in (by omega)
      rw [if_neg (by omega), if_neg c2, e2, e3, if_pos (by omega), if_pos (by omega), if_pos (by omega)]
      have e4 : ((b : Int) + (a : Int)).toNat = b + a := by omega
      have e5 : (b : Int).toNat = b := by omega
      rw [e4, e5]
      simp
set_option maxHeartbeats 8000000 in
set_option maxRecDepth 100000 in
theorem textB_none {w0 w : World} {g : Nat} {L : List Nat} {b : Bool} (hR : RdB w0 w g L b) (hO : OkB L) (h : textS L = none) : Calls Try.prog 103 #[.pointer (some ⟨g, 0, none⟩)] w fun e w' => e = .returned (.string ⟨#[]⟩) ∧ RdB w0 w' g [] true ∧ Kp g g w w' := by
  obtain ⟨q, hq⟩ := refgt_q L hO
  have HW := Aside0.mk (fun nd => hR.wrong nd)
  obtain ⟨A, c, h1, h2, h3, h4, h5⟩ := hR
  have hq : skerryref01_GetText.f q (Ma.up L) = some ((⟨#[]⟩ : ByteArray), 0) := by
    rw [hq]
    unfold textS at h
    by_cases c1 : (getS L 0 0).2 = 0
    · rw [if_pos c1]
    · rw [if_neg c1] at h ⊢
      by_cases c2 : (getS L 0 0).1 > L.length - (getS L 0 0).2
      · rw [if_pos c2]
      · rw [if_neg c2] at h; cases h
  have HG := Aside0.mk (skerryref01_GetText.calls q A c (Ma.up L) _ _ w (Kd.C_below h3 h5) h2 hq)
  have hc := (blk_cell h1 0).trans rfl
  have hc1 := (blk_cell h1 1).trans rfl
  have hz := blk_frozen h1 0
  have hz1 := blk_frozen h1 1
  clear h h1 h2 h3 h4 h5 hq hO
  generalize Ma.up L = l at *
  go_enter Try.func103, Try.ntmps103
  go_wp2_with (first | (go_at_call 34; with_reducible refine HG.out.mono ?_; rintro e w' ⟨rfl, ⟨nd, rfl⟩⟩))
  first | go_end0 | go_ret2 | go_ret
  exact ⟨rfl, (HW.out _).1, (HW.out _).2⟩
set_option maxHeartbeats 8000000 in
set_option maxRecDepth 100000 in
theorem textB_some {w0 w : World} {g : Nat} {L L' : List Nat} {b : Bool} {v : ByteArray} (hR : RdB w0 w g L b) (hO : OkB L) (h : textS L = some (v, L')) : Calls Try.prog 103 #[.pointer (some ⟨g, 0, none⟩)] w fun e w' => e = .returned (.string v) ∧ RdB w0 w' g L' b ∧ Kp g g w w' := by
  obtain ⟨q, hq⟩ := refgt_q L hO
  obtain ⟨A, c, h1, h2, h3, h4, h5⟩ := hR
  have hle := getS_le L 0 0
  unfold textS at h
  by_cases c1 : (getS L 0 0).2 = 0
  · rw [if_pos c1] at h; cases h
  · rw [if_neg c1] at h hq
    by_cases c2 : (getS L 0 0).1 > L.length - (getS L 0 0).2
    · rw [if_pos c2] at h; cases h
    · rw [if_neg c2] at h hq
      have h := Option.some.inj h
      simp only [Prod.mk.injEq] at h
      obtain ⟨e1, rfl⟩ := h
      rw [e1] at hq
      have hul := Ma.up_length L
      obtain ⟨A1, cut1, HR1, HC1⟩ := cutC (k := (getS L 0 0).2 + (getS L 0 0).1) h3 h2 (by omega)
      rw [Ma.up_drop] at cut1 HR1 HC1
      have hb : ((((getS L 0 0).2 + (getS L 0 0).1 : Nat) : Int) == 0) = false := beq_eq_false_iff_ne.mpr (by omega)
      have HE := Aside0.mk (And.intro h1 (And.intro HC1 (And.intro HR1 (And.intro h4 h5))))
      have hc := (blk_cell h1 0).trans rfl
      have hz := blk_frozen h1 0
      generalize (getS L 0 0).2 + (getS L 0 0).1 = n at *
      have HG := Aside0.mk (skerryref01_GetText.calls q A c (Ma.up L) _ _ w (Kd.C_below h3 h5) h2 hq)
      clear h1 h2 h3 h4 h5 hq c1 c2 hO hle hul HR1 HC1 e1
      generalize Ma.up L = l at *
      go_enter Try.func103, Try.ntmps103
      go_wp2_with (first | (go_at_call 34; with_reducible refine HG.out.mono ?_; rintro e w' ⟨rfl, ⟨nd, rfl⟩⟩))
      go_ret
      obtain ⟨k1, k2, k3, k4, k5⟩ := HE.out
      exact ⟨rfl, ⟨A1, c - n, blk_put (blk_drewN k1 _) 0 _ rfl, k2, k3, k4, Below.setCell (pw_below_drewN k5 _) k4 _⟩, (Kp.of_below (pw_below_drewN (Below.refl _ _) _)).trans (Kp.set _ g 0 _)⟩
/-- What Num and Text answer, and what they leave. -/
def numO (s : List Nat × Bool) : Nat × (List Nat × Bool) := match numS s.1 with | some (v, L') => (v, (L', s.2)) | none => (0, ([], true))
def textO (s : List Nat × Bool) : ByteArray × (List Nat × Bool) := match textS s.1 with | some (v, L') => (v, (L', s.2)) | none => (⟨#[]⟩, ([], true))
theorem OkB.nil : OkB [] := ⟨fun x h => by simp at h, by simp⟩
theorem numO_ok {s : List Nat × Bool} (h : OkB s.1) : OkB (numO s).2.1 ∧ (numO s).1 < 18446744073709551616 := by
  unfold numO
  cases h1 : numS s.1 with
  | none => exact ⟨.nil, by show 0 < 18446744073709551616; omega⟩
  | some p => exact ⟨numS_ok h1 h, numS_lt h h1⟩
theorem textO_ok {s : List Nat × Bool} (h : OkB s.1) : OkB (textO s).2.1 := by
  unfold textO
  cases h1 : textS s.1 with
  | none => exact .nil
  | some p => exact textS_ok h1 h
theorem numB_c {w0 w : World} {g : Nat} {s : List Nat × Bool} (hR : RdB w0 w g s.1 s.2) (hO : OkB s.1) : Calls Try.prog 95 #[.pointer (some ⟨g, 0, none⟩)] w fun e w' => e = .returned (.int .u64 ((numO s).1 : Int)) ∧ RdB w0 w' g (numO s).2.1 (numO s).2.2 ∧ Kp g g w w' := by
  unfold numO
  cases h1 : numS s.1 with
  | none => exact numB_none hR hO h1
  | some p => exact numB_some hR hO h1
theorem textB_c {w0 w : World} {g : Nat} {s : List Nat × Bool} (hR : RdB w0 w g s.1 s.2) (hO : OkB s.1) : Calls Try.prog 103 #[.pointer (some ⟨g, 0, none⟩)] w fun e w' => e = .returned (.string (textO s).1) ∧ RdB w0 w' g (textO s).2.1 (textO s).2.2 ∧ Kp g g w w' := by
  unfold textO
  cases h1 : textS s.1 with
  | none => exact textB_none hR hO h1
  | some p => exact textB_some hR hO h1
end Go.Proofs.Ytcopbkdlpfcjpaa.K
namespace Go.Proofs.Ytcopbkdlpfcjpaa.K
open Go.RowKit Go.Proofs.YtcopbkdlpfcjpaaW.PrintWords Go.Proofs.YtcopbkdlpfcjpaaW.PrintLast Go.Proofs.YtcopbkdlpfcjpaaW.PrintMore Go.Proofs.Ytcopbkdlpfcjpaa.B Go.Proofs.Ytcopbkdlpfcjpaa.G
attribute [local go_sem] max2_int min2_int max_two min_two max_three min_three max_four min_four
set_option linter.unusedVariables false
set_option linter.unusedSimpArgs false
open Go.Proofs.Ytcopbkdlpfcjpaa.Ma (getS digN Get_all)
theorem refZag_eq (u : Int) (h : 0 ≤ u ∧ u < 18446744073709551616) : skerryref01_Zag.f u = some (Ma.zag u) := by
  unfold skerryref01_Zag.f Ma.zag
  rw [Int.tmod_eq_emod_of_nonneg h.1, Int.tdiv_eq_ediv_of_nonneg h.1]
  have e0 : IntKind.u64.wrap (u / 2) = u / 2 := by rw [IntKind.wrap_u64]; omega
  have e1 : wrap64 (u / 2) = u / 2 := Ma.wrap_in (by omega)
  have e2 : wrap64 (-(u / 2)) = -(u / 2) := Ma.wrap_in (by omega)
  have e3 : wrap64 (-(u / 2) - 1) = -(u / 2) - 1 := Ma.wrap_in (by omega)
  rw [e0, e1, e2, e3]
  split <;> rfl
/-- Within a document's cell's reading: n is the result's block, n + 1 the cell that is filled. -/
structure CB (w0 w w1 : World) (g : Nat) (s : List Nat × Bool) (x : Array Value) : Prop where
  rdr : RdB w0 w1 g s.1 s.2
  ok : OkB s.1
  kp : Kp g g w w1
  glt : g < w.heap.size
  wlt : w0.heap.size ≤ w.heap.size
  res : w1.heap[w.heap.size]? = some (.cells Z10 101 (0, 0))
  mine : w1.heap[w.heap.size + 1]? = some (.cells x 101 (0, 0))
theorem RdB.set {w0 w : World} {g : Nat} {L : List Nat} {b : Bool} (h : RdB w0 w g L b) (a : Addr) (u : Value) (h1 : a.block ≠ g) (h2 : w0.heap.size ≤ a.block) : RdB w0 (w.setCell a u) g L b := by
  obtain ⟨A, c, k1, k2, k3, k4, k5⟩ := h
  exact ⟨A, c, (Below.heap_setCell w a u g (by omega)).trans k1, k2, k3, k4, Below.setCell k5 h2 _⟩
theorem RdB.below {w0 w : World} {g : Nat} {L : List Nat} {b : Bool} (h : RdB w0 w g L b) : Below w0.heap.size w0 w ∧ w0.heap.size ≤ g ∧ g < w.heap.size := by
  obtain ⟨A, c, h1, h2, h3, h4, h5⟩ := h
  exact ⟨h5, h4, blk_lt h1⟩
theorem CB.set {w0 w w1 : World} {g : Nat} {s : List Nat × Bool} {x x' : Array Value} (h : CB w0 w w1 g s x) (i : Nat) (u : Value) (e : x.setIfInBounds i u = x') : CB w0 w (w1.setCell ⟨w.heap.size + 1, i, none⟩ u) g s x' :=
  ⟨h.rdr.set _ _ (by have := h.glt; show w.heap.size + 1 ≠ g; omega) (by have := h.wlt; show w0.heap.size ≤ w.heap.size + 1; omega), h.ok, h.kp.setNew _ _ (by show w.heap.size ≤ w.heap.size + 1; omega), h.glt, h.wlt,
   (Below.heap_setCell w1 _ u _ (by show w.heap.size ≠ w.heap.size + 1; omega)).trans h.res, blk_put h.mine i u e⟩
theorem CB.step {w0 w w1 w2 : World} {g : Nat} {s s' : List Nat × Bool} {x : Array Value} (h : CB w0 w w1 g s x) (hR : RdB w0 w2 g s'.1 s'.2) (hk : Kp g g w1 w2) (hO : OkB s'.1) : CB w0 w w2 g s' x :=
  ⟨hR, hO, h.kp.trans hk, h.glt, h.wlt, (hk.block _ (blk_lt h.res) (.inr h.glt)).trans h.res, (hk.block _ (blk_lt h.mine) (.inr (by have := h.glt; omega))).trans h.mine⟩
theorem CB.init {w0 w : World} {g : Nat} {s : List Nat × Bool} (hR : RdB w0 w g s.1 s.2) (hO : OkB s.1) : CB w0 w ((w.alloc (.cells Z10 101)).alloc (.cells Z10 101)) g s Z10 := by
  have hb0 : Below w.heap.size w (w.alloc (.cells Z10 101)) := (Below.refl w.heap.size w).alloc (Nat.le_refl _) _
  have hb : Below w.heap.size w ((w.alloc (.cells Z10 101)).alloc (.cells Z10 101)) := hb0.alloc hb0.size _
  obtain ⟨h1, h2, h3⟩ := hR.below
  refine ⟨hR.keep hb, hO, Kp.of_below hb, h3, h1.size, blk_alloc (blk_new w _) _, ?_⟩
  have h4 := blk_new (w.alloc (.cells Z10 101)) (.cells Z10 101)
  have h5 : (w.alloc (.cells Z10 101)).heap.size = w.heap.size + 1 := Array.size_push _
  rw [h5] at h4
  exact h4
theorem CB.done {w0 w w1 : World} {g : Nat} {s : List Nat × Bool} {x : Array Value} (h : CB w0 w w1 g s x) (cs : Array Value) : RdB w0 (w1.setRow w.heap.size cs) g s.1 s.2 ∧ Kp g g w (w1.setRow w.heap.size cs) := by
  obtain ⟨A, c, k1, k2, k3, k4, k5⟩ := h.rdr
  have hg := h.glt
  exact ⟨⟨A, c, (setRow_other w1 _ g cs (by omega)).trans k1, k2, k3, k4, below_setRow k5 h.wlt cs⟩, h.kp.os, h.kp.tape, h.kp.output, by rw [setRow_size]; exact h.kp.size, fun k hk hb => (setRow_other w1 _ k cs (by omega)).trans (h.kp.block k hk hb)⟩
theorem textB_ci {w0 w w1 : World} {g : Nat} {s : List Nat × Bool} {x : Array Value} (h : CB w0 w w1 g s x) : Calls Try.prog 103 #[.pointer (some ⟨g, 0, none⟩)] w1 fun e w' => ∃ t, Aside0 (t = textO s) ∧ e = .returned (.string t.1) ∧ Aside0 (CB w0 w w' g t.2 x) :=
  (textB_c h.rdr h.ok).mono fun e w' k => ⟨_, .mk rfl, k.1, .mk (h.step k.2.1 k.2.2 (textO_ok h.ok))⟩
theorem numB_ci {w0 w w1 : World} {g : Nat} {s : List Nat × Bool} {x : Array Value} (h : CB w0 w w1 g s x) : Calls Try.prog 95 #[.pointer (some ⟨g, 0, none⟩)] w1 fun e w' => ∃ t, Aside0 (t = numO s) ∧ e = .returned (.int .u64 (t.1 : Int)) ∧ Aside0 (CB w0 w w' g t.2 x ∧ t.1 < 18446744073709551616) :=
  (numB_c h.rdr h.ok).mono fun e w' k => ⟨_, .mk rfl, k.1, .mk ⟨h.step k.2.1 k.2.2 (numO_ok h.ok).1, (numO_ok h.ok).2⟩⟩
theorem zagB_ci {w0 w w1 : World} {g : Nat} {s : List Nat × Bool} {x : Array Value} {t : Nat} (h : CB w0 w w1 g s x ∧ t < 18446744073709551616) : Calls Try.prog 31 #[.int .u64 (t : Int)] w1 fun e w' => e = .returned (.int .i64 (Ma.zag (t : Int))) ∧ Aside0 (CB w0 w w' g s x) :=
  (skerryref01_Zag.calls (t : Int) _ w1 (refZag_eq (t : Int) (by omega))).mono fun e w' ⟨h1, nd, h2⟩ => ⟨h1, .mk (h2 ▸ h.1.step (h.1.rdr.keep (pw_below_drewN (Below.refl _ _) nd)) (Kp.of_below (pw_below_drewN (Below.refl _ _) nd)) h.1.ok)⟩
theorem CB.bad {w0 w w1 : World} {g : Nat} {s : List Nat × Bool} {x : Array Value} (h : CB w0 w w1 g s x) : CB w0 w (w1.setCell ⟨g, 1, none⟩ (.bool true)) g (s.1, true) x := by
  obtain ⟨A, c, h1, h2, h3, h4, h5⟩ := h.rdr
  have hg := h.glt
  exact ⟨⟨A, c, blk_put h1 1 _ rfl, h2, h3, h4, Below.setCell h5 h4 _⟩, h.ok, h.kp.trans (Kp.set _ g 1 _), h.glt, h.wlt, (Below.heap_setCell w1 _ _ _ (by show w.heap.size ≠ g; omega)).trans h.res, (Below.heap_setCell w1 _ _ _ (by show w.heap.size + 1 ≠ g; omega)).trans h.mine⟩
theorem CB.cut {w0 w w1 : World} {g : Nat} {a : Nat} {r : List Nat} {b : Bool} {x : Array Value} (h : CB w0 w w1 g (a :: r, b) x) : ∃ A c ad, A = some ad ∧ w1.cell? ⟨g, 0, none⟩ = some (.slice A (r.length + 1) c) ∧ w1.frozen? ⟨g, 0, none⟩ = false ∧ w1.cell? ad = some (.int .u8 (a : Int)) ∧
    ∃ A1 c1, (∀ W, (Instr.slice 27 (.slice A (r.length + 1) c) (some (.int .i64 1)) none none).run Try.prog W = .ok (.slice A1 r.length c1) W) ∧ Aside0 (CB w0 w (w1.setCell ⟨g, 0, none⟩ (.slice A1 r.length c1)) g (r, b) x) := by
  obtain ⟨A, c, h1, h2, h3, h4, h5⟩ := h.rdr
  have hg := h.glt
  have hul : (Ma.up (a :: r)).length = r.length + 1 := by rw [Ma.up_length, List.length_cons]
  have hulr : (Ma.up r).length = r.length := Ma.up_length r
  have hrd : rd (Ma.up (a :: r)) 0 = (a : Int) := by have := Ma.rd_up (a :: r) 0; simpa using this
  obtain ⟨ad, e, hx0⟩ := Kd.at_int (Kd.C_below h3 h5) 0 (by omega) (by rw [hul]; omega)
  rw [hrd] at hx0
  obtain ⟨A1, cut1, HR1, HC1⟩ := cutC (k := 1) h3 h2 (by show 1 ≤ (Ma.up (a :: r)).length; omega)
  rw [Ma.up_drop] at cut1 HR1 HC1
  have hdr : (a :: r).drop 1 = r := rfl
  simp only [hdr] at h1 h2 h3 cut1 HR1 HC1
  rw [hul] at cut1
  rw [hulr] at cut1
  refine ⟨A, c, ad, e, ?_, blk_frozen h1 0, by simpa [Addr.add_zero'] using hx0, A1, c - 1, cut1, ⟨⟨A1, c - 1, ?_, HC1, HR1, h4, Below.setCell h5 h4 _⟩, h.ok.drop 1, h.kp.trans (Kp.set _ g 0 _), h.glt, h.wlt, (Below.heap_setCell w1 _ _ _ (by show w.heap.size ≠ g; omega)).trans h.res, (Below.heap_setCell w1 _ _ _ (by show w.heap.size + 1 ≠ g; omega)).trans h.mine⟩⟩
  · rw [← hul]; exact (blk_cell h1 0).trans rfl
  · rw [← hulr]; exact blk_put h1 0 _ rfl
/-- What the document's cell answers, and what it leaves. -/
def cellB (s : List Nat × Bool) : S101 × (List Nat × Bool) :=
  match (numO (textO (numO (textO (textO s).2).2).2).2).2.1 with
  | [] => (⟨⟨(textO s).1, (textO (textO s).2).1, Ma.zag ((numO (textO (textO s).2).2).1 : Int), (textO (numO (textO (textO s).2).2).2).1⟩, ⟨Ma.zag ((numO (textO (numO (textO (textO s).2).2).2).2).1 : Int), false, 0, ⟨0, 0, ⟨#[]⟩⟩⟩⟩, ([], true))
  | x :: r => if x > 1 then (⟨⟨(textO s).1, (textO (textO s).2).1, Ma.zag ((numO (textO (textO s).2).2).1 : Int), (textO (numO (textO (textO s).2).2).2).1⟩, ⟨Ma.zag ((numO (textO (numO (textO (textO s).2).2).2).2).1 : Int), false, 0, ⟨0, 0, ⟨#[]⟩⟩⟩⟩, (x :: r, true))
    else if x = 1 then (⟨⟨(textO s).1, (textO (textO s).2).1, Ma.zag ((numO (textO (textO s).2).2).1 : Int), (textO (numO (textO (textO s).2).2).2).1⟩, ⟨Ma.zag ((numO (textO (numO (textO (textO s).2).2).2).2).1 : Int), true, Ma.zag ((numO (r, (numO (textO (numO (textO (textO s).2).2).2).2).2.2)).1 : Int), ⟨0, 0, ⟨#[]⟩⟩⟩⟩, (numO (r, (numO (textO (numO (textO (textO s).2).2).2).2).2.2)).2)
    else (⟨⟨(textO s).1, (textO (textO s).2).1, Ma.zag ((numO (textO (textO s).2).2).1 : Int), (textO (numO (textO (textO s).2).2).2).1⟩, ⟨Ma.zag ((numO (textO (numO (textO (textO s).2).2).2).2).1 : Int), false, 0, ⟨wrap64 ((numO (r, (numO (textO (numO (textO (textO s).2).2).2).2).2.2)).1 : Int), Ma.zag ((numO (numO (r, (numO (textO (numO (textO (textO s).2).2).2).2).2.2)).2).1 : Int), (textO (numO (numO (r, (numO (textO (numO (textO (textO s).2).2).2).2).2.2)).2).2).1⟩⟩⟩, (textO (numO (numO (r, (numO (textO (numO (textO (textO s).2).2).2).2).2.2)).2).2).2)
set_option maxHeartbeats 8000000 in
set_option maxRecDepth 100000 in
theorem cellB_c {w0 w : World} {g : Nat} {s : List Nat × Bool} (hR : RdB w0 w g s.1 s.2) (hO : OkB s.1) : Calls Try.prog 96 #[.pointer (some ⟨g, 0, none⟩)] w fun e w' => e = .returned (.agg (cellsOf (cellB s).1).toArray) ∧ RdB w0 w' g (cellB s).2.1 (cellB s).2.2 ∧ Kp g g w w' := by
  have HCI := Aside0.mk (CB.init hR hO)
  clear hR hO
  go_enter Try.func96, Try.ntmps96
  go_wp2_with (fail)
  with_reducible refine (textB_ci HCI.out).mono ?_
  rintro e w1 ⟨t1, ht1, rfl, HD1⟩
  have c1 := (blk_cell HD1.out.mine 0).trans rfl
  have z1 := blk_frozen HD1.out.mine 0
  have HCI1 := Aside0.mk (HD1.out.set 0 (.string t1.1) rfl)
  clear HCI HD1
  go_wp2_with (fail)
  with_reducible refine (textB_ci HCI1.out).mono ?_
  rintro e w2 ⟨t2, ht2, rfl, HD2⟩
  have c2 := (blk_cell HD2.out.mine 1).trans rfl
  have z2 := blk_frozen HD2.out.mine 1
  have HCI2 := Aside0.mk (HD2.out.set 1 (.string t2.1) rfl)
  clear HCI1 HD2 c1 z1
  go_wp2_with (fail)
  with_reducible refine (numB_ci HCI2.out).mono ?_
  rintro e v3 ⟨t3, ht3, rfl, HN3⟩
  go_wp2_with (fail)
  with_reducible refine (zagB_ci HN3.out).mono ?_
  rintro e w3 ⟨rfl, HD3⟩
  have c3 := (blk_cell HD3.out.mine 2).trans rfl
  have z3 := blk_frozen HD3.out.mine 2
  have HCI3 := Aside0.mk (HD3.out.set 2 (.int .i64 (Ma.zag (t3.1 : Int))) rfl)
  clear HCI2 HD3 c2 z2
  go_wp2_with (fail)
  with_reducible refine (textB_ci HCI3.out).mono ?_
  rintro e w4 ⟨t4, ht4, rfl, HD4⟩
  have c4 := (blk_cell HD4.out.mine 3).trans rfl
  have z4 := blk_frozen HD4.out.mine 3
  have HCI4 := Aside0.mk (HD4.out.set 3 (.string t4.1) rfl)
  clear HCI3 HD4 c3 z3
  go_wp2_with (fail)
  with_reducible refine (numB_ci HCI4.out).mono ?_
  rintro e v5 ⟨t5, ht5, rfl, HN5⟩
  go_wp2_with (fail)
  with_reducible refine (zagB_ci HN5.out).mono ?_
  rintro e w5 ⟨rfl, HD5⟩
  have c5 := (blk_cell HD5.out.mine 4).trans rfl
  have z5 := blk_frozen HD5.out.mine 4
  have HCI5 := Aside0.mk (HD5.out.set 4 (.int .i64 (Ma.zag (t5.1 : Int))) rfl)
  clear HCI4 HD5 c4 z4
  obtain ⟨u5, ⟨L5, b5⟩⟩ := t5
  cases L5 with
  | nil =>
    obtain ⟨A, c, h1, _⟩ := HCI5.out.rdr
    have r0 : World.cell? _ ⟨g, 0, none⟩ = some (Value.slice A 0 c) := (blk_cell h1 0).trans rfl
    have r1 := (blk_cell h1 1).trans rfl
    have y1 := blk_frozen h1 1
    clear h1
    have HCI6 := Aside0.mk HCI5.out.bad
    have hM := HCI6.out.mine
    have hN := HCI6.out.res
    have m0 := (blk_cell hM 0).trans rfl
    have m1 := (blk_cell hM 1).trans rfl
    have m2 := (blk_cell hM 2).trans rfl
    have m3 := (blk_cell hM 3).trans rfl
    have m4 := (blk_cell hM 4).trans rfl
    have m5 := (blk_cell hM 5).trans rfl
    have m6 := (blk_cell hM 6).trans rfl
    have m7 := (blk_cell hM 7).trans rfl
    have m8 := (blk_cell hM 8).trans rfl
    have m9 := (blk_cell hM 9).trans rfl
    have hD := Aside0.mk (HCI6.out.done #[.string t1.1, .string t2.1, .int .i64 (Ma.zag (t3.1 : Int)), .string t4.1, .int .i64 (Ma.zag (u5 : Int)), .bool false, .int .i64 0, .int .i64 0, .int .i64 0, .string ⟨#[]⟩])
    have hS := Aside0.mk (setRow_heap _ w.heap.size Z10 #[.string t1.1, .string t2.1, .int .i64 (Ma.zag (t3.1 : Int)), .string t4.1, .int .i64 (Ma.zag (u5 : Int)), .bool false, .int .i64 0, .int .i64 0, .int .i64 0, .string ⟨#[]⟩] 101 (0, 0) hN)
    replace hM := Aside0.mk hM
    replace hN := Aside0.mk hN
    go_wp2_with ((with_reducible refine gate_ (.store 101 (.tmp 2) (.tmp 45)) rfl ?_); refine wpList_store_row rfl 101 _ _ rfl w.heap.size #[.string t1.1, .string t2.1, .int .i64 (Ma.zag (t3.1 : Int)), .string t4.1, .int .i64 (Ma.zag (u5 : Int)), .bool false, .int .i64 0, .int .i64 0, .int .i64 0, .string ⟨#[]⟩] rfl rfl 101 Z10 hN.out info101 rfl (by simp [go_sem, Value.oneCell']) ?_)
    refine bodyPost_ret (results_cell_row rfl _ _ w.heap.size 101 _ (0, 0) _ rfl hS.out Try.underlying101 rfl info101) rfl ?_
    have e : cellB s = (⟨⟨t1.1, t2.1, Ma.zag (t3.1 : Int), t4.1⟩, ⟨Ma.zag (u5 : Int), false, 0, ⟨0, 0, ⟨#[]⟩⟩⟩⟩, ([], true)) := by have q1 := ht1.out; have q2 := ht2.out; have q3 := ht3.out; have q4 := ht4.out; have q5 := ht5.out; subst q1 q2 q3 q4; unfold cellB; rw [← q5]
    rw [e]
    exact ⟨rfl, hD.out⟩
  | cons x r =>
    obtain ⟨A, c, ad, rfl, r0, y0, x0, A1, c1', cut1, HK⟩ := HCI5.out.cut
    obtain ⟨_, _, h1, _⟩ := HCI5.out.rdr
    have r1 := (blk_cell h1 1).trans rfl
    have y1 := blk_frozen h1 1
    clear h1
    generalize hk : r.length + 1 = k at *
    have b1 : ((k : Int) == 0) = false := beq_eq_false_iff_ne.mpr (by omega)
    have p1 : ((0 : Int) ≤ 0) = True := eq_true (by omega)
    have q1 : ((0 : Int) < (k : Int)) = True := eq_true (by omega)
    have q2 : (0 < k) = True := eq_true (by omega)
    have q4 : (k = 0) = False := eq_false (by omega)
    clear hk
    by_cases hx : x > 1
    · have b2 : decide (1 < (x : Int)) = true := decide_eq_true (by omega)
      replace hx := Aside0.mk hx
      have HCI6 := Aside0.mk HCI5.out.bad
      have hM := HCI6.out.mine
      have hN := HCI6.out.res
      have m0 := (blk_cell hM 0).trans rfl
      have m1 := (blk_cell hM 1).trans rfl
      have m2 := (blk_cell hM 2).trans rfl
      have m3 := (blk_cell hM 3).trans rfl
      have m4 := (blk_cell hM 4).trans rfl
      have m5 := (blk_cell hM 5).trans rfl
      have m6 := (blk_cell hM 6).trans rfl
      have m7 := (blk_cell hM 7).trans rfl
      have m8 := (blk_cell hM 8).trans rfl
      have m9 := (blk_cell hM 9).trans rfl
      have hD := Aside0.mk (HCI6.out.done #[.string t1.1, .string t2.1, .int .i64 (Ma.zag (t3.1 : Int)), .string t4.1, .int .i64 (Ma.zag (u5 : Int)), .bool false, .int .i64 0, .int .i64 0, .int .i64 0, .string ⟨#[]⟩])
      have hS := Aside0.mk (setRow_heap _ w.heap.size Z10 #[.string t1.1, .string t2.1, .int .i64 (Ma.zag (t3.1 : Int)), .string t4.1, .int .i64 (Ma.zag (u5 : Int)), .bool false, .int .i64 0, .int .i64 0, .int .i64 0, .string ⟨#[]⟩] 101 (0, 0) hN)
      replace hM := Aside0.mk hM
      replace hN := Aside0.mk hN
      go_wp2_with ((with_reducible refine gate_ (.store 101 (.tmp 2) (.tmp 45)) rfl ?_); refine wpList_store_row rfl 101 _ _ rfl w.heap.size #[.string t1.1, .string t2.1, .int .i64 (Ma.zag (t3.1 : Int)), .string t4.1, .int .i64 (Ma.zag (u5 : Int)), .bool false, .int .i64 0, .int .i64 0, .int .i64 0, .string ⟨#[]⟩] rfl rfl 101 Z10 hN.out info101 rfl (by simp [go_sem, Value.oneCell']) ?_)
      refine bodyPost_ret (results_cell_row rfl _ _ w.heap.size 101 _ (0, 0) _ rfl hS.out Try.underlying101 rfl info101) rfl ?_
      have e : cellB s = (⟨⟨t1.1, t2.1, Ma.zag (t3.1 : Int), t4.1⟩, ⟨Ma.zag (u5 : Int), false, 0, ⟨0, 0, ⟨#[]⟩⟩⟩⟩, (x :: r, true)) := by have q1 := ht1.out; have q2 := ht2.out; have q3 := ht3.out; have q4 := ht4.out; have q5 := ht5.out; subst q1 q2 q3 q4; unfold cellB; rw [← q5]; exact if_pos hx.out
      rw [e]
      exact ⟨rfl, hD.out⟩
    · have b2 : decide (1 < (x : Int)) = false := decide_eq_false (by omega)
      have b4 : ¬ x > 1 := hx
      replace b4 := Aside0.mk b4
      have HK5 := Aside0.mk (blk_cell HK.out.mine 5)
      by_cases hx1 : x = 1
      · have b3 : ((x : Int) == 1) = true := beq_iff_eq.mpr (by omega)
        replace hx1 := Aside0.mk hx1
        clear hx
        have k5 := (blk_cell HK.out.mine 5).trans rfl
        have l5 := blk_frozen HK.out.mine 5
        have HCI6 := Aside0.mk (HK.out.set 5 (.bool true) rfl)
        clear HK HK5
        go_wp2_with (fail)
        with_reducible refine (numB_ci HCI6.out).mono ?_
        rintro e v7 ⟨t7, ht7, rfl, HN7⟩
        go_wp2_with (fail)
        with_reducible refine (zagB_ci HN7.out).mono ?_
        rintro e w7 ⟨rfl, HD7⟩
        have c7 := (blk_cell HD7.out.mine 6).trans rfl
        have z7 := blk_frozen HD7.out.mine 6
        have HCI7 := Aside0.mk (HD7.out.set 6 (.int .i64 (Ma.zag (t7.1 : Int))) rfl)
        clear HCI6 HD7
        have hM := HCI7.out.mine
        have hN := HCI7.out.res
        have m0 := (blk_cell hM 0).trans rfl
        have m1 := (blk_cell hM 1).trans rfl
        have m2 := (blk_cell hM 2).trans rfl
        have m3 := (blk_cell hM 3).trans rfl
        have m4 := (blk_cell hM 4).trans rfl
        have m5 := (blk_cell hM 5).trans rfl
        have m6 := (blk_cell hM 6).trans rfl
        have m7 := (blk_cell hM 7).trans rfl
        have m8 := (blk_cell hM 8).trans rfl
        have m9 := (blk_cell hM 9).trans rfl
        have hD := Aside0.mk (HCI7.out.done #[.string t1.1, .string t2.1, .int .i64 (Ma.zag (t3.1 : Int)), .string t4.1, .int .i64 (Ma.zag (u5 : Int)), .bool true, .int .i64 (Ma.zag (t7.1 : Int)), .int .i64 0, .int .i64 0, .string ⟨#[]⟩])
        have hS := Aside0.mk (setRow_heap _ w.heap.size Z10 #[.string t1.1, .string t2.1, .int .i64 (Ma.zag (t3.1 : Int)), .string t4.1, .int .i64 (Ma.zag (u5 : Int)), .bool true, .int .i64 (Ma.zag (t7.1 : Int)), .int .i64 0, .int .i64 0, .string ⟨#[]⟩] 101 (0, 0) hN)
        replace hM := Aside0.mk hM
        replace hN := Aside0.mk hN
        go_wp2_with ((with_reducible refine gate_ (.store 101 (.tmp 2) (.tmp 69)) rfl ?_); refine wpList_store_row rfl 101 _ _ rfl w.heap.size #[.string t1.1, .string t2.1, .int .i64 (Ma.zag (t3.1 : Int)), .string t4.1, .int .i64 (Ma.zag (u5 : Int)), .bool true, .int .i64 (Ma.zag (t7.1 : Int)), .int .i64 0, .int .i64 0, .string ⟨#[]⟩] rfl rfl 101 Z10 hN.out info101 rfl (by simp [go_sem, Value.oneCell']) ?_)
        refine bodyPost_ret (results_cell_row rfl _ _ w.heap.size 101 _ (0, 0) _ rfl hS.out Try.underlying101 rfl info101) rfl ?_
        have e : cellB s = (⟨⟨t1.1, t2.1, Ma.zag (t3.1 : Int), t4.1⟩, ⟨Ma.zag (u5 : Int), true, Ma.zag (t7.1 : Int), ⟨0, 0, ⟨#[]⟩⟩⟩⟩, t7.2) := by have q1 := ht1.out; have q2 := ht2.out; have q3 := ht3.out; have q4 := ht4.out; have q5 := ht5.out; have q7 := ht7.out; subst q1 q2 q3 q4 q7; unfold cellB; rw [← q5]; exact (if_neg b4.out).trans (if_pos hx1.out)
        rw [e]
        exact ⟨rfl, hD.out⟩
      · have b3 : ((x : Int) == 1) = false := beq_eq_false_iff_ne.mpr (by omega)
        replace hx1 := Aside0.mk hx1
        clear hx
        have HCI6 := HK
        clear HK HK5
        go_wp2_with (fail)
        with_reducible refine (numB_ci HCI6.out).mono ?_
        rintro e w7 ⟨t7, ht7, rfl, HD7⟩
        have c7 := (blk_cell HD7.out.1.mine 7).trans rfl
        have z7 := blk_frozen HD7.out.1.mine 7
        have HCI7 := Aside0.mk (HD7.out.1.set 7 (.int .i64 (wrap64 (t7.1 : Int))) rfl)
        clear HCI6 HD7
        go_wp2_with (fail)
        with_reducible refine (numB_ci HCI7.out).mono ?_
        rintro e v8 ⟨t8, ht8, rfl, HN8⟩
        go_wp2_with (fail)
        with_reducible refine (zagB_ci HN8.out).mono ?_
        rintro e w8 ⟨rfl, HD8⟩
        have c8 := (blk_cell HD8.out.mine 8).trans rfl
        have z8 := blk_frozen HD8.out.mine 8
        have HCI8 := Aside0.mk (HD8.out.set 8 (.int .i64 (Ma.zag (t8.1 : Int))) rfl)
        clear HCI7 HD8 c7 z7
        go_wp2_with (fail)
        with_reducible refine (textB_ci HCI8.out).mono ?_
        rintro e w9 ⟨t9, ht9, rfl, HD9⟩
        have c9 := (blk_cell HD9.out.mine 9).trans rfl
        have z9 := blk_frozen HD9.out.mine 9
        have HCI9 := Aside0.mk (HD9.out.set 9 (.string t9.1) rfl)
        clear HCI8 HD9 c8 z8
        have hM := HCI9.out.mine
        have hN := HCI9.out.res
        have m0 := (blk_cell hM 0).trans rfl
        have m1 := (blk_cell hM 1).trans rfl
        have m2 := (blk_cell hM 2).trans rfl
        have m3 := (blk_cell hM 3).trans rfl
        have m4 := (blk_cell hM 4).trans rfl
        have m5 := (blk_cell hM 5).trans rfl
        have m6 := (blk_cell hM 6).trans rfl
        have m7 := (blk_cell hM 7).trans rfl
        have m8 := (blk_cell hM 8).trans rfl
        have m9 := (blk_cell hM 9).trans rfl
        have hD := Aside0.mk (HCI9.out.done #[.string t1.1, .string t2.1, .int .i64 (Ma.zag (t3.1 : Int)), .string t4.1, .int .i64 (Ma.zag (u5 : Int)), .bool false, .int .i64 0, .int .i64 (wrap64 (t7.1 : Int)), .int .i64 (Ma.zag (t8.1 : Int)), .string t9.1])
        have hS := Aside0.mk (setRow_heap _ w.heap.size Z10 #[.string t1.1, .string t2.1, .int .i64 (Ma.zag (t3.1 : Int)), .string t4.1, .int .i64 (Ma.zag (u5 : Int)), .bool false, .int .i64 0, .int .i64 (wrap64 (t7.1 : Int)), .int .i64 (Ma.zag (t8.1 : Int)), .string t9.1] 101 (0, 0) hN)
        replace hM := Aside0.mk hM
        replace hN := Aside0.mk hN
        go_wp2_with ((with_reducible refine gate_ (.store 101 (.tmp 2) (.tmp 87)) rfl ?_); refine wpList_store_row rfl 101 _ _ rfl w.heap.size #[.string t1.1, .string t2.1, .int .i64 (Ma.zag (t3.1 : Int)), .string t4.1, .int .i64 (Ma.zag (u5 : Int)), .bool false, .int .i64 0, .int .i64 (wrap64 (t7.1 : Int)), .int .i64 (Ma.zag (t8.1 : Int)), .string t9.1] rfl rfl 101 Z10 hN.out info101 rfl (by simp [go_sem, Value.oneCell']) ?_)
        refine bodyPost_ret (results_cell_row rfl _ _ w.heap.size 101 _ (0, 0) _ rfl hS.out Try.underlying101 rfl info101) rfl ?_
        have e : cellB s = (⟨⟨t1.1, t2.1, Ma.zag (t3.1 : Int), t4.1⟩, ⟨Ma.zag (u5 : Int), false, 0, ⟨wrap64 (t7.1 : Int), Ma.zag (t8.1 : Int), t9.1⟩⟩⟩, t9.2) := by have q1 := ht1.out; have q2 := ht2.out; have q3 := ht3.out; have q4 := ht4.out; have q5 := ht5.out; have q7 := ht7.out; have q8 := ht8.out; have q9 := ht9.out; subst q1 q2 q3 q4 q7 q8 q9; unfold cellB; rw [← q5]; exact (if_neg b4.out).trans (if_neg hx1.out)
        rw [e]
        exact ⟨rfl, hD.out⟩
end Go.Proofs.Ytcopbkdlpfcjpaa.K
namespace Go.Proofs.Ytcopbkdlpfcjpaa.K
open Go.RowKit Go.Proofs.YtcopbkdlpfcjpaaW.PrintWords Go.Proofs.Ytcopbkdlpfcjpaa.B Go.Proofs.Ytcopbkdlpfcjpaa.G
set_option linter.unusedVariables false
set_option linter.unusedSimpArgs false
theorem textO_wrong {s : List Nat × Bool} (h : s.2 = true) : (textO s).2.2 = true := by
  unfold textO
  cases textS s.1 with
  | none => rfl
  | some p => exact h
theorem numO_wrong {s : List Nat × Bool} (h : s.2 = true) : (numO s).2.2 = true := by
  unfold numO
  cases numS s.1 with
  | none => rfl
  | some p => exact h
theorem textO_none {L : List Nat} (h : textS L = none) : (textO (L, false)).2.2 = true := by simp [textO, h]
theorem numO_none {L : List Nat} (h : numS L = none) : (numO (L, false)).2.2 = true := by simp [numO, h]
theorem textO_some {L L' : List Nat} {v : ByteArray} (h : textS L = some (v, L')) : textO (L, false) = (v, (L', false)) := by simp [textO, h]
theorem numO_some {L L' : List Nat} {v : Nat} (h : numS L = some (v, L')) : numO (L, false) = (v, (L', false)) := by simp [numO, h]
theorem cellB_wrong {s : List Nat × Bool} (h : (numO (textO (numO (textO (textO s).2).2).2).2).2.2 = true) : (cellB s).2.2 = true := by
  unfold cellB
  split
  · rfl
  · split
    · rfl
    · split
      · exact numO_wrong h
      · exact textO_wrong (numO_wrong (numO_wrong h))
theorem cellB_none {L : List Nat} (h : cellS L = none) : (cellB (L, false)).2.2 = true := by
  unfold cellS at h
  cases h1 : textS L with
  | none => exact cellB_wrong (numO_wrong (textO_wrong (numO_wrong (textO_wrong (textO_none h1)))))
  | some p1 =>
    obtain ⟨v1, L1⟩ := p1
    rw [h1] at h
    simp only [Option.bind_some] at h
    cases h2 : textS L1 with
    | none => exact cellB_wrong (by rw [textO_some h1]; exact numO_wrong (textO_wrong (numO_wrong (textO_none h2))))
    | some p2 =>
      obtain ⟨v2, L2⟩ := p2
      rw [h2] at h
      simp only [Option.bind_some, intS] at h
      cases h3 : numS L2 with
      | none => exact cellB_wrong (by rw [textO_some h1, textO_some h2]; exact numO_wrong (textO_wrong (numO_none h3)))
      | some p3 =>
        obtain ⟨v3, L3⟩ := p3
        rw [h3] at h
        simp only [Option.bind_some, Option.map_some] at h
        cases h4 : textS L3 with
        | none => exact cellB_wrong (by rw [textO_some h1, textO_some h2, numO_some h3]; exact numO_wrong (textO_none h4))
        | some p4 =>
          obtain ⟨v4, L4⟩ := p4
          rw [h4] at h
          simp only [Option.bind_some] at h
          cases h5 : numS L4 with
          | none => exact cellB_wrong (by rw [textO_some h1, textO_some h2, numO_some h3, textO_some h4]; exact numO_none h5)
          | some p5 =>
            obtain ⟨v5, L5⟩ := p5
            rw [h5] at h
            simp only [Option.bind_some, Option.map_some] at h
            unfold cellB
            rw [textO_some h1, textO_some h2, numO_some h3, textO_some h4, numO_some h5]
            cases L5 with
            | nil => rfl
            | cons x r =>
              by_cases hx : x > 1
              · simp [hx]
              · by_cases hx1 : x = 1
                · subst hx1
                  simp only [flagS] at h
                  simp at h
                  simp
                  exact numO_none (by
                    cases hh : numS r with
                    | none => rfl
                    | some p => exact absurd rfl (h _ _ _ _ hh rfl))
                · have hx0 : x = 0 := by omega
                  subst hx0
                  simp only [flagS] at h
                  simp at h
                  simp
                  cases h7 : numS r with
                  | none => exact textO_wrong (numO_wrong (numO_none h7))
                  | some p7 =>
                    obtain ⟨v7, L7⟩ := p7
                    rw [numO_some h7]
                    rw [h7] at h
                    cases h8 : numS L7 with
                    | none => exact textO_wrong (numO_none h8)
                    | some p8 =>
                      obtain ⟨v8, L8⟩ := p8
                      rw [numO_some h8]
                      simp [h8] at h
                      exact textO_none (by
                        cases hh : textS L8 with
                        | none => rfl
                        | some p => exact absurd hh (h p.1 p.2))
theorem intS_num {L L' : List Nat} {v : Int} (h : intS L = some (v, L')) : ∃ n, numS L = some (n, L') ∧ v = Ma.zag (n : Int) := by
  unfold intS at h
  cases h1 : numS L with
  | none => rw [h1] at h; cases h
  | some p =>
    obtain ⟨a, b⟩ := p
    rw [h1] at h
    simp only [Option.map_some, Option.some.injEq, Prod.mk.injEq] at h
    obtain ⟨rfl, rfl⟩ := h
    exact ⟨a, rfl, rfl⟩
theorem cellB_some {L L' : List Nat} {c : S101} (h : cellS L = some (c, L')) : cellB (L, false) = (c, (L', false)) := by
  unfold cellS at h
  simp only [Option.bind_eq_some_iff] at h
  obtain ⟨⟨v1, L1⟩, h1, ⟨v2, L2⟩, h2, ⟨v3, L3⟩, h3, ⟨v4, L4⟩, h4, ⟨v5, L5⟩, h5, ⟨v6, L6⟩, h6, h⟩ := h
  simp only at h2 h3 h4 h5 h6 h
  obtain ⟨n3, g3, rfl⟩ := intS_num h3
  obtain ⟨n5, g5, rfl⟩ := intS_num h5
  unfold cellB
  rw [textO_some h1, textO_some h2, numO_some g3, textO_some h4, numO_some g5]
  cases L5 with
  | nil => cases h6
  | cons x r =>
    replace h6 : (if x > 1 then none else some (x == 1, r)) = some (v6, L6) := h6
    by_cases hx : x > 1
    · rw [if_pos hx] at h6; cases h6
    · rw [if_neg hx] at h6
      have h6 := Option.some.inj h6
      simp only [Prod.mk.injEq] at h6
      obtain ⟨rfl, rfl⟩ := h6
      show (if x > 1 then _ else if x = 1 then _ else _) = _
      rw [if_neg hx]
      by_cases hx1 : x = 1
      · subst hx1
        rw [if_pos rfl]
        rw [if_pos (show ((1 : Nat) == 1) = true from rfl)] at h
        simp only [Option.bind_eq_some_iff] at h
        obtain ⟨⟨v7, L7⟩, h7, h⟩ := h
        obtain ⟨n7, g7, rfl⟩ := intS_num h7
        have h := Option.some.inj h
        simp only [Prod.mk.injEq] at h
        obtain ⟨rfl, rfl⟩ := h
        rw [numO_some g7]
      · rw [if_neg hx1]
        rw [if_neg (by simpa using hx1)] at h
        simp only [Option.bind_eq_some_iff] at h
        obtain ⟨⟨v7, L7⟩, h7, ⟨v8, L8⟩, h8, ⟨v9, L9⟩, h9, h⟩ := h
        simp only at h8 h9 h
        obtain ⟨n8, g8, rfl⟩ := intS_num h8
        have h := Option.some.inj h
        simp only [Prod.mk.injEq] at h
        obtain ⟨rfl, rfl⟩ := h
        rw [numO_some h7, numO_some g8, textO_some h9]
end Go.Proofs.Ytcopbkdlpfcjpaa.K
namespace Go.Proofs.Ytcopbkdlpfcjpaa.K
open Go.RowKit Go.Proofs.YtcopbkdlpfcjpaaW.PrintWords Go.Proofs.YtcopbkdlpfcjpaaW.PrintLast Go.Proofs.YtcopbkdlpfcjpaaW.PrintMore Go.Proofs.Ytcopbkdlpfcjpaa.B Go.Proofs.Ytcopbkdlpfcjpaa.G
attribute [local go_sem] max2_int min2_int max_two min_two max_three min_three max_four min_four
set_option linter.unusedVariables false
set_option linter.unusedSimpArgs false
/-- Within the document's ReadCells: the reader at g = w0.heap.size. -/
structure RJ (w0 w1 : World) (s : List Nat × Bool) (xs : List S101) (v : Value) : Prop where
  rdr : RdB w0 w1 w0.heap.size s.1 s.2
  ok : OkB s.1
  row : k101.R 101 w1 (w0.heap.size + 1) (fun k => w0.heap.size + 1 ≤ k) v xs
theorem RJ.step {w0 w1 w2 : World} {s s' : List Nat × Bool} {xs : List S101} {v : Value} (h : RJ w0 w1 s xs v) (hR : RdB w0 w2 w0.heap.size s'.1 s'.2) (hO : OkB s'.1) (hk : Kp w0.heap.size w0.heap.size w1 w2) : RJ w0 w2 s' xs v :=
  ⟨hR, hO, Kd.R_step h.row (fun k ho hlt => hk.block k hlt (.inr (by omega)))⟩
theorem RJ.init {w : World} {A : Option Addr} {c : Nat} {L : List Nat} (hC : Kd.C (Kd.int .u8) w A (Ma.up L).length (Ma.up L)) (hc : (Ma.up L).length ≤ c) (hO : OkB L) :
    RJ w (w.alloc (.cells #[.slice A (Ma.up L).length c, .bool false] 124)) (L, false) [] (.slice none 0 0) :=
  ⟨⟨A, c, blk_new w _, hc, hC, Nat.le_refl _, below_alloc (Below.refl _ _) _⟩, hO, Kd.R_nil _ _ _ _ _⟩
theorem num_rj {w0 w1 : World} {s : List Nat × Bool} {xs : List S101} {v : Value} (h : RJ w0 w1 s xs v) : Calls Try.prog 95 #[.pointer (some ⟨w0.heap.size, 0, none⟩)] w1 fun e w' => ∃ t, Aside0 (t = numO s) ∧ e = .returned (.int .u64 (t.1 : Int)) ∧ Aside0 (RJ w0 w' t.2 xs v) :=
  (numB_c h.rdr h.ok).mono fun e w' k => ⟨_, .mk rfl, k.1, .mk (h.step k.2.1 (numO_ok h.ok).1 k.2.2)⟩
/-- What is known within the loop. -/
def Jn (L : List Nat) (n i : Nat) (s : List Nat × Bool) (xs : List S101) : Prop :=
  (s.2 = true ∧ readCellsS L = none ∧ xs.length ≤ 1000001) ∨ (s.2 = false ∧ (readCellsS L = ((readS (n - i) s.1).bind fun q => if q.2 = [] then some (xs ++ q.1) else none)) ∧ xs.length + s.1.length ≤ 1000000)
theorem Jn.init {L : List Nat} (hO : OkB L) {t : Nat × (List Nat × Bool)} (ht : t = numO (L, false)) : Jn L t.1 0 t.2 [] := by
  subst ht
  cases h : numS L with
  | none => exact .inl ⟨numO_none h, by simp [readCellsS, h], by simp⟩
  | some p =>
    obtain ⟨n, L'⟩ := p
    rw [numO_some h]
    refine .inr ⟨rfl, by simp [readCellsS, h], ?_⟩
    have := numS_len h
    have := hO.2
    simp; omega
theorem Jn.step {L : List Nat} {n i : Nat} {s : List Nat × Bool} {xs : List S101} (h : Jn L n i s xs) (hs : s.2 = false) (hi : i < n) (hO : OkB s.1) : Jn L n (i + 1) (cellB s).2 (xs ++ [(cellB s).1]) := by
  rcases h with ⟨h, _⟩ | ⟨_, h2, h3⟩
  · rw [hs] at h; cases h
  · have hs2 : s = (s.1, false) := by rw [← hs]
    have hn : n - i = (n - (i + 1)) + 1 := by omega
    rw [hn] at h2
    have hrd : readS (n - (i + 1) + 1) s.1 = (cellS s.1).bind fun p => (readS (n - (i + 1)) p.2).bind fun q => some (p.1 :: q.1, q.2) := rfl
    rw [hrd] at h2
    cases hc : cellS s.1 with
    | none =>
      rw [hc] at h2
      refine .inl ⟨by rw [hs2]; exact cellB_none hc, by simpa using h2, by rw [List.length_append, List.length_singleton]; omega⟩
    | some p =>
      obtain ⟨c, L'⟩ := p
      rw [hc] at h2
      have hp := cellS_prop hc hO
      rw [hs2, cellB_some hc]
      refine .inr ⟨rfl, ?_, by have := hp.2; simp only [List.length_append, List.length_singleton]; omega⟩
      rw [h2]
      simp only [Option.bind_some]
      cases readS (n - (i + 1)) L' with
      | none => rfl
      | some q => simp
theorem OkB.tail {x : Nat} {r : List Nat} (h : OkB (x :: r)) : OkB r := h.drop 1
theorem cellB_ok {s : List Nat × Bool} (h : OkB s.1) : OkB (cellB s).2.1 := by
  have h5 := (numO_ok (textO_ok (numO_ok (textO_ok (textO_ok h))).1)).1
  unfold cellB
  split
  · exact .nil
  · rename_i x r he
    rw [he] at h5
    split
    · exact h5
    · split
      · exact (numO_ok (s := (r, _)) h5.tail).1
      · exact textO_ok (numO_ok (numO_ok (s := (r, _)) h5.tail).1).1
theorem cell_rj {w0 w1 : World} {s : List Nat × Bool} {xs : List S101} {v : Value} (h : RJ w0 w1 s xs v) : Calls Try.prog 96 #[.pointer (some ⟨w0.heap.size, 0, none⟩)] w1 fun e w' => e = .returned (.agg (cellsOf (cellB s).1).toArray) ∧ Aside0 (RJ w0 w' (cellB s).2 xs v) :=
  (cellB_c h.rdr h.ok).mono fun e w' k => ⟨k.1, .mk (h.step k.2.1 (cellB_ok h.ok) k.2.2)⟩
theorem RJ.alloc {w0 w1 : World} {s : List Nat × Bool} {xs : List S101} {v : Value} (h : RJ w0 w1 s xs v) (o : Obj) : RJ w0 (w1.alloc o) s xs v :=
  h.step (s' := s) (h.rdr.keep (below_alloc (Below.refl _ _) _)) h.ok (Kp.of_below (below_alloc (Below.refl _ _) _))
theorem RJ.app {w0 W w5 : World} {s : List Nat × Bool} {xs ys : List S101} {v v4 : Value} (h : RJ w0 W s xs v) (hr : k101.R 101 w5 (w0.heap.size + 1) (fun k => w0.heap.size + 1 ≤ k) v4 ys) (hb : Below (w0.heap.size + 1) W w5) : RJ w0 w5 s ys v4 := by
  obtain ⟨A, c, k1, k2, k3, k4, k5⟩ := h.rdr
  exact ⟨⟨A, c, (hb.block _ (by omega)).trans k1, k2, k3, k4, ⟨hb.os.trans k5.os, hb.tape.trans k5.tape, hb.output.trans k5.output, Nat.le_trans k5.size hb.size, fun k hk => (hb.block k (by omega)).trans (k5.block k hk)⟩⟩, h.ok, hr⟩
theorem RJ.lt {w0 W : World} {s : List Nat × Bool} {xs : List S101} {v : Value} (h : RJ w0 W s xs v) : w0.heap.size + 1 ≤ W.heap.size := by have := h.rdr.below; omega
set_option maxHeartbeats 8000000 in
set_option maxRecDepth 100000 in
theorem refcells_c {w : World} {A : Option Addr} {c : Nat} {L : List Nat} (hC : Kd.C (Kd.int .u8) w A (Ma.up L).length (Ma.up L)) (hc : (Ma.up L).length ≤ c) (hO : OkB L) :
   Calls Try.prog 69 #[.slice A (Ma.up L).length c] w fun e w' => (∃ xs v, readCellsS L = some xs ∧ e = .returned (.tuple #[v, .int .i64 0]) ∧ k101.R 101 w' w.heap.size (fun _ => True) v xs ∧ Below w.heap.size w w') ∨ (readCellsS L = none ∧ e = .returned (.tuple #[.slice none 0 0, .int .i64 8]) ∧ Below w.heap.size w w') := by
  have HI := Aside0.mk (RJ.init hC hc hO)
  clear hC hc
  generalize hl : Ma.up L = l at *
  clear hl
  go_enter Try.func69, Try.ntmps69
  go_wp2_with (fail)
  with_reducible refine (num_rj HI.out).mono ?_
  rintro e w1 ⟨t, ht, rfl, HI1⟩
  have HJ0 := Aside0.mk (Jn.init hO ht.out)
  have HT := Aside0.mk (show t.1 < 18446744073709551616 by rw [ht.out]; exact (numO_ok (s := (L, false)) hO).2)
  clear HI ht hO
  generalize t.2 = s0 at *
  generalize t.1 = n at *
  go_wp2_with (fail)
  go_loopg [6, 7] n (fun kq v6 v7 w' => ∃ (i : Nat) (s : List Nat × Bool) (xs : List S101), v7 = .int .u64 (i : Int) ∧ Aside0 (kq + i = n) ∧ Aside0 (RJ w w' s xs v6) ∧ Aside0 (Jn L n i s xs))
  case atStart => exact ⟨0, s0, [], rfl, ⟨by omega⟩, HI1, HJ0⟩
  case round =>
    obtain ⟨i, s, xs, rfl, HK, HR, HJ⟩ := hrel
    obtain ⟨A5, c5, rfl⟩ := Kd.R_slice HR.out.row
    obtain ⟨A2, c2, h1, _, _, _, hbe⟩ := HR.out.rdr
    replace hbe := Aside0.mk hbe
    have r0 := (blk_cell h1 0).trans rfl
    have r1 := (blk_cell h1 1).trans rfl
    clear h1
    have hul : (Ma.up s.1).length = s.1.length := Ma.up_length _
    rw [hul] at r0
    clear hul
    by_cases hs : s.2 = true
    · have hno : Aside0 (readCellsS L = none) := ⟨by rcases HJ.out with ⟨_, h, _⟩ | ⟨h, _⟩; exact h; rw [hs] at h; cases h⟩
      rw [hs] at r1
      by_cases hi : (i : Int) < (n : Int)
      · have c1 : decide ((i : Int) < (n : Int)) = true := decide_eq_true hi
        have c3 : decide (i < n) = true := decide_eq_true (by omega)
        replace hi := Aside0.mk hi
        go_wp2_with (fail)
        go_ret2
        exact .inr ⟨hno.out, rfl, hbe.out⟩
      · have c1 : decide ((i : Int) < (n : Int)) = false := decide_eq_false hi
        have c3 : decide (i < n) = false := decide_eq_false (by omega)
        replace hi := Aside0.mk hi
        go_wp2_with (fail)
        go_ret2
        exact .inr ⟨hno.out, rfl, hbe.out⟩
    · have hsf : s.2 = false := by simpa using hs
      rw [hsf] at r1
      clear hs
      by_cases hi : (i : Int) < (n : Int)
      · have c1 : decide ((i : Int) < (n : Int)) = true := decide_eq_true hi
        have c3 : decide (i < n) = true := decide_eq_true (by omega)
        have c4 : IntKind.u64.wrap ((i : Int) + 1) = ((i + 1 : Nat) : Int) := by rw [IntKind.wrap_u64]; have := HT.out; omega
        have HC := Aside0.mk (cell_rj HR.out)
        have HJ2 := Aside0.mk (HJ.out.step hsf (by omega) HR.out.ok)
        have hlx : Aside0 ((xs.length + 1) * 112 ≤ 140737488355328) := ⟨by rcases HJ.out with ⟨_, _, h⟩ | ⟨_, _, h⟩ <;> omega⟩
        have hm : Aside0 (i < n) := ⟨by omega⟩
        clear hi hsf
        generalize (cellB s).1 = c at *
        generalize (cellB s).2 = s2 at *
        go_wp2_with (first
          | (go_at_call 96; with_reducible refine HC.out.mono ?_; rintro e w2 ⟨rfl, hR2⟩; have hA := Aside0.mk (hR2.out.alloc (.cells (cellsOf c).toArray 101)); have hO := Aside0.mk (C_one (c := c) (blk_new w2 (.cells (cellsOf c).toArray 101))); simp only [cellsOf] at hA hO ⊢)
          | ((with_reducible refine gate_builtin (b := .append) (xs := #[.tmp 25, .tmp 28]) rfl ?_); at_builtin; refine Kd.R_append_rows k101 (w0 := w2.alloc (.cells (cellsOf c).toArray 101)) (w.heap.size + 1) rfl (.tmp 25) (.tmp 28) 85 101 (.agg Z10) 112 rfl Try.underlying85 info101z rfl (by decide) (by omega) _ xs [c] (some ⟨w2.heap.size, 0, none⟩) 1 1 (fun k => w.heap.size + 1 ≤ k) (fun _ => False) rfl rfl hA.out.row hO.out (fun x cs h => by obtain rfl := k101_open h; exact k101_mkM _ _ _ _) (fun _ h => h.elim) (fun k hk => Nat.le_trans hA.out.lt hk) (Below.refl _ _) hA.out.lt hlx.out ?_; intro v4 w5 hR4 hb4 _ _; have hR5 := Aside0.mk (hA.out.app hR4 hb4); clear hR4 hb4))
        go_roundg (gk - 1)
        case measure => have := HK.out; have := hm.out; omega
        case rel => exact ⟨i + 1, s2, xs ++ [c], (by first | rfl | simp), ⟨by have := HK.out; have := hm.out; omega⟩, hR5, HJ2⟩
      · have c1 : decide ((i : Int) < (n : Int)) = false := decide_eq_false hi
        have c3 : decide (i < n) = false := decide_eq_false (by omega)
        have hin : Aside0 (n - i = 0) := ⟨by omega⟩
        replace hi := Aside0.mk hi
        have hans : Aside0 (readCellsS L = if s.1 = [] then some xs else none) := ⟨by
          rcases HJ.out with ⟨h, _⟩ | ⟨_, h, _⟩
          · rw [hsf] at h; cases h
          · rw [h, hin.out]; simp [readS]⟩
        by_cases hL : s.1 = []
        · have hl0 : s.1.length = 0 := by rw [hL]; rfl
          rw [hl0] at r0
          replace hL := Aside0.mk hL
          clear hl0 hsf
          go_wp2_with (fail)
          go_ret2
          have hL1 : readCellsS L = some xs := by rw [hans.out, if_pos hL.out]
          first | exact .inl ⟨xs, _, hL1, rfl, Kd.R_lower (Kd.R_mono HR.out.row (fun _ _ => trivial)) (by omega), hbe.out⟩ | exact .inl ⟨xs, hL1, _, rfl, Kd.R_lower (Kd.R_mono HR.out.row (fun _ _ => trivial)) (by omega), hbe.out⟩
        · have hpos : 0 < s.1.length := List.length_pos_iff.mpr hL
          replace hL := Aside0.mk hL
          generalize s.1.length = k at *
          have d1 : decide ((0 : Int) < (k : Int)) = true := decide_eq_true (by omega)
          have d2 : decide (0 < k) = true := decide_eq_true hpos
          clear hpos hsf
          go_wp2_with (fail)
          go_ret2
          exact .inr ⟨by rw [hans.out, if_neg hL.out], rfl, hbe.out⟩
end Go.Proofs.Ytcopbkdlpfcjpaa.K
namespace Go.Proofs.Ytcopbkdlpfcjpaa.G
open Go.RowKit Go.Proofs.YtcopbkdlpfcjpaaW.PrintWords Go.Proofs.YtcopbkdlpfcjpaaW.PrintLast Go.Proofs.YtcopbkdlpfcjpaaW.PrintMore Go.Proofs.Ytcopbkdlpfcjpaa.B
set_option linter.unusedVariables false
theorem info101 : (Try.prog.info? 101).map (fun i => (i.zero, i.size, i.bytes)) = some (some (.agg #[(.string ⟨#[]⟩), (.string ⟨#[]⟩), (.int .i64 0), (.string ⟨#[]⟩), (.int .i64 0), (.bool false), (.int .i64 0), (.int .i64 0), (.int .i64 0), (.string ⟨#[]⟩)]), 10, 112) := by kernel_rfl
/-- The bytes of a row of numbers. -/
def dn (l : List Int) : List Nat := l.map Int.toNat
theorem dn_up (L : List Nat) : dn (Ma.up L) = L := by
  unfold dn Ma.up
  rw [List.map_map]
  conv => rhs; rw [← List.map_id L]
  exact List.map_congr_left fun a _ => rfl
theorem up_dn {l : List Int} (h : ∀ x ∈ l, 0 ≤ x) : Ma.up (dn l) = l := by
  unfold dn Ma.up
  rw [List.map_map]
  conv => rhs; rw [← List.map_id l]
  exact List.map_congr_left fun a ha => by
    have := h a ha
    show ((a.toNat : Nat) : Int) = a
    omega
/-- What both texts answer: the cells and 0, or none and 8. -/
def readR (L : List Nat) : List S101 × Int := match K.readCellsS L with
  | some xs => (xs, 0)
  | none => ([], 8)
def okRow (l : List Int) : Bool := l.all (fun x => decide (0 ≤ x) && decide (x < 256)) && decide (l.length ≤ 1000000)
theorem okRow_up {l : List Int} (h : okRow l = true) : l = Ma.up (dn l) ∧ K.OkB (dn l) := by
  simp only [okRow, Bool.and_eq_true, List.all_eq_true, decide_eq_true_eq] at h
  obtain ⟨h1, h2⟩ := h
  refine ⟨(up_dn fun x hx => (h1 x hx).1).symm, fun x hx => ?_, by unfold dn; rw [List.length_map]; exact h2⟩
  obtain ⟨y, hy, rfl⟩ := List.mem_map.1 hx
  have := h1 y hy
  omega
theorem up_okRow {L : List Nat} (h : K.OkB L) : okRow (Ma.up L) = true := by
  simp only [okRow, Bool.and_eq_true, List.all_eq_true, decide_eq_true_eq]
  refine ⟨fun x hx => ?_, by rw [Ma.up_length]; exact h.2⟩
  obtain ⟨y, hy, rfl⟩ := List.mem_map.1 hx
  have := h.1 y hy
  show 0 ≤ (y : Int) ∧ (y : Int) < 256
  omega
def codec_ReadCells.f (l : List Int) : Option (List S101 × Int) := if okRow l = true then some (readR (dn l)) else none
def skerryref01_ReadCells.f (l : List Int) : Option (List S101 × Int) := if okRow l = true then some (readR (dn l)) else none
theorem ReadCells_up {L : List Nat} (h : K.OkB L) : codec_ReadCells.f (Ma.up L) = some (readR L) := by
  unfold codec_ReadCells.f
  rw [if_pos (up_okRow h), dn_up]
theorem refReadCells_up {L : List Nat} (h : K.OkB L) : skerryref01_ReadCells.f (Ma.up L) = some (readR L) := by
  unfold skerryref01_ReadCells.f
  rw [if_pos (up_okRow h), dn_up]
theorem codec_ReadCells.calls (A0 : Option Addr) (c0 : Nat) (l0 : List Int) (r1 : List S101) (r2 : Int) (w : World) (hr0 : Kd.C (Kd.int .u8) w A0 l0.length l0) (hc0 : l0.length ≤ c0) (h : codec_ReadCells.f l0 = some (r1, r2)) :
    Calls Try.prog 68 #[.slice A0 l0.length c0] w fun e w' => ∃ v0_ : Value, e = .returned (.tuple #[v0_, .int .i64 r2]) ∧ Kd.R k101 101 w' w.heap.size (fun _ => True) v0_ r1 ∧ Below w.heap.size w w' := by
  unfold codec_ReadCells.f at h
  split at h
  · next hk =>
    obtain ⟨h1, h2⟩ := okRow_up hk
    generalize hL : dn l0 = L at h1 h2 h
    subst h1
    refine (K.cells_c hr0 hc0 h2).mono fun e w' k => ?_
    have h := Option.some.inj h
    unfold readR at h
    rcases k with ⟨xs, v, e1, rfl, hR, hB⟩ | ⟨e1, rfl, hB⟩
    · rw [e1] at h
      obtain ⟨rfl, rfl⟩ := Prod.mk.inj h
      exact ⟨v, rfl, hR, hB⟩
    · rw [e1] at h
      obtain ⟨rfl, rfl⟩ := Prod.mk.inj h
      exact ⟨_, rfl, Kd.R_nil _ _ _ _ _, hB⟩
  · cases h
theorem skerryref01_ReadCells.calls (A0 : Option Addr) (c0 : Nat) (l0 : List Int) (r1 : List S101) (r2 : Int) (w : World) (hr0 : Kd.C (Kd.int .u8) w A0 l0.length l0) (hc0 : l0.length ≤ c0) (h : skerryref01_ReadCells.f l0 = some (r1, r2)) :
    Calls Try.prog 69 #[.slice A0 l0.length c0] w fun e w' => ∃ v0_ : Value, e = .returned (.tuple #[v0_, .int .i64 r2]) ∧ Kd.R k101 101 w' w.heap.size (fun _ => True) v0_ r1 ∧ Below w.heap.size w w' := by
  unfold skerryref01_ReadCells.f at h
  split at h
  · next hk =>
    obtain ⟨h1, h2⟩ := okRow_up hk
    generalize hL : dn l0 = L at h1 h2 h
    subst h1
    refine (K.refcells_c hr0 hc0 h2).mono fun e w' k => ?_
    have h := Option.some.inj h
    unfold readR at h
    rcases k with ⟨xs, v, e1, rfl, hR, hB⟩ | ⟨e1, rfl, hB⟩
    · rw [e1] at h
      obtain ⟨rfl, rfl⟩ := Prod.mk.inj h
      exact ⟨v, rfl, hR, hB⟩
    · rw [e1] at h
      obtain ⟨rfl, rfl⟩ := Prod.mk.inj h
      exact ⟨_, rfl, Kd.R_nil _ _ _ _ _, hB⟩
  · cases h
end Go.Proofs.Ytcopbkdlpfcjpaa.G
namespace Go.Proofs.Ytcopbkdlpfcjpaa.G
open Go.RowKit Go.Proofs.YtcopbkdlpfcjpaaW.PrintWords Go.Proofs.YtcopbkdlpfcjpaaW.PrintLast Go.Proofs.YtcopbkdlpfcjpaaW.PrintMore Go.Proofs.Ytcopbkdlpfcjpaa.B Go.Proofs.Ytcopbkdlpfcjpaa.H
attribute [local go_sem] max2_int min2_int max_two min_two max_three min_three max_four min_four
set_option linter.unusedVariables false
set_option linter.unusedSimpArgs false
def skerrylaw01_weigh.l0 : Nat → Int → Int → List (S101) → Int → Int → Option (Int)
  | 0, _, _, _, _, _ => none
  | k + 1, x1, x5, x8, x9, x10 => if x10 < x9 then (if 0 ≤ x10 then (if x10 < (x8.length : Int) then (if (wrap64 (x5 + (wrap64 (1 + (wrap64 (Int.tdiv (wrap64 ((wrap64 ((wrap64 ((((rd_T101 x8 x10).f0.f0).size : Int) + (((rd_T101 x8 x10).f0.f1).size : Int))) + (((rd_T101 x8 x10).f0.f3).size : Int))) + (((rd_T101 x8 x10).f1.f3.f2).size : Int))) 20)))))) > x1 then (some (wrap64 (x5 + (wrap64 (1 + (wrap64 (Int.tdiv (wrap64 ((wrap64 ((wrap64 ((((rd_T101 x8 x10).f0.f0).size : Int) + (((rd_T101 x8 x10).f0.f1).size : Int))) + (((rd_T101 x8 x10).f0.f3).size : Int))) + (((rd_T101 x8 x10).f1.f3.f2).size : Int))) 20))))))) else (skerrylaw01_weigh.l0 k x1 (wrap64 (x5 + (wrap64 (1 + (wrap64 (Int.tdiv (wrap64 ((wrap64 ((wrap64 ((((rd_T101 x8 x10).f0.f0).size : Int) + (((rd_T101 x8 x10).f0.f1).size : Int))) + (((rd_T101 x8 x10).f0.f3).size : Int))) + (((rd_T101 x8 x10).f1.f3.f2).size : Int))) 20)))))) x8 x9 (wrap64 (x10 + 1)))) else (none)) else (none)) else (some x5)
def skerrylaw01_weigh.f (k : Nat) (l0 : List (S101)) (a1 : Int) : Option (Int) := skerrylaw01_weigh.l0 k a1 0 l0 (l0.length : Int) 0
theorem skerrylaw01_weigh.mono_l : ∀ k, (∀ y0 y1 y2 y3 y4, LeO (skerrylaw01_weigh.l0 k y0 y1 y2 y3 y4) (skerrylaw01_weigh.l0 (k + 1) y0 y1 y2 y3 y4))
  | 0 => fun _ _ _ _ _ r h => by simp [skerrylaw01_weigh.l0] at h
  | k + 1 => by
    have ih0 := skerrylaw01_weigh.mono_l k
    · intro y0 y1 y2 y3 y4
      unfold skerrylaw01_weigh.l0
      repeat' first
      | (with_reducible exact ih0 _ _ _ _ _)
      | (with_reducible exact LeO.refl _)
      | (with_reducible exact LeO.none _)
      | (with_reducible refine LeO.ite ?_ ?_)
      | (with_reducible refine LeO.bind ?_ (fun _ => ?_))
      | exact ih0 _ _ _ _ _
      | exact LeO.none _
      | refine LeO.ite ?_ ?_
      | refine LeO.bind ?_ (fun _ => ?_)
theorem skerrylaw01_weigh.mono : ∀ a0 a1 k, LeO (skerrylaw01_weigh.f k a0 a1) (skerrylaw01_weigh.f (k + 1) a0 a1) := by
  intro a0 a1 k
  have ih0 := skerrylaw01_weigh.mono_l k
  unfold skerrylaw01_weigh.f
  repeat' first
      | (with_reducible exact ih0 _ _ _ _ _)
      | (with_reducible exact LeO.refl _)
      | (with_reducible exact LeO.none _)
      | (with_reducible refine LeO.ite ?_ ?_)
      | (with_reducible refine LeO.bind ?_ (fun _ => ?_))
      | exact ih0 _ _ _ _ _
      | exact LeO.none _
      | refine LeO.ite ?_ ?_
      | refine LeO.bind ?_ (fun _ => ?_)
set_option maxHeartbeats 8000000 in
set_option maxRecDepth 100000 in
theorem skerrylaw01_weigh.calls (k : Nat) (A0 : Option Addr) (c0 : Nat) (l0 : List (S101)) (a1 : Int) (r : Int) (w : World) (hr0 : Kd.C k101 w A0 l0.length l0) (hc0 : l0.length ≤ c0) (h : skerrylaw01_weigh.f k l0 a1 = some r) :
    Calls Try.prog 67 #[.slice A0 l0.length c0, .int .i64 a1] w fun e w' => e = .returned (.int .i64 r) ∧ Below w.heap.size w w' := by
  have hu101 := Try.underlying101
  have HR0 := Aside0.mk hr0
  have HC0 := Aside0.mk hc0
  clear hr0 hc0
  have HB := Aside0.mk (Below.refl w.heap.size w)
  have H : (skerrylaw01_weigh.l0 k a1 0 l0 (l0.length : Int) 0) = some r := h
  clear h
  have H' := Aside0.mk H
  clear H
  go_enter Try.func67, Try.ntmps67
  go_wp2
  go_loopg [5, 10] k (fun kq v5 v10 w' => ∃ (x5_1 : Int) (x10_1 : Int), v5 = .int .i64 x5_1 ∧ v10 = .int .i64 x10_1 ∧ Aside0 (skerrylaw01_weigh.l0 kq a1 x5_1 l0 (l0.length : Int) x10_1 = some r) ∧ Aside0 (kq ≤ k) ∧ Aside0 (Below w.heap.size w w'))
  case atStart => exact ⟨(0), (0), (by first | rfl | (simp; done) | (simp [*]; done)), (by first | rfl | (simp; done) | (simp [*]; done)), H', ⟨Nat.le_refl _⟩, ⟨by repeat (first | (with_reducible first | exact HB.out | apply below_alloc | apply pw_below_drewN | apply below_drew1) | exact HB.out)⟩⟩
  case round =>
    clear H'
    try clear p2
    obtain ⟨x5_1, x10_1, rfl, rfl, HA, HK1, HB⟩ := hrel
    cases gk with
    | zero => exact absurd HA.out (by simp [skerrylaw01_weigh.l0])
    | succ k1 =>
      have H := HA.out
      clear HA
      simp only [skerrylaw01_weigh.l0] at H
      by_cases c3 : x10_1 < (l0.length : Int)
      · rw [if_pos c3] at H
        have c3b0 : decide (x10_1 < (l0.length : Int)) = true := decide_eq_true c3
        clear c3
        by_cases c4 : 0 ≤ x10_1
        · rw [if_pos c4] at H
          have c4b0 : decide (0 ≤ x10_1) = true := decide_eq_true c4
          clear c4
          by_cases c5 : x10_1 < (l0.length : Int)
          · rw [if_pos c5] at H
            have c5b0 : decide (x10_1 < (l0.length : Int)) = true := decide_eq_true c5
            clear c5
            by_cases c6 : (wrap64 (x5_1 + (wrap64 (1 + (wrap64 (Int.tdiv (wrap64 ((wrap64 ((wrap64 ((((rd_T101 l0 x10_1).f0.f0).size : Int) + (((rd_T101 l0 x10_1).f0.f1).size : Int))) + (((rd_T101 l0 x10_1).f0.f3).size : Int))) + (((rd_T101 l0 x10_1).f1.f3.f2).size : Int))) 20)))))) > a1
            · rw [if_pos c6] at H
              have c6b0 : decide (a1 < (wrap64 (x5_1 + (wrap64 (1 + (wrap64 (Int.tdiv (wrap64 ((wrap64 ((wrap64 ((((rd_T101 l0 x10_1).f0.f0).size : Int) + (((rd_T101 l0 x10_1).f0.f1).size : Int))) + (((rd_T101 l0 x10_1).f0.f3).size : Int))) + (((rd_T101 l0 x10_1).f1.f3.f2).size : Int))) 20))))))) = true := decide_eq_true c6
              (try (have c6b1 : decide (a1 < (IntKind.i64.wrap (x5_1 + (IntKind.i64.wrap (1 + (IntKind.i64.wrap (Int.tdiv (IntKind.i64.wrap ((IntKind.i64.wrap ((IntKind.i64.wrap ((((rd_T101 l0 x10_1).f0.f0).size : Int) + (((rd_T101 l0 x10_1).f0.f1).size : Int))) + (((rd_T101 l0 x10_1).f0.f3).size : Int))) + (((rd_T101 l0 x10_1).f1.f3.f2).size : Int))) 20))))))) = true := by simp only [i64_w, i32_w]; exact decide_eq_true c6))
              clear c6
              obtain rfl := Option.some.inj H
              have p101 : 0 ≤ (x10_1 : Int) := of_decide_eq_true (by first | (with_reducible assumption) | assumption)
              have q101 : x10_1 < (l0.length : Int) := of_decide_eq_true (by first | (with_reducible assumption) | assumption)
              obtain ⟨ad101, e101, hx101_0, hx101_1, hx101_2, hx101_3, hx101_4, hx101_5, hx101_6, hx101_7, hx101_8, hx101_9⟩ := at_T101 HR0.out x10_1 p101 q101
              cases e101
              replace hx101_0 := (HB.out.cell (World.block_lt_of_cell? w _ hx101_0)).trans hx101_0
              replace hx101_1 := (HB.out.cell (World.block_lt_of_cell? w _ hx101_1)).trans hx101_1
              replace hx101_2 := (HB.out.cell (World.block_lt_of_cell? w _ hx101_2)).trans hx101_2
              replace hx101_3 := (HB.out.cell (World.block_lt_of_cell? w _ hx101_3)).trans hx101_3
              replace hx101_4 := (HB.out.cell (World.block_lt_of_cell? w _ hx101_4)).trans hx101_4
              replace hx101_5 := (HB.out.cell (World.block_lt_of_cell? w _ hx101_5)).trans hx101_5
              replace hx101_6 := (HB.out.cell (World.block_lt_of_cell? w _ hx101_6)).trans hx101_6
              replace hx101_7 := (HB.out.cell (World.block_lt_of_cell? w _ hx101_7)).trans hx101_7
              replace hx101_8 := (HB.out.cell (World.block_lt_of_cell? w _ hx101_8)).trans hx101_8
              replace hx101_9 := (HB.out.cell (World.block_lt_of_cell? w _ hx101_9)).trans hx101_9
              replace p101 := eq_true p101
              replace q101 := eq_true q101
              go_wp2_with (first | ((with_reducible refine gate_dst (N := 7) rfl ?_); refine box_event ?hg (N := 7) ?hd (cs := #[.string (⟨#[]⟩ : ByteArray), .string (⟨#[]⟩ : ByteArray), .int .i64 0, .string (⟨#[]⟩ : ByteArray), .int .i64 0, .bool false, .int .i64 0, .int .i64 0, .int .i64 0, .string (⟨#[]⟩ : ByteArray)]) (t := 101) ?hr ?_; (case hd => rfl); (case hg => rfl); (case hr => first | (go_simp; done) | (go_simp; rfl)); intro gb102 hg w7 hbox hb; have n0_ := Aside0.mk (below_step (by repeat (first | (with_reducible first | exact HB.out | apply below_alloc | apply pw_below_drewN | apply below_drew1) | exact HB.out)) hb); have n1_ := Aside0.mk (hbox); have n2_ := Aside0.mk ((by rw [hg]; exact (below_size (by repeat (first | (with_reducible first | exact HB.out | apply below_alloc | apply pw_below_drewN | apply below_drew1) | exact HB.out))) : w.heap.size ≤ gb102)); have n3_ := Aside0.mk ((by rw [hg]; exact (below_size (by repeat (first | (with_reducible first | exact HB.out | apply below_alloc | apply pw_below_drewN | apply below_drew1) | exact HB.out))) : w.heap.size ≤ gb102)); clear HB; have HB := n0_; have BK102 := n1_; have GW102 := n2_; have GE102 := n3_; clear n0_ n1_ n2_ n3_; clear hb hbox hg; have hcz8_0 : w7.cell? ⟨gb102, 0, none⟩ = some (.string (⟨#[]⟩ : ByteArray)) := (blk_cell BK102.out 0).trans rfl; have hcz8_1 : w7.cell? ⟨gb102, 1, none⟩ = some (.string (⟨#[]⟩ : ByteArray)) := (blk_cell BK102.out 1).trans rfl; have hcz8_2 : w7.cell? ⟨gb102, 2, none⟩ = some (.int .i64 0) := (blk_cell BK102.out 2).trans rfl; have hcz8_3 : w7.cell? ⟨gb102, 3, none⟩ = some (.string (⟨#[]⟩ : ByteArray)) := (blk_cell BK102.out 3).trans rfl; have hcz8_4 : w7.cell? ⟨gb102, 4, none⟩ = some (.int .i64 0) := (blk_cell BK102.out 4).trans rfl; have hcz8_5 : w7.cell? ⟨gb102, 5, none⟩ = some (.bool false) := (blk_cell BK102.out 5).trans rfl; have hcz8_6 : w7.cell? ⟨gb102, 6, none⟩ = some (.int .i64 0) := (blk_cell BK102.out 6).trans rfl; have hcz8_7 : w7.cell? ⟨gb102, 7, none⟩ = some (.int .i64 0) := (blk_cell BK102.out 7).trans rfl; have hcz8_8 : w7.cell? ⟨gb102, 8, none⟩ = some (.int .i64 0) := (blk_cell BK102.out 8).trans rfl; have hcz8_9 : w7.cell? ⟨gb102, 9, none⟩ = some (.string (⟨#[]⟩ : ByteArray)) := (blk_cell BK102.out 9).trans rfl; have hfz8_0 := blk_frozen BK102.out 0; have hfz8_1 := blk_frozen BK102.out 1; have hfz8_2 := blk_frozen BK102.out 2; have hfz8_3 := blk_frozen BK102.out 3; have hfz8_4 := blk_frozen BK102.out 4; have hfz8_5 := blk_frozen BK102.out 5; have hfz8_6 := blk_frozen BK102.out 6; have hfz8_7 := blk_frozen BK102.out 7; have hfz8_8 := blk_frozen BK102.out 8; have hfz8_9 := blk_frozen BK102.out 9))
              go_ret
              exact ⟨by first | rfl | (simp [errW_none, errW_some] <;> rfl) | (simp [*, errW_none, errW_some] <;> rfl), by repeat (first | (with_reducible first | exact HB.out | apply below_alloc | apply pw_below_drewN | apply below_drew1 | refine below_set ?_ GE102.out) | exact HB.out)⟩
            · rw [if_neg c6] at H
              have c6b0 : decide (a1 < (wrap64 (x5_1 + (wrap64 (1 + (wrap64 (Int.tdiv (wrap64 ((wrap64 ((wrap64 ((((rd_T101 l0 x10_1).f0.f0).size : Int) + (((rd_T101 l0 x10_1).f0.f1).size : Int))) + (((rd_T101 l0 x10_1).f0.f3).size : Int))) + (((rd_T101 l0 x10_1).f1.f3.f2).size : Int))) 20))))))) = false := decide_eq_false c6
              (try (have c6b1 : decide (a1 < (IntKind.i64.wrap (x5_1 + (IntKind.i64.wrap (1 + (IntKind.i64.wrap (Int.tdiv (IntKind.i64.wrap ((IntKind.i64.wrap ((IntKind.i64.wrap ((((rd_T101 l0 x10_1).f0.f0).size : Int) + (((rd_T101 l0 x10_1).f0.f1).size : Int))) + (((rd_T101 l0 x10_1).f0.f3).size : Int))) + (((rd_T101 l0 x10_1).f1.f3.f2).size : Int))) 20))))))) = false := by simp only [i64_w, i32_w]; exact decide_eq_false c6))
              clear c6
              have H' := Aside0.mk H
              clear H
              have p101 : 0 ≤ (x10_1 : Int) := of_decide_eq_true (by first | (with_reducible assumption) | assumption)
              have q101 : x10_1 < (l0.length : Int) := of_decide_eq_true (by first | (with_reducible assumption) | assumption)
              obtain ⟨ad101, e101, hx101_0, hx101_1, hx101_2, hx101_3, hx101_4, hx101_5, hx101_6, hx101_7, hx101_8, hx101_9⟩ := at_T101 HR0.out x10_1 p101 q101
              cases e101
              replace hx101_0 := (HB.out.cell (World.block_lt_of_cell? w _ hx101_0)).trans hx101_0
              replace hx101_1 := (HB.out.cell (World.block_lt_of_cell? w _ hx101_1)).trans hx101_1
              replace hx101_2 := (HB.out.cell (World.block_lt_of_cell? w _ hx101_2)).trans hx101_2
              replace hx101_3 := (HB.out.cell (World.block_lt_of_cell? w _ hx101_3)).trans hx101_3
              replace hx101_4 := (HB.out.cell (World.block_lt_of_cell? w _ hx101_4)).trans hx101_4
              replace hx101_5 := (HB.out.cell (World.block_lt_of_cell? w _ hx101_5)).trans hx101_5
              replace hx101_6 := (HB.out.cell (World.block_lt_of_cell? w _ hx101_6)).trans hx101_6
              replace hx101_7 := (HB.out.cell (World.block_lt_of_cell? w _ hx101_7)).trans hx101_7
              replace hx101_8 := (HB.out.cell (World.block_lt_of_cell? w _ hx101_8)).trans hx101_8
              replace hx101_9 := (HB.out.cell (World.block_lt_of_cell? w _ hx101_9)).trans hx101_9
              replace p101 := eq_true p101
              replace q101 := eq_true q101
              go_wp2_with (first | ((with_reducible refine gate_dst (N := 7) rfl ?_); refine box_event ?hg (N := 7) ?hd (cs := #[.string (⟨#[]⟩ : ByteArray), .string (⟨#[]⟩ : ByteArray), .int .i64 0, .string (⟨#[]⟩ : ByteArray), .int .i64 0, .bool false, .int .i64 0, .int .i64 0, .int .i64 0, .string (⟨#[]⟩ : ByteArray)]) (t := 101) ?hr ?_; (case hd => rfl); (case hg => rfl); (case hr => first | (go_simp; done) | (go_simp; rfl)); intro gb102 hg w9 hbox hb; have n0_ := Aside0.mk (below_step (by repeat (first | (with_reducible first | exact HB.out | apply below_alloc | apply pw_below_drewN | apply below_drew1) | exact HB.out)) hb); have n1_ := Aside0.mk (hbox); have n2_ := Aside0.mk ((by rw [hg]; exact (below_size (by repeat (first | (with_reducible first | exact HB.out | apply below_alloc | apply pw_below_drewN | apply below_drew1) | exact HB.out))) : w.heap.size ≤ gb102)); have n3_ := Aside0.mk ((by rw [hg]; exact (below_size (by repeat (first | (with_reducible first | exact HB.out | apply below_alloc | apply pw_below_drewN | apply below_drew1) | exact HB.out))) : w.heap.size ≤ gb102)); clear HB; have HB := n0_; have BK102 := n1_; have GW102 := n2_; have GE102 := n3_; clear n0_ n1_ n2_ n3_; clear hb hbox hg; have hcz10_0 : w9.cell? ⟨gb102, 0, none⟩ = some (.string (⟨#[]⟩ : ByteArray)) := (blk_cell BK102.out 0).trans rfl; have hcz10_1 : w9.cell? ⟨gb102, 1, none⟩ = some (.string (⟨#[]⟩ : ByteArray)) := (blk_cell BK102.out 1).trans rfl; have hcz10_2 : w9.cell? ⟨gb102, 2, none⟩ = some (.int .i64 0) := (blk_cell BK102.out 2).trans rfl; have hcz10_3 : w9.cell? ⟨gb102, 3, none⟩ = some (.string (⟨#[]⟩ : ByteArray)) := (blk_cell BK102.out 3).trans rfl; have hcz10_4 : w9.cell? ⟨gb102, 4, none⟩ = some (.int .i64 0) := (blk_cell BK102.out 4).trans rfl; have hcz10_5 : w9.cell? ⟨gb102, 5, none⟩ = some (.bool false) := (blk_cell BK102.out 5).trans rfl; have hcz10_6 : w9.cell? ⟨gb102, 6, none⟩ = some (.int .i64 0) := (blk_cell BK102.out 6).trans rfl; have hcz10_7 : w9.cell? ⟨gb102, 7, none⟩ = some (.int .i64 0) := (blk_cell BK102.out 7).trans rfl; have hcz10_8 : w9.cell? ⟨gb102, 8, none⟩ = some (.int .i64 0) := (blk_cell BK102.out 8).trans rfl; have hcz10_9 : w9.cell? ⟨gb102, 9, none⟩ = some (.string (⟨#[]⟩ : ByteArray)) := (blk_cell BK102.out 9).trans rfl; have hfz10_0 := blk_frozen BK102.out 0; have hfz10_1 := blk_frozen BK102.out 1; have hfz10_2 := blk_frozen BK102.out 2; have hfz10_3 := blk_frozen BK102.out 3; have hfz10_4 := blk_frozen BK102.out 4; have hfz10_5 := blk_frozen BK102.out 5; have hfz10_6 := blk_frozen BK102.out 6; have hfz10_7 := blk_frozen BK102.out 7; have hfz10_8 := blk_frozen BK102.out 8; have hfz10_9 := blk_frozen BK102.out 9))
              go_roundg k1
              case measure => have := HK1.out; omega
              case rel => exact ⟨(wrap64 (x5_1 + (wrap64 (1 + (wrap64 (Int.tdiv (wrap64 ((wrap64 ((wrap64 ((((rd_T101 l0 x10_1).f0.f0).size : Int) + (((rd_T101 l0 x10_1).f0.f1).size : Int))) + (((rd_T101 l0 x10_1).f0.f3).size : Int))) + (((rd_T101 l0 x10_1).f1.f3.f2).size : Int))) 20)))))), (wrap64 (x10_1 + 1)), (by first | rfl | (simp; done) | (simp [*]; done)), (by first | rfl | (simp; done) | (simp [*]; done)), H', ⟨by have := HK1.out; omega⟩, ⟨by repeat (first | (with_reducible first | exact HB.out | apply below_alloc | apply pw_below_drewN | apply below_drew1 | refine below_set ?_ GE102.out) | exact HB.out)⟩⟩
          · rw [if_neg c5] at H
            exact absurd H (by simp)
        · rw [if_neg c4] at H
          exact absurd H (by simp)
      · rw [if_neg c3] at H
        have c3b0 : decide (x10_1 < (l0.length : Int)) = false := decide_eq_false c3
        clear c3
        obtain rfl := Option.some.inj H
        go_wp2
        go_ret
        exact ⟨by first | rfl | (simp [errW_none, errW_some] <;> rfl) | (simp [*, errW_none, errW_some] <;> rfl), by repeat (first | (with_reducible first | exact HB.out | apply below_alloc | apply pw_below_drewN | apply below_drew1) | exact HB.out)⟩
end Go.Proofs.Ytcopbkdlpfcjpaa.G
