/- The bloom layer by hand: filters in memory, the functions of the program and of the document over them, the document's examples (BloA to BloH and BloP, joined). -/
import Derived.Test.YtcopbkdlpfcjpaaMurD
import Derived.Test.YtcopbkdlpfcjpaaMb
namespace Go.Proofs.Ytcopbkdlpfcjpaa.L
open Go.RowKit Go.Proofs.YtcopbkdlpfcjpaaW.PrintWords Go.Proofs.YtcopbkdlpfcjpaaW.PrintLast Go.Proofs.YtcopbkdlpfcjpaaW.PrintMore Go.Proofs.Ytcopbkdlpfcjpaa.B Go.Proofs.Ytcopbkdlpfcjpaa.M
attribute [local go_sem] max2_int min2_int max_two min_two max_three min_three max_four min_four
set_option linter.unusedVariables false
set_option linter.unusedSimpArgs false

theorem info5 : (Try.prog.info? 5).map (fun i => (i.zero, i.size, i.bytes)) = some (some (.int .u8 0), 1, 1) := by kernel_rfl
theorem info3 : (Try.prog.info? 3).map (fun i => (i.zero, i.size, i.bytes)) = some (some (.int .i64 0), 1, 8) := by kernel_rfl

/-- Outside the blocks from lo to hi all is as it was. -/
structure Kp (lo hi : Nat) (w w' : World) : Prop where
  os : w'.os = w.os
  tape : w'.tape = w.tape
  output : w'.output = w.output
  size : w.heap.size ≤ w'.heap.size
  block : ∀ k, k < w.heap.size → (k < lo ∨ hi < k) → w'.heap[k]? = w.heap[k]?
theorem Kp.refl (lo hi : Nat) (w : World) : Kp lo hi w w := ⟨rfl, rfl, rfl, Nat.le_refl _, fun _ _ _ => rfl⟩
theorem Kp.trans {lo hi : Nat} {a b c : World} (h : Kp lo hi a b) (k : Kp lo hi b c) : Kp lo hi a c :=
  ⟨k.os.trans h.os, k.tape.trans h.tape, k.output.trans h.output, Nat.le_trans h.size k.size, fun i hi hb => (k.block i (Nat.lt_of_lt_of_le hi h.size) hb).trans (h.block i hi hb)⟩
theorem Kp.of_below {lo hi : Nat} {w w' : World} (h : Below w.heap.size w w') : Kp lo hi w w' := ⟨h.os, h.tape, h.output, h.size, fun k hk _ => h.block k hk⟩
theorem Kp.below {lo hi : Nat} {w0 w w' : World} (h : Kp lo hi w w') (hb : Below w0.heap.size w0 w) (hlo : w0.heap.size ≤ lo) : Below w0.heap.size w0 w' :=
  ⟨h.os.trans hb.os, h.tape.trans hb.tape, h.output.trans hb.output, Nat.le_trans hb.size h.size, fun k hk => (h.block k (Nat.lt_of_lt_of_le hk hb.size) (.inl (by omega))).trans (hb.block k hk)⟩
theorem Kp.of_grown {lo hi : Nat} {w w' : World} {row : Option Nat} (h : w.grownBy w' row) (hr : ∀ k, row = some k → lo ≤ k ∧ k ≤ hi) : Kp lo hi w w' :=
  ⟨h.os, h.tape, h.output, h.size, fun k hk hb => h.block k hk (fun e => by have := hr k e.symm; omega)⟩

/-- A filter of type T at block g, its bits below it, from block lo on. -/
def Fil (T : TypeId) (w : World) (lo g : Nat) (k : Int) (bs : List Int) : Prop :=
  lo ≤ g ∧ ∃ v, w.heap[g]? = some (.cells #[.int .i64 k, v] T (0, 0)) ∧ (Kd.int .u8).R 5 w lo (fun j => j < g) v bs
theorem Fil.keep {T : TypeId} {w w' : World} {lo g lo' hi' : Nat} {k : Int} {bs : List Int} (h : Fil T w lo g k bs) (hk : Kp lo' hi' w w') (hne : hi' < lo ∨ g < lo') : Fil T w' lo g k bs := by
  obtain ⟨h1, v, h2, h3⟩ := h
  refine ⟨h1, v, ?_, ?_⟩
  · rw [hk.block g (blk_lt h2) (by omega)]
    exact h2
  · refine Kd.R_mono (Kd.R_step (Kd.R_bound h3) (fun j hj hlt => hk.block j hlt ?_)) (fun j hj => hj.1)
    obtain ⟨hj1, hj2, _⟩ := hj
    omega
theorem Fil.below {T : TypeId} {w w' : World} {lo g : Nat} {k : Int} {bs : List Int} (h : Fil T w lo g k bs) (hb : Below w.heap.size w w') : Fil T w' lo g k bs := h.keep (lo' := g + 1) (hi' := g + 1) (Kp.of_below hb) (.inr (by omega))
theorem Fil.lt {T : TypeId} {w : World} {lo g : Nat} {k : Int} {bs : List Int} (h : Fil T w lo g k bs) : g < w.heap.size := by
  obtain ⟨h1, v, h2, h3⟩ := h
  exact blk_lt h2
/-- The filter that New makes. -/
def newK1 (bits : Int) : Int := if Int.tdiv (bits * 7) 10 < 1 then 1 else Int.tdiv (bits * 7) 10
def newK (bits : Int) : Int := if 16 < newK1 bits then 16 else newK1 bits
def newN (n bits : Int) : Int := if Int.tdiv (n * bits + 7) 8 < 1 then 1 else Int.tdiv (n * bits + 7) 8
theorem newK_in (bits : Int) (h0 : 1 ≤ bits) (h1 : bits ≤ 32) : 1 ≤ newK bits ∧ newK bits ≤ 16 := by
  unfold newK newK1
  split <;> split at * <;> omega
theorem mul_in (n bits : Int) (h0 : 0 ≤ n) (h1 : n ≤ 100000) (h2 : 1 ≤ bits) (h3 : bits ≤ 32) : 0 ≤ n * bits ∧ n * bits ≤ 3200000 := by
  refine ⟨Int.mul_nonneg h0 (by omega), ?_⟩
  calc n * bits ≤ 100000 * bits := Int.mul_le_mul_of_nonneg_right h1 (by omega)
    _ ≤ 3200000 := by omega
theorem newN_in (n bits : Int) (h0 : 0 ≤ n) (h1 : n ≤ 100000) (h2 : 1 ≤ bits) (h3 : bits ≤ 32) : 1 ≤ newN n bits ∧ newN n bits ≤ 400000 := by
  have h := mul_in n bits h0 h1 h2 h3
  unfold newN
  generalize n * bits = m at *
  split <;> constructor <;> first | omega | (rw [Int.tdiv_eq_ediv_of_nonneg (by omega)] at *; omega)

set_option maxHeartbeats 8000000 in
set_option maxRecDepth 100000 in
theorem New_bad (n bits : Int) (w : World) (h : n < 0 ∨ 100000 < n ∨ bits < 1 ∨ 32 < bits) : Calls Try.prog 53 #[.int .i64 n, .int .i64 bits] w fun e w' => e = .returned (.pointer none) ∧ w' = w := by
  by_cases h0 : n < 0
  · have b0 : decide (n < 0) = true := decide_eq_true h0
    clear h h0
    go_enter Try.func53, Try.ntmps53
    go_wp2
    go_ret
    exact ⟨rfl, rfl⟩
  · have b0 : decide (n < 0) = false := decide_eq_false h0
    by_cases h1 : 100000 < n
    · have b1 : decide (100000 < n) = true := decide_eq_true h1
      clear h h0 h1
      go_enter Try.func53, Try.ntmps53
      go_wp2
      go_ret
      exact ⟨rfl, rfl⟩
    · have b1 : decide (100000 < n) = false := decide_eq_false h1
      by_cases h2 : bits < 1
      · have b2 : decide (bits < 1) = true := decide_eq_true h2
        clear h h0 h1 h2
        go_enter Try.func53, Try.ntmps53
        go_wp2
        go_ret
        exact ⟨rfl, rfl⟩
      · have b2 : decide (bits < 1) = false := decide_eq_false h2
        have b3 : decide (32 < bits) = true := decide_eq_true (by omega)
        clear h h0 h1 h2
        go_enter Try.func53, Try.ntmps53
        go_wp2
        go_ret
        exact ⟨rfl, rfl⟩

set_option maxHeartbeats 8000000 in
set_option maxRecDepth 100000 in
theorem New_ok (n bits : Int) (w : World) (h0 : 0 ≤ n) (h1 : n ≤ 100000) (h2 : 1 ≤ bits) (h3 : bits ≤ 32) :
    Calls Try.prog 53 #[.int .i64 n, .int .i64 bits] w fun e w' => ∃ g, e = .returned (.pointer (some ⟨g, 0, none⟩)) ∧ Fil 83 w' w.heap.size g (newK bits) (List.replicate (newN n bits).toNat 0) ∧ Below w.heap.size w w' := by
  have b0 : decide (n < 0) = false := decide_eq_false (by omega)
  have b1 : decide (100000 < n) = false := decide_eq_false (by omega)
  have b2 : decide (bits < 1) = false := decide_eq_false (by omega)
  have b3 : decide (32 < bits) = false := decide_eq_false (by omega)
  have hm := mul_in n bits h0 h1 h2 h3
  have e1 : wrap64 (bits * 7) = bits * 7 := by unfold wrap64; omega
  have e2 : wrap64 (Int.tdiv (bits * 7) 10) = Int.tdiv (bits * 7) 10 := by rw [Int.tdiv_eq_ediv_of_nonneg (by omega)]; unfold wrap64; omega
  have e3 : wrap64 (n * bits) = n * bits := by unfold wrap64; omega
  have e4 : wrap64 (n * bits + 7) = n * bits + 7 := by unfold wrap64; omega
  have e5 : wrap64 (Int.tdiv (n * bits + 7) 8) = Int.tdiv (n * bits + 7) 8 := by rw [Int.tdiv_eq_ediv_of_nonneg (by omega)]; unfold wrap64; omega
  have hK1 : (if Int.tdiv (bits * 7) 10 < 1 then 1 else Int.tdiv (bits * 7) 10) = newK1 bits := rfl
  have hK : (if 16 < newK1 bits then 16 else newK1 bits) = newK bits := rfl
  have hN : (if Int.tdiv (n * bits + 7) 8 < 1 then 1 else Int.tdiv (n * bits + 7) 8) = newN n bits := rfl
  have hNi := newN_in n bits h0 h1 h2 h3
  generalize newK1 bits = K1 at *
  generalize newK bits = K at *
  generalize newN n bits = N at *
  clear h0 h1 h2 h3 hm
  go_enter Try.func53, Try.ntmps53
  go_wp2_with ((with_reducible refine gate_dst (N := 30) rfl ?_); refine Kd.R_make (Kd.int .u8) w.heap.size 5 rfl (N := 30) rfl 27 _ _ rfl N rfl rfl Try.underlying27 (.int .u8 0) 1 info5 rfl (by decide) (by omega) 0 (ok := fun _ => True) (okp := fun _ => True) rfl (fun _ hk => hk) trivial (by omega) (by omega) (Below.refl _ _) (Nat.le_refl _) ?_; intro v w1 hr hb hg hn; obtain ⟨A, c, rfl⟩ := Kd.R_slice hr; replace hr := Aside0.mk hr; replace hb := Aside0.mk hb; clear hg hn)
  go_ret
  refine ⟨_, rfl, ⟨hb.out.size, _, (by first | exact heap_alloc_new w1 _ | (simpa using heap_alloc_new w1 _)), ?_⟩, below_alloc hb.out _⟩
  have h1 := Kd.R_mono (Kd.R_bound hr.out) (ok' := fun j => j < w1.heap.size) (fun j hj => hj.2.2.1)
  rw [List.length_replicate] at h1
  exact Kd.R_alloc h1 _
set_option maxHeartbeats 8000000 in
set_option maxRecDepth 100000 in
theorem NewR_bad (n bits : Int) (w : World) (h : n < 0 ∨ 100000 < n ∨ bits < 1 ∨ 32 < bits) : Calls Try.prog 64 #[.int .i64 n, .int .i64 bits] w fun e w' => e = .returned (.pointer none) ∧ w' = w := by
  by_cases h0 : n < 0
  · have b0 : decide (n < 0) = true := decide_eq_true h0
    clear h h0
    go_enter Try.func64, Try.ntmps64
    go_wp2
    go_ret
    exact ⟨rfl, rfl⟩
  · have b0 : decide (n < 0) = false := decide_eq_false h0
    by_cases h1 : 100000 < n
    · have b1 : decide (100000 < n) = true := decide_eq_true h1
      clear h h0 h1
      go_enter Try.func64, Try.ntmps64
      go_wp2
      go_ret
      exact ⟨rfl, rfl⟩
    · have b1 : decide (100000 < n) = false := decide_eq_false h1
      by_cases h2 : bits < 1
      · have b2 : decide (bits < 1) = true := decide_eq_true h2
        clear h h0 h1 h2
        go_enter Try.func64, Try.ntmps64
        go_wp2
        go_ret
        exact ⟨rfl, rfl⟩
      · have b2 : decide (bits < 1) = false := decide_eq_false h2
        have b3 : decide (32 < bits) = true := decide_eq_true (by omega)
        clear h h0 h1 h2
        go_enter Try.func64, Try.ntmps64
        go_wp2
        go_ret
        exact ⟨rfl, rfl⟩

set_option maxHeartbeats 8000000 in
set_option maxRecDepth 100000 in
theorem NewR_ok (n bits : Int) (w : World) (h0 : 0 ≤ n) (h1 : n ≤ 100000) (h2 : 1 ≤ bits) (h3 : bits ≤ 32) :
    Calls Try.prog 64 #[.int .i64 n, .int .i64 bits] w fun e w' => ∃ g, e = .returned (.pointer (some ⟨g, 0, none⟩)) ∧ Fil 80 w' w.heap.size g (newK bits) (List.replicate (newN n bits).toNat 0) ∧ Below w.heap.size w w' := by
  have b0 : decide (n < 0) = false := decide_eq_false (by omega)
  have b1 : decide (100000 < n) = false := decide_eq_false (by omega)
  have b2 : decide (bits < 1) = false := decide_eq_false (by omega)
  have b3 : decide (32 < bits) = false := decide_eq_false (by omega)
  have hm := mul_in n bits h0 h1 h2 h3
  have e1 : wrap64 (bits * 7) = bits * 7 := by unfold wrap64; omega
  have e2 : wrap64 (Int.tdiv (bits * 7) 10) = Int.tdiv (bits * 7) 10 := by rw [Int.tdiv_eq_ediv_of_nonneg (by omega)]; unfold wrap64; omega
  have e3 : wrap64 (n * bits) = n * bits := by unfold wrap64; omega
  have e4 : wrap64 (n * bits + 7) = n * bits + 7 := by unfold wrap64; omega
  have e5 : wrap64 (Int.tdiv (n * bits + 7) 8) = Int.tdiv (n * bits + 7) 8 := by rw [Int.tdiv_eq_ediv_of_nonneg (by omega)]; unfold wrap64; omega
  have hK1 : newK1 bits = if Int.tdiv (bits * 7) 10 < 1 then 1 else Int.tdiv (bits * 7) 10 := rfl
  have hK : newK bits = if 16 < newK1 bits then 16 else newK1 bits := rfl
  have hN : newN n bits = if Int.tdiv (n * bits + 7) 8 < 1 then 1 else Int.tdiv (n * bits + 7) 8 := rfl
  have hNi := newN_in n bits h0 h1 h2 h3
  clear h0 h1 h2 h3 hm
  by_cases s1 : Int.tdiv (n * bits + 7) 8 < 1 <;> by_cases s2 : Int.tdiv (bits * 7) 10 < 1
  all_goals (first | rw [if_pos s1] at hN | rw [if_neg s1] at hN)
  all_goals (first | rw [if_pos s2] at hK1 | rw [if_neg s2] at hK1)
  all_goals (rw [hK1] at hK)
  all_goals (rw [hN] at hNi)
  all_goals (rw [hK, hN])
  all_goals (clear hK1 hK hN)
  all_goals (first | have c1 := decide_eq_false s1 | have c1 := decide_eq_true s1)
  all_goals (first | have c2 := decide_eq_false s2 | have c2 := decide_eq_true s2)
  all_goals (clear s1 s2)
  all_goals (generalize hq : (n * bits + 7).tdiv 8 = q at *)
  all_goals (generalize hr : (bits * 7).tdiv 10 = r at *)
  all_goals (try by_cases s3 : 16 < r)
  all_goals (try rw [if_pos s3])
  all_goals (try rw [if_neg s3])
  all_goals (try rw [if_neg (show ¬ (16 : Int) < 1 by omega)])
  all_goals (try (first | have c3 := decide_eq_false s3 | have c3 := decide_eq_true s3))
  all_goals (try clear s3)
  all_goals (go_enter Try.func64, Try.ntmps64)
  all_goals (go_wp2_with ((with_reducible refine gate_dst (N := 37) rfl ?_); refine Kd.R_make (Kd.int .u8) w.heap.size 5 rfl (N := 37) rfl 27 _ _ rfl _ rfl rfl Try.underlying27 (.int .u8 0) 1 info5 rfl (by decide) (by omega) 0 (ok := fun _ => True) (okp := fun _ => True) rfl (fun _ hk => hk) trivial (by omega) (by omega) (Below.refl _ _) (Nat.le_refl _) ?_; intro v w1 hr hb hg hn; obtain ⟨A, c, rfl⟩ := Kd.R_slice hr; replace hr := Aside0.mk hr; replace hb := Aside0.mk hb; clear hg hn))
  all_goals go_ret
  all_goals (refine ⟨_, rfl, ⟨hb.out.size, _, (by first | exact heap_alloc_new w1 _ | (simpa using heap_alloc_new w1 _)), ?_⟩, below_alloc hb.out _⟩)
  all_goals (have h1 := Kd.R_mono (Kd.R_bound hr.out) (ok' := fun j => j < w1.heap.size) (fun j hj => hj.2.2.1))
  all_goals (rw [List.length_replicate] at h1)
  all_goals (exact Kd.R_alloc h1 _)
end Go.Proofs.Ytcopbkdlpfcjpaa.L
namespace Go.Proofs.Ytcopbkdlpfcjpaa.L
open Go.RowKit Go.Proofs.YtcopbkdlpfcjpaaW.PrintWords Go.Proofs.YtcopbkdlpfcjpaaW.PrintLast Go.Proofs.YtcopbkdlpfcjpaaW.PrintMore Go.Proofs.Ytcopbkdlpfcjpaa.B Go.Proofs.Ytcopbkdlpfcjpaa.M
attribute [local go_sem] max2_int min2_int max_two min_two max_three min_three max_four min_four
set_option linter.unusedVariables false
set_option linter.unusedSimpArgs false

/-- A place. -/
def plc (h g : Int) (n : Nat) (i : Int) : Int := wrap64 (Int.tmod (IntKind.u64.wrap (h + IntKind.u64.wrap (IntKind.u64.wrap i * g))) (IntKind.u64.wrap (wrap64 (8 * (n : Int)))))
def plN (h g : Int) (n : Nat) : Nat → List Int
  | 0 => []
  | i + 1 => plN h g n i ++ [plc h g n (i : Int)]
theorem plN_len (h g : Int) (n : Nat) (i : Nat) : (plN h g n i).length = i := by
  induction i with
  | zero => rfl
  | succ i ih => rw [plN, List.length_append, ih]; rfl
/-- A key's places. -/
def plS (k : Int) (n : Nat) (key : List Int) : List Int := plN (sumS key 0).1 (sumS key 0).2 n k.toNat

theorem Fil.cell0 {T : TypeId} {w : World} {lo g : Nat} {k : Int} {bs : List Int} (h : Fil T w lo g k bs) : w.cell? ⟨g, 0, none⟩ = some (.int .i64 k) := by
  obtain ⟨h1, v, h2, h3⟩ := h
  exact (blk_cell h2 0).trans rfl
theorem Fil.cell1 {T : TypeId} {w : World} {lo g : Nat} {k : Int} {bs : List Int} (h : Fil T w lo g k bs) : ∃ A c, w.cell? ⟨g, 1, none⟩ = some (.slice A bs.length c) := by
  obtain ⟨h1, v, h2, h3⟩ := h
  obtain ⟨A, c, rfl⟩ := Kd.R_slice h3
  exact ⟨A, c, (blk_cell h2 1).trans rfl⟩
set_option maxHeartbeats 8000000 in
set_option maxRecDepth 100000 in
theorem made_c {w : World} {lo g : Nat} {k : Int} {bs : List Int} (h : Fil 83 w lo g k bs) : Calls Try.prog 77 #[.pointer (some ⟨g, 0, none⟩)] w fun e w' => e = .returned (.bool (decide (0 < k))) ∧ w' = w := by
  have h0 := h.cell0
  clear h
  go_enter Try.func77, Try.ntmps77
  go_wp2
  go_ret
  exact ⟨rfl, rfl⟩
set_option maxHeartbeats 8000000 in
set_option maxRecDepth 100000 in
theorem made_nil (w : World) : Calls Try.prog 77 #[.pointer none] w fun e w' => e = .returned (.bool false) ∧ w' = w := by
  go_enter Try.func77, Try.ntmps77
  go_wp2
  go_ret
  exact ⟨rfl, rfl⟩
theorem div_ne (n : Nat) (h0 : 0 < n) (h1 : n ≤ 1000000) : ((IntKind.u64.wrap (wrap64 (8 * (n : Int)))) == 0) = false := by
  rw [IntKind.wrap_u64]
  have : wrap64 (8 * (n : Int)) = 8 * n := by unfold wrap64; omega
  rw [this]
  exact beq_eq_false_iff_ne.mpr (by omega)
set_option maxHeartbeats 8000000 in
set_option maxRecDepth 100000 in
theorem place_c (h g i : Int) (n c f : Nat) (A : Option Addr) (p5 p6 p2 : Addr) (w : World) (h5 : w.cell? p5 = some (.int .u64 h)) (h6 : w.cell? p6 = some (.int .u64 g)) (h2 : w.cell? p2 = some (.pointer (some ⟨f, 0, none⟩)))
    (hb : w.cell? ⟨f, 1, none⟩ = some (.slice A n c)) (hn : 0 < n) (hn2 : n ≤ 1000000) :
    Calls Try.prog 79 #[.int .i64 i, .pointer (some p5), .pointer (some p6), .pointer (some p2)] w fun e w' => e = .returned (.int .i64 (plc h g n i)) ∧ Drawn0 w w' := by
  have c0 := div_ne n hn hn2
  have c1 : ¬ (IntKind.u64.wrap (wrap64 (8 * (n : Int)))) = 0 := beq_eq_false_iff_ne.mp c0
  clear hn hn2
  have hpl : plc h g n i = wrap64 (Int.tmod (IntKind.u64.wrap (h + IntKind.u64.wrap (IntKind.u64.wrap i * g))) (IntKind.u64.wrap (wrap64 (8 * (n : Int))))) := rfl
  rw [hpl]
  clear hpl
  generalize hD : IntKind.u64.wrap (wrap64 (8 * (n : Int))) = D at *
  generalize hE : IntKind.u64.wrap (h + IntKind.u64.wrap (IntKind.u64.wrap i * g)) = E at *
  go_enter Try.func79, Try.ntmps79
  go_wp2
  have hi64_ := i64_w
  go_quiet (fail)
  clear hi64_
  go_wp2_with (fail)
  go_ret
  exact ⟨by first | rfl | (simp [plc, i64_w]; done), by repeat (first | exact Drawn0.refl _ | apply Drawn0.step | apply Drawn0.drewN)⟩
end Go.Proofs.Ytcopbkdlpfcjpaa.L
namespace Go.Proofs.Ytcopbkdlpfcjpaa.L
open Go.RowKit Go.Proofs.YtcopbkdlpfcjpaaW.PrintWords Go.Proofs.YtcopbkdlpfcjpaaW.PrintLast Go.Proofs.YtcopbkdlpfcjpaaW.PrintMore Go.Proofs.Ytcopbkdlpfcjpaa.B Go.Proofs.Ytcopbkdlpfcjpaa.M
attribute [local go_sem] max2_int min2_int max_two min_two max_three min_three max_four min_four
set_option linter.unusedVariables false
set_option linter.unusedSimpArgs false
/-- What is read below a mark stays. -/
theorem bcell {B : Nat} {w w1 : World} (hb : Below B w w1) {a : Addr} {v : Value} (h : w.cell? a = some v) (hlt : a.block < B) : w1.cell? a = some v := by
  have := hb.block a.block hlt
  simpa [World.cell?, this] using h
theorem cell_new (w : World) (v : Value) (t : TypeId) : (w.alloc (.cells #[v] t)).cell? ⟨w.heap.size, 0, none⟩ = some v := (blk_cell (heap_alloc_new w (.cells #[v] t)) 0).trans rfl
theorem size_alloc (w : World) (o : Obj) : (w.alloc o).heap.size = w.heap.size + 1 := by simp
theorem plN_set (h g : Int) (n i K : Nat) (hi : i < K) : (plN h g n i ++ List.replicate (K - i) 0).set i (plc h g n (i : Int)) = plN h g n (i + 1) ++ List.replicate (K - (i + 1)) 0 := by
  rw [List.set_append_right _ _ (by rw [plN_len]; omega), plN_len, Nat.sub_self, show K - i = (K - (i + 1)) + 1 by omega, List.replicate_succ, List.set_cons_zero, plN, List.append_assoc]
  rfl
set_option maxHeartbeats 8000000 in
set_option maxRecDepth 100000 in
theorem Places_c {w : World} {lo f : Nat} {k : Int} {bs : List Int} (hF : Fil 83 w lo f k bs) (A : Option Addr) (c : Nat) (key : List Int) (hC : Kd.C (Kd.int .u8) w A key.length key) (hc : key.length ≤ c) (hk0 : 0 < k) (hk : k ≤ 16) (hn0 : 0 < bs.length) (hn : bs.length ≤ 1000000) :
    Calls Try.prog 43 #[.pointer (some ⟨f, 0, none⟩), .slice A key.length c] w fun e w' => ∃ v, e = .returned v ∧ (Kd.int .i64).R 3 w' w.heap.size (fun _ => True) v (plS k bs.length key) ∧ Below w.heap.size w w' := by
  obtain ⟨K, rfl⟩ := Int.eq_ofNat_of_zero_le (show 0 ≤ k by omega)
  have hmf : ∀ (fn : Fn) (first cap : Array Value) (w : World), (Instr.makeFunc fn first cap).run Try.prog w = .ok (.func fn first cap) w := fun _ _ _ _ => rfl
  have hpl : plS (K : Int) bs.length key = plN (sumS key 0).1 (sumS key 0).2 bs.length K := rfl
  rw [hpl]
  clear hpl
  have hmade := made_c (hF.below (below_alloc (Below.refl _ _) (.cells #[.pointer (some ⟨f, 0, none⟩)] 41)))
  rw [decide_eq_true hk0] at hmade
  have hsum := sum_c A c key 0 _ (Kd.C_alloc hC (.cells #[.pointer (some ⟨f, 0, none⟩)] 41)) hc
  generalize sumS key 0 = p at *
  obtain ⟨h, g⟩ := p
  have HM := Aside0.mk hmade
  have HS := Aside0.mk hsum
  have HF := Aside0.mk hF
  have HN := Aside0.mk (And.intro hk0 (And.intro hk (And.intro hn0 hn)))
  clear hmade hsum hF hC hc hk hn0 hn hk0
  go_enter Try.func43, Try.ntmps43
  go_upto_region 4 with (first | (go_at_call 77; refine HM.out.mono ?_; rintro e w' ⟨rfl, rfl⟩) | (go_at_call 57; refine HS.out.mono ?_; rintro e w1 ⟨rfl, hb1⟩))
  clear HM HS
  obtain ⟨W, hW⟩ : ∃ W, W = (w1.alloc (Obj.cells #[Value.int IntKind.u64 h] 22)).alloc (Obj.cells #[Value.int IntKind.u64 g] 22) := ⟨_, rfl⟩
  have hs1 : w.heap.size + 1 ≤ w1.heap.size := by have := hb1.size; simpa using this
  have hc5 : W.cell? ⟨w1.heap.size, 0, none⟩ = some (.int .u64 h) := by rw [hW, World.cell?_alloc_lt _ _ _ (by simp)]; exact cell_new w1 _ _
  have hc6 : W.cell? ⟨w1.heap.size + 1, 0, none⟩ = some (.int .u64 g) := by rw [hW]; have := cell_new (w1.alloc (Obj.cells #[Value.int IntKind.u64 h] 22)) (Value.int IntKind.u64 g) 22; rw [size_alloc] at this; exact this
  have hb0 : Below w.heap.size w w1 := (below_alloc (Below.refl _ _) _).trans (hb1.mono (by simp))
  have hbW : Below w.heap.size w W := by rw [hW]; exact below_alloc (below_alloc hb0 _) _
  have hbW1 : Below w1.heap.size w1 W := by rw [hW]; exact below_alloc (below_alloc (Below.refl _ _) _) _
  have hc2 : W.cell? ⟨w.heap.size, 0, none⟩ = some (.pointer (some ⟨f, 0, none⟩)) := by
    refine bcell hbW1 (bcell hb1 ?_ (by simp)) hs1
    exact cell_new w _ _
  have hsW : w1.heap.size + 2 = W.heap.size := by rw [hW]; simp
  have hFW := HF.out.below hbW
  rw [← hW]
  clear hW hb1 hb0 hbW1 HF
  have hf0 := hFW.cell0
  obtain ⟨A1, c1, hf1⟩ := hFW.cell1
  have HB := Aside0.mk hbW
  have hlt := hFW.lt
  have HL := Aside0.mk (And.intro hs1 (And.intro hsW hlt))
  clear hbW hFW hs1 hsW hlt
  go_upto_region 6 with ((with_reducible refine gate_dst (N := 23) rfl ?_); refine Kd.R_make (Kd.int .i64) W.heap.size 3 rfl (N := 23) rfl 50 _ _ rfl (K : Int) rfl rfl Try.underlying50 (.int .i64 0) 8 info3 rfl (by decide) (by omega) 0 (ok := fun _ => True) (okp := fun _ => True) rfl (fun _ hk => hk) trivial (by omega) (by have := HN.out; omega) (Below.refl _ _) (Nat.le_refl _) ?_; intro v w2 hr hb hg hn; obtain ⟨b, cap, rfl, hr1⟩ := Kd.R_form hr (by rw [List.length_replicate]; have := HN.out; omega); replace hr := Aside0.mk hr; replace hb := Aside0.mk hb; clear hg hn)
  rw [List.length_replicate, Int.toNat_natCast] at hr
  have HR1 := Aside0.mk hr1
  clear hr1
  have HCW := Aside0.mk (And.intro hc2 (And.intro hc5 (And.intro hc6 (And.intro hf0 hf1))))
  have HKi : (K : Int) ≤ 16 := HN.out.2.1
  have hc2' := bcell hb.out hc2 (by have := HL.out; show w.heap.size < W.heap.size; omega)
  have hf0' := bcell hb.out hf0 (by have := HL.out; show f < W.heap.size; omega)
  clear hc2 hc5 hc6 hf0 hf1
  go_wp2_with (fail)
  clear hc2' hf0'
  go_loopg [28] K (fun kq v28 w' => ∃ (i : Nat), v28 = .int .i64 (i : Int) ∧ Aside0 (kq + i = K) ∧ Aside0 ((Kd.int .i64).R 3 w' W.heap.size (fun _ => True) (.slice (some ⟨b, 0, none⟩) K cap) (plN h g bs.length i ++ List.replicate (K - i) 0)) ∧ Aside0 (Below W.heap.size W w'))
  case atStart => exact ⟨0, rfl, ⟨by omega⟩, by simpa [plN] using hr, hb⟩
  case round =>
    obtain ⟨i, rfl, HK, HR, HB2⟩ := hrel
    by_cases hi : (i : Int) < (K : Int)
    · have cb : decide ((i : Int) < (K : Int)) = true := decide_eq_true hi
      have hW := HCW.out
      have hc2 := bcell HB2.out hW.1 (by have := HL.out; show w.heap.size < W.heap.size; omega)
      have hc5 := bcell HB2.out hW.2.1 (by have := HL.out; show w1.heap.size < W.heap.size; omega)
      have hc6 := bcell HB2.out hW.2.2.1 (by have := HL.out; show w1.heap.size + 1 < W.heap.size; omega)
      have hf1 := bcell HB2.out hW.2.2.2.2 (by have := HL.out; show f < W.heap.size; omega)
      have HP := Aside0.mk (place_c h g (i : Int) bs.length c1 f A1 _ _ _ _ hc5 hc6 hc2 hf1 HN.out.2.2.1 HN.out.2.2.2)
      have HI := Aside0.mk hi
      have hi0 : (0 : Int) ≤ (i : Int) := by omega
      have hit : (i : Int).toNat = i := Int.toNat_natCast i
      have hcell := Kd.R_celln (0 : Int) HR.out (i : Int) hi0 hi
      have hfr := hcell.2
      have hce := hcell.1
      rw [hit] at hfr hce
      have hwr : wrap64 ((i : Int) + 1) = ((i + 1 : Nat) : Int) := by unfold wrap64; omega
      clear hW hc2 hc5 hc6 hf1 hcell
      go_wp2_with (go_at_call 79; refine HP.out.mono ?_; rintro e w3 ⟨rfl, ⟨nd, rfl⟩⟩)
      go_roundg (gk - 1)
      case measure => have := HK.out; have := HI.out; omega
      case rel =>
        have hp := Kd.R_putg (Kd.R_drewN HR.out nd) (i : Int) (plc h g bs.length (i : Int))
        rw [hit, plN_set _ _ _ _ _ (by have := HI.out; omega)] at hp
        refine ⟨i + 1, (by first | rfl | simp), ⟨by have := HK.out; have := HI.out; omega⟩, ⟨hp.1⟩, ⟨?_⟩⟩
        exact Below.grown (pw_below_drewN HB2.out nd) hp.2 HB2.out.size (fun k hk => by obtain rfl := Option.some.inj hk; exact HR1.out.1)
    · have cb : decide ((i : Int) < (K : Int)) = false := decide_eq_false hi
      have hiK : i = K := by have := HK.out; omega
      subst hiK
      clear hi
      go_wp2_with (fail)
      go_ret
      refine ⟨_, rfl, ?_, HB.out.trans (HB2.out.mono (by have := HL.out; omega))⟩
      have := Kd.R_lower HR.out (base' := w.heap.size) (by have := HL.out; omega)
      rw [Nat.sub_self, List.replicate_zero, List.append_nil] at this
      exact this

/-- A key whose hash the document tells, too. -/
def OkKey (key : List Int) : Prop := ∃ k, skerryref02_Sum.f k key 0 = some (sumS key 0)
set_option maxHeartbeats 8000000 in
set_option maxRecDepth 100000 in
theorem PlacesR_c {w : World} {lo f : Nat} {k : Int} {bs : List Int} (hF : Fil 80 w lo f k bs) (A : Option Addr) (c : Nat) (key : List Int) (hC : Kd.C (Kd.int .u8) w A key.length key) (hc : key.length ≤ c) (hS : OkKey key) (hk0 : 0 < k) (hk : k ≤ 16) (hn0 : 0 < bs.length) (hn : bs.length ≤ 1000000) :
    Calls Try.prog 44 #[.pointer (some ⟨f, 0, none⟩), .slice A key.length c] w fun e w' => ∃ v, e = .returned v ∧ (Kd.int .i64).R 3 w' w.heap.size (fun _ => True) v (plS k bs.length key) ∧ Below w.heap.size w w' := by
  obtain ⟨K, rfl⟩ := Int.eq_ofNat_of_zero_le (show 0 ≤ k by omega)
  obtain ⟨q, hq⟩ := hS
  have hpl : plS (K : Int) bs.length key = plN (sumS key 0).1 (sumS key 0).2 bs.length K := rfl
  rw [hpl]
  clear hpl
  generalize sumS key 0 = p at *
  obtain ⟨h, g⟩ := p
  have HS := Aside0.mk (skerryref02_Sum.calls q A c key 0 h g w hC hc hq)
  have c0 := div_ne bs.length hn0 hn
  have HF := Aside0.mk hF
  have HN := Aside0.mk (And.intro hk0 (And.intro hk (And.intro hn0 hn)))
  have HKi : (K : Int) ≤ 16 := hk
  have hplc : ∀ i : Int, wrap64 (Int.tmod (IntKind.u64.wrap (h + IntKind.u64.wrap (IntKind.u64.wrap i * g))) (IntKind.u64.wrap (wrap64 (8 * (bs.length : Int))))) = plc h g bs.length i := fun _ => rfl
  have c1 := beq_eq_false_iff_ne.mp c0
  clear hF hC hc hq hk hn0 hn hk0
  generalize hD : IntKind.u64.wrap (wrap64 (8 * (bs.length : Int))) = D at *
  go_enter Try.func44, Try.ntmps44
  go_wp2_with (go_at_call 58; refine HS.out.mono ?_; rintro e w1 ⟨rfl, ⟨nd, rfl⟩⟩)
  go_loopg [7, 8] K (fun kq v7 v8 w' => ∃ (i : Nat), v8 = .int .i64 (i : Int) ∧ Aside0 (kq + i = K) ∧ Aside0 ((Kd.int .i64).R 3 w' w.heap.size (fun _ => True) v7 (plN h g bs.length i)) ∧ Aside0 (Below w.heap.size w w'))
  case atStart => exact ⟨0, rfl, ⟨by omega⟩, ⟨Kd.R_nil _ _ _ _ _⟩, ⟨pw_below_drewN (Below.refl _ _) nd⟩⟩
  case round =>
    obtain ⟨i, rfl, HK, HR, HB2⟩ := hrel
    have hFr := HF.out.below HB2.out
    have hf0 := hFr.cell0
    obtain ⟨A1, c1, hf1⟩ := hFr.cell1
    clear hFr
    by_cases hi : (i : Int) < (K : Int)
    · have cb : decide ((i : Int) < (K : Int)) = true := decide_eq_true hi
      have HI := Aside0.mk hi
      have hwr : wrap64 ((i : Int) + 1) = ((i + 1 : Nat) : Int) := by unfold wrap64; omega
      obtain ⟨pv, hpv⟩ : ∃ x, x = plc h g bs.length (i : Int) := ⟨_, rfl⟩
      have hpi := hplc (i : Int)
      rw [← hpv, show IntKind.u64.wrap (i : Int) = (i : Int) by rw [IntKind.wrap_u64]; omega] at hpi
      replace hpv := Aside0.mk hpv
      clear hplc
      go_wp2_with ((with_reducible refine gate_builtin (b := .append) (xs := #[.tmp 22, .tmp 38]) rfl ?_); at_builtin; refine Kd.R_append (Kd.int .i64) w.heap.size rfl (.tmp 22) (.tmp 38) 50 3 (.int .i64 0) 8 rfl Try.underlying50 info3 rfl (by decide) (by omega) u7 (plN h g bs.length i) pv [.int .i64 pv] (fun _ => True) (fun _ => False) rfl rfl ?aP (fun _ hk => hk.elim) ?aF ?aO (Below.refl _ _) ?aS ?aL ?_; (case aP => exact rfl); (case aF => exact (fun _ _ => trivial)); (case aO => exact HR.out); (case aS => exact HB2.out.size); (case aL => rw [plN_len]; omega); intro v1 w2 ho hb hg hat; replace ho := Aside0.mk ho; replace hb := Aside0.mk hb; clear hg hat)
      go_roundg (gk - 1)
      case measure => have := HK.out; have := HI.out; omega
      case rel =>
        refine ⟨i + 1, (by first | rfl | simp), ⟨by have := HK.out; have := HI.out; omega⟩, ⟨?_⟩, ⟨HB2.out.trans hb.out⟩⟩
        rw [plN, ← hpv.out]
        exact ho.out
    · have cb : decide ((i : Int) < (K : Int)) = false := decide_eq_false hi
      have hiK : i = K := by have := HK.out; omega
      subst hiK
      clear hi
      go_wp2_with (fail)
      go_ret
      exact ⟨_, rfl, HR.out, HB2.out⟩
end Go.Proofs.Ytcopbkdlpfcjpaa.L
namespace Go.Proofs.Ytcopbkdlpfcjpaa.L
open Go.RowKit Go.Proofs.YtcopbkdlpfcjpaaW.PrintWords Go.Proofs.YtcopbkdlpfcjpaaW.PrintLast Go.Proofs.YtcopbkdlpfcjpaaW.PrintMore Go.Proofs.Ytcopbkdlpfcjpaa.B Go.Proofs.Ytcopbkdlpfcjpaa.M
attribute [local go_sem] max2_int min2_int max_two min_two max_three min_three max_four min_four
set_option linter.unusedVariables false
set_option linter.unusedSimpArgs false
/-- A bit of a filter: is it not set? -/
def unset (bs : List Int) (p : Int) : Bool := (Go.bits .and .u8 (shr .u8 (rd bs (p / 8)) (p % 8)) 1) == 0
/-- A filter's row, where it has bits. -/
theorem Fil.row {T : TypeId} {w : World} {lo g : Nat} {k : Int} {bs : List Int} (h : Fil T w lo g k bs) (hn : 0 < bs.length) : ∃ b c, w.cell? ⟨g, 1, none⟩ = some (.slice (some ⟨b, 0, none⟩) bs.length c) ∧ lo ≤ b ∧ b < g ∧ (Kd.int .u8).R 5 w lo (fun j => j < g) (.slice (some ⟨b, 0, none⟩) bs.length c) bs := by
  obtain ⟨h1, v, h2, h3⟩ := h
  obtain ⟨b, c, rfl, h4, h5, cells, h6⟩ := Kd.R_form h3 hn
  exact ⟨b, c, (blk_cell h2 1).trans rfl, h4, h3.1 b rfl, h3⟩
set_option maxHeartbeats 8000000 in
set_option maxRecDepth 100000 in
theorem unset_c {w : World} {lo f : Nat} {k : Int} {bs : List Int} (hF : Fil 83 w lo f k bs) (p1 : Addr) (p : Int) (hc : w.cell? p1 = some (.pointer (some ⟨f, 0, none⟩))) (h0 : 0 ≤ p) (h1 : p < 8 * bs.length) (hn : bs.length ≤ 1000000) :
    Calls Try.prog 76 #[.int .i64 p, .pointer (some p1)] w fun e w' => e = .returned (.bool (unset bs p)) ∧ w' = w := by
  obtain ⟨b, c, hc1, _, _, hR⟩ := hF.row (by omega)
  have hr := (Kd.R_celln (0 : Int) hR (p / 8) (by omega) (by omega)).1
  have hq : Int.tdiv p 8 = p / 8 := Int.tdiv_eq_ediv_of_nonneg h0
  have hm : Int.tmod p 8 = p % 8 := Int.tmod_eq_emod_of_nonneg h0
  have hw : wrap64 (p / 8) = p / 8 := by unfold wrap64; omega
  have hx : rdOf 0 bs (p / 8) = rd bs (p / 8) := rfl
  have hu : unset bs p = ((Go.bits .and .u8 (shr .u8 (rd bs (p / 8)) (p % 8)) 1) == 0) := rfl
  rw [hx] at hr
  rw [hu]
  generalize rd bs (p / 8) = x at *
  have hs : shr .u8 x (p % 8) = x / 2 ^ (p % 8).toNat := (shr_small rfl (by have : IntKind.bits .u8 = 8 := rfl; omega)).symm
  rw [hs]
  have hq0 : 0 ≤ p / 8 := by omega
  have hq1 : p / 8 < (bs.length : Int) := by omega
  have hr0 : 0 ≤ p % 8 := by omega
  have hr1 : p % 8 < 8 := by omega
  generalize p / 8 = q at *
  generalize p % 8 = r at *
  have hqt : q.toNat < bs.length := by omega
  clear hF hR hx hs hu h0 h1
  go_enter Try.func76, Try.ntmps76
  go_wp2
  go_ret
  exact ⟨rfl, rfl⟩
theorem take_any (f : Int → Bool) (l : List Int) (i : Nat) (hi : i < l.length) : (l.take (i + 1)).any f = ((l.take i).any f || f (rd l (i : Int))) := by
  have e : rd l (i : Int) = l[i] := by
    unfold rd
    rw [Int.toNat_natCast, List.getD_eq_getElem?_getD, List.getElem?_eq_getElem hi]
    rfl
  rw [List.take_succ_eq_append_getElem hi, List.any_append, e]
  simp
theorem rd_mem (l : List Int) (i : Nat) (hi : i < l.length) : rd l (i : Int) ∈ l := by
  have e : rd l (i : Int) = l[i] := by
    unfold rd
    rw [Int.toNat_natCast, List.getD_eq_getElem?_getD, List.getElem?_eq_getElem hi]
    rfl
  rw [e]
  exact List.getElem_mem hi
set_option maxHeartbeats 8000000 in
set_option maxRecDepth 100000 in
theorem index_c {w : World} {lo f : Nat} {k : Int} {bs : List Int} (hF : Fil 83 w lo f k bs) (p1 : Addr) (hc : w.cell? p1 = some (.pointer (some ⟨f, 0, none⟩))) (hn : bs.length ≤ 1000000) (A : Option Addr) (c : Nat) (l : List Int) (hC : Kd.C (Kd.int .i64) w A l.length l) (hlc : l.length ≤ c) (hl : ∀ p ∈ l, 0 ≤ p ∧ p < 8 * bs.length) (hl2 : l.length ≤ 1000) :
    Calls Try.prog 97 #[.slice A l.length c, .func (.func 76) #[] #[.pointer (some p1)]] w fun e w' => ∃ i : Int, e = .returned (.int .i64 i) ∧ decide (0 ≤ i) = l.any (unset bs) ∧ w' = w := by
  have HF := Aside0.mk hF
  have HC := Aside0.mk hC
  have HL := Aside0.mk hl
  have HP := Aside0.mk hc
  have HLC := Aside0.mk hlc
  clear hF hC hl hc hlc
  go_enter Try.func97, Try.ntmps97
  go_wp2_with (fail)
  go_loopg [8] l.length (fun kq v8 w' => ∃ (i : Nat), v8 = .int .i64 (i : Int) ∧ Aside0 (kq + i = l.length) ∧ Aside0 ((l.take i).any (unset bs) = false) ∧ w' = w)
  case atStart => exact ⟨0, rfl, ⟨by omega⟩, ⟨by simp⟩, rfl⟩
  case round =>
    obtain ⟨i, rfl, HK, HA, rfl⟩ := hrel
    by_cases hi : (i : Int) < (l.length : Int)
    · have cb : decide ((i : Int) < (l.length : Int)) = true := decide_eq_true hi
      have cn : i < l.length := by omega
      obtain ⟨ad, rfl, hx⟩ := Kd.at_int HC.out (i : Int) (by omega) hi
      have hp := HL.out _ (rd_mem l i cn)
      have HU := Aside0.mk (unset_c HF.out p1 (rd l (i : Int)) HP.out hp.1 hp.2 hn)
      have hta := Aside0.mk (take_any (unset bs) l i cn)
      have hwr : wrap64 ((i : Int) + 1) = ((i + 1 : Nat) : Int) := by unfold wrap64; omega
      have HI := Aside0.mk hi
      rw [Int.toNat_natCast] at hx
      obtain ⟨x, hx0⟩ : ∃ x, rd l (i : Int) = x := ⟨_, rfl⟩
      rw [hx0] at hx HU hta
      clear hp hx0
      by_cases hu : unset bs x = true
      · rw [hu] at HU
        go_wp2_with (go_at_call 76; refine HU.out.mono ?_; rintro e w3 ⟨rfl, rfl⟩)
        go_ret
        refine ⟨_, rfl, ?_, rfl⟩
        rw [decide_eq_true (show (0 : Int) ≤ (i : Int) by omega)]
        have h1 := hta.out
        rw [hu, Bool.or_true] at h1
        symm
        rw [← List.take_append_drop (i + 1) l, List.any_append, h1, Bool.true_or]
      · have hu : unset bs x = false := by simpa using hu
        rw [hu] at HU
        go_wp2_with (go_at_call 76; refine HU.out.mono ?_; rintro e w3 ⟨rfl, rfl⟩)
        go_roundg (gk - 1)
        case measure => have := HK.out; have := HI.out; omega
        case rel =>
          refine ⟨i + 1, (by first | rfl | simp), ⟨by have := HK.out; have := HI.out; omega⟩, ⟨?_⟩, rfl⟩
          rw [hta.out, HA.out, hu]
          rfl
    · have cb : decide ((i : Int) < (l.length : Int)) = false := decide_eq_false hi
      have hiK : l.length ≤ i := by omega
      clear hi
      go_wp2_with (fail)
      go_ret
      refine ⟨_, rfl, ?_, rfl⟩
      have h1 := HA.out
      rw [List.take_of_length_le hiK] at h1
      rw [h1]
      rfl
set_option maxHeartbeats 8000000 in
set_option maxRecDepth 100000 in
theorem contains_c {w : World} {lo f : Nat} {k : Int} {bs : List Int} (hF : Fil 83 w lo f k bs) (p1 : Addr) (hc : w.cell? p1 = some (.pointer (some ⟨f, 0, none⟩))) (hn : bs.length ≤ 1000000) (A : Option Addr) (c : Nat) (l : List Int) (hC : Kd.C (Kd.int .i64) w A l.length l) (hlc : l.length ≤ c) (hl : ∀ p ∈ l, 0 ≤ p ∧ p < 8 * bs.length) (hl2 : l.length ≤ 1000) :
    Calls Try.prog 78 #[.slice A l.length c, .func (.func 76) #[] #[.pointer (some p1)]] w fun e w' => e = .returned (.bool (l.any (unset bs))) ∧ w' = w := by
  have HI := Aside0.mk (index_c hF p1 hc hn A c l hC hlc hl hl2)
  clear hF hC hl hc hlc
  go_enter Try.func78, Try.ntmps78
  go_wp2_with (go_at_call 97; refine HI.out.mono ?_; rintro e w3 ⟨i, rfl, hd, rfl⟩)
  go_ret
  exact ⟨by simp [hd], rfl⟩
theorem plc_in (h g : Int) (n : Nat) (i : Int) (h0 : 0 < n) (h1 : n ≤ 1000000) : 0 ≤ plc h g n i ∧ plc h g n i < 8 * (n : Int) := by
  unfold plc
  have e : wrap64 (8 * (n : Int)) = 8 * n := by unfold wrap64; omega
  have e2 : IntKind.u64.wrap (8 * (n : Int)) = 8 * n := by rw [IntKind.wrap_u64]; omega
  rw [e, e2]
  have hx : 0 ≤ IntKind.u64.wrap (h + IntKind.u64.wrap (IntKind.u64.wrap i * g)) := by rw [IntKind.wrap_u64]; omega
  generalize IntKind.u64.wrap (h + IntKind.u64.wrap (IntKind.u64.wrap i * g)) = x at *
  rw [Int.tmod_eq_emod_of_nonneg hx]
  have h2 := Int.emod_nonneg x (show (8 * (n : Int)) ≠ 0 by omega)
  have h3 := Int.emod_lt_of_pos x (show 0 < 8 * (n : Int) by omega)
  generalize x % (8 * (n : Int)) = y at *
  unfold wrap64
  omega
theorem plN_in (h g : Int) (n : Nat) (i : Nat) (h0 : 0 < n) (h1 : n ≤ 1000000) : ∀ p ∈ plN h g n i, 0 ≤ p ∧ p < 8 * (n : Int) := by
  induction i with
  | zero => intro p hp; cases hp
  | succ i ih =>
    intro p hp
    rw [plN, List.mem_append, List.mem_singleton] at hp
    rcases hp with hp | rfl
    · exact ih p hp
    · exact plc_in h g n _ h0 h1
theorem plS_in (k : Int) (n : Nat) (key : List Int) (h0 : 0 < n) (h1 : n ≤ 1000000) : ∀ p ∈ plS k n key, 0 ≤ p ∧ p < 8 * (n : Int) := plN_in _ _ n _ h0 h1
theorem plS_len (k : Int) (n : Nat) (key : List Int) : (plS k n key).length = k.toNat := plN_len _ _ _ _
/-- May a key be there? -/
def mayS (k : Int) (bs key : List Int) : Bool := !(plS k bs.length key).any (unset bs)
set_option maxHeartbeats 8000000 in
set_option maxRecDepth 100000 in
theorem May_c {w : World} {lo f : Nat} {k : Int} {bs : List Int} (hF : Fil 83 w lo f k bs) (A : Option Addr) (c : Nat) (key : List Int) (hC : Kd.C (Kd.int .u8) w A key.length key) (hc : key.length ≤ c) (hk0 : 0 < k) (hk : k ≤ 16) (hn0 : 0 < bs.length) (hn : bs.length ≤ 1000000) :
    Calls Try.prog 40 #[.pointer (some ⟨f, 0, none⟩), .slice A key.length c] w fun e w' => e = .returned (.bool (mayS k bs key)) ∧ Below w.heap.size w w' := by
  have hmf : ∀ (fn : Fn) (first cap : Array Value) (w : World), (Instr.makeFunc fn first cap).run Try.prog w = .ok (.func fn first cap) w := fun _ _ _ _ => rfl
  have hb0 := below_alloc (Below.refl w.heap.size w) (.cells #[.pointer (some ⟨f, 0, none⟩)] 41)
  have hF1 := hF.below hb0
  have hmade := made_c hF1
  rw [decide_eq_true hk0] at hmade
  have HM := Aside0.mk hmade
  have HP := Aside0.mk (Places_c hF1 A c key (Kd.C_alloc hC _) hc hk0 hk hn0 hn)
  have HF := Aside0.mk hF1
  have HX := Aside0.mk (cell_new w (.pointer (some ⟨f, 0, none⟩)) 41)
  have HB := Aside0.mk hb0
  have HS := Aside0.mk (size_alloc w (.cells #[.pointer (some ⟨f, 0, none⟩)] 41))
  have hlen := plS_len k bs.length key
  have hin := plS_in k bs.length key hn0 hn
  have hu : mayS k bs key = !(plS k bs.length key).any (unset bs) := rfl
  rw [hu]
  generalize plS k bs.length key = l at *
  have HL := Aside0.mk hin
  have HN := Aside0.mk (show l.length ≤ 1000 by omega)
  clear hmade hF1 hb0 hF hC hc hk0 hk hn0 hin hlen hu
  go_enter Try.func40, Try.ntmps40
  go_wp2_with (first | (go_at_call 77; refine HM.out.mono ?_; rintro e w' ⟨rfl, rfl⟩) | (go_at_call 43; refine HP.out.mono ?_; rintro e w1 ⟨v, rfl, hR, hb1⟩; obtain ⟨A1, c1, rfl⟩ := Kd.R_slice hR; replace hR := Aside0.mk hR; replace hb1 := Aside0.mk hb1) | (go_at_call 78; refine (contains_c (HF.out.below hb1.out) ⟨w.heap.size, 0, none⟩ (bcell hb1.out HX.out (by rw [HS.out]; show w.heap.size < _; omega)) hn A1 c1 l (Kd.R_reads' hR.out).2.2 (Kd.R_reads' hR.out).2.1 HL.out HN.out).mono ?_; rintro e w' ⟨rfl, rfl⟩))
  go_ret
  exact ⟨rfl, HB.out.trans (hb1.out.mono (by rw [HS.out]; omega))⟩
theorem May_nil (w : World) (v : Value) : Calls Try.prog 40 #[.pointer none, v] w fun e w' => e = .returned (.bool false) ∧ Below w.heap.size w w' := by
  have hmf : ∀ (fn : Fn) (first cap : Array Value) (w : World), (Instr.makeFunc fn first cap).run Try.prog w = .ok (.func fn first cap) w := fun _ _ _ _ => rfl
  go_enter Try.func40, Try.ntmps40
  go_wp2_with (go_at_call 77; refine (made_nil _).mono ?_; rintro e w' ⟨rfl, rfl⟩)
  go_ret
  exact ⟨rfl, below_alloc (Below.refl w.heap.size w) _⟩
/-- A filter with no places (none that a call made). -/
theorem May_zero {w : World} {lo f : Nat} {k : Int} {bs : List Int} (hF : Fil 83 w lo f k bs) (hk0 : ¬ 0 < k) (v : Value) : Calls Try.prog 40 #[.pointer (some ⟨f, 0, none⟩), v] w fun e w' => e = .returned (.bool false) ∧ Below w.heap.size w w' := by
  have hmf : ∀ (fn : Fn) (first cap : Array Value) (w : World), (Instr.makeFunc fn first cap).run Try.prog w = .ok (.func fn first cap) w := fun _ _ _ _ => rfl
  have hb0 := below_alloc (Below.refl w.heap.size w) (.cells #[.pointer (some ⟨f, 0, none⟩)] 41)
  have hmade := made_c (hF.below hb0)
  rw [decide_eq_false hk0] at hmade
  have HM := Aside0.mk hmade
  have HB := Aside0.mk hb0
  clear hmade hb0 hF hk0
  go_enter Try.func40, Try.ntmps40
  go_wp2_with (go_at_call 77; refine HM.out.mono ?_; rintro e w' ⟨rfl, rfl⟩)
  go_ret
  exact ⟨rfl, HB.out⟩
theorem Size_c {w : World} {lo f : Nat} {k : Int} {bs : List Int} (hF : Fil 83 w lo f k bs) (hk0 : 0 < k) (hn : bs.length ≤ 1000000) : Calls Try.prog 55 #[.pointer (some ⟨f, 0, none⟩)] w fun e w' => e = .returned (.int .i64 (8 * (bs.length : Int))) ∧ w' = w := by
  have hmade := made_c hF
  rw [decide_eq_true hk0] at hmade
  have HM := Aside0.mk hmade
  obtain ⟨A, c, hc1⟩ := hF.cell1
  have hw : wrap64 (8 * (bs.length : Int)) = 8 * (bs.length : Int) := by unfold wrap64; omega
  clear hmade hF hk0
  go_enter Try.func55, Try.ntmps55
  go_wp2_with (go_at_call 77; refine HM.out.mono ?_; rintro e w' ⟨rfl, rfl⟩)
  go_ret
  exact ⟨rfl, rfl⟩
theorem Size_nil (w : World) : Calls Try.prog 55 #[.pointer none] w fun e w' => e = .returned (.int .i64 0) ∧ w' = w := by
  go_enter Try.func55, Try.ntmps55
  go_wp2_with (go_at_call 77; refine (made_nil _).mono ?_; rintro e w' ⟨rfl, rfl⟩)
  go_ret
  exact ⟨rfl, rfl⟩
theorem Size_zero {w : World} {lo f : Nat} {k : Int} {bs : List Int} (hF : Fil 83 w lo f k bs) (hk0 : ¬ 0 < k) : Calls Try.prog 55 #[.pointer (some ⟨f, 0, none⟩)] w fun e w' => e = .returned (.int .i64 0) ∧ w' = w := by
  have hmade := made_c hF
  rw [decide_eq_false hk0] at hmade
  have HM := Aside0.mk hmade
  clear hmade hF hk0
  go_enter Try.func55, Try.ntmps55
  go_wp2_with (go_at_call 77; refine HM.out.mono ?_; rintro e w' ⟨rfl, rfl⟩)
  go_ret
  exact ⟨rfl, rfl⟩
end Go.Proofs.Ytcopbkdlpfcjpaa.L
namespace Go.Proofs.Ytcopbkdlpfcjpaa.L
open Go.RowKit Go.Proofs.YtcopbkdlpfcjpaaW.PrintWords Go.Proofs.YtcopbkdlpfcjpaaW.PrintLast Go.Proofs.YtcopbkdlpfcjpaaW.PrintMore Go.Proofs.Ytcopbkdlpfcjpaa.B Go.Proofs.Ytcopbkdlpfcjpaa.M
attribute [local go_sem] max2_int min2_int max_two min_two max_three min_three max_four min_four
set_option linter.unusedVariables false
set_option linter.unusedSimpArgs false
theorem shr_r (x r : Int) (h0 : r < 8) : shr .u8 x r = x / 2 ^ r.toNat := (shr_small rfl (by have : IntKind.bits .u8 = 8 := rfl; omega)).symm
theorem shl_r (x r : Int) (h0 : r < 8) : shl .u8 x r = IntKind.u8.wrap (x * 2 ^ r.toNat) := (shl_small rfl (by have : IntKind.bits .u8 = 8 := rfl; omega)).symm
set_option maxHeartbeats 8000000 in
set_option maxRecDepth 100000 in
theorem MayR_c {w : World} {lo f : Nat} {k : Int} {bs : List Int} (hF : Fil 80 w lo f k bs) (A : Option Addr) (c : Nat) (key : List Int) (hC : Kd.C (Kd.int .u8) w A key.length key) (hc : key.length ≤ c) (hS : OkKey key) (hk0 : 0 < k) (hk : k ≤ 16) (hn0 : 0 < bs.length) (hn : bs.length ≤ 1000000) :
    Calls Try.prog 41 #[.pointer (some ⟨f, 0, none⟩), .slice A key.length c] w fun e w' => e = .returned (.bool (mayS k bs key)) ∧ Below w.heap.size w w' := by
  have HP := Aside0.mk (PlacesR_c hF A c key hC hc hS hk0 hk hn0 hn)
  have HF := Aside0.mk hF
  have hlen := plS_len k bs.length key
  have hin := plS_in k bs.length key hn0 hn
  have hu : mayS k bs key = !(plS k bs.length key).any (unset bs) := rfl
  rw [hu]
  generalize plS k bs.length key = l at *
  have HL := Aside0.mk hin
  have HN := Aside0.mk (And.intro hn0 (show l.length ≤ 1000 by omega))
  clear hF hC hc hk hk0 hin hlen hu hn0
  go_enter Try.func41, Try.ntmps41
  go_wp2_with (go_at_call 44; refine HP.out.mono ?_; rintro e w1 ⟨v, rfl, hR, hb1⟩; obtain ⟨A1, c1, rfl⟩ := Kd.R_slice hR; replace hR := Aside0.mk hR; replace hb1 := Aside0.mk hb1)
  go_loopg [11] l.length (fun kq v11 w' => ∃ (i : Nat), v11 = .int .i64 (i : Int) ∧ Aside0 (kq + i = l.length) ∧ Aside0 ((l.take i).any (unset bs) = false) ∧ w' = w1)
  case atStart => exact ⟨0, rfl, ⟨by omega⟩, ⟨by simp⟩, rfl⟩
  case round =>
    obtain ⟨i, rfl, HK, HA, rfl⟩ := hrel
    by_cases hi : (i : Int) < (l.length : Int)
    · have cb : decide ((i : Int) < (l.length : Int)) = true := decide_eq_true hi
      have cn : i < l.length := by omega
      obtain ⟨ad, rfl, hx⟩ := Kd.at_int (Kd.R_reads' hR.out).2.2 (i : Int) (by omega) hi
      have hp := HL.out _ (rd_mem l i cn)
      have hta := Aside0.mk (take_any (unset bs) l i cn)
      have hwr : wrap64 ((i : Int) + 1) = ((i + 1 : Nat) : Int) := by have := HN.out.2; unfold wrap64; omega
      have HI := Aside0.mk hi
      have hFw := HF.out.below hb1.out
      obtain ⟨b, cc, hc1, hlb, hbf, hRb⟩ := hFw.row HN.out.1
      rw [Int.toNat_natCast] at hx
      obtain ⟨x, hx0⟩ : ∃ x, rd l (i : Int) = x := ⟨_, rfl⟩
      rw [hx0] at hx hp hta
      have hr := (Kd.R_celln (0 : Int) hRb (x / 8) (by omega) (by omega)).1
      have hq : Int.tdiv x 8 = x / 8 := Int.tdiv_eq_ediv_of_nonneg hp.1
      have hm : Int.tmod x 8 = x % 8 := Int.tmod_eq_emod_of_nonneg hp.1
      have hw : wrap64 (x / 8) = x / 8 := by unfold wrap64; omega
      have hrx : rdOf 0 bs (x / 8) = rd bs (x / 8) := rfl
      have hu : unset bs x = ((Go.bits .and .u8 (shr .u8 (rd bs (x / 8)) (x % 8)) 1) == 0) := rfl
      rw [hrx] at hr
      have hq0 : 0 ≤ x / 8 := by omega
      have hq1 : x / 8 < (bs.length : Int) := by omega
      have hr0 : 0 ≤ x % 8 := by omega
      have hr1 : x % 8 < 8 := by omega
      rw [shr_r _ _ hr1] at hu
      have huw : IntKind.u64.wrap (x % 8) = x % 8 := by rw [IntKind.wrap_u64]; omega
      have hqt : (x / 8).toNat < bs.length := by omega
      generalize rd bs (x / 8) = y at *
      generalize x / 8 = q at *
      generalize x % 8 = r at *
      clear hp hrx hlb hbf hRb hFw hx0
      by_cases hut : unset bs x = true
      · rw [hut] at hu; replace hu := hu.symm
        go_wp2_with (fail)
        go_ret
        refine ⟨?_, hb1.out⟩
        have h1 := hta.out
        rw [hut, Bool.or_true] at h1
        rw [← List.take_append_drop (i + 1) l, List.any_append, h1, Bool.true_or]
        rfl
      · have hut : unset bs x = false := by simpa using hut
        rw [hut] at hu; replace hu := hu.symm
        go_wp2_with (fail)
        go_roundg (gk - 1)
        case measure => have := HK.out; have := HI.out; omega
        case rel =>
          refine ⟨i + 1, (by first | rfl | (simp; done) | rw [hwr]), ⟨by have := HK.out; have := HI.out; omega⟩, ⟨?_⟩, rfl⟩
          rw [hta.out, HA.out, hut]
          rfl
    · have cb : decide ((i : Int) < (l.length : Int)) = false := decide_eq_false hi
      have hiK : l.length ≤ i := by omega
      clear hi
      go_wp2_with (fail)
      go_ret
      refine ⟨?_, hb1.out⟩
      have h1 := HA.out
      rw [List.take_of_length_le hiK] at h1
      rw [h1]
      rfl
theorem Kp.drew {lo hi : Nat} {w w' : World} (h : Kp lo hi w w') : Kp lo hi w w'.drew := ⟨h.os, h.tape, h.output, h.size, h.block⟩
/-- A bit set. -/
def setS (bs : List Int) (p : Int) : List Int := bs.set (p / 8).toNat (Go.bits .or .u8 (rd bs (p / 8)) (shl .u8 1 (p % 8)))
theorem setS_len (bs : List Int) (p : Int) : (setS bs p).length = bs.length := by unfold setS; rw [List.length_set]
theorem fold_len (l : List Int) : ∀ bs : List Int, (l.foldl setS bs).length = bs.length := by
  induction l with
  | nil => intro bs; rfl
  | cons p l ih => intro bs; rw [List.foldl_cons, ih, setS_len]
theorem take_fold (l : List Int) (bs : List Int) (i : Nat) (hi : i < l.length) : (l.take (i + 1)).foldl setS bs = setS ((l.take i).foldl setS bs) (rd l (i : Int)) := by
  have e : rd l (i : Int) = l[i] := by
    unfold rd
    rw [Int.toNat_natCast, List.getD_eq_getElem?_getD, List.getElem?_eq_getElem hi]
    rfl
  rw [List.take_succ_eq_append_getElem hi, List.foldl_append, e]
  rfl
/-- A key added. -/
def addS (k : Int) (bs key : List Int) : List Int := (plS k bs.length key).foldl setS bs
theorem R_kp {d : Kd Int} {e base lo hi : Nat} {w w1 : World} {v : Value} {xs : List Int} (h : d.R e w base (fun _ => True) v xs) (hk : Kp lo hi w w1) (hb : hi < base) : d.R e w1 base (fun _ => True) v xs :=
  Kd.R_mono (Kd.R_step (Kd.R_bound h) (fun j hj hlt => hk.block j hlt (.inr (by have := hj.2.1; omega)))) (fun _ _ => trivial)
theorem Fil.put {T : TypeId} {w : World} {lo g b c : Nat} {k : Int} {bs : List Int} (h : Fil T w lo g k bs) (hc : w.cell? ⟨g, 1, none⟩ = some (.slice (some ⟨b, 0, none⟩) bs.length c)) (hlb : lo ≤ b) (hbg : b < g) (i x : Int) :
    Fil T (w.setCell ⟨b, i.toNat, none⟩ (.int .u8 x)) lo g k (bs.set i.toNat x) ∧ Kp lo g w (w.setCell ⟨b, i.toNat, none⟩ (.int .u8 x)) := by
  obtain ⟨h1, v, h2, h3⟩ := h
  have h4 : w.cell? ⟨g, 1, none⟩ = some v := (blk_cell h2 1).trans rfl
  rw [hc] at h4
  obtain rfl := Option.some.inj h4
  have hp := Kd.R_putg h3 i x
  refine ⟨⟨h1, .slice (some ⟨b, 0, none⟩) bs.length c, blk_grown h2 hp.2 (by simp; omega), hp.1⟩, ?_⟩
  exact Kp.of_grown hp.2 (fun k hk => by obtain rfl := Option.some.inj hk; omega)
set_option maxHeartbeats 8000000 in
set_option maxRecDepth 100000 in
theorem Add_c {w : World} {lo f : Nat} {k : Int} {bs : List Int} (hF : Fil 83 w lo f k bs) (A : Option Addr) (c : Nat) (key : List Int) (hC : Kd.C (Kd.int .u8) w A key.length key) (hc : key.length ≤ c) (hk0 : 0 < k) (hk : k ≤ 16) (hn0 : 0 < bs.length) (hn : bs.length ≤ 1000000) :
    Calls Try.prog 46 #[.pointer (some ⟨f, 0, none⟩), .slice A key.length c] w fun e w' => e = .returned (.tuple #[]) ∧ Fil 83 w' lo f k (addS k bs key) ∧ Kp lo f w w' := by
  have HP := Aside0.mk (Places_c hF A c key hC hc hk0 hk hn0 hn)
  have HF := Aside0.mk hF
  have hlen := plS_len k bs.length key
  have hin := plS_in k bs.length key hn0 hn
  have hu : addS k bs key = (plS k bs.length key).foldl setS bs := rfl
  rw [hu]
  generalize plS k bs.length key = l at *
  have HL := Aside0.mk hin
  have HN := Aside0.mk (And.intro hn0 (And.intro (show l.length ≤ 1000 by omega) hn))
  have hlt := Aside0.mk hF.lt
  clear hF hC hc hk hk0 hin hlen hu hn0 hn
  go_enter Try.func46, Try.ntmps46
  go_wp2_with (go_at_call 43; refine HP.out.mono ?_; rintro e w1 ⟨v, rfl, hR, hb1⟩; obtain ⟨A1, c1, rfl⟩ := Kd.R_slice hR; replace hR := Aside0.mk hR; replace hb1 := Aside0.mk hb1)
  go_loopg [10] l.length (fun kq v10 w' => ∃ (i : Nat), v10 = .int .i64 (i : Int) ∧ Aside0 (kq + i = l.length) ∧ Aside0 (Fil 83 w' lo f k ((l.take i).foldl setS bs)) ∧ Aside0 (Kp lo f w w') ∧ Aside0 ((Kd.int .i64).R 3 w' w.heap.size (fun _ => True) (.slice A1 l.length c1) l))
  case atStart => exact ⟨0, rfl, ⟨by omega⟩, ⟨by simpa using HF.out.below hb1.out⟩, ⟨Kp.of_below hb1.out⟩, hR⟩
  case round =>
    obtain ⟨i, rfl, HK, HFr, HKp, HR⟩ := hrel
    by_cases hi : (i : Int) < (l.length : Int)
    · have cb : decide ((i : Int) < (l.length : Int)) = true := decide_eq_true hi
      have cn : i < l.length := by omega
      obtain ⟨ad, rfl, hx⟩ := Kd.at_int (Kd.R_reads' HR.out).2.2 (i : Int) (by omega) hi
      have hp := HL.out _ (rd_mem l i cn)
      have hta := Aside0.mk (take_fold l bs i cn)
      have hwr : wrap64 ((i : Int) + 1) = ((i + 1 : Nat) : Int) := by have := HN.out.2.1; unfold wrap64; omega
      have HI := Aside0.mk hi
      have hfl := fold_len (l.take i) bs
      generalize (l.take i).foldl setS bs = ys at *
      obtain ⟨b, cc, hc1, hlb, hbf, hRb⟩ := HFr.out.row (by rw [hfl]; exact HN.out.1)
      rw [Int.toNat_natCast] at hx
      obtain ⟨x, hx0⟩ : ∃ x, rd l (i : Int) = x := ⟨_, rfl⟩
      rw [hx0] at hx hp hta
      have hcf := Kd.R_celln (0 : Int) hRb (x / 8) (by omega) (by rw [hfl]; omega)
      have hr := hcf.1
      have hfr := hcf.2
      have hq : Int.tdiv x 8 = x / 8 := Int.tdiv_eq_ediv_of_nonneg hp.1
      have hm : Int.tmod x 8 = x % 8 := Int.tmod_eq_emod_of_nonneg hp.1
      have hw : wrap64 (x / 8) = x / 8 := by have := HN.out.2.2; unfold wrap64; omega
      have hrx : rdOf 0 ys (x / 8) = rd ys (x / 8) := rfl
      have hu : setS ys x = ys.set (x / 8).toNat (Go.bits .or .u8 (rd ys (x / 8)) (shl .u8 1 (x % 8))) := rfl
      rw [hrx] at hr
      have hq0 : 0 ≤ x / 8 := by omega
      have hq1 : x / 8 < (ys.length : Int) := by rw [hfl]; omega
      have hr0 : 0 ≤ x % 8 := by omega
      have hr1 : x % 8 < 8 := by omega
      rw [shl_r _ _ hr1, IntKind.wrap_u8, Int.one_mul] at hu
      have hqt : (x / 8).toNat < ys.length := by rw [hfl]; omega
      generalize rd ys (x / 8) = y at *
      generalize x / 8 = q at *
      generalize x % 8 = r at *
      have HU := Aside0.mk hu
      have HC1 := Aside0.mk (And.intro hc1 (And.intro hlb hbf))
      clear hp hrx hlb hbf hRb hx0 hcf hu hfl
      go_wp2_with (fail)
      go_region
      go_wp2_with (fail)
      go_roundg (gk - 1)
      case measure => have := HK.out; have := HI.out; omega
      case rel =>
        have hp := HFr.out.put HC1.out.1 HC1.out.2.1 HC1.out.2.2 q (Go.bits .or .u8 y (2 ^ r.toNat % 256))
        rw [← HU.out, ← hta.out] at hp
        refine ⟨i + 1, (by first | rfl | (simp; done) | rw [hwr]), ⟨by have := HK.out; have := HI.out; omega⟩, ⟨hp.1⟩, ⟨HKp.out.trans hp.2.drew⟩, ⟨R_kp HR.out hp.2.drew hlt.out⟩⟩
    · have cb : decide ((i : Int) < (l.length : Int)) = false := decide_eq_false hi
      have hiK : l.length ≤ i := by omega
      clear hi
      go_wp2_with (fail)
      first | go_end0 | go_ret2 | go_ret
      have h1 := HFr.out
      rw [List.take_of_length_le hiK] at h1
      exact ⟨rfl, h1, HKp.out⟩
set_option maxHeartbeats 8000000 in
set_option maxRecDepth 100000 in
theorem AddR_c {w : World} {lo f : Nat} {k : Int} {bs : List Int} (hF : Fil 80 w lo f k bs) (A : Option Addr) (c : Nat) (key : List Int) (hC : Kd.C (Kd.int .u8) w A key.length key) (hc : key.length ≤ c) (hS : OkKey key) (hk0 : 0 < k) (hk : k ≤ 16) (hn0 : 0 < bs.length) (hn : bs.length ≤ 1000000) :
    Calls Try.prog 65 #[.pointer (some ⟨f, 0, none⟩), .slice A key.length c] w fun e w' => e = .returned (.tuple #[]) ∧ Fil 80 w' lo f k (addS k bs key) ∧ Kp lo f w w' := by
  have HP := Aside0.mk (PlacesR_c hF A c key hC hc hS hk0 hk hn0 hn)
  have HF := Aside0.mk hF
  have hlen := plS_len k bs.length key
  have hin := plS_in k bs.length key hn0 hn
  have hu : addS k bs key = (plS k bs.length key).foldl setS bs := rfl
  rw [hu]
  generalize plS k bs.length key = l at *
  have HL := Aside0.mk hin
  have HN := Aside0.mk (And.intro hn0 (And.intro (show l.length ≤ 1000 by omega) hn))
  have hlt := Aside0.mk hF.lt
  clear hF hC hc hk hk0 hin hlen hu hn0 hn
  go_enter Try.func65, Try.ntmps65
  go_wp2_with (go_at_call 44; refine HP.out.mono ?_; rintro e w1 ⟨v, rfl, hR, hb1⟩; obtain ⟨A1, c1, rfl⟩ := Kd.R_slice hR; replace hR := Aside0.mk hR; replace hb1 := Aside0.mk hb1)
  go_loopg [10] l.length (fun kq v10 w' => ∃ (i : Nat), v10 = .int .i64 (i : Int) ∧ Aside0 (kq + i = l.length) ∧ Aside0 (Fil 80 w' lo f k ((l.take i).foldl setS bs)) ∧ Aside0 (Kp lo f w w') ∧ Aside0 ((Kd.int .i64).R 3 w' w.heap.size (fun _ => True) (.slice A1 l.length c1) l))
  case atStart => exact ⟨0, rfl, ⟨by omega⟩, ⟨by simpa using HF.out.below hb1.out⟩, ⟨Kp.of_below hb1.out⟩, hR⟩
  case round =>
    obtain ⟨i, rfl, HK, HFr, HKp, HR⟩ := hrel
    by_cases hi : (i : Int) < (l.length : Int)
    · have cb : decide ((i : Int) < (l.length : Int)) = true := decide_eq_true hi
      have cn : i < l.length := by omega
      obtain ⟨ad, rfl, hx⟩ := Kd.at_int (Kd.R_reads' HR.out).2.2 (i : Int) (by omega) hi
      have hp := HL.out _ (rd_mem l i cn)
      have hta := Aside0.mk (take_fold l bs i cn)
      have hwr : wrap64 ((i : Int) + 1) = ((i + 1 : Nat) : Int) := by have := HN.out.2.1; unfold wrap64; omega
      have HI := Aside0.mk hi
      have hfl := fold_len (l.take i) bs
      generalize (l.take i).foldl setS bs = ys at *
      obtain ⟨b, cc, hc1, hlb, hbf, hRb⟩ := HFr.out.row (by rw [hfl]; exact HN.out.1)
      rw [Int.toNat_natCast] at hx
      obtain ⟨x, hx0⟩ : ∃ x, rd l (i : Int) = x := ⟨_, rfl⟩
      rw [hx0] at hx hp hta
      have hcf := Kd.R_celln (0 : Int) hRb (x / 8) (by omega) (by rw [hfl]; omega)
      have hr := hcf.1
      have hfr := hcf.2
      have hq : Int.tdiv x 8 = x / 8 := Int.tdiv_eq_ediv_of_nonneg hp.1
      have hm : Int.tmod x 8 = x % 8 := Int.tmod_eq_emod_of_nonneg hp.1
      have hw : wrap64 (x / 8) = x / 8 := by have := HN.out.2.2; unfold wrap64; omega
      have hrx : rdOf 0 ys (x / 8) = rd ys (x / 8) := rfl
      have hu : setS ys x = ys.set (x / 8).toNat (Go.bits .or .u8 (rd ys (x / 8)) (shl .u8 1 (x % 8))) := rfl
      rw [hrx] at hr
      have hq0 : 0 ≤ x / 8 := by omega
      have hq1 : x / 8 < (ys.length : Int) := by rw [hfl]; omega
      have hr0 : 0 ≤ x % 8 := by omega
      have hr1 : x % 8 < 8 := by omega
      have huw : IntKind.u64.wrap (x % 8) = x % 8 := by rw [IntKind.wrap_u64]; omega
      rw [shl_r _ _ hr1, IntKind.wrap_u8, Int.one_mul] at hu
      have hqt : (x / 8).toNat < ys.length := by rw [hfl]; omega
      generalize rd ys (x / 8) = y at *
      generalize x / 8 = q at *
      generalize x % 8 = r at *
      have HU := Aside0.mk hu
      have HC1 := Aside0.mk (And.intro hc1 (And.intro hlb hbf))
      clear hp hrx hlb hbf hRb hx0 hcf hu hfl
      go_wp2_with (fail)
      go_roundg (gk - 1)
      case measure => have := HK.out; have := HI.out; omega
      case rel =>
        have hp := HFr.out.put HC1.out.1 HC1.out.2.1 HC1.out.2.2 q (Go.bits .or .u8 y (2 ^ r.toNat % 256))
        rw [← HU.out, ← hta.out] at hp
        refine ⟨i + 1, (by first | rfl | (simp; done) | rw [hwr]), ⟨by have := HK.out; have := HI.out; omega⟩, ⟨hp.1⟩, ⟨HKp.out.trans hp.2⟩, ⟨R_kp HR.out hp.2 hlt.out⟩⟩
    · have cb : decide ((i : Int) < (l.length : Int)) = false := decide_eq_false hi
      have hiK : l.length ≤ i := by omega
      clear hi
      go_wp2_with (fail)
      first | go_end0 | go_ret2 | go_ret
      have h1 := HFr.out
      rw [List.take_of_length_le hiK] at h1
      exact ⟨rfl, h1, HKp.out⟩
end Go.Proofs.Ytcopbkdlpfcjpaa.L
namespace Go.Proofs.Ytcopbkdlpfcjpaa.L
open Go.RowKit Go.Proofs.YtcopbkdlpfcjpaaW.PrintWords Go.Proofs.YtcopbkdlpfcjpaaW.PrintLast Go.Proofs.YtcopbkdlpfcjpaaW.PrintMore Go.Proofs.Ytcopbkdlpfcjpaa.B Go.Proofs.Ytcopbkdlpfcjpaa.M
attribute [local go_sem] max2_int min2_int max_two min_two max_three min_three max_four min_four
set_option linter.unusedVariables false
set_option linter.unusedSimpArgs false
/-- A filter in bytes. -/
def bytesS (k : Int) (bs : List Int) : List Int := Ma.up (Ma.digN k.toNat) ++ Ma.up (Ma.digN bs.length) ++ bs
theorem put1 (k : Nat) (h : k < 18446744073709551616) : ∃ q, codec_Put.f q [] (k : Int) = some (Ma.up (Ma.digN k)) := by
  obtain ⟨q, hq⟩ := (Ma.Put_ev [] k h (by simp)).rounds
  exact ⟨q, hq⟩
theorem put2 (k n : Nat) (h : n < 18446744073709551616) (hk : k < 18446744073709551616) : ∃ q, codec_Put.f q (Ma.up (Ma.digN k)) (n : Int) = some (Ma.up (Ma.digN k) ++ Ma.up (Ma.digN n)) := by
  obtain ⟨q, hq⟩ := (Ma.Put_ev (Ma.digN k) n h (by have := Ma.digN_len64 k hk; omega)).rounds
  exact ⟨q, hq⟩
theorem put1R (k : Nat) (h : k < 18446744073709551616) : ∃ q, skerryref01_Put.f q [] (k : Int) = some (Ma.up (Ma.digN k)) := by
  obtain ⟨q, hq⟩ := (Ma.refPut_ev [] k h (by simp)).rounds
  exact ⟨q, hq⟩
theorem put2R (k n : Nat) (h : n < 18446744073709551616) (hk : k < 18446744073709551616) : ∃ q, skerryref01_Put.f q (Ma.up (Ma.digN k)) (n : Int) = some (Ma.up (Ma.digN k) ++ Ma.up (Ma.digN n)) := by
  obtain ⟨q, hq⟩ := (Ma.refPut_ev (Ma.digN k) n h (by have := Ma.digN_len64 k hk; omega)).rounds
  exact ⟨q, hq⟩
set_option maxHeartbeats 8000000 in
set_option maxRecDepth 100000 in
theorem Bytes_c {w : World} {lo f : Nat} {k : Int} {bs : List Int} (hF : Fil 83 w lo f k bs) (hk0 : 0 < k) (hk : k ≤ 16) (hn0 : 0 < bs.length) (hn : bs.length ≤ 1000000) :
    Calls Try.prog 45 #[.pointer (some ⟨f, 0, none⟩)] w fun e w' => ∃ v, e = .returned v ∧ (Kd.int .u8).R 5 w' w.heap.size (fun _ => True) v (bytesS k bs) ∧ Below w.heap.size w w' := by
  obtain ⟨K, rfl⟩ := Int.eq_ofNat_of_zero_le (show 0 ≤ k by omega)
  obtain ⟨q1, hq1⟩ := put1 K (by omega)
  obtain ⟨q2, hq2⟩ := put2 K bs.length (by omega) (by omega)
  have hbs : bytesS (K : Int) bs = Ma.up (Ma.digN K) ++ Ma.up (Ma.digN bs.length) ++ bs := rfl
  have hl1 : (Ma.up (Ma.digN K)).length ≤ 10 := by rw [Ma.up_length]; exact Ma.digN_len64 K (by omega)
  have hl2 : (Ma.up (Ma.digN bs.length)).length ≤ 10 := by rw [Ma.up_length]; exact Ma.digN_len64 _ (by omega)
  rw [hbs]
  have hl2 : (Ma.up (Ma.digN K) ++ Ma.up (Ma.digN bs.length)).length ≤ 20 := by rw [List.length_append]; omega
  generalize Ma.up (Ma.digN K) ++ Ma.up (Ma.digN bs.length) = d2 at *
  generalize Ma.up (Ma.digN K) = d1 at *
  have hmade := made_c hF
  rw [decide_eq_true hk0] at hmade
  have HM := Aside0.mk hmade
  obtain ⟨b, c, hc1, hlb, hbf, hR⟩ := hF.row hn0
  have hc0 := hF.cell0
  have hsz := hF.lt
  have HCb := Aside0.mk (Kd.R_reads' hR).2.2
  have HCc := Aside0.mk (Kd.R_reads' hR).2.1
  rw [← show IntKind.u64.wrap (K : Int) = (K : Int) by rw [IntKind.wrap_u64]; omega] at hq1
  rw [← show IntKind.u64.wrap (bs.length : Int) = (bs.length : Int) by rw [IntKind.wrap_u64]; omega] at hq2
  have HQ1 := Aside0.mk hq1
  have HQ2 := Aside0.mk hq2
  have HF := Aside0.mk (And.intro hsz (And.intro hl1 (And.intro hl2 hn)))
  have hS : Below w.heap.size w w.drew ∧ w.drew.cell? ⟨f, 0, none⟩ = some (.int .i64 (K : Int)) ∧ w.drew.cell? ⟨f, 1, none⟩ = some (.slice (some ⟨b, 0, none⟩) bs.length c) := ⟨pw_below_drewN (Below.refl _ _) 1, hc0, hc1⟩
  have hstep : ∀ W W1 : World, (Below w.heap.size w W ∧ W.cell? ⟨f, 0, none⟩ = some (.int .i64 (K : Int)) ∧ W.cell? ⟨f, 1, none⟩ = some (.slice (some ⟨b, 0, none⟩) bs.length c)) → Below W.heap.size W W1 → (Below w.heap.size w W1 ∧ W1.cell? ⟨f, 0, none⟩ = some (.int .i64 (K : Int)) ∧ W1.cell? ⟨f, 1, none⟩ = some (.slice (some ⟨b, 0, none⟩) bs.length c)) := by
    intro W W1 h hb
    have h1 := h.1.size
    exact ⟨h.1.trans (hb.mono h1), bcell hb h.2.1 (by show f < _; omega), bcell hb h.2.2 (by show f < _; omega)⟩
  have HST := Aside0.mk hstep
  clear hmade hF hR hlb hbf hk hk0 hn0 hq1 hq2 hstep hbs hl1 hl2 hsz hn
  go_enter Try.func45, Try.ntmps45
  go_upto_region 3 with (go_at_call 77; refine HM.out.mono ?_; rintro e w' ⟨rfl, h2⟩; obtain rfl := h2.symm)
  go_region_held3 (fun W => Below w.heap.size w W ∧ W.cell? ⟨f, 0, none⟩ = some (.int .i64 (K : Int)) ∧ W.cell? ⟨f, 1, none⟩ = some (.slice (some ⟨b, 0, none⟩) bs.length c)) (assumption) (first
    | (go_at_call 24; refine (codec_Put.calls q2 A1 c1 d1 _ _ _ (Kd.R_reads' hR1.out).2.2 (Kd.R_reads' hR1.out).2.1 HQ2.out).mono ?_; rintro e w2 ⟨v2, rfl, hR2, hb2⟩; obtain ⟨A2, c2, rfl⟩ := Kd.R_slice hR2; have hS2 := HST.out _ _ hS1 hb2; replace hR2 := Aside0.mk hR2; clear hb2)
    | (go_at_call 24; refine (codec_Put.calls q1 none 0 [] _ _ _ (Kd.C_nil _ _) (Nat.le_refl _) HQ1.out).mono ?_; rintro e w1 ⟨v1, rfl, hR1, hb1⟩; obtain ⟨A1, c1, rfl⟩ := Kd.R_slice hR1; have hS1 := HST.out _ _ hS hb1; replace hR1 := Aside0.mk hR1; clear hb1)
    | (refine Kd.R_append_rows_step (Kd.int .u8) (w0 := w) w.heap.size (by kernel_rfl) (.tmp 18) (.tmp 22) 27 5 (.int .u8 0) 1 rfl Try.underlying27 info5 rfl (by decide) (by omega) (.slice A2 d2.length c2) d2 bs (some ⟨b, 0, none⟩) bs.length c (fun _ => True) (fun _ => False) rfl rfl (Kd.R_lower hR2.out hS1.1.size) (Kd.C_below HCb.out hS2.1) (fun _ _ h => h) (fun _ h => h.elim) (fun _ _ => trivial) hS2.1 hS2.1.size (by have := HF.out; omega) ?_; intro v3 w3 hR3 hb3 hg3 hat; have hS3 : Below w.heap.size w w3 ∧ w3.cell? ⟨f, 0, none⟩ = some (.int .i64 (K : Int)) ∧ w3.cell? ⟨f, 1, none⟩ = some (.slice (some ⟨b, 0, none⟩) bs.length c) := ⟨hb3, bcell hb3 hc0 HF.out.1, bcell hb3 hc1 HF.out.1⟩; replace hR3 := Aside0.mk hR3; clear hg3 hat))
  go_wp2_with (fail)
  go_ret
  exact ⟨_, rfl, hR3.out, hS3.1⟩
set_option maxHeartbeats 8000000 in
set_option maxRecDepth 100000 in
theorem BytesR_c {w : World} {lo f : Nat} {k : Int} {bs : List Int} (hF : Fil 80 w lo f k bs) (hk0 : 0 < k) (hk : k ≤ 16) (hn0 : 0 < bs.length) (hn : bs.length ≤ 1000000) :
    Calls Try.prog 66 #[.pointer (some ⟨f, 0, none⟩)] w fun e w' => ∃ v, e = .returned v ∧ (Kd.int .u8).R 5 w' w.heap.size (fun _ => True) v (bytesS k bs) ∧ Below w.heap.size w w' := by
  obtain ⟨K, rfl⟩ := Int.eq_ofNat_of_zero_le (show 0 ≤ k by omega)
  obtain ⟨q1, hq1⟩ := put1R K (by omega)
  obtain ⟨q2, hq2⟩ := put2R K bs.length (by omega) (by omega)
  have hbs : bytesS (K : Int) bs = Ma.up (Ma.digN K) ++ Ma.up (Ma.digN bs.length) ++ bs := rfl
  have hl1 : (Ma.up (Ma.digN K)).length ≤ 10 := by rw [Ma.up_length]; exact Ma.digN_len64 K (by omega)
  have hl2 : (Ma.up (Ma.digN bs.length)).length ≤ 10 := by rw [Ma.up_length]; exact Ma.digN_len64 _ (by omega)
  rw [hbs]
  have hl2 : (Ma.up (Ma.digN K) ++ Ma.up (Ma.digN bs.length)).length ≤ 20 := by rw [List.length_append]; omega
  generalize Ma.up (Ma.digN K) ++ Ma.up (Ma.digN bs.length) = d2 at *
  generalize Ma.up (Ma.digN K) = d1 at *
  obtain ⟨b, c, hc1, hlb, hbf, hR⟩ := hF.row hn0
  have hc0 := hF.cell0
  have hsz := hF.lt
  have HCb := Aside0.mk (Kd.R_reads' hR).2.2
  have HCc := Aside0.mk (Kd.R_reads' hR).2.1
  rw [← show IntKind.u64.wrap (K : Int) = (K : Int) by rw [IntKind.wrap_u64]; omega] at hq1
  rw [← show IntKind.u64.wrap (bs.length : Int) = (bs.length : Int) by rw [IntKind.wrap_u64]; omega] at hq2
  have HQ1 := Aside0.mk hq1
  have HQ2 := Aside0.mk hq2
  have HF := Aside0.mk (And.intro hsz (And.intro hl1 (And.intro hl2 hn)))
  have hS : Below w.heap.size w w.drew ∧ w.drew.cell? ⟨f, 0, none⟩ = some (.int .i64 (K : Int)) ∧ w.drew.cell? ⟨f, 1, none⟩ = some (.slice (some ⟨b, 0, none⟩) bs.length c) := ⟨pw_below_drewN (Below.refl _ _) 1, hc0, hc1⟩
  have hstep : ∀ W W1 : World, (Below w.heap.size w W ∧ W.cell? ⟨f, 0, none⟩ = some (.int .i64 (K : Int)) ∧ W.cell? ⟨f, 1, none⟩ = some (.slice (some ⟨b, 0, none⟩) bs.length c)) → Below W.heap.size W W1 → (Below w.heap.size w W1 ∧ W1.cell? ⟨f, 0, none⟩ = some (.int .i64 (K : Int)) ∧ W1.cell? ⟨f, 1, none⟩ = some (.slice (some ⟨b, 0, none⟩) bs.length c)) := by
    intro W W1 h hb
    have h1 := h.1.size
    exact ⟨h.1.trans (hb.mono h1), bcell hb h.2.1 (by show f < _; omega), bcell hb h.2.2 (by show f < _; omega)⟩
  have HST := Aside0.mk hstep
  clear hF hR hlb hbf hk hk0 hn0 hq1 hq2 hstep hbs hl1 hl2 hsz hn
  go_enter Try.func66, Try.ntmps66
  go_upto_region 1 with (fail)
  go_region_held3 (fun W => Below w.heap.size w W ∧ W.cell? ⟨f, 0, none⟩ = some (.int .i64 (K : Int)) ∧ W.cell? ⟨f, 1, none⟩ = some (.slice (some ⟨b, 0, none⟩) bs.length c)) (assumption) (first
    | (go_at_call 29; refine (skerryref01_Put.calls q2 A1 c1 d1 _ _ _ (Kd.R_reads' hR1.out).2.2 (Kd.R_reads' hR1.out).2.1 HQ2.out).mono ?_; rintro e w2 ⟨v2, rfl, hR2, hb2⟩; obtain ⟨A2, c2, rfl⟩ := Kd.R_slice hR2; have hS2 := HST.out _ _ hS1 hb2; replace hR2 := Aside0.mk hR2; clear hb2)
    | (go_at_call 29; refine (skerryref01_Put.calls q1 none 0 [] _ _ _ (Kd.C_nil _ _) (Nat.le_refl _) HQ1.out).mono ?_; rintro e w1 ⟨v1, rfl, hR1, hb1⟩; obtain ⟨A1, c1, rfl⟩ := Kd.R_slice hR1; have hS1 := HST.out _ _ hS hb1; replace hR1 := Aside0.mk hR1; clear hb1)
    | (refine Kd.R_append_rows_step (Kd.int .u8) (w0 := w) w.heap.size (by kernel_rfl) (.tmp 15) (.tmp 19) 27 5 (.int .u8 0) 1 rfl Try.underlying27 info5 rfl (by decide) (by omega) (.slice A2 d2.length c2) d2 bs (some ⟨b, 0, none⟩) bs.length c (fun _ => True) (fun _ => False) rfl rfl (Kd.R_lower hR2.out hS1.1.size) (Kd.C_below HCb.out hS2.1) (fun _ _ h => h) (fun _ h => h.elim) (fun _ _ => trivial) hS2.1 hS2.1.size (by have := HF.out; omega) ?_; intro v3 w3 hR3 hb3 hg3 hat; have hS3 : Below w.heap.size w w3 ∧ w3.cell? ⟨f, 0, none⟩ = some (.int .i64 (K : Int)) ∧ w3.cell? ⟨f, 1, none⟩ = some (.slice (some ⟨b, 0, none⟩) bs.length c) := ⟨hb3, bcell hb3 hc0 HF.out.1, bcell hb3 hc1 HF.out.1⟩; replace hR3 := Aside0.mk hR3; clear hg3 hat))
  go_wp2_with (fail)
  go_ret
  exact ⟨_, rfl, hR3.out, hS3.1⟩
end Go.Proofs.Ytcopbkdlpfcjpaa.L
namespace Go.Proofs.Ytcopbkdlpfcjpaa.L
open Go.RowKit Go.Proofs.YtcopbkdlpfcjpaaW.PrintWords Go.Proofs.YtcopbkdlpfcjpaaW.PrintLast Go.Proofs.YtcopbkdlpfcjpaaW.PrintMore Go.Proofs.Ytcopbkdlpfcjpaa.B Go.Proofs.Ytcopbkdlpfcjpaa.M
attribute [local go_sem] max2_int min2_int max_two min_two max_three min_three max_four min_four
set_option linter.unusedVariables false
set_option linter.unusedSimpArgs false
theorem Places_nil (w : World) (v : Value) : Calls Try.prog 43 #[.pointer none, v] w fun e w' => e = .returned (.slice none 0 0) ∧ Below w.heap.size w w' := by
  go_enter Try.func43, Try.ntmps43
  go_wp2_with (go_at_call 77; refine (made_nil _).mono ?_; rintro e w' ⟨rfl, rfl⟩)
  go_ret
  exact ⟨rfl, below_alloc (Below.refl w.heap.size w) _⟩
theorem Places_zero {w : World} {lo f : Nat} {k : Int} {bs : List Int} (hF : Fil 83 w lo f k bs) (hk0 : ¬ 0 < k) (v : Value) : Calls Try.prog 43 #[.pointer (some ⟨f, 0, none⟩), v] w fun e w' => e = .returned (.slice none 0 0) ∧ Below w.heap.size w w' := by
  have hb0 := below_alloc (Below.refl w.heap.size w) (.cells #[.pointer (some ⟨f, 0, none⟩)] 41)
  have hmade := made_c (hF.below hb0)
  rw [decide_eq_false hk0] at hmade
  have HM := Aside0.mk hmade
  have HB := Aside0.mk hb0
  clear hmade hb0 hF hk0
  go_enter Try.func43, Try.ntmps43
  go_wp2_with (go_at_call 77; refine HM.out.mono ?_; rintro e w' ⟨rfl, rfl⟩)
  go_ret
  exact ⟨rfl, HB.out⟩
theorem Add_nil (w : World) (v : Value) : Calls Try.prog 46 #[.pointer none, v] w fun e w' => e = .returned (.tuple #[]) ∧ Below w.heap.size w w' := by
  go_enter Try.func46, Try.ntmps46
  go_wp2_with (go_at_call 43; refine (Places_nil _ _).mono ?_; rintro e w' ⟨rfl, hb⟩)
  go_loopg [10] 0 (fun kq v10 w2 => v10 = .int .i64 0 ∧ w2 = w')
  case atStart => exact ⟨rfl, rfl⟩
  case round =>
    obtain ⟨rfl, rfl⟩ := hrel
    go_wp2_with (fail)
    first | go_end0 | go_ret2 | go_ret
    exact ⟨rfl, hb⟩
theorem Add_zero {w : World} {lo f : Nat} {k : Int} {bs : List Int} (hF : Fil 83 w lo f k bs) (hk0 : ¬ 0 < k) (v : Value) : Calls Try.prog 46 #[.pointer (some ⟨f, 0, none⟩), v] w fun e w' => e = .returned (.tuple #[]) ∧ Below w.heap.size w w' := by
  have HM := Aside0.mk (Places_zero hF hk0 v)
  clear hF hk0
  go_enter Try.func46, Try.ntmps46
  go_wp2_with (go_at_call 43; refine HM.out.mono ?_; rintro e w' ⟨rfl, hb⟩)
  go_loopg [10] 0 (fun kq v10 w2 => v10 = .int .i64 0 ∧ w2 = w')
  case atStart => exact ⟨rfl, rfl⟩
  case round =>
    obtain ⟨rfl, rfl⟩ := hrel
    go_wp2_with (fail)
    first | go_end0 | go_ret2 | go_ret
    exact ⟨rfl, hb⟩
theorem Bytes_nil (w : World) : Calls Try.prog 45 #[.pointer none] w fun e w' => e = .returned (.slice none 0 0) ∧ w' = w := by
  go_enter Try.func45, Try.ntmps45
  go_wp2_with (go_at_call 77; refine (made_nil _).mono ?_; rintro e w' ⟨rfl, rfl⟩)
  go_ret
  exact ⟨rfl, rfl⟩
theorem Bytes_zero {w : World} {lo f : Nat} {k : Int} {bs : List Int} (hF : Fil 83 w lo f k bs) (hk0 : ¬ 0 < k) : Calls Try.prog 45 #[.pointer (some ⟨f, 0, none⟩)] w fun e w' => e = .returned (.slice none 0 0) ∧ w' = w := by
  have hmade := made_c hF
  rw [decide_eq_false hk0] at hmade
  have HM := Aside0.mk hmade
  clear hmade hF hk0
  go_enter Try.func45, Try.ntmps45
  go_wp2_with (go_at_call 77; refine HM.out.mono ?_; rintro e w' ⟨rfl, rfl⟩)
  go_ret
  exact ⟨rfl, rfl⟩
end Go.Proofs.Ytcopbkdlpfcjpaa.L
namespace Go.Proofs.Ytcopbkdlpfcjpaa.L
open Go.RowKit Go.Proofs.YtcopbkdlpfcjpaaW.PrintWords Go.Proofs.YtcopbkdlpfcjpaaW.PrintLast Go.Proofs.YtcopbkdlpfcjpaaW.PrintMore Go.Proofs.Ytcopbkdlpfcjpaa.B Go.Proofs.Ytcopbkdlpfcjpaa.M
open Go.Proofs.Ytcopbkdlpfcjpaa.Ma (up rd_up up_length up_of)
/-- A list of bytes. -/
def IsB (l : List Int) : Prop := ∃ B : List Nat, (∀ x ∈ B, x < 256) ∧ l = up B
def bitN (B : List Nat) (p : Nat) : Bool := (B.getD (p / 8) 0).testBit (p % 8)
def setN (B : List Nat) (p : Nat) : List Nat := B.set (p / 8) (B.getD (p / 8) 0 ||| 2 ^ (p % 8))
theorem getD_lt (B : List Nat) (h : ∀ x ∈ B, x < 256) (i : Nat) : B.getD i 0 < 256 := by
  rw [List.getD_eq_getElem?_getD]
  rcases Nat.lt_or_ge i B.length with hl | hl
  · rw [List.getElem?_eq_getElem hl]; exact h _ (List.getElem_mem hl)
  · rw [List.getElem?_eq_none hl]; simp
theorem unset_up (B : List Nat) (h : ∀ x ∈ B, x < 256) (p : Nat) : unset (up B) (p : Int) = !bitN B p := by
  have e1 : (p : Int) / 8 = ((p / 8 : Nat) : Int) := by omega
  have e2 : (p : Int) % 8 = ((p % 8 : Nat) : Int) := by omega
  have hx := getD_lt B h (p / 8)
  unfold unset bitN
  rw [e1, rd_up, shr_r _ _ (by omega), e2, Int.toNat_natCast]
  generalize B.getD (p / 8) 0 = x at *
  have e3 : (x : Int) / 2 ^ (p % 8) = ((x / 2 ^ (p % 8) : Nat) : Int) := by push_cast; rfl
  have h3 : x / 2 ^ (p % 8) < 256 := Nat.lt_of_le_of_lt (Nat.div_le_self _ _) hx
  rw [e3, show (1 : Int) = ((1 : Nat) : Int) from rfl, u8_and_nat _ _ h3 (by omega), Nat.and_one_is_mod, Nat.testBit_eq_decide_div_mod_eq]
  rcases Nat.mod_two_eq_zero_or_one (x / 2 ^ (p % 8)) with h2 | h2 <;> rw [h2] <;> rfl
theorem pow_small : ∀ r : Nat, r < 8 → 2 ^ r < 256 := by decide
theorem up_set (B : List Nat) (i x : Nat) : (up B).set i (x : Int) = up (B.set i x) := by unfold Ma.up; rw [List.map_set]; rfl
theorem setS_up (B : List Nat) (h : ∀ x ∈ B, x < 256) (p : Nat) : setS (up B) (p : Int) = up (setN B p) := by
  have e1 : (p : Int) / 8 = ((p / 8 : Nat) : Int) := by omega
  have e2 : (p : Int) % 8 = ((p % 8 : Nat) : Int) := by omega
  have hx := getD_lt B h (p / 8)
  unfold setS setN
  rw [e1, rd_up, e2, shl_r _ _ (by omega), IntKind.wrap_u8, Int.one_mul, Int.toNat_natCast, Int.toNat_natCast]
  have hp := pow_small (p % 8) (by omega)
  have e3 : (2 : Int) ^ (p % 8) % 256 = ((2 ^ (p % 8) : Nat) : Int) := by
    have : (2 : Int) ^ (p % 8) = ((2 ^ (p % 8) : Nat) : Int) := by push_cast; rfl
    rw [this]; generalize 2 ^ (p % 8) = y at hp ⊢; omega
  rw [e3, u8_or_nat _ _ hx hp]
  exact up_set B _ _
theorem setN_lt (B : List Nat) (h : ∀ x ∈ B, x < 256) (p : Nat) : ∀ x ∈ setN B p, x < 256 := by
  intro x hx
  unfold setN at hx
  rcases List.mem_or_eq_of_mem_set hx with h1 | rfl
  · exact h x h1
  · exact Nat.or_lt_two_pow (n := 8) (getD_lt B h _) (pow_small _ (by omega))
theorem setN_len (B : List Nat) (p : Nat) : (setN B p).length = B.length := by unfold setN; rw [List.length_set]
theorem bit_set (B : List Nat) (p q : Nat) (hp : p < 8 * B.length) : bitN (setN B p) q = (bitN B q || decide (q = p)) := by
  unfold bitN setN
  by_cases h : q / 8 = p / 8
  · rw [h, List.getD_eq_getElem?_getD, List.getElem?_set_self (by omega)]
    simp only [Option.getD_some]
    rw [Nat.testBit_or, Nat.testBit_two_pow]
    congr 1
    rw [decide_eq_decide]
    omega
  · rw [List.getD_eq_getElem?_getD, List.getElem?_set_ne (by omega), ← List.getD_eq_getElem?_getD, decide_eq_false (show ¬ q = p by rintro rfl; exact h rfl), Bool.or_false]
theorem fold_up (l : List Int) : ∀ (B : List Nat), (∀ x ∈ B, x < 256) → (∀ p ∈ l, 0 ≤ p ∧ p < 8 * (B.length : Int)) → ∃ C : List Nat, l.foldl setS (up B) = up C ∧ C.length = B.length ∧ (∀ x ∈ C, x < 256) ∧ ∀ q, bitN C q = (bitN B q || decide ((q : Int) ∈ l)) := by
  induction l with
  | nil => intro B h _; exact ⟨B, rfl, rfl, h, fun q => by simp⟩
  | cons p l ih =>
    intro B h hl
    obtain ⟨h0, h1⟩ := hl p List.mem_cons_self
    obtain ⟨P, rfl⟩ := Int.eq_ofNat_of_zero_le h0
    obtain ⟨C, hC, hlen, hlt, hb⟩ := ih (setN B P) (setN_lt B h P) (by rw [setN_len]; exact fun q hq => hl q (List.mem_cons_of_mem _ hq))
    refine ⟨C, ?_, by rw [hlen, setN_len], hlt, fun q => ?_⟩
    · rw [List.foldl_cons, setS_up B h P]
      exact hC
    · rw [hb, bit_set B P q (by omega), Bool.or_assoc]
      congr 1
      rw [Bool.eq_iff_iff, Bool.or_eq_true, decide_eq_true_eq, decide_eq_true_eq, decide_eq_true_eq, List.mem_cons]
      constructor
      · rintro (h | h)
        · exact .inl (by omega)
        · exact .inr h
      · rintro (h | h)
        · exact .inl (by omega)
        · exact .inr h
theorem may_up (B : List Nat) (h : ∀ x ∈ B, x < 256) (k : Int) (key : List Int) (hn : 0 < B.length) (hn2 : B.length ≤ 1000000) : mayS k (up B) key = (plS k B.length key).all (fun p => bitN B p.toNat) := by
  have hin := plS_in k B.length key hn hn2
  unfold mayS
  rw [up_length]
  generalize plS k B.length key = l at *
  induction l with
  | nil => rfl
  | cons p l ih =>
    have h0 := (hin p List.mem_cons_self).1
    obtain ⟨P, rfl⟩ := Int.eq_ofNat_of_zero_le h0
    have ih := ih (fun q hq => hin q (List.mem_cons_of_mem _ hq))
    simp only [List.any_cons, List.all_cons, Bool.not_or, Int.toNat_natCast]
    rw [ih, unset_up B h, Bool.not_not]
theorem add_up (B : List Nat) (h : ∀ x ∈ B, x < 256) (k : Int) (key : List Int) (hn : 0 < B.length) (hn2 : B.length ≤ 1000000) : ∃ C : List Nat, addS k (up B) key = up C ∧ C.length = B.length ∧ (∀ x ∈ C, x < 256) ∧ ∀ q, bitN C q = (bitN B q || decide ((q : Int) ∈ plS k B.length key)) := by
  unfold addS
  rw [up_length]
  exact fold_up _ B h (plS_in k B.length key hn hn2)
theorem addS_len (k : Int) (bs key : List Int) : (addS k bs key).length = bs.length := fold_len _ _
theorem addS_B (k : Int) (bs key : List Int) (h : IsB bs) (hn : 0 < bs.length) (hn2 : bs.length ≤ 1000000) : IsB (addS k bs key) := by
  obtain ⟨B, hB, rfl⟩ := h
  rw [up_length] at hn hn2
  obtain ⟨C, e, _, hC, _⟩ := add_up B hB k key hn hn2
  exact ⟨C, hC, e⟩
theorem may_self (k : Int) (bs key : List Int) (h : IsB bs) (hn : 0 < bs.length) (hn2 : bs.length ≤ 1000000) : mayS k (addS k bs key) key = true := by
  obtain ⟨B, hB, rfl⟩ := h
  rw [up_length] at hn hn2
  obtain ⟨C, e, hl, hC, hb⟩ := add_up B hB k key hn hn2
  rw [e, may_up C hC k key (by omega) (by omega), List.all_eq_true, hl]
  intro p hp
  have h0 := (plS_in k B.length key hn hn2 p hp).1
  rw [hb, Int.toNat_of_nonneg h0, decide_eq_true hp, Bool.or_true]
theorem may_mono (k : Int) (bs key key2 : List Int) (h : IsB bs) (hn : 0 < bs.length) (hn2 : bs.length ≤ 1000000) (hm : mayS k bs key2 = true) : mayS k (addS k bs key) key2 = true := by
  obtain ⟨B, hB, rfl⟩ := h
  rw [up_length] at hn hn2
  obtain ⟨C, e, hl, hC, hb⟩ := add_up B hB k key hn hn2
  rw [may_up B hB k key2 hn hn2, List.all_eq_true] at hm
  rw [e, may_up C hC k key2 (by omega) (by omega), List.all_eq_true, hl]
  intro p hp
  rw [hb, hm p hp, Bool.true_or]
theorem zeros_B (n : Nat) : IsB (List.replicate n 0) := ⟨List.replicate n 0, fun x hx => by rw [List.eq_of_mem_replicate hx]; omega, by unfold Ma.up; rw [List.map_replicate]; rfl⟩
theorem may_none (k : Int) (n : Nat) (key : List Int) (hk : 0 < k) (hn : 0 < n) (hn2 : n ≤ 1000000) : mayS k (List.replicate n 0) key = false := by
  have e : (List.replicate n 0 : List Int) = up (List.replicate n 0) := by unfold Ma.up; rw [List.map_replicate]; rfl
  rw [e, may_up _ (fun x hx => by rw [List.eq_of_mem_replicate hx]; omega) k key (by rw [List.length_replicate]; exact hn) (by rw [List.length_replicate]; exact hn2), List.length_replicate]
  have hl := plS_len k n key
  cases hp : plS k n key with
  | nil => rw [hp] at hl; simp at hl; omega
  | cons p l =>
    rw [List.all_cons]
    have : bitN (List.replicate n 0) p.toNat = false := by
      unfold bitN
      have : (List.replicate n 0).getD (p.toNat / 8) 0 = 0 := by
        rw [List.getD_eq_getElem?_getD]
        rcases Nat.lt_or_ge (p.toNat / 8) n with h | h
        · rw [List.getElem?_replicate_of_lt h]; rfl
        · rw [List.getElem?_eq_none (by rw [List.length_replicate]; exact h)]; rfl
      rw [this, Nat.zero_testBit]
    rw [this, Bool.false_and]
end Go.Proofs.Ytcopbkdlpfcjpaa.L
namespace Go.Proofs.Ytcopbkdlpfcjpaa.L
open Go.RowKit Go.Proofs.YtcopbkdlpfcjpaaW.PrintWords Go.Proofs.YtcopbkdlpfcjpaaW.PrintLast Go.Proofs.YtcopbkdlpfcjpaaW.PrintMore Go.Proofs.Ytcopbkdlpfcjpaa.B Go.Proofs.Ytcopbkdlpfcjpaa.M
attribute [local go_sem] max2_int min2_int max_two min_two max_three min_three max_four min_four
set_option linter.unusedVariables false
set_option linter.unusedSimpArgs false
theorem newK10 : newK 10 = 7 := by decide +kernel
theorem newN10 : (newN 1 10).toNat = 2 := by decide +kernel
theorem newK_1 : newK 1 = 1 := by decide +kernel
theorem newN0 : (newN 0 1).toNat = 1 := by decide +kernel
theorem New_f (w : World) : Calls Try.prog 53 #[.int .i64 1, .int .i64 10] w fun e w' => ∃ g, e = .returned (.pointer (some ⟨g, 0, none⟩)) ∧ Fil 83 w' w.heap.size g 7 [0, 0] ∧ Below w.heap.size w w' := by
  have h := New_ok 1 10 w (by omega) (by omega) (by omega) (by omega)
  rw [newK10, newN10] at h
  exact h
theorem New_g (w : World) : Calls Try.prog 53 #[.int .i64 0, .int .i64 1] w fun e w' => ∃ g, e = .returned (.pointer (some ⟨g, 0, none⟩)) ∧ Fil 83 w' w.heap.size g 1 [0] ∧ Below w.heap.size w w' := by
  have h := New_ok 0 1 w (by omega) (by omega) (by omega) (by omega)
  rw [newK_1, newN0] at h
  exact h
theorem lit_a (W : World) (fr : Nat × Nat) (t : TypeId) : Kd.C (Kd.int .u8) (W.alloc (.cells #[.int .u8 97] t fr)) (some ⟨W.heap.size, 0, none⟩) 1 [97] := Kd.C_lit_marked W .u8 [97] #[.int .u8 97] t fr rfl (by decide)
theorem Add_a {W : World} {lo f : Nat} {k : Int} {bs : List Int} (hF : Fil 83 W lo f k bs) (hk0 : 0 < k) (hk : k ≤ 16) (hn0 : 0 < bs.length) (hn : bs.length ≤ 1000000) :
    Calls Try.prog 46 #[.pointer (some ⟨f, 0, none⟩), .slice (some ⟨W.heap.size, 0, none⟩) 1 1] (W.alloc (.cells #[.int .u8 97] 5 (1, 2))) fun e w' => e = .returned (.tuple #[]) ∧ Fil 83 w' lo f k (addS k bs [97]) ∧ Kp lo f W w' :=
  have hb := below_alloc (Below.refl W.heap.size W) (.cells #[.int .u8 97] 5 (1, 2))
  (Add_c (hF.below hb) (some ⟨W.heap.size, 0, none⟩) 1 [97] (lit_a W (1, 2) 5) (Nat.le_refl _) hk0 hk hn0 hn).mono fun e w' h => ⟨h.1, h.2.1, (Kp.of_below hb).trans h.2.2⟩
theorem Places_a {W : World} {lo f : Nat} {k : Int} {bs : List Int} (hF : Fil 83 W lo f k bs) (hk0 : 0 < k) (hk : k ≤ 16) (hn0 : 0 < bs.length) (hn : bs.length ≤ 1000000) :
    Calls Try.prog 43 #[.pointer (some ⟨f, 0, none⟩), .slice (some ⟨W.heap.size, 0, none⟩) 1 1] (W.alloc (.cells #[.int .u8 97] 5 (1, 2))) fun e w' => ∃ A c, e = .returned (.slice A k.toNat c) ∧ Below W.heap.size W w' :=
  have hb := below_alloc (Below.refl W.heap.size W) (.cells #[.int .u8 97] 5 (1, 2))
  (Places_c (hF.below hb) (some ⟨W.heap.size, 0, none⟩) 1 [97] (lit_a W (1, 2) 5) (Nat.le_refl _) hk0 hk hn0 hn).mono fun e w' ⟨v, h, hR, hbb⟩ => by
    obtain ⟨A, c, rfl⟩ := Kd.R_slice hR
    rw [plS_len] at h
    exact ⟨A, c, h, hb.trans (hbb.mono (by rw [size_alloc]; omega))⟩
theorem May_a {W : World} {lo f : Nat} {k : Int} {bs : List Int} (hF : Fil 83 W lo f k bs) (hk0 : 0 < k) (hk : k ≤ 16) (hn0 : 0 < bs.length) (hn : bs.length ≤ 1000000) (r : Bool) (hr : mayS k bs [97] = r) :
    Calls Try.prog 40 #[.pointer (some ⟨f, 0, none⟩), .slice (some ⟨W.heap.size, 0, none⟩) 1 1] (W.alloc (.cells #[.int .u8 97] 5 (1, 2))) fun e w' => e = .returned (.bool r) ∧ Below W.heap.size W w' :=
  have hb := below_alloc (Below.refl W.heap.size W) (.cells #[.int .u8 97] 5 (1, 2))
  (May_c (hF.below hb) (some ⟨W.heap.size, 0, none⟩) 1 [97] (lit_a W (1, 2) 5) (Nat.le_refl _) hk0 hk hn0 hn).mono fun e w' ⟨h, hbb⟩ => ⟨by rw [h, hr], hb.trans (hbb.mono (by rw [size_alloc]; omega))⟩
theorem Size_n {w : World} {lo f : Nat} {k : Int} {bs : List Int} (hF : Fil 83 w lo f k bs) (hk0 : 0 < k) (n : Nat) (hn : bs.length = n) (hn2 : n ≤ 1000000) : Calls Try.prog 55 #[.pointer (some ⟨f, 0, none⟩)] w fun e w' => e = .returned (.int .i64 (8 * (n : Int))) ∧ w = w' := by
  subst hn
  exact (Size_c hF hk0 hn2).mono fun e w' ⟨h1, h2⟩ => ⟨h1, h2.symm⟩
set_option maxHeartbeats 8000000 in
set_option maxRecDepth 100000 in
theorem lives_c (w : World) : Calls Try.prog 37 #[] w fun e w' => e = .returned (.bool true) ∧ Below w.heap.size w w' := by
  have kc := fun (w : World) (C : Array Value) (n c : Nat) => Lib.run_convert_bytes_const (P := Try.prog) w 27 5 C n c Try.underlying27 Try.underlying5
  obtain ⟨bs, hbs⟩ : ∃ bs, bs = addS 7 [0, 0] [97] := ⟨_, rfl⟩
  have hlen : bs.length = 2 := by rw [hbs, addS_len]; rfl
  have hmf : mayS 7 bs [97] = true := by rw [hbs]; exact may_self 7 [0, 0] [97] (zeros_B 2) (by decide) (by decide)
  have hmg : mayS 1 [0] [97] = false := may_none 1 1 [97] (by omega) (by omega) (by omega)
  have HB := Aside0.mk hbs
  have HL := Aside0.mk hlen
  have HMF := Aside0.mk hmf
  have HMG := Aside0.mk hmg
  clear hbs hlen hmf hmg
  go_enter Try.func37, Try.ntmps37
  go_upto_region 4 with (first | (go_at_call 53; with_reducible refine (New_f _).mono ?_; rintro e w1 ⟨f, rfl, hF, hb1⟩; replace hF := Aside0.mk hF; replace hb1 := Aside0.mk hb1) | (go_at_call 53; with_reducible refine (New_g _).mono ?_; rintro e w2 ⟨g, rfl, hG, hb2⟩; replace hG := Aside0.mk hG; replace hb2 := Aside0.mk hb2))
  go_upto_region 5 with (go_at_call 46; with_reducible refine (Add_a (hF.out.below hb2.out) (by decide) (by decide) (by decide) (by decide)).mono ?_; rintro e w4 ⟨rfl, hF4, hk⟩; rw [← HB.out] at hF4; have hG4 := hG.out.keep hk (.inl hF.out.lt); replace hF4 := Aside0.mk hF4; replace hG4 := Aside0.mk hG4; replace hk := Aside0.mk hk)
  go_wp2_with (first | (go_at_call 55; with_reducible refine (Size_n hF4.out (by decide) 2 HL.out (by decide)).mono ?_; rintro e w' ⟨rfl, rfl⟩) | (go_at_call 43; with_reducible refine (Places_a hF4.out (by decide) (by decide) (by rw [HL.out]; decide) (by rw [HL.out]; decide)).mono ?_; rintro e w5 ⟨A5, c5, rfl, hb5⟩; have hF5 := Aside0.mk (hF4.out.below hb5); have hG5 := Aside0.mk (hG4.out.below hb5); replace hb5 := Aside0.mk hb5) | (go_at_call 40; with_reducible refine (May_a hF5.out (by decide) (by decide) (by rw [HL.out]; decide) (by rw [HL.out]; decide) true HMF.out).mono ?_; rintro e w6 ⟨rfl, hb6⟩; have hG6 := Aside0.mk (hG5.out.below hb6); replace hb6 := Aside0.mk hb6) | (go_at_call 55; with_reducible refine (Size_n hG6.out (by decide) 1 rfl (by decide)).mono ?_; rintro e w' ⟨rfl, rfl⟩) | (go_at_call 40; with_reducible refine (May_a hG6.out (by decide) (by decide) (by decide) (by decide) false HMG.out).mono ?_; rintro e w7 ⟨rfl, hb7⟩; replace hb7 := Aside0.mk hb7))
  go_ret
  have h1 := hk.out.below (hb1.out.trans (hb2.out.mono hb1.out.size)) (Nat.le_refl _)
  have h2 := h1.trans (hb5.out.mono h1.size)
  have h3 := h2.trans (hb6.out.mono h2.size)
  exact ⟨rfl, h3.trans (hb7.out.mono h3.size)⟩
end Go.Proofs.Ytcopbkdlpfcjpaa.L
