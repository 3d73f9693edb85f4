/- The bloom layer by hand: what a filter is in memory; New of the program and of the document. -/
import Derived.Test.YtcopbkdlpfcjpaaMurD
namespace Go.Proofs.Ytcopbkdlpfcjpaa.L
open Go.RowKit Go.Proofs.YtcopbkdlpfcjpaaW.PrintWords Go.Proofs.YtcopbkdlpfcjpaaW.PrintLast Go.Proofs.YtcopbkdlpfcjpaaW.PrintMore Go.Proofs.Ytcopbkdlpfcjpaa.B Go.Proofs.Ytcopbkdlpfcjpaa.M
attribute [local go_sem] max2_int min2_int max_two min_two max_three min_three max_four min_four
set_option linter.unusedVariables false
set_option linter.unusedSimpArgs false

theorem info5 : (Try.prog.info? 5).map (fun i => (i.zero, i.size, i.bytes)) = some (some (.int .u8 0), 1, 1) := by kernel_rfl
theorem info3 : (Try.prog.info? 3).map (fun i => (i.zero, i.size, i.bytes)) = some (some (.int .i64 0), 1, 8) := by kernel_rfl

/-- Outside the blocks from lo to hi all is as it was. -/
structure Kp (lo hi : Nat) (w w' : World) : Prop where
  os : w'.os = w.os
  tape : w'.tape = w.tape
  output : w'.output = w.output
  size : w.heap.size ≤ w'.heap.size
  block : ∀ k, k < w.heap.size → (k < lo ∨ hi < k) → w'.heap[k]? = w.heap[k]?
theorem Kp.refl (lo hi : Nat) (w : World) : Kp lo hi w w := ⟨rfl, rfl, rfl, Nat.le_refl _, fun _ _ _ => rfl⟩
theorem Kp.trans {lo hi : Nat} {a b c : World} (h : Kp lo hi a b) (k : Kp lo hi b c) : Kp lo hi a c :=
  ⟨k.os.trans h.os, k.tape.trans h.tape, k.output.trans h.output, Nat.le_trans h.size k.size, fun i hi hb => (k.block i (Nat.lt_of_lt_of_le hi h.size) hb).trans (h.block i hi hb)⟩
theorem Kp.of_below {lo hi : Nat} {w w' : World} (h : Below w.heap.size w w') : Kp lo hi w w' := ⟨h.os, h.tape, h.output, h.size, fun k hk _ => h.block k hk⟩
theorem Kp.below {lo hi : Nat} {w0 w w' : World} (h : Kp lo hi w w') (hb : Below w0.heap.size w0 w) (hlo : w0.heap.size ≤ lo) : Below w0.heap.size w0 w' :=
  ⟨h.os.trans hb.os, h.tape.trans hb.tape, h.output.trans hb.output, Nat.le_trans hb.size h.size, fun k hk => (h.block k (Nat.lt_of_lt_of_le hk hb.size) (.inl (by omega))).trans (hb.block k hk)⟩
theorem Kp.of_grown {lo hi : Nat} {w w' : World} {row : Option Nat} (h : w.grownBy w' row) (hr : ∀ k, row = some k → lo ≤ k ∧ k ≤ hi) : Kp lo hi w w' :=
  ⟨h.os, h.tape, h.output, h.size, fun k hk hb => h.block k hk (fun e => by have := hr k e.symm; omega)⟩

/-- A filter of type T at block g, its bits below it, from block lo on. -/
def Fil (T : TypeId) (w : World) (lo g : Nat) (k : Int) (bs : List Int) : Prop :=
  lo ≤ g ∧ ∃ v, w.heap[g]? = some (.cells #[.int .i64 k, v] T (0, 0)) ∧ (Kd.int .u8).R 5 w lo (fun j => j < g) v bs
theorem Fil.keep {T : TypeId} {w w' : World} {lo g lo' hi' : Nat} {k : Int} {bs : List Int} (h : Fil T w lo g k bs) (hk : Kp lo' hi' w w') (hne : hi' < lo ∨ g < lo') : Fil T w' lo g k bs := by
  obtain ⟨h1, v, h2, h3⟩ := h
  refine ⟨h1, v, ?_, ?_⟩
  · rw [hk.block g (blk_lt h2) (by omega)]
    exact h2
  · refine Kd.R_mono (Kd.R_step (Kd.R_bound h3) (fun j hj hlt => hk.block j hlt ?_)) (fun j hj => hj.1)
    obtain ⟨hj1, hj2, _⟩ := hj
    omega
theorem Fil.below {T : TypeId} {w w' : World} {lo g : Nat} {k : Int} {bs : List Int} (h : Fil T w lo g k bs) (hb : Below w.heap.size w w') : Fil T w' lo g k bs := h.keep (lo' := g + 1) (hi' := g + 1) (Kp.of_below hb) (.inr (by omega))
theorem Fil.lt {T : TypeId} {w : World} {lo g : Nat} {k : Int} {bs : List Int} (h : Fil T w lo g k bs) : g < w.heap.size := by
  obtain ⟨h1, v, h2, h3⟩ := h
  exact blk_lt h2
/-- The filter that New makes. -/
def newK1 (bits : Int) : Int := if Int.tdiv (bits * 7) 10 < 1 then 1 else Int.tdiv (bits * 7) 10
def newK (bits : Int) : Int := if 16 < newK1 bits then 16 else newK1 bits
def newN (n bits : Int) : Int := if Int.tdiv (n * bits + 7) 8 < 1 then 1 else Int.tdiv (n * bits + 7) 8
theorem newK_in (bits : Int) (h0 : 1 ≤ bits) (h1 : bits ≤ 32) : 1 ≤ newK bits ∧ newK bits ≤ 16 := by
  unfold newK newK1
  split <;> split at * <;> omega
theorem mul_in (n bits : Int) (h0 : 0 ≤ n) (h1 : n ≤ 100000) (h2 : 1 ≤ bits) (h3 : bits ≤ 32) : 0 ≤ n * bits ∧ n * bits ≤ 3200000 := by
  refine ⟨Int.mul_nonneg h0 (by omega), ?_⟩
  calc n * bits ≤ 100000 * bits := Int.mul_le_mul_of_nonneg_right h1 (by omega)
    _ ≤ 3200000 := by omega
theorem newN_in (n bits : Int) (h0 : 0 ≤ n) (h1 : n ≤ 100000) (h2 : 1 ≤ bits) (h3 : bits ≤ 32) : 1 ≤ newN n bits ∧ newN n bits ≤ 400000 := by
  have h := mul_in n bits h0 h1 h2 h3
  unfold newN
  generalize n * bits = m at *
  split <;> constructor <;> first | omega | (rw [Int.tdiv_eq_ediv_of_nonneg (by omega)] at *; omega)

set_option maxHeartbeats 8000000 in
set_option maxRecDepth 100000 in
theorem New_bad (n bits : Int) (w : World) (h : n < 0 ∨ 100000 < n ∨ bits < 1 ∨ 32 < bits) : Calls Try.prog 53 #[.int .i64 n, .int .i64 bits] w fun e w' => e = .returned (.pointer none) ∧ w' = w := by
  by_cases h0 : n < 0
  · have b0 : decide (n < 0) = true := decide_eq_true h0
    clear h h0
    go_enter Try.func53, Try.ntmps53
    go_wp2
    go_ret
    exact ⟨rfl, rfl⟩
  · have b0 : decide (n < 0) = false := decide_eq_false h0
    by_cases h1 : 100000 < n
    · have b1 : decide (100000 < n) = true := decide_eq_true h1
      clear h h0 h1
      go_enter Try.func53, Try.ntmps53
      go_wp2
      go_ret
      exact ⟨rfl, rfl⟩
    · have b1 : decide (100000 < n) = false := decide_eq_false h1
      by_cases h2 : bits < 1
      · have b2 : decide (bits < 1) = true := decide_eq_true h2
        clear h h0 h1 h2
        go_enter Try.func53, Try.ntmps53
        go_wp2
        go_ret
        exact ⟨rfl, rfl⟩
      · have b2 : decide (bits < 1) = false := decide_eq_false h2
        have b3 : decide (32 < bits) = true := decide_eq_true (by omega)
        clear h h0 h1 h2
        go_enter Try.func53, Try.ntmps53
        go_wp2
        go_ret
        exact ⟨rfl, rfl⟩

set_option maxHeartbeats 8000000 in
set_option maxRecDepth 100000 in
theorem New_ok (n bits : Int) (w : World) (h0 : 0 ≤ n) (h1 : n ≤ 100000) (h2 : 1 ≤ bits) (h3 : bits ≤ 32) :
    Calls Try.prog 53 #[.int .i64 n, .int .i64 bits] w fun e w' => ∃ g, e = .returned (.pointer (some ⟨g, 0, none⟩)) ∧ Fil 83 w' w.heap.size g (newK bits) (List.replicate (newN n bits).toNat 0) ∧ Below w.heap.size w w' := by
  have b0 : decide (n < 0) = false := decide_eq_false (by omega)
  have b1 : decide (100000 < n) = false := decide_eq_false (by omega)
  have b2 : decide (bits < 1) = false := decide_eq_false (by omega)
  have b3 : decide (32 < bits) = false := decide_eq_false (by omega)
  have hm := mul_in n bits h0 h1 h2 h3
  have e1 : wrap64 (bits * 7) = bits * 7 := by unfold wrap64; omega
  have e2 : wrap64 (Int.tdiv (bits * 7) 10) = Int.tdiv (bits * 7) 10 := by rw [Int.tdiv_eq_ediv_of_nonneg (by omega)]; unfold wrap64; omega
  have e3 : wrap64 (n * bits) = n * bits := by unfold wrap64; omega
  have e4 : wrap64 (n * bits + 7) = n * bits + 7 := by unfold wrap64; omega
  have e5 : wrap64 (Int.tdiv (n * bits + 7) 8) = Int.tdiv (n * bits + 7) 8 := by rw [Int.tdiv_eq_ediv_of_nonneg (by omega)]; unfold wrap64; omega
  have hK1 : (if Int.tdiv (bits * 7) 10 < 1 then 1 else Int.tdiv (bits * 7) 10) = newK1 bits := rfl
  have hK : (if 16 < newK1 bits then 16 else newK1 bits) = newK bits := rfl
  have hN : (if Int.tdiv (n * bits + 7) 8 < 1 then 1 else Int.tdiv (n * bits + 7) 8) = newN n bits := rfl
  have hNi := newN_in n bits h0 h1 h2 h3
  generalize newK1 bits = K1 at *
  generalize newK bits = K at *
  generalize newN n bits = N at *
  clear h0 h1 h2 h3 hm
  go_enter Try.func53, Try.ntmps53
  go_wp2_with ((with_reducible refine gate_dst (N := 30) rfl ?_); refine Kd.R_make (Kd.int .u8) w.heap.size 5 rfl (N := 30) rfl 27 _ _ rfl N rfl rfl Try.underlying27 (.int .u8 0) 1 info5 rfl (by decide) (by omega) 0 (ok := fun _ => True) (okp := fun _ => True) rfl (fun _ hk => hk) trivial (by omega) (by omega) (Below.refl _ _) (Nat.le_refl _) ?_; intro v w1 hr hb hg hn; obtain ⟨A, c, rfl⟩ := Kd.R_slice hr; replace hr := Aside0.mk hr; replace hb := Aside0.mk hb; clear hg hn)
  go_ret
  refine ⟨_, rfl, ⟨hb.out.size, _, (by first | exact heap_alloc_new w1 _ | (simpa using heap_alloc_new w1 _)), ?_⟩, below_alloc hb.out _⟩
  have h1 := Kd.R_mono (Kd.R_bound hr.out) (ok' := fun j => j < w1.heap.size) (fun j hj => hj.2.2.1)
  rw [List.length_replicate] at h1
  exact Kd.R_alloc h1 _
set_option maxHeartbeats 8000000 in
set_option maxRecDepth 100000 in
theorem NewR_bad (n bits : Int) (w : World) (h : n < 0 ∨ 100000 < n ∨ bits < 1 ∨ 32 < bits) : Calls Try.prog 64 #[.int .i64 n, .int .i64 bits] w fun e w' => e = .returned (.pointer none) ∧ w' = w := by
  by_cases h0 : n < 0
  · have b0 : decide (n < 0) = true := decide_eq_true h0
    clear h h0
    go_enter Try.func64, Try.ntmps64
    go_wp2
    go_ret
    exact ⟨rfl, rfl⟩
  · have b0 : decide (n < 0) = false := decide_eq_false h0
    by_cases h1 : 100000 < n
    · have b1 : decide (100000 < n) = true := decide_eq_true h1
      clear h h0 h1
      go_enter Try.func64, Try.ntmps64
      go_wp2
      go_ret
      exact ⟨rfl, rfl⟩
    · have b1 : decide (100000 < n) = false := decide_eq_false h1
      by_cases h2 : bits < 1
      · have b2 : decide (bits < 1) = true := decide_eq_true h2
        clear h h0 h1 h2
        go_enter Try.func64, Try.ntmps64
        go_wp2
        go_ret
        exact ⟨rfl, rfl⟩
      · have b2 : decide (bits < 1) = false := decide_eq_false h2
        have b3 : decide (32 < bits) = true := decide_eq_true (by omega)
        clear h h0 h1 h2
        go_enter Try.func64, Try.ntmps64
        go_wp2
        go_ret
        exact ⟨rfl, rfl⟩

set_option maxHeartbeats 8000000 in
set_option maxRecDepth 100000 in
theorem NewR_ok (n bits : Int) (w : World) (h0 : 0 ≤ n) (h1 : n ≤ 100000) (h2 : 1 ≤ bits) (h3 : bits ≤ 32) :
    Calls Try.prog 64 #[.int .i64 n, .int .i64 bits] w fun e w' => ∃ g, e = .returned (.pointer (some ⟨g, 0, none⟩)) ∧ Fil 80 w' w.heap.size g (newK bits) (List.replicate (newN n bits).toNat 0) ∧ Below w.heap.size w w' := by
  have b0 : decide (n < 0) = false := decide_eq_false (by omega)
  have b1 : decide (100000 < n) = false := decide_eq_false (by omega)
  have b2 : decide (bits < 1) = false := decide_eq_false (by omega)
  have b3 : decide (32 < bits) = false := decide_eq_false (by omega)
  have hm := mul_in n bits h0 h1 h2 h3
  have e1 : wrap64 (bits * 7) = bits * 7 := by unfold wrap64; omega
  have e2 : wrap64 (Int.tdiv (bits * 7) 10) = Int.tdiv (bits * 7) 10 := by rw [Int.tdiv_eq_ediv_of_nonneg (by omega)]; unfold wrap64; omega
  have e3 : wrap64 (n * bits) = n * bits := by unfold wrap64; omega
  have e4 : wrap64 (n * bits + 7) = n * bits + 7 := by unfold wrap64; omega
  have e5 : wrap64 (Int.tdiv (n * bits + 7) 8) = Int.tdiv (n * bits + 7) 8 := by rw [Int.tdiv_eq_ediv_of_nonneg (by omega)]; unfold wrap64; omega
  have hK1 : newK1 bits = if Int.tdiv (bits * 7) 10 < 1 then 1 else Int.tdiv (bits * 7) 10 := rfl
  have hK : newK bits = if 16 < newK1 bits then 16 else newK1 bits := rfl
  have hN : newN n bits = if Int.tdiv (n * bits + 7) 8 < 1 then 1 else Int.tdiv (n * bits + 7) 8 := rfl
  have hNi := newN_in n bits h0 h1 h2 h3
  clear h0 h1 h2 h3 hm
  by_cases s1 : Int.tdiv (n * bits + 7) 8 < 1 <;> by_cases s2 : Int.tdiv (bits * 7) 10 < 1
  all_goals (first | rw [if_pos s1] at hN | rw [if_neg s1] at hN)
  all_goals (first | rw [if_pos s2] at hK1 | rw [if_neg s2] at hK1)
  all_goals (rw [hK1] at hK)
  all_goals (rw [hN] at hNi)
  all_goals (rw [hK, hN])
  all_goals (clear hK1 hK hN)
  all_goals (first | have c1 := decide_eq_false s1 | have c1 := decide_eq_true s1)
  all_goals (first | have c2 := decide_eq_false s2 | have c2 := decide_eq_true s2)
  all_goals (clear s1 s2)
  all_goals (generalize hq : (n * bits + 7).tdiv 8 = q at *)
  all_goals (generalize hr : (bits * 7).tdiv 10 = r at *)
  all_goals (try by_cases s3 : 16 < r)
  all_goals (try rw [if_pos s3])
  all_goals (try rw [if_neg s3])
  all_goals (try rw [if_neg (show ¬ (16 : Int) < 1 by omega)])
  all_goals (try (first | have c3 := decide_eq_false s3 | have c3 := decide_eq_true s3))
  all_goals (try clear s3)
  all_goals (go_enter Try.func64, Try.ntmps64)
  all_goals (go_wp2_with ((with_reducible refine gate_dst (N := 37) rfl ?_); refine Kd.R_make (Kd.int .u8) w.heap.size 5 rfl (N := 37) rfl 27 _ _ rfl _ rfl rfl Try.underlying27 (.int .u8 0) 1 info5 rfl (by decide) (by omega) 0 (ok := fun _ => True) (okp := fun _ => True) rfl (fun _ hk => hk) trivial (by omega) (by omega) (Below.refl _ _) (Nat.le_refl _) ?_; intro v w1 hr hb hg hn; obtain ⟨A, c, rfl⟩ := Kd.R_slice hr; replace hr := Aside0.mk hr; replace hb := Aside0.mk hb; clear hg hn))
  all_goals go_ret
  all_goals (refine ⟨_, rfl, ⟨hb.out.size, _, (by first | exact heap_alloc_new w1 _ | (simpa using heap_alloc_new w1 _)), ?_⟩, below_alloc hb.out _⟩)
  all_goals (have h1 := Kd.R_mono (Kd.R_bound hr.out) (ok' := fun j => j < w1.heap.size) (fun j hj => hj.2.2.1))
  all_goals (rw [List.length_replicate] at h1)
  all_goals (exact Kd.R_alloc h1 _)
end Go.Proofs.Ytcopbkdlpfcjpaa.L
