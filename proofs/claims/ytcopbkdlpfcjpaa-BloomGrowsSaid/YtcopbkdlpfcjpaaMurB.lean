/- The murmur layer by hand: Sum. -/
import Derived.Test.YtcopbkdlpfcjpaaMurA
import Derived.StillTailTactics
import Derived.Tactics
import Derived.Tactics2
import Derived.StillTactics
import Derived.Defers
import Derived.Laws.AppendOwn
import Derived.Laws.Runes
import Derived.Laws.CopyRow
import Derived.Laws.Shifts
import Derived.Laws.Rows
import Derived.Laws.BitsLemmas
import Derived.Laws.Tables
import Derived.Laws.NewBlocks
import Derived.Laws.Unary
import Derived.Laws.Strings
import Derived.Laws.NewFold
import Derived.Laws.ShiftsVarLaws
import Derived.Laws.Bits
import Derived.Laws.Alloc2
import Derived.Laws.Bits128
import Derived.Laws.Strings2
import Derived.Laws.Wrap64
import Derived.Laws.ShiftsVar
import Derived.Laws.Closers25
import Derived.Laws.RangeString
import Derived.Laws.Concat
import Derived.Laws.Cells
import Derived.Laws.NewDeep
import Derived.Laws.Pointers
import Derived.Laws.StructEq
import Derived.Laws.Closers25b
import Derived.Laws.StandIn
import Derived.Laws.Bits64b
import Derived.Laws.LoneSync
import Derived.Laws.ByValue
import Derived.Laws.MathBits
import Derived.Laws.Externs
import Derived.Laws.BitsAll
import Derived.Laws.BitsAllLaws
import Derived.Laws.Bits64
import Derived.Laws.OwnMore
import Derived.Laws.Build
import Derived.Laws.ResultCell
import Derived.Laws.Entries
import Derived.Laws.Append
import Derived.Laws.RangeAny
import Derived.Laws.World
import Derived.Laws.Strings3
import Derived.Laws.Sem
import Derived.Laws.Slices
import Derived.Laws.MakeOwn
import Derived.Laws.Small
import Derived.Laws.BytesString
import Derived.Scope
import Derived.FnLit
import Derived.RegionTactic
import Derived.LoopTactic
import Derived.BigRegion
import Derived.WalkMore
namespace Go.Proofs.Ytcopbkdlpfcjpaa.M
open Go.RowKit Go.Proofs.YtcopbkdlpfcjpaaW.PrintWords Go.Proofs.YtcopbkdlpfcjpaaW.PrintLast Go.Proofs.YtcopbkdlpfcjpaaW.PrintMore Go.Proofs.Ytcopbkdlpfcjpaa.B
attribute [local go_sem] max2_int min2_int max_two min_two max_three min_three max_four min_four
set_option linter.unusedVariables false
set_option linter.unusedSimpArgs false

def sumH (l : List Int) (h g : Int) : Int := IntKind.u64.wrap (IntKind.u64.wrap (IntKind.u64.wrap (rot (Go.bits .xor .u64 h (lowS l)) 27 + g) * 5) + 1390208809)
def sumG (l : List Int) (h g : Int) : Int := IntKind.u64.wrap (IntKind.u64.wrap (IntKind.u64.wrap (rot (Go.bits .xor .u64 g (highS (l.drop 8))) 31 + h) * 5) + 944331445)
def sumL : Nat → List Int → Int → Int → List Int × Int × Int
  | 0, l, h, g => (l, h, g)
  | k + 1, l, h, g => if l.length < 16 then (l, h, g) else sumL k (l.drop 16) (sumH l h g) (sumG l (sumH l h g) g)
def sumE (n : Int) (l : List Int) (h g : Int) : Int × Int :=
  let g1 := if 8 < l.length then Go.bits .xor .u64 g (highS (l.drop 8)) else g
  let h1 := if 0 < l.length then Go.bits .xor .u64 h (lowS l) else h
  let h2 := Go.bits .xor .u64 h1 n
  let g2 := Go.bits .xor .u64 g1 n
  let h3 := IntKind.u64.wrap (h2 + g2)
  let g3 := IntKind.u64.wrap (g2 + h3)
  let h5 := IntKind.u64.wrap (mixS h3 + mixS g3)
  (h5, IntKind.u64.wrap (mixS g3 + h5))
def sumS (l : List Int) (seed : Int) : Int × Int :=
  let q := sumL l.length l seed seed
  sumE (IntKind.u64.wrap (l.length : Int)) q.1 q.2.1 q.2.2
theorem sumL_end (k : Nat) (l : List Int) (h g : Int) (hl : l.length < 16) : sumL k l h g = (l, h, g) := by
  cases k with
  | zero => rfl
  | succ k => rw [sumL, if_pos hl]

/-- The world of Sum: the two blocks of h and g. -/
abbrev HG (w : World) (h g : Int) : World := (w.alloc (.cells #[.int .u64 h] 22)).alloc (.cells #[.int .u64 g] 22)

theorem setH (w : World) (h g v : Int) (m : Nat) : ((HG w h g).drewN m).setCell ⟨w.heap.size, 0, none⟩ (.int .u64 v) = (HG w v g).drewN m := by
  have e : (HG w h g).setCell ⟨w.heap.size, 0, none⟩ (.int .u64 v) = HG w v g := by
    unfold HG
    rw [World.setCell_alloc_past _ _ _ _ (by simp), World.setCell_alloc_new]
    rfl
  calc _ = ((HG w h g).setCell ⟨w.heap.size, 0, none⟩ (.int .u64 v)).drewN m := rfl
    _ = _ := by rw [e]
theorem setG (w : World) (h g v : Int) (m : Nat) : ((HG w h g).drewN m).setCell ⟨w.heap.size + 1, 0, none⟩ (.int .u64 v) = (HG w h v).drewN m := by
  have e : (HG w h g).setCell ⟨w.heap.size + 1, 0, none⟩ (.int .u64 v) = HG w h v := by
    unfold HG
    rw [World.setCell_alloc_at _ _ _ _ _ (by simp)]
    rfl
  calc _ = ((HG w h g).setCell ⟨w.heap.size + 1, 0, none⟩ (.int .u64 v)).drewN m := rfl
    _ = _ := by rw [e]
/-- A slice from k on. -/
theorem cutC {A : Option Addr} {c : Nat} {r : List Int} {k : Nat} {w : World} (hC : Kd.C (Kd.int .u8) w A r.length r) (hc : r.length ≤ c) (hk : k ≤ r.length) :
    ∃ A', (∀ W, (Instr.slice 27 (.slice A r.length c) (some (.int .i64 (k : Int))) none none).run Try.prog W = .ok (.slice A' (r.drop k).length (c - k)) W) ∧ Kd.C (Kd.int .u8) w A' (r.drop k).length (r.drop k) ∧ (r.drop k).length ≤ c - k := by
  obtain ⟨i0, hi0, _, hsz, _⟩ := info_parts info5
  have h1 := cut_from (P := Try.prog) 27 5 .i64 Try.underlying27 hi0 1 hsz A r.length c (k : Int) (by omega) (by omega)
  have h2 := Kd.C_drop (m := k) (c := c) hC hk hc
  rw [Int.toNat_natCast] at h1
  exact ⟨_, by rw [List.length_drop]; exact h1, h2, by rw [List.length_drop]; omega⟩

set_option maxHeartbeats 8000000 in
set_option maxRecDepth 100000 in
theorem add_c (w : World) (h g : Int) (m : Nat) : Calls Try.prog 89 #[.pointer (some ⟨w.heap.size, 0, none⟩), .pointer (some ⟨w.heap.size + 1, 0, none⟩)] ((HG w h g).drewN m) fun e w' => e = .returned (.tuple #[]) ∧ w' = (HG w (IntKind.u64.wrap (h + g)) (IntKind.u64.wrap (g + IntKind.u64.wrap (h + g)))).drewN m := by
  go_enter Try.func89, Try.ntmps89
  go_wp2
  rw [setH, setG]
  first | go_end0 | (go_ret2)
  exact ⟨rfl, rfl⟩

set_option maxHeartbeats 8000000 in
set_option maxRecDepth 100000 in
theorem fin17 (Q : Exit → Act → World → Prop) (t0 t1 t2 t3 t4 t5 t8 t9 t10 t11 t12 t13 t14 t15 t16 t17 t18 t19 t20 t21 t22 t23 t24 t25 t26 t27 t28 t29 t30 t31 t32 t33 t34 t35 t36 t37 t38 t39 t40 t41 t42 t43 t44 t45 t46 t47 t48 t49 t50 t51 t52 t53 t54 t55 t56 t57 t58 t59 t60 t61 t62 t63 t64 t65 t66 t67 t68 t69 t70 t71 t72 t73 : Value) (w : World) (h g : Int) (m : Nat)
    (hQ : ∀ n, Q .normal { tmps := #[t0, t1, t2, t3, .int .u64 h, .int .u64 g, .pointer (some ⟨w.heap.size, 0, none⟩), .pointer (some ⟨w.heap.size + 1, 0, none⟩), t8, t9, t10, t11, t12, t13, t14, t15, t16, t17, t18, t19, t20, t21, t22, t23, t24, t25, t26, t27, t28, t29, t30, t31, t32, t33, t34, t35, t36, t37, t38, t39, t40, t41, t42, t43, t44, t45, t46, t47, t48, t49, t50, t51, t52, t53, t54, t55, t56, t57, t58, t59, t60, t61, t62, t63, t64, t65, t66, t67, t68, t69, t70, t71, .int .u64 h, .int .u64 g], defers := [] } (((HG w h g).drewN m).drewN n)) :
    Code.wp Try.prog (Code.region 17
      #[{ dst := some 72, op := Op.load 22 (Operand.tmp 6), type := 22, pos := "murmur.go:64", after := #[],
          guard := none },
        { dst := some 73, op := Op.load 22 (Operand.tmp 7), type := 22, pos := "murmur.go:64",
          after := #[{ on := 2, ground := Ground.gcOnly Departure.lateStores }], guard := none },
        { dst := some 4, op := Op.assign (Operand.tmp 72), type := 22, pos := "murmur.go:64",
          after :=
            #[{ on := 0, ground := Ground.data }, { on := 0, ground := Ground.phase },
              { on := 1, ground := Ground.textOnly Departure.lateStores }],
          guard := none },
        { dst := some 5, op := Op.assign (Operand.tmp 73), type := 22, pos := "murmur.go:64",
          after :=
            #[{ on := 1, ground := Ground.data }, { on := 2, ground := Ground.chain },
              { on := 0, ground := Ground.phase }, { on := 1, ground := Ground.phase },
              { on := 2, ground := Ground.phase }],
          guard := none }]
      true) Q { tmps := #[t0, t1, t2, t3, t4, t5, .pointer (some ⟨w.heap.size, 0, none⟩), .pointer (some ⟨w.heap.size + 1, 0, none⟩), t8, t9, t10, t11, t12, t13, t14, t15, t16, t17, t18, t19, t20, t21, t22, t23, t24, t25, t26, t27, t28, t29, t30, t31, t32, t33, t34, t35, t36, t37, t38, t39, t40, t41, t42, t43, t44, t45, t46, t47, t48, t49, t50, t51, t52, t53, t54, t55, t56, t57, t58, t59, t60, t61, t62, t63, t64, t65, t66, t67, t68, t69, t70, t71, t72, t73], defers := [] } ((HG w h g).drewN m) := by
  go_quiet (fail)
  exact hQ _

set_option maxHeartbeats 8000000 in
set_option maxRecDepth 100000 in
theorem sum_c (A0 : Option Addr) (c0 : Nat) (l0 : List Int) (seed : Int) (w : World) (hr0 : Kd.C (Kd.int .u8) w A0 l0.length l0) (hc0 : l0.length ≤ c0) :
    Calls Try.prog 57 #[.slice A0 l0.length c0, .int .u64 seed] w fun e w' => e = .returned (.tuple #[.int .u64 (sumS l0 seed).1, .int .u64 (sumS l0 seed).2]) ∧ Below w.heap.size w w' := by
  have HR0 := Aside0.mk hr0
  have HC0 := Aside0.mk hc0
  clear hr0 hc0
  have hmf : ∀ (fn : Fn) (first cap : Array Value) (w : World), (Instr.makeFunc fn first cap).run Try.prog w = .ok (.func fn first cap) w := fun _ _ _ _ => rfl
  have hal : ∀ w : World, (Instr.alloc 22 true (.tuple #[])).run Try.prog w = .ok (.pointer (some ⟨w.heap.size, 0, none⟩)) (w.alloc (.cells #[.int .u64 0] 22)) := fun _ => by kernel_rfl
  go_enter Try.func57, Try.ntmps57
  go_wp2
  go_step3
  go_wp2
  go_step3
  go_wp2
  go_loopg [8] l0.length (fun kq v8 w' => ∃ (A : Option Addr) (c : Nat) (r : List Int) (h g : Int) (m : Nat), v8 = .slice A r.length c ∧ Aside0 (r.length ≤ c) ∧ Aside0 (Kd.C (Kd.int .u8) w A r.length r) ∧ Aside0 (sumL kq r h g = sumL l0.length l0 seed seed) ∧ Aside0 (r.length ≤ kq) ∧ w' = (HG w h g).drewN m)
  case atStart => exact ⟨A0, c0, l0, seed, seed, 0, rfl, HC0, HR0, ⟨rfl⟩, ⟨Nat.le_refl _⟩, rfl⟩
  case round =>
    obtain ⟨A, c, r, h, g, m, rfl, HC, HR, HS, HK, rfl⟩ := hrel
    have hC : ∀ (A : Option Addr) (r : List Int), Kd.C (Kd.int .u8) w A r.length r → ∀ h g m, Kd.C (Kd.int .u8) ((HG w h g).drewN m) A r.length r := fun A r hR h g m => Kd.C_drewN (Kd.C_alloc (Kd.C_alloc hR _) _) m
    by_cases hl : (r.length : Int) < 16
    · have hlb : decide ((r.length : Int) < 16) = true := decide_eq_true hl
      have hE : sumL l0.length l0 seed seed = (r, h, g) := by rw [← HS.out]; exact sumL_end _ _ _ _ (by omega)
      clear hl HS
      go_upto_if 41 with (fail)
      go_cut [42] (fun _ wc => ∃ m', wc = (HG w h (if 8 < r.length then Go.bits .xor .u64 g (highS (r.drop 8)) else g)).drewN m')
      case first =>
        by_cases h8 : 8 < (r.length : Int)
        · have hb : decide (8 < (r.length : Int)) = true := decide_eq_true h8
          (first | rw [hb] | skip)
          obtain ⟨r8, hr8⟩ : ∃ x, x = r.drop 8 := ⟨_, rfl⟩
          obtain ⟨A8, cut8, HR8, HC8⟩ := cutC (k := 8) HR.out HC.out (by omega)
          rw [← hr8] at cut8 HR8 HC8
          replace cut8 : ∀ W, (Instr.slice 27 (.slice A r.length c) (some (.int .i64 8)) none none).run Try.prog W = .ok (.slice A8 r8.length (c - 8)) W := cut8
          have q8 : ((8 : Int) ≤ (r.length : Int)) = True := eq_true (by omega)
          replace HR8 := Aside0.mk HR8
          replace HC8 := Aside0.mk HC8
          replace hr8 := Aside0.mk hr8
          have HL := Aside0.mk h8
          clear h8
          go_wp2_with (fail)
          refine wp_region_still_tail 5 (by kernel_rfl) (by kernel_rfl) ?_
          simp only [List.take_succ_cons, List.take_zero, List.drop_succ_cons, List.drop_zero]
          change wpStill _ _ ((HG w h g).drewN (m+1)) (fun a' => wpList _ _ _ _ a' ((HG w h g).drewN (m+1))) _ _
          still_step
          still_step
          still_step
          still_call (high_c _ _ _ _ (hC _ _ HR8.out h g _) HC8.out)
          repeat still_step
          refine wpStill_nil ?_
          go_wp2_with (fail)
          rw [setG]
          go_meet
          case rel => exact ⟨m + 1, by rw [if_pos (by have := HL.out; omega), ← hr8.out]⟩
        · have hb : decide (8 < (r.length : Int)) = false := decide_eq_false h8
          (first | rw [hb] | skip)
          go_wp2_with (fail)
          go_meet
          case rel => exact ⟨m, by rw [if_neg (by omega)]⟩
      case rest =>
        obtain ⟨m', rfl⟩ := hcut
        obtain ⟨g1, hg1⟩ : ∃ g1, (if 8 < r.length then Go.bits .xor .u64 g (highS (r.drop 8)) else g) = g1 := ⟨_, rfl⟩
        rw [hg1]
        replace hg1 := Aside0.mk hg1
        go_upto_if 49 with (fail)
        go_cut [50] (fun _ wc => ∃ m'', wc = (HG w (if 0 < r.length then Go.bits .xor .u64 h (lowS r) else h) g1).drewN m'')
        case first =>
          by_cases h8 : 0 < (r.length : Int)
          · have hb : decide (0 < (r.length : Int)) = true := decide_eq_true h8
            have hbn : decide (0 < r.length) = true := decide_eq_true (by omega)
            (first | rw [hb] | rw [hbn] | skip)
            have HL := Aside0.mk h8
            clear h8
            go_wp2_with (fail)
            refine wp_region_still_tail 4 (by kernel_rfl) (by kernel_rfl) ?_
            simp only [List.take_succ_cons, List.take_zero, List.drop_succ_cons, List.drop_zero]
            change wpStill _ _ ((HG w h g1).drewN (m'+1)) (fun a' => wpList _ _ _ _ a' ((HG w h g1).drewN (m'+1))) _ _
            still_step
            still_step
            still_call (low_c _ _ _ _ (hC _ _ HR.out h g1 _) HC.out)
            repeat still_step
            refine wpStill_nil ?_
            go_wp2_with (fail)
            rw [setH]
            go_meet
            case rel => exact ⟨m' + 1, by rw [if_pos (by have := HL.out; omega)]⟩
          · have hb : decide (0 < (r.length : Int)) = false := decide_eq_false h8
            have hbn : decide (0 < r.length) = false := decide_eq_false (by omega)
            (first | rw [hb] | rw [hbn] | skip)
            go_wp2_with (fail)
            go_meet
            case rel => exact ⟨m', by rw [if_neg (by omega)]⟩
        case rest =>
          obtain ⟨m2, rfl⟩ := hcut
          obtain ⟨h1, hh1⟩ : ∃ h1, (if 0 < r.length then Go.bits .xor .u64 h (lowS r) else h) = h1 := ⟨_, rfl⟩
          rw [hh1]
          replace hh1 := Aside0.mk hh1
          go_upto_region 13 with (fail)
          go_cut [58] (fun _ wc => ∃ m', wc = (HG w (Go.bits .xor .u64 h1 (IntKind.u64.wrap (l0.length : Int))) (Go.bits .xor .u64 g1 (IntKind.u64.wrap (l0.length : Int)))).drewN m')
          case first =>
            go_region
            rw [setH, setG]
            go_wp2_with (fail)
            go_meet
            case rel => exact ⟨_, rfl⟩
          case rest =>
            obtain ⟨m3, rfl⟩ := hcut
            generalize hh2 : Go.bits .xor .u64 h1 (IntKind.u64.wrap (l0.length : Int)) = h2
            generalize hg2 : Go.bits .xor .u64 g1 (IntKind.u64.wrap (l0.length : Int)) = g2
            replace hh2 := Aside0.mk hh2
            replace hg2 := Aside0.mk hg2
            go_upto_region 15 with ((go_at_call 89; refine (add_c _ _ _ _).mono ?_; rintro e w' ⟨rfl, rfl⟩))
            generalize hh3 : IntKind.u64.wrap (h2 + g2) = h3
            generalize hg3 : IntKind.u64.wrap (g2 + h3) = g3
            replace hh3 := Aside0.mk hh3
            replace hg3 := Aside0.mk hg3
            go_cut [67] (fun _ wc => ∃ m', wc = (HG w (mixS h3) (mixS g3)).drewN m')
            case first =>
              refine wp_region_still_tail 4 (by kernel_rfl) (by kernel_rfl) ?_
              simp only [List.take_succ_cons, List.take_zero, List.drop_succ_cons, List.drop_zero]
              change wpStill _ _ ((HG w h3 g3).drewN (m3 + 1)) (fun a' => wpList _ _ _ _ a' ((HG w h3 g3).drewN (m3 + 1))) _ _
              still_step
              still_call (mix_c _ _)
              still_step
              still_call (mix_c _ _)
              refine wpStill_nil ?_
              go_wp2_with (fail)
              rw [setH, setG]
              go_meet
              case rel => exact ⟨_, rfl⟩
            case rest =>
              obtain ⟨m4, rfl⟩ := hcut
              go_upto_region 17 with ((go_at_call 89; refine (add_c _ _ _ _).mono ?_; rintro e w' ⟨rfl, rfl⟩))
              generalize hh5 : IntKind.u64.wrap (mixS h3 + mixS g3) = h5
              generalize hg5 : IntKind.u64.wrap (mixS g3 + h5) = g5
              replace hh5 := Aside0.mk hh5
              replace hg5 := Aside0.mk hg5
              have hS : sumS l0 seed = (h5, g5) := by
                unfold sumS
                rw [hE]
                simp only [sumE]
                rw [hg1.out, hh1.out, hh2.out, hg2.out, hh3.out, hg3.out, hh5.out, hg5.out]
              replace hS := Aside0.mk hS
              clear hE hg1 hh1 hh2 hg2 hh3 hg3 hh5 hg5 hC HR HC HK hlb hal hmf
              apply fin17
              intro nq
              go_wp2_with (fail)
              simp only [Exit.noGoto_ret]
              go_ret2
              refine ⟨?_, ?_⟩
              · rw [hS.out]
                rfl
              · exact pw_below_drewN (pw_below_drewN (below_alloc (below_alloc (Below.refl _ _) _) _) _) _
    · have hlb : decide ((r.length : Int) < 16) = false := decide_eq_false hl
      obtain ⟨r8, hr8⟩ : ∃ x, x = r.drop 8 := ⟨_, rfl⟩
      obtain ⟨r16, hr16⟩ : ∃ x, x = r.drop 16 := ⟨_, rfl⟩
      obtain ⟨A8, cut8, HR8, HC8⟩ := cutC (k := 8) HR.out HC.out (by omega)
      obtain ⟨A16, cut16, HR16, HC16⟩ := cutC (k := 16) HR.out HC.out (by omega)
      rw [← hr8] at cut8 HR8 HC8
      rw [← hr16] at cut16 HR16 HC16
      replace hr8 := Aside0.mk hr8
      replace hr16 := Aside0.mk hr16
      replace cut8 : ∀ W, (Instr.slice 27 (.slice A r.length c) (some (.int .i64 8)) none none).run Try.prog W = .ok (.slice A8 r8.length (c - 8)) W := cut8
      replace cut16 : ∀ W, (Instr.slice 27 (.slice A r.length c) (some (.int .i64 16)) none none).run Try.prog W = .ok (.slice A16 r16.length (c - 16)) W := cut16
      have q8 : ((8 : Int) ≤ (r.length : Int)) = True := eq_true (by omega)
      have q16 : ((16 : Int) ≤ (r.length : Int)) = True := eq_true (by omega)
      replace HR8 := Aside0.mk HR8
      replace HR16 := Aside0.mk HR16
      replace HC16 := Aside0.mk HC16
      replace HC8 := Aside0.mk HC8
      have HL := Aside0.mk hl
      clear hl
      go_wp2_with (fail)
      refine wp_region_still_tail 9 (by kernel_rfl) (by kernel_rfl) ?_
      simp only [List.take_succ_cons, List.take_zero, List.drop_succ_cons, List.drop_zero]
      change wpStill _ _ ((HG w h g).drewN (m+1)) (fun a' => wpList _ _ _ _ a' ((HG w h g).drewN (m+1))) _ _
      still_step
      still_step
      still_call (low_c _ _ _ _ (hC _ _ HR.out h g _) HC.out)
      still_step
      still_call (rot27 _ _)
      repeat still_step
      refine wpStill_nil ?_
      go_wp2_with (fail)
      rw [setH]
      refine wp_region_still_tail 10 (by kernel_rfl) (by kernel_rfl) ?_
      simp only [List.take_succ_cons, List.take_zero, List.drop_succ_cons, List.drop_zero]
      change wpStill _ _ ((HG w (sumH r h g) g).drewN (m+1+1)) (fun a' => wpList _ _ _ _ a' ((HG w (sumH r h g) g).drewN (m+1+1))) _ _
      still_step
      still_step
      still_step
      still_call (high_c _ _ _ _ (hC _ _ HR8.out (sumH r h g) g _) HC8.out)
      still_step
      still_call (rot31 _ _)
      repeat still_step
      refine wpStill_nil ?_
      go_wp2_with (fail)
      rw [setG]
      go_roundg (gk - 1)
      case measure => have := HK.out; have := HL.out; omega
      case rel =>
        refine ⟨A16, c - 16, r16, sumH r h g, _, m + 1 + 1, rfl, HC16, HR16, ⟨?_⟩, ⟨?_⟩, rfl⟩
        · have h1 := HS.out
          have h2 := HL.out
          have h3 := HK.out
          obtain ⟨k, rfl⟩ : ∃ k, gk = k + 1 := ⟨gk - 1, by omega⟩
          rw [sumL, if_neg (by omega), ← hr16.out, sumG, ← hr8.out] at h1
          exact h1
        · have h2 := HL.out
          have h3 := HK.out
          rw [hr16.out, List.length_drop]
          omega
end Go.Proofs.Ytcopbkdlpfcjpaa.M
