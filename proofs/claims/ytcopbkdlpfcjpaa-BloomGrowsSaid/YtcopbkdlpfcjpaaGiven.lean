/- The contracts of three functions, Kept and Lend of the references and codec.fourth: what the Go code answers, its memory told. -/
import Derived.Test.YtcopbkdlpfcjpaaProg
import Derived.Below
import Derived.Deep.Draws
import Derived.Deep.AppendLies
import Derived.Maps.AppendAt
import Derived.OwnWalk
import Derived.Laws.BytesArg
import Derived.Laws.MakeOwn
import Derived.Laws.OwnMore
import Derived.Deep.OwnRows
import Derived.Tactics
import Derived.Lib.ConvBytes
import Derived.Laws.Slices
import Derived.WalkKit
import Derived.KernelRfl
import Derived.RowKit3
import Derived.Deep.LoopGhost
import Derived.Deep.QuietTactic
import Derived.BigQuiet
import Derived.WideLaws
import Derived.Deep.DeepCutAuto
import Derived.Deep.CutBlock
import Derived.Deep.RegionHeld3
import Derived.Laws.Rows
import Derived.Lib.AppendStr
import Derived.ArgAppend
import Derived.Laws.IdiomCopy
import Derived.OrdersHeld
import Derived.Laws.BitsLemmas
import Derived.RowKit
import Derived.Test.YtcopbkdlpfcjpaaMine
import Derived.Test.YtcopbkdlpfcjpaaWWords
import Derived.Test.YtcopbkdlpfcjpaaWLast
import Derived.Test.YtcopbkdlpfcjpaaWTab
import Derived.Test.YtcopbkdlpfcjpaaWFour
import Derived.Test.YtcopbkdlpfcjpaaWQPut
import Derived.Test.YtcopbkdlpfcjpaaWApart
import Derived.Test.YtcopbkdlpfcjpaaWArr
import Derived.Test.YtcopbkdlpfcjpaaWZeros
import Derived.Test.YtcopbkdlpfcjpaaWFoot
import Derived.Test.YtcopbkdlpfcjpaaWKept
import Derived.Test.YtcopbkdlpfcjpaaWShare
import Derived.Test.YtcopbkdlpfcjpaaWN
import Derived.Test.YtcopbkdlpfcjpaaWFootNe
import Derived.Test.YtcopbkdlpfcjpaaWAt
import Derived.Test.YtcopbkdlpfcjpaaWEqStruct
import Derived.Test.YtcopbkdlpfcjpaaWRepsOne
import Derived.Test.YtcopbkdlpfcjpaaWInv
import Derived.Test.YtcopbkdlpfcjpaaWInvWords
import Derived.Test.YtcopbkdlpfcjpaaWGuard
import Derived.Test.YtcopbkdlpfcjpaaWNEv
import Derived.Test.YtcopbkdlpfcjpaaWMore
namespace Go.Proofs.Ytcopbkdlpfcjpaa
open Go.RowKit Go.Proofs.YtcopbkdlpfcjpaaW.PrintWords Go.Proofs.YtcopbkdlpfcjpaaW.PrintLast Go.Proofs.YtcopbkdlpfcjpaaW.PrintMore
attribute [local go_sem] max2_int min2_int max_two min_two max_three min_three max_four min_four
set_option linter.unusedVariables false
set_option linter.unusedSimpArgs false

theorem info5 : (Try.prog.info? 5).map (fun i => (i.zero, i.size, i.bytes)) = some (some (.int .u8 0), 1, 1) := by kernel_rfl
/-! ### skerryref01_Kept: function 32 -/
def skerryref01_Kept.f (l0 : List Int) (l1 : List Int) : Option (Bool) := if (l0.length : Int) = (wrap64 ((l1.length : Int) + 2)) then (if 0 < (l0.length : Int) then (if (rd l0 0) = 165 then (if 0 ≤ (wrap64 ((l1.length : Int) + 1)) then (if (wrap64 ((l1.length : Int) + 1)) < (l0.length : Int) then (if (rd l0 (wrap64 ((l1.length : Int) + 1))) = 90 then (if 1 ≤ (wrap64 ((l1.length : Int) + 1)) then (if (wrap64 ((l1.length : Int) + 1)) ≤ (l0.length : Int) then (some ((strOfNums ((l0.take ((wrap64 ((l1.length : Int) + 1)) : Int).toNat).drop 1)).toList == (strOfNums l1).toList)) else (none)) else (none)) else (some false)) else (none)) else (none)) else (some false)) else (none)) else (some false)
set_option maxHeartbeats 8000000 in
set_option maxRecDepth 100000 in
theorem skerryref01_Kept.calls (A0 : Option Addr) (c0 : Nat) (l0 : List Int) (A1 : Option Addr) (c1 : Nat) (l1 : List Int) (r : Bool) (w : World) (hr0 : Kd.C (Kd.int .u8) w A0 l0.length l0) (hc0 : l0.length ≤ c0) (hr1 : Kd.C (Kd.int .u8) w A1 l1.length l1) (hc1 : l1.length ≤ c1) (h : skerryref01_Kept.f l0 l1 = some r) :
    Calls Try.prog 32 #[.slice A0 l0.length c0, .slice A1 l1.length c1] w fun e w' => e = .returned (.bool r) ∧ Drawn0 w w' := by
  have HR0 := Aside0.mk hr0
  have HC0 := Aside0.mk hc0
  clear hr0 hc0
  have HR1 := Aside0.mk hr1
  have HC1 := Aside0.mk hc1
  clear hr1 hc1
  have H : (if (l0.length : Int) = (wrap64 ((l1.length : Int) + 2)) then (if 0 < (l0.length : Int) then (if (rd l0 0) = 165 then (if 0 ≤ (wrap64 ((l1.length : Int) + 1)) then (if (wrap64 ((l1.length : Int) + 1)) < (l0.length : Int) then (if (rd l0 (wrap64 ((l1.length : Int) + 1))) = 90 then (if 1 ≤ (wrap64 ((l1.length : Int) + 1)) then (if (wrap64 ((l1.length : Int) + 1)) ≤ (l0.length : Int) then (some ((strOfNums ((l0.take ((wrap64 ((l1.length : Int) + 1)) : Int).toNat).drop 1)).toList == (strOfNums l1).toList)) else (none)) else (none)) else (some false)) else (none)) else (none)) else (some false)) else (none)) else (some false)) = some r := h
  clear h
  by_cases c3 : (l0.length : Int) = (wrap64 ((l1.length : Int) + 2))
  · rw [if_pos c3] at H
    have c3b0 : ((l0.length : Int) == (wrap64 ((l1.length : Int) + 2))) = true := beq_iff_eq.mpr c3
    have c3b1 : ((l0.length : Int) != (wrap64 ((l1.length : Int) + 2))) = false := bne_eq_false_iff_eq.mpr c3
    (try (have c3b2 : ((l0.length : Int) == (IntKind.i64.wrap ((l1.length : Int) + 2))) = true := by simp only [i64_w, i32_w]; exact beq_iff_eq.mpr c3))
    (try (have c3b3 : ((l0.length : Int) != (IntKind.i64.wrap ((l1.length : Int) + 2))) = false := by simp only [i64_w, i32_w]; exact bne_eq_false_iff_eq.mpr c3))
    clear c3
    by_cases c4 : 0 < (l0.length : Int)
    · rw [if_pos c4] at H
      have c4b0 : decide (0 < (l0.length : Int)) = true := decide_eq_true c4
      have c4b1 : decide (0 < l0.length) = true := decide_eq_true (by omega)
      clear c4
      by_cases c5 : (rd l0 0) = 165
      · rw [if_pos c5] at H
        have c5b0 : ((rd l0 0) == 165) = true := beq_iff_eq.mpr c5
        have c5b1 : ((rd l0 0) != 165) = false := bne_eq_false_iff_eq.mpr c5
        clear c5
        obtain ⟨ji6, hji6⟩ : ∃ j_ : Int, (wrap64 ((l1.length : Int) + 1)) = j_ := ⟨_, rfl⟩
        replace H : (if 0 ≤ (ji6) then (if (ji6) < (l0.length : Int) then (if (rd l0 (ji6)) = 90 then (if 1 ≤ (ji6) then (if (ji6) ≤ (l0.length : Int) then (some ((strOfNums ((l0.take ((ji6) : Int).toNat).drop 1)).toList == (strOfNums l1).toList)) else (none)) else (none)) else (some false)) else (none)) else (none)) = some r := by first | (rw [hji6] at H; exact H) | (simp only [hji6] at H ⊢; exact H)
        have hji6w : (IntKind.i64.wrap ((l1.length : Int) + 1)) = ji6 := (i64_w _).trans hji6
        by_cases c7 : 0 ≤ (ji6)
        · rw [if_pos c7] at H
          have c7b0 : decide (0 ≤ (ji6)) = true := decide_eq_true c7
          clear c7
          by_cases c8 : (ji6) < (l0.length : Int)
          · rw [if_pos c8] at H
            have c8b0 : decide ((ji6) < (l0.length : Int)) = true := decide_eq_true c8
            clear c8
            by_cases c9 : (rd l0 (ji6)) = 90
            · rw [if_pos c9] at H
              have c9b0 : ((rd l0 (ji6)) == 90) = true := beq_iff_eq.mpr c9
              have c9b1 : ((rd l0 (ji6)) != 90) = false := bne_eq_false_iff_eq.mpr c9
              clear c9
              by_cases c10 : 1 ≤ (ji6)
              · rw [if_pos c10] at H
                have c10b0 := eq_true c10
                have c10b1 : decide (1 ≤ (ji6)) = true := decide_eq_true c10
                clear c10
                by_cases c11 : (ji6) ≤ (l0.length : Int)
                · rw [if_pos c11] at H
                  have c11b0 := eq_true c11
                  have c11b1 : decide ((ji6) ≤ (l0.length : Int)) = true := decide_eq_true c11
                  clear c11
                  obtain rfl := Option.some.inj H
                  have p226 : 0 ≤ (0 : Int) := (by omega)
                  have q226 : 0 < (l0.length : Int) := of_decide_eq_true (by first | (with_reducible assumption) | assumption)
                  obtain ⟨ad226, e226, hx226_0⟩ := Kd.at_int HR0.out 0 p226 q226
                  cases e226
                  have qi226 : (0 < l0.length) = True := eq_true (by omega)
                  (try rw [show ((0 : Int)).toNat = 0 from rfl] at hx226_0)
                  (try rw [Addr.add_zero'] at hx226_0)
                  replace p226 := eq_true p226
                  replace q226 := eq_true q226
                  have p227 : 0 ≤ ((ji6) : Int) := of_decide_eq_true (by first | (with_reducible assumption) | assumption)
                  have q227 : (ji6) < (l0.length : Int) := of_decide_eq_true (by first | (with_reducible assumption) | assumption)
                  obtain ⟨ad227, e227, hx227_0⟩ := Kd.at_int HR0.out (ji6) p227 q227
                  obtain rfl : ad226 = ad227 := (by injection e227)
                  replace p227 := eq_true p227
                  replace q227 := eq_true q227
                  obtain ⟨i012, hi012, _, hsz12, _⟩ := info_parts info5
                  obtain ⟨A12, hcut12, hA12, hC12⟩ := print_mid_of (P := Try.prog) (Value.int .u8) 0 27 5 .i64 .i64 Try.underlying27 hi012 hsz12 (some ad226) c0 l0 1 (ji6) (by omega) (by first | omega | exact of_decide_eq_true (by first | (with_reducible assumption) | assumption)) (of_decide_eq_true (by first | (with_reducible assumption) | assumption)) HC0.out
                  have HR228 := Aside0.mk (Kd.C_of_reads (h1 := fun _ => rfl) (hA12 _ (Kd.reads_of_C HR0.out)))
                  have HC228 := Aside0.mk hC12
                  clear hA12 hC12 hi012 hsz12
                  have hlq : (List.drop (Int.toNat 1) (List.take ji6.toNat l0)).length = ji6.toNat - 1 := by rw [List.length_drop, List.length_take]; have := of_decide_eq_true c11b1; simp; omega
                  have hcv13 : ∀ n : Nat, Sem.run Try.prog (convert 27 9 (Value.slice A12 (ji6.toNat - 1) (c0 - 1))) (w.drewN n) = Result.ok (Value.string (strOfNums (List.drop 1 (List.take ji6.toNat l0)))) (w.drewN n) := fun n => by
                    have h_ := Kd.C_string (P := Try.prog) (A := A12) (c := (c0 - 1)) Try.underlying27 Try.underlying5 Try.underlying9 (Kd.C_drewN HR228.out n)
                    rw [hlq] at h_
                    exact h_
                  clear hlq
                  have hcv14 := fun n : Nat => Kd.C_string (P := Try.prog) (A := A1) (c := c1) Try.underlying27 Try.underlying5 Try.underlying9 (Kd.C_drewN HR1.out n)
                  go_enter Try.func32, Try.ntmps32
                  go_wp2
                  repeat (go_quiet (fail); try go_wp2)
                  go_ret
                  exact ⟨by first | rfl | (simp; done) | (simp only [← hji6] <;> (first | rfl | simp)) | (simp [*]; done), by repeat (first | exact Drawn0.refl _ | apply Drawn0.step)⟩
                · rw [if_neg c11] at H
                  exact absurd H (by simp)
              · rw [if_neg c10] at H
                exact absurd H (by simp)
            · rw [if_neg c9] at H
              have c9b0 : ((rd l0 (ji6)) == 90) = false := beq_eq_false_iff_ne.mpr c9
              have c9b1 : ((rd l0 (ji6)) != 90) = true := bne_iff_ne.mpr c9
              obtain rfl := Option.some.inj H
              have p226 : 0 ≤ (0 : Int) := (by omega)
              have q226 : 0 < (l0.length : Int) := of_decide_eq_true (by first | (with_reducible assumption) | assumption)
              obtain ⟨ad226, e226, hx226_0⟩ := Kd.at_int HR0.out 0 p226 q226
              cases e226
              have qi226 : (0 < l0.length) = True := eq_true (by omega)
              (try rw [show ((0 : Int)).toNat = 0 from rfl] at hx226_0)
              (try rw [Addr.add_zero'] at hx226_0)
              replace p226 := eq_true p226
              replace q226 := eq_true q226
              have p227 : 0 ≤ ((ji6) : Int) := of_decide_eq_true (by first | (with_reducible assumption) | assumption)
              have q227 : (ji6) < (l0.length : Int) := of_decide_eq_true (by first | (with_reducible assumption) | assumption)
              obtain ⟨ad227, e227, hx227_0⟩ := Kd.at_int HR0.out (ji6) p227 q227
              obtain rfl : ad226 = ad227 := (by injection e227)
              replace p227 := eq_true p227
              replace q227 := eq_true q227
              go_enter Try.func32, Try.ntmps32
              go_wp2
              repeat (go_quiet (fail); try go_wp2)
              go_ret
              exact ⟨by first | rfl | (simp; done) | (simp only [← hji6] <;> (first | rfl | simp)) | (simp [*]; done), by repeat (first | exact Drawn0.refl _ | apply Drawn0.step)⟩
          · rw [if_neg c8] at H
            exact absurd H (by simp)
        · rw [if_neg c7] at H
          exact absurd H (by simp)
      · rw [if_neg c5] at H
        have c5b0 : ((rd l0 0) == 165) = false := beq_eq_false_iff_ne.mpr c5
        have c5b1 : ((rd l0 0) != 165) = true := bne_iff_ne.mpr c5
        obtain rfl := Option.some.inj H
        have p226 : 0 ≤ (0 : Int) := (by omega)
        have q226 : 0 < (l0.length : Int) := of_decide_eq_true (by first | (with_reducible assumption) | assumption)
        obtain ⟨ad226, e226, hx226_0⟩ := Kd.at_int HR0.out 0 p226 q226
        cases e226
        have qi226 : (0 < l0.length) = True := eq_true (by omega)
        (try rw [show ((0 : Int)).toNat = 0 from rfl] at hx226_0)
        (try rw [Addr.add_zero'] at hx226_0)
        replace p226 := eq_true p226
        replace q226 := eq_true q226
        go_enter Try.func32, Try.ntmps32
        go_wp2
        repeat (go_quiet (fail); try go_wp2)
        go_ret
        exact ⟨by first | rfl | (simp; done) | (simp [*]; done), by repeat (first | exact Drawn0.refl _ | apply Drawn0.step)⟩
    · rw [if_neg c4] at H
      exact absurd H (by simp)
  · rw [if_neg c3] at H
    have c3b0 : ((l0.length : Int) == (wrap64 ((l1.length : Int) + 2))) = false := beq_eq_false_iff_ne.mpr c3
    have c3b1 : ((l0.length : Int) != (wrap64 ((l1.length : Int) + 2))) = true := bne_iff_ne.mpr c3
    (try (have c3b2 : ((l0.length : Int) == (IntKind.i64.wrap ((l1.length : Int) + 2))) = false := by simp only [i64_w, i32_w]; exact beq_eq_false_iff_ne.mpr c3))
    (try (have c3b3 : ((l0.length : Int) != (IntKind.i64.wrap ((l1.length : Int) + 2))) = true := by simp only [i64_w, i32_w]; exact bne_iff_ne.mpr c3))
    obtain rfl := Option.some.inj H
    go_enter Try.func32, Try.ntmps32
    go_wp2
    repeat (go_quiet (fail); try go_wp2)
    go_ret
    exact ⟨by first | rfl | (simp; done) | (simp [*]; done), by repeat (first | exact Drawn0.refl _ | apply Drawn0.step)⟩

theorem len_cut (W : Int) (x : List Int) (h1 : 1 ≤ W) (h2 : W ≤ (x.length : Int)) : (List.drop 1 (List.take W.toNat x)).length = W.toNat - (1 : Int).toNat := by
  rw [List.length_drop, List.length_take]
  have e : (1 : Int).toNat = 1 := rfl
  rw [e]
  omega
theorem toNat_le_of {W : Int} {n : Nat} (h : W ≤ (n : Int)) : W.toNat ≤ n := by omega
theorem one_le_of {W : Int} (h : 1 ≤ W) : (1 : Int).toNat ≤ W.toNat := by
  have e : (1 : Int).toNat = 1 := rfl
  rw [e]
  omega
/-! ### skerryref01_Lend: function 26 -/
def skerryref01_Lend.l0 : Nat → List Int → List Int → List Int → Int → Int → Option (List Int × List Int)
  | 0, _, _, _, _, _ => none
  | k + 1, x0, x4, x18, x19, x20 => if x20 < x19 then (if 0 ≤ x20 then (if x20 < (x18.length : Int) then (if 0 ≤ (wrap64 (x20 + 1)) then (if (wrap64 (x20 + 1)) < (x4.length : Int) then (skerryref01_Lend.l0 k x0 (x4.set ((wrap64 (x20 + 1)) : Int).toNat (rd x18 x20)) x18 x19 (wrap64 (x20 + 1))) else (none)) else (none)) else (none)) else (none)) else (if 1 ≤ (wrap64 ((x0.length : Int) + 1)) then (if (wrap64 ((x0.length : Int) + 1)) ≤ (x4.length : Int) then (some (x4, ((x4.take ((wrap64 ((x0.length : Int) + 1)) : Int).toNat).drop 1))) else (none)) else (none))
def skerryref01_Lend.f (k : Nat) (l0 : List Int) : Option (List Int × List Int) := if 0 ≤ (wrap64 ((l0.length : Int) + 2)) then (if (wrap64 ((l0.length : Int) + 2) : Int).toNat ≤ 281474976710656 then ((some (List.replicate (wrap64 ((l0.length : Int) + 2) : Int).toNat 0 : List Int)).bind fun y171 => (if 0 < (y171.length : Int) then (if 0 ≤ (wrap64 ((l0.length : Int) + 1)) then (if (wrap64 ((l0.length : Int) + 1)) < (y171.length : Int) then (skerryref01_Lend.l0 k l0 ((y171.set (0 : Int).toNat 165).set ((wrap64 ((l0.length : Int) + 1)) : Int).toNat 90) l0 (l0.length : Int) 0) else (none)) else (none)) else (none))) else (none)) else (none)
theorem skerryref01_Lend.mono_l : ∀ k, (∀ y0 y1 y2 y3 y4, LeO (skerryref01_Lend.l0 k y0 y1 y2 y3 y4) (skerryref01_Lend.l0 (k + 1) y0 y1 y2 y3 y4))
  | 0 => fun _ _ _ _ _ r h => by simp [skerryref01_Lend.l0] at h
  | k + 1 => by
    have ih0 := skerryref01_Lend.mono_l k
    · intro y0 y1 y2 y3 y4
      unfold skerryref01_Lend.l0
      repeat' first
      | (with_reducible exact ih0 _ _ _ _ _)
      | (with_reducible exact LeO.refl _)
      | (with_reducible exact LeO.none _)
      | (with_reducible refine LeO.ite ?_ ?_)
      | (with_reducible refine LeO.bind ?_ (fun _ => ?_))
      | exact ih0 _ _ _ _ _
      | exact LeO.none _
      | refine LeO.ite ?_ ?_
      | refine LeO.bind ?_ (fun _ => ?_)
theorem skerryref01_Lend.mono : ∀ a0 k, LeO (skerryref01_Lend.f k a0) (skerryref01_Lend.f (k + 1) a0) := by
  intro a0 k
  have ih0 := skerryref01_Lend.mono_l k
  unfold skerryref01_Lend.f
  repeat' first
      | (with_reducible exact ih0 _ _ _ _ _)
      | (with_reducible exact LeO.refl _)
      | (with_reducible exact LeO.none _)
      | (with_reducible refine LeO.ite ?_ ?_)
      | (with_reducible refine LeO.bind ?_ (fun _ => ?_))
      | exact ih0 _ _ _ _ _
      | exact LeO.none _
      | refine LeO.ite ?_ ?_
      | refine LeO.bind ?_ (fun _ => ?_)
set_option maxHeartbeats 8000000 in
set_option maxRecDepth 100000 in
theorem skerryref01_Lend.calls (k : Nat) (A0 : Option Addr) (c0 : Nat) (l0 : List Int) (r1 : List Int) (r2 : List Int) (w : World) (hr0 : Kd.C (Kd.int .u8) w A0 l0.length l0) (hc0 : l0.length ≤ c0) (h : skerryref01_Lend.f k l0 = some (r1, r2)) :
    Calls Try.prog 26 #[.slice A0 l0.length c0] w fun e w' => ∃ v0_ v1_ : Value, e = .returned (.tuple #[v0_, v1_]) ∧ Kd.R (Kd.int .u8) 5 w' w.heap.size (fun _ => True) v0_ r1 ∧ Kd.Q (Kd.int .u8) 5 w' w.heap.size (fun _ => True) v1_ r2 ∧ Below w.heap.size w w' := by
  have HR0 := Aside0.mk hr0
  have HC0 := Aside0.mk hc0
  clear hr0 hc0
  have HB := Aside0.mk (Below.refl w.heap.size w)
  have H : (if 0 ≤ (wrap64 ((l0.length : Int) + 2)) then (if (wrap64 ((l0.length : Int) + 2) : Int).toNat ≤ 281474976710656 then ((some (List.replicate (wrap64 ((l0.length : Int) + 2) : Int).toNat 0 : List Int)).bind fun y171 => (if 0 < (y171.length : Int) then (if 0 ≤ (wrap64 ((l0.length : Int) + 1)) then (if (wrap64 ((l0.length : Int) + 1)) < (y171.length : Int) then (skerryref01_Lend.l0 k l0 ((y171.set (0 : Int).toNat 165).set ((wrap64 ((l0.length : Int) + 1)) : Int).toNat 90) l0 (l0.length : Int) 0) else (none)) else (none)) else (none))) else (none)) else (none)) = some (r1, r2) := h
  clear h
  obtain ⟨ji2, hji2⟩ : ∃ j_ : Int, (wrap64 ((l0.length : Int) + 2)) = j_ := ⟨_, rfl⟩
  replace H : (if 0 ≤ (ji2) then (if (ji2 : Int).toNat ≤ 281474976710656 then ((some (List.replicate (ji2 : Int).toNat 0 : List Int)).bind fun y171 => (if 0 < (y171.length : Int) then (if 0 ≤ (wrap64 ((l0.length : Int) + 1)) then (if (wrap64 ((l0.length : Int) + 1)) < (y171.length : Int) then (skerryref01_Lend.l0 k l0 ((y171.set (0 : Int).toNat 165).set ((wrap64 ((l0.length : Int) + 1)) : Int).toNat 90) l0 (l0.length : Int) 0) else (none)) else (none)) else (none))) else (none)) else (none)) = some (r1, r2) := by first | (rw [hji2] at H; exact H) | (simp only [hji2] at H ⊢; exact H)
  have hji2w : (IntKind.i64.wrap ((l0.length : Int) + 2)) = ji2 := (i64_w _).trans hji2
  by_cases c3 : 0 ≤ (ji2)
  · rw [if_pos c3] at H
    have c3b0 := eq_true c3
    have c3b1 : decide (0 ≤ (ji2)) = true := decide_eq_true c3
    clear c3
    by_cases c4 : (ji2 : Int).toNat ≤ 281474976710656
    · rw [if_pos c4] at H
      have c4b0 := eq_true c4
      have c4b1 : decide ((ji2 : Int).toNat ≤ 281474976710656) = true := decide_eq_true c4
      clear c4
      obtain ⟨y171, hy171⟩ : ∃ y_ : List Int, y_ = (List.replicate (ji2 : Int).toNat 0) := ⟨_, rfl⟩
      replace H : (if 0 < (y171.length : Int) then (if 0 ≤ (wrap64 ((l0.length : Int) + 1)) then (if (wrap64 ((l0.length : Int) + 1)) < (y171.length : Int) then (skerryref01_Lend.l0 k l0 ((y171.set (0 : Int).toNat 165).set ((wrap64 ((l0.length : Int) + 1)) : Int).toNat 90) l0 (l0.length : Int) 0) else (none)) else (none)) else (none)) = some (r1, r2) := by first | (rw [hy171]; with_reducible exact H) | (have H2_ := (Option.bind_some _ _).symm.trans H; rw [hy171]; with_reducible exact H2_) | (have H2_ := (Option.bind_some _ _).symm.trans H; with_reducible exact H2_) | with_reducible exact H | (rw [hy171]; exact H) | exact H
      have Ny171 := Aside0.mk hy171
      clear hy171
      by_cases c5 : 0 < (y171.length : Int)
      · rw [if_pos c5] at H
        have c5b0 : decide (0 < (y171.length : Int)) = true := decide_eq_true c5
        have c5b1 : decide (0 < y171.length) = true := decide_eq_true (by omega)
        clear c5
        obtain ⟨y174, hy174⟩ : ∃ y_ : List Int, y_ = (y171.set (0 : Int).toNat 165) := ⟨_, rfl⟩
        replace H : (if 0 ≤ (wrap64 ((l0.length : Int) + 1)) then (if (wrap64 ((l0.length : Int) + 1)) < (y171.length : Int) then (skerryref01_Lend.l0 k l0 (y174.set ((wrap64 ((l0.length : Int) + 1)) : Int).toNat 90) l0 (l0.length : Int) 0) else (none)) else (none)) = some (r1, r2) := by first | (rw [hy174]; with_reducible exact H) | (have H2_ := (Option.bind_some _ _).symm.trans H; rw [hy174]; with_reducible exact H2_) | (have H2_ := (Option.bind_some _ _).symm.trans H; with_reducible exact H2_) | with_reducible exact H | (rw [hy174]; exact H) | exact H
        have Ny174 := Aside0.mk hy174
        clear hy174
        obtain ⟨ji7, hji7⟩ : ∃ j_ : Int, (wrap64 ((l0.length : Int) + 1)) = j_ := ⟨_, rfl⟩
        replace H : (if 0 ≤ (ji7) then (if (ji7) < (y171.length : Int) then (skerryref01_Lend.l0 k l0 (y174.set ((ji7) : Int).toNat 90) l0 (l0.length : Int) 0) else (none)) else (none)) = some (r1, r2) := by first | (rw [hji7] at H; exact H) | (simp only [hji7] at H ⊢; exact H)
        have hji7w : (IntKind.i64.wrap ((l0.length : Int) + 1)) = ji7 := (i64_w _).trans hji7
        by_cases c8 : 0 ≤ (ji7)
        · rw [if_pos c8] at H
          have c8b0 : decide (0 ≤ (ji7)) = true := decide_eq_true c8
          clear c8
          by_cases c9 : (ji7) < (y171.length : Int)
          · rw [if_pos c9] at H
            have c9b0 : decide ((ji7) < (y171.length : Int)) = true := decide_eq_true c9
            clear c9
            obtain ⟨y175, hy175⟩ : ∃ y_ : List Int, y_ = (y174.set ((ji7) : Int).toNat 90) := ⟨_, rfl⟩
            replace H : (skerryref01_Lend.l0 k l0 y175 l0 (l0.length : Int) 0) = some (r1, r2) := by first | (rw [hy175]; with_reducible exact H) | (have H2_ := (Option.bind_some _ _).symm.trans H; rw [hy175]; with_reducible exact H2_) | (have H2_ := (Option.bind_some _ _).symm.trans H; with_reducible exact H2_) | with_reducible exact H | (rw [hy175]; exact H) | exact H
            have Ny175 := Aside0.mk hy175
            clear hy175
            have H' := Aside0.mk H
            clear H
            go_enter Try.func26, Try.ntmps26
            go_wp2_with (first | ((with_reducible refine gate_dst (N := 10) rfl ?_); refine Kd.R_make (Kd.int .u8) _ 5 rfl (N := 10) rfl 27 _ _ rfl ji2 rfl rfl Try.underlying27 (.int .u8 0) 1 info5 rfl (by decide) (by omega) 0 (ok := fun _ => True) (okp := fun _ => True) rfl (fun _ hk => hk) trivial (of_decide_eq_true (by first | (with_reducible assumption) | assumption)) (Nat.le_trans (Nat.mul_le_mul_right _ (of_decide_eq_true (by first | (with_reducible assumption) | assumption) : ji2.toNat ≤ 281474976710656)) (by omega)) (Below.refl _ _) (Nat.le_refl _) ?_; intro v172 w11 ho12 hb hg_ hnew_; clear hg_ hnew_; (first | rw [← Ny171.out] at ho12 | (simp only [Int.reduceToNat] at ho12; rw [← Ny171.out] at ho12)); have n0_ := Aside0.mk (Kd.R_lower ho12 (below_size (by repeat (first | (with_reducible first | exact HB.out | apply below_alloc | apply pw_below_drewN | apply below_drew1) | exact HB.out)))); have n1_ := Aside0.mk (below_step (by repeat (first | (with_reducible first | exact HB.out | apply below_alloc | apply pw_below_drewN | apply below_drew1) | exact HB.out)) hb); clear HB; have HO173 := n0_; have HB := n1_; clear n0_ n1_; clear hb ho12; have p6 : 0 ≤ (0 : Int) := (by omega); have q6 : (0 : Int) < ((y171.length : Int) : Int) := of_decide_eq_true (by first | (with_reducible assumption) | assumption); have qi6 : (0 < y171.length) = True := eq_true (by omega); obtain ⟨go6, co6, eo6, gb6, gl6, cl6, HG6⟩ := Kd.R_form HO173.out (by omega); (first | cases eo6 | (injection eo6 with ea_ en_ ec_; (first | subst ea_ | (injection ea_ with ea_; subst ea_)); subst ec_; clear en_)); have GB6 := Aside0.mk gb6; have GG6 := Aside0.mk HG6; clear gb6 gl6 HG6; obtain ⟨hx6_0, hf6_0⟩ := Kd.R_celln 0 HO173.out (0 : Int) p6 q6; (try rw [show ((0 : Int)).toNat = 0 from rfl] at hx6_0); (try simp only [Nat.reduceMul, Nat.zero_mul, Nat.zero_add, Nat.reduceAdd] at hx6_0); (try rw [show ((0 : Int)).toNat = 0 from rfl] at hf6_0); (try simp only [Nat.reduceMul, Nat.zero_mul, Nat.zero_add, Nat.reduceAdd] at hf6_0); replace p6 := eq_true p6; replace q6 := eq_true q6; obtain ⟨hy13_, hz13_⟩ := Kd.R_celln 0 HO173.out (0 : Int) (by omega) (of_decide_eq_true (by first | (with_reducible assumption) | assumption)); (try simp only [Int.reduceToNat, Int.toNat_zero, Int.toNat_ofNat, Nat.reduceMul, Nat.zero_mul, Nat.zero_add] at hy13_ hz13_); (try rw [show ((0 : Int)).toNat = 0 from rfl] at hy13_); (try rw [show ((0 : Int)).toNat = 0 from rfl] at hz13_); have HP13 := Kd.R_putg HO173.out (0 : Int) 165) | ((with_reducible refine gate_store (t := 5) (p := 16) rfl ?_); (try (rw [drewN_self w11]; generalize hq_ : World.drewN w11 _ = w11; have n0_ := Aside0.mk (Kd.R_at hq_ HO173.out); have n1_ := Aside0.mk (below_at hq_ HB.out); clear hq_ HO173 HB; have HO173 := n0_; have HB := n1_; clear n0_ n1_; (try (obtain ⟨hy13_, hz13_⟩ := Kd.R_celln 0 HO173.out (0 : Int) (by omega) (of_decide_eq_true (by first | (with_reducible assumption) | assumption)))); (try (try simp only [Int.reduceToNat, Int.toNat_zero, Int.toNat_ofNat, Nat.reduceMul, Nat.zero_mul, Nat.zero_add] at hy13_ hz13_)); (try (try rw [show ((0 : Int)).toNat = 0 from rfl] at hy13_)); (try (try rw [show ((0 : Int)).toNat = 0 from rfl] at hz13_)); (try (have HP13 := Kd.R_putg HO173.out (0 : Int) 165)))); refine store_event (t := 5) (p := 16) (v := ?vo_w14) (w1 := (w11.setCell ⟨go6, (0 : Int).toNat, none⟩ (.int .u8 165))) ?hg ?ho ?hn ?hr ?_; (case ho => rfl); (case hg => rfl); (case hn => rfl); (case hr => first | (go_simp; done) | (go_simp; rfl)); intro w14 hw; have hg : w11.grownBy w14 (some go6) := (by rw [hw]; exact HP13.2); have hp_ : Kd.R (Kd.int .u8) 5 w14 w.heap.size (fun _ => True) (.slice (some ⟨go6, 0, none⟩) y171.length co6) y174 := (by rw [hw, Ny174.out]; exact HP13.1); clear HP13; have n0_ := Aside0.mk (hp_); have n1_ := Aside0.mk ((by rw [hw]; exact below_set (HB.out) GB6.out : Below w.heap.size w w14)); clear HO173; clear HB; have HO173 := n0_; have HB := n1_; clear n0_ n1_; clear hg hw hp_; have p10 : 0 ≤ ((ji7) : Int) := of_decide_eq_true (by first | (with_reducible assumption) | assumption); have q10 : ((ji7) : Int) < ((y171.length : Int) : Int) := of_decide_eq_true (by first | (with_reducible assumption) | assumption); obtain ⟨hx10_0, hf10_0⟩ := Kd.R_celln 0 HO173.out ((ji7) : Int) p10 q10; replace p10 := eq_true p10; replace q10 := eq_true q10; obtain ⟨hy15_, hz15_⟩ := Kd.R_celln 0 HO173.out ((ji7) : Int) (of_decide_eq_true (by first | (with_reducible assumption) | assumption)) (of_decide_eq_true (by first | (with_reducible assumption) | assumption)); have HP15 := Kd.R_putg HO173.out ((ji7) : Int) 90) | ((with_reducible refine gate_store (t := 5) (p := 17) rfl ?_); (try (rw [drewN_self w14]; generalize hq_ : World.drewN w14 _ = w14; have n0_ := Aside0.mk (Kd.R_at hq_ HO173.out); have n1_ := Aside0.mk (below_at hq_ HB.out); clear hq_ HO173 HB; have HO173 := n0_; have HB := n1_; clear n0_ n1_; (try (obtain ⟨hy15_, hz15_⟩ := Kd.R_celln 0 HO173.out ((ji7) : Int) (of_decide_eq_true (by first | (with_reducible assumption) | assumption)) (of_decide_eq_true (by first | (with_reducible assumption) | assumption)))); (try (have HP15 := Kd.R_putg HO173.out ((ji7) : Int) 90)))); refine store_event (t := 5) (p := 17) (v := ?vo_w16) (w1 := (w14.setCell ⟨go6, ((ji7) : Int).toNat, none⟩ (.int .u8 90))) ?hg ?ho ?hn ?hr ?_; (case ho => rfl); (case hg => rfl); (case hn => rfl); (case hr => first | (go_simp; done) | (go_simp; rfl)); intro w16 hw; have hg : w14.grownBy w16 (some go6) := (by rw [hw]; exact HP15.2); have hp_ : Kd.R (Kd.int .u8) 5 w16 w.heap.size (fun _ => True) (.slice (some ⟨go6, 0, none⟩) y171.length co6) y175 := (by rw [hw, Ny175.out]; exact HP15.1); clear HP15; have n0_ := Aside0.mk (hp_); have n1_ := Aside0.mk ((by rw [hw]; exact below_set (HB.out) GB6.out : Below w.heap.size w w16)); clear HO173; clear HB; have HO173 := n0_; have HB := n1_; clear n0_ n1_; clear hg hw hp_))
            repeat (go_quiet (first | ((with_reducible refine gate_dst (N := 10) rfl ?_); refine Kd.R_make (Kd.int .u8) _ 5 rfl (N := 10) rfl 27 _ _ rfl ji2 rfl rfl Try.underlying27 (.int .u8 0) 1 info5 rfl (by decide) (by omega) 0 (ok := fun _ => True) (okp := fun _ => True) rfl (fun _ hk => hk) trivial (of_decide_eq_true (by first | (with_reducible assumption) | assumption)) (Nat.le_trans (Nat.mul_le_mul_right _ (of_decide_eq_true (by first | (with_reducible assumption) | assumption) : ji2.toNat ≤ 281474976710656)) (by omega)) (Below.refl _ _) (Nat.le_refl _) ?_; intro v172 w11 ho12 hb hg_ hnew_; clear hg_ hnew_; (first | rw [← Ny171.out] at ho12 | (simp only [Int.reduceToNat] at ho12; rw [← Ny171.out] at ho12)); have n0_ := Aside0.mk (Kd.R_lower ho12 (below_size (by repeat (first | (with_reducible first | exact HB.out | apply below_alloc | apply pw_below_drewN | apply below_drew1) | exact HB.out)))); have n1_ := Aside0.mk (below_step (by repeat (first | (with_reducible first | exact HB.out | apply below_alloc | apply pw_below_drewN | apply below_drew1) | exact HB.out)) hb); clear HB; have HO173 := n0_; have HB := n1_; clear n0_ n1_; clear hb ho12; have p6 : 0 ≤ (0 : Int) := (by omega); have q6 : (0 : Int) < ((y171.length : Int) : Int) := of_decide_eq_true (by first | (with_reducible assumption) | assumption); have qi6 : (0 < y171.length) = True := eq_true (by omega); obtain ⟨go6, co6, eo6, gb6, gl6, cl6, HG6⟩ := Kd.R_form HO173.out (by omega); (first | cases eo6 | (injection eo6 with ea_ en_ ec_; (first | subst ea_ | (injection ea_ with ea_; subst ea_)); subst ec_; clear en_)); have GB6 := Aside0.mk gb6; have GG6 := Aside0.mk HG6; clear gb6 gl6 HG6; obtain ⟨hx6_0, hf6_0⟩ := Kd.R_celln 0 HO173.out (0 : Int) p6 q6; (try rw [show ((0 : Int)).toNat = 0 from rfl] at hx6_0); (try simp only [Nat.reduceMul, Nat.zero_mul, Nat.zero_add, Nat.reduceAdd] at hx6_0); (try rw [show ((0 : Int)).toNat = 0 from rfl] at hf6_0); (try simp only [Nat.reduceMul, Nat.zero_mul, Nat.zero_add, Nat.reduceAdd] at hf6_0); replace p6 := eq_true p6; replace q6 := eq_true q6; obtain ⟨hy13_, hz13_⟩ := Kd.R_celln 0 HO173.out (0 : Int) (by omega) (of_decide_eq_true (by first | (with_reducible assumption) | assumption)); (try simp only [Int.reduceToNat, Int.toNat_zero, Int.toNat_ofNat, Nat.reduceMul, Nat.zero_mul, Nat.zero_add] at hy13_ hz13_); (try rw [show ((0 : Int)).toNat = 0 from rfl] at hy13_); (try rw [show ((0 : Int)).toNat = 0 from rfl] at hz13_); have HP13 := Kd.R_putg HO173.out (0 : Int) 165) | ((with_reducible refine gate_store (t := 5) (p := 16) rfl ?_); (try (rw [drewN_self w11]; generalize hq_ : World.drewN w11 _ = w11; have n0_ := Aside0.mk (Kd.R_at hq_ HO173.out); have n1_ := Aside0.mk (below_at hq_ HB.out); clear hq_ HO173 HB; have HO173 := n0_; have HB := n1_; clear n0_ n1_; (try (obtain ⟨hy13_, hz13_⟩ := Kd.R_celln 0 HO173.out (0 : Int) (by omega) (of_decide_eq_true (by first | (with_reducible assumption) | assumption)))); (try (try simp only [Int.reduceToNat, Int.toNat_zero, Int.toNat_ofNat, Nat.reduceMul, Nat.zero_mul, Nat.zero_add] at hy13_ hz13_)); (try (try rw [show ((0 : Int)).toNat = 0 from rfl] at hy13_)); (try (try rw [show ((0 : Int)).toNat = 0 from rfl] at hz13_)); (try (have HP13 := Kd.R_putg HO173.out (0 : Int) 165)))); refine store_event (t := 5) (p := 16) (v := ?vo_w14) (w1 := (w11.setCell ⟨go6, (0 : Int).toNat, none⟩ (.int .u8 165))) ?hg ?ho ?hn ?hr ?_; (case ho => rfl); (case hg => rfl); (case hn => rfl); (case hr => first | (go_simp; done) | (go_simp; rfl)); intro w14 hw; have hg : w11.grownBy w14 (some go6) := (by rw [hw]; exact HP13.2); have hp_ : Kd.R (Kd.int .u8) 5 w14 w.heap.size (fun _ => True) (.slice (some ⟨go6, 0, none⟩) y171.length co6) y174 := (by rw [hw, Ny174.out]; exact HP13.1); clear HP13; have n0_ := Aside0.mk (hp_); have n1_ := Aside0.mk ((by rw [hw]; exact below_set (HB.out) GB6.out : Below w.heap.size w w14)); clear HO173; clear HB; have HO173 := n0_; have HB := n1_; clear n0_ n1_; clear hg hw hp_; have p10 : 0 ≤ ((ji7) : Int) := of_decide_eq_true (by first | (with_reducible assumption) | assumption); have q10 : ((ji7) : Int) < ((y171.length : Int) : Int) := of_decide_eq_true (by first | (with_reducible assumption) | assumption); obtain ⟨hx10_0, hf10_0⟩ := Kd.R_celln 0 HO173.out ((ji7) : Int) p10 q10; replace p10 := eq_true p10; replace q10 := eq_true q10; obtain ⟨hy15_, hz15_⟩ := Kd.R_celln 0 HO173.out ((ji7) : Int) (of_decide_eq_true (by first | (with_reducible assumption) | assumption)) (of_decide_eq_true (by first | (with_reducible assumption) | assumption)); have HP15 := Kd.R_putg HO173.out ((ji7) : Int) 90) | ((with_reducible refine gate_store (t := 5) (p := 17) rfl ?_); (try (rw [drewN_self w14]; generalize hq_ : World.drewN w14 _ = w14; have n0_ := Aside0.mk (Kd.R_at hq_ HO173.out); have n1_ := Aside0.mk (below_at hq_ HB.out); clear hq_ HO173 HB; have HO173 := n0_; have HB := n1_; clear n0_ n1_; (try (obtain ⟨hy15_, hz15_⟩ := Kd.R_celln 0 HO173.out ((ji7) : Int) (of_decide_eq_true (by first | (with_reducible assumption) | assumption)) (of_decide_eq_true (by first | (with_reducible assumption) | assumption)))); (try (have HP15 := Kd.R_putg HO173.out ((ji7) : Int) 90)))); refine store_event (t := 5) (p := 17) (v := ?vo_w16) (w1 := (w14.setCell ⟨go6, ((ji7) : Int).toNat, none⟩ (.int .u8 90))) ?hg ?ho ?hn ?hr ?_; (case ho => rfl); (case hg => rfl); (case hn => rfl); (case hr => first | (go_simp; done) | (go_simp; rfl)); intro w16 hw; have hg : w14.grownBy w16 (some go6) := (by rw [hw]; exact HP15.2); have hp_ : Kd.R (Kd.int .u8) 5 w16 w.heap.size (fun _ => True) (.slice (some ⟨go6, 0, none⟩) y171.length co6) y175 := (by rw [hw, Ny175.out]; exact HP15.1); clear HP15; have n0_ := Aside0.mk (hp_); have n1_ := Aside0.mk ((by rw [hw]; exact below_set (HB.out) GB6.out : Below w.heap.size w w16)); clear HO173; clear HB; have HO173 := n0_; have HB := n1_; clear n0_ n1_; clear hg hw hp_)); try go_wp2_with (first | ((with_reducible refine gate_dst (N := 10) rfl ?_); refine Kd.R_make (Kd.int .u8) _ 5 rfl (N := 10) rfl 27 _ _ rfl ji2 rfl rfl Try.underlying27 (.int .u8 0) 1 info5 rfl (by decide) (by omega) 0 (ok := fun _ => True) (okp := fun _ => True) rfl (fun _ hk => hk) trivial (of_decide_eq_true (by first | (with_reducible assumption) | assumption)) (Nat.le_trans (Nat.mul_le_mul_right _ (of_decide_eq_true (by first | (with_reducible assumption) | assumption) : ji2.toNat ≤ 281474976710656)) (by omega)) (Below.refl _ _) (Nat.le_refl _) ?_; intro v172 w11 ho12 hb hg_ hnew_; clear hg_ hnew_; (first | rw [← Ny171.out] at ho12 | (simp only [Int.reduceToNat] at ho12; rw [← Ny171.out] at ho12)); have n0_ := Aside0.mk (Kd.R_lower ho12 (below_size (by repeat (first | (with_reducible first | exact HB.out | apply below_alloc | apply pw_below_drewN | apply below_drew1) | exact HB.out)))); have n1_ := Aside0.mk (below_step (by repeat (first | (with_reducible first | exact HB.out | apply below_alloc | apply pw_below_drewN | apply below_drew1) | exact HB.out)) hb); clear HB; have HO173 := n0_; have HB := n1_; clear n0_ n1_; clear hb ho12; have p6 : 0 ≤ (0 : Int) := (by omega); have q6 : (0 : Int) < ((y171.length : Int) : Int) := of_decide_eq_true (by first | (with_reducible assumption) | assumption); have qi6 : (0 < y171.length) = True := eq_true (by omega); obtain ⟨go6, co6, eo6, gb6, gl6, cl6, HG6⟩ := Kd.R_form HO173.out (by omega); (first | cases eo6 | (injection eo6 with ea_ en_ ec_; (first | subst ea_ | (injection ea_ with ea_; subst ea_)); subst ec_; clear en_)); have GB6 := Aside0.mk gb6; have GG6 := Aside0.mk HG6; clear gb6 gl6 HG6; obtain ⟨hx6_0, hf6_0⟩ := Kd.R_celln 0 HO173.out (0 : Int) p6 q6; (try rw [show ((0 : Int)).toNat = 0 from rfl] at hx6_0); (try simp only [Nat.reduceMul, Nat.zero_mul, Nat.zero_add, Nat.reduceAdd] at hx6_0); (try rw [show ((0 : Int)).toNat = 0 from rfl] at hf6_0); (try simp only [Nat.reduceMul, Nat.zero_mul, Nat.zero_add, Nat.reduceAdd] at hf6_0); replace p6 := eq_true p6; replace q6 := eq_true q6; obtain ⟨hy13_, hz13_⟩ := Kd.R_celln 0 HO173.out (0 : Int) (by omega) (of_decide_eq_true (by first | (with_reducible assumption) | assumption)); (try simp only [Int.reduceToNat, Int.toNat_zero, Int.toNat_ofNat, Nat.reduceMul, Nat.zero_mul, Nat.zero_add] at hy13_ hz13_); (try rw [show ((0 : Int)).toNat = 0 from rfl] at hy13_); (try rw [show ((0 : Int)).toNat = 0 from rfl] at hz13_); have HP13 := Kd.R_putg HO173.out (0 : Int) 165) | ((with_reducible refine gate_store (t := 5) (p := 16) rfl ?_); (try (rw [drewN_self w11]; generalize hq_ : World.drewN w11 _ = w11; have n0_ := Aside0.mk (Kd.R_at hq_ HO173.out); have n1_ := Aside0.mk (below_at hq_ HB.out); clear hq_ HO173 HB; have HO173 := n0_; have HB := n1_; clear n0_ n1_; (try (obtain ⟨hy13_, hz13_⟩ := Kd.R_celln 0 HO173.out (0 : Int) (by omega) (of_decide_eq_true (by first | (with_reducible assumption) | assumption)))); (try (try simp only [Int.reduceToNat, Int.toNat_zero, Int.toNat_ofNat, Nat.reduceMul, Nat.zero_mul, Nat.zero_add] at hy13_ hz13_)); (try (try rw [show ((0 : Int)).toNat = 0 from rfl] at hy13_)); (try (try rw [show ((0 : Int)).toNat = 0 from rfl] at hz13_)); (try (have HP13 := Kd.R_putg HO173.out (0 : Int) 165)))); refine store_event (t := 5) (p := 16) (v := ?vo_w14) (w1 := (w11.setCell ⟨go6, (0 : Int).toNat, none⟩ (.int .u8 165))) ?hg ?ho ?hn ?hr ?_; (case ho => rfl); (case hg => rfl); (case hn => rfl); (case hr => first | (go_simp; done) | (go_simp; rfl)); intro w14 hw; have hg : w11.grownBy w14 (some go6) := (by rw [hw]; exact HP13.2); have hp_ : Kd.R (Kd.int .u8) 5 w14 w.heap.size (fun _ => True) (.slice (some ⟨go6, 0, none⟩) y171.length co6) y174 := (by rw [hw, Ny174.out]; exact HP13.1); clear HP13; have n0_ := Aside0.mk (hp_); have n1_ := Aside0.mk ((by rw [hw]; exact below_set (HB.out) GB6.out : Below w.heap.size w w14)); clear HO173; clear HB; have HO173 := n0_; have HB := n1_; clear n0_ n1_; clear hg hw hp_; have p10 : 0 ≤ ((ji7) : Int) := of_decide_eq_true (by first | (with_reducible assumption) | assumption); have q10 : ((ji7) : Int) < ((y171.length : Int) : Int) := of_decide_eq_true (by first | (with_reducible assumption) | assumption); obtain ⟨hx10_0, hf10_0⟩ := Kd.R_celln 0 HO173.out ((ji7) : Int) p10 q10; replace p10 := eq_true p10; replace q10 := eq_true q10; obtain ⟨hy15_, hz15_⟩ := Kd.R_celln 0 HO173.out ((ji7) : Int) (of_decide_eq_true (by first | (with_reducible assumption) | assumption)) (of_decide_eq_true (by first | (with_reducible assumption) | assumption)); have HP15 := Kd.R_putg HO173.out ((ji7) : Int) 90) | ((with_reducible refine gate_store (t := 5) (p := 17) rfl ?_); (try (rw [drewN_self w14]; generalize hq_ : World.drewN w14 _ = w14; have n0_ := Aside0.mk (Kd.R_at hq_ HO173.out); have n1_ := Aside0.mk (below_at hq_ HB.out); clear hq_ HO173 HB; have HO173 := n0_; have HB := n1_; clear n0_ n1_; (try (obtain ⟨hy15_, hz15_⟩ := Kd.R_celln 0 HO173.out ((ji7) : Int) (of_decide_eq_true (by first | (with_reducible assumption) | assumption)) (of_decide_eq_true (by first | (with_reducible assumption) | assumption)))); (try (have HP15 := Kd.R_putg HO173.out ((ji7) : Int) 90)))); refine store_event (t := 5) (p := 17) (v := ?vo_w16) (w1 := (w14.setCell ⟨go6, ((ji7) : Int).toNat, none⟩ (.int .u8 90))) ?hg ?ho ?hn ?hr ?_; (case ho => rfl); (case hg => rfl); (case hn => rfl); (case hr => first | (go_simp; done) | (go_simp; rfl)); intro w16 hw; have hg : w14.grownBy w16 (some go6) := (by rw [hw]; exact HP15.2); have hp_ : Kd.R (Kd.int .u8) 5 w16 w.heap.size (fun _ => True) (.slice (some ⟨go6, 0, none⟩) y171.length co6) y175 := (by rw [hw, Ny175.out]; exact HP15.1); clear HP15; have n0_ := Aside0.mk (hp_); have n1_ := Aside0.mk ((by rw [hw]; exact below_set (HB.out) GB6.out : Below w.heap.size w w16)); clear HO173; clear HB; have HO173 := n0_; have HB := n1_; clear n0_ n1_; clear hg hw hp_)))
            go_loopg [20] k (fun kq v20 w' => ∃ (x4_1 : List Int) (x20_1 : Int), v20 = .int .i64 x20_1 ∧ Aside0 (skerryref01_Lend.l0 kq l0 x4_1 l0 (l0.length : Int) x20_1 = some (r1, r2)) ∧ Aside0 (kq ≤ k) ∧ Aside0 (Kd.R (Kd.int .u8) 5 w' w.heap.size (fun _ => True) (.slice (some ⟨go6, 0, none⟩) y171.length co6) x4_1) ∧ Aside0 (Below w.heap.size w w'))
            case atStart => exact ⟨(y175), (0), (by first | rfl | (simp; done) | (simp [*]; done)), H', ⟨Nat.le_refl _⟩, ⟨by (with_reducible repeat (first | apply Kd.R_alloc | apply Kd.R_drewN | apply Kd.R_drew)); exact HO173.out⟩, ⟨by repeat (first | (with_reducible first | exact HB.out | apply below_alloc | apply pw_below_drewN | apply below_drew1) | exact HB.out)⟩⟩
            case round =>
              clear H'
              try clear p1
              try clear q1
              try clear hx1
              try clear hf1
              try clear c2
              try clear p2
              try clear c3
              try clear c3b0
              try clear c3b1
              try clear c4
              try clear c4b0
              try clear c4b1
              try clear c5
              try clear c5b0
              try clear c5b1
              try clear p6
              try clear q6
              try clear hx6
              try clear qi6
              try clear hf6
              try clear c8
              try clear c8b0
              try clear c9
              try clear c9b0
              try clear p10
              try clear q10
              try clear hx10
              try clear hf10
              try clear hx10_0
              try clear hx6_0
              try clear p10
              try clear p6
              try clear q10
              try clear q6
              obtain ⟨x4_1, x20_1, rfl, HA, HK1, HO_4, HB⟩ := hrel
              have hl4_1 := (Kd.R_reads' HO_4.out).1
              rw [hl4_1] at HO_4
              (try simp only [hl4_1])
              cases gk with
              | zero => exact absurd HA.out (by simp [skerryref01_Lend.l0])
              | succ k1 =>
                have H := HA.out
                clear HA
                simp only [skerryref01_Lend.l0] at H
                by_cases c17 : x20_1 < (l0.length : Int)
                · rw [if_pos c17] at H
                  have c17b0 : decide (x20_1 < (l0.length : Int)) = true := decide_eq_true c17
                  clear c17
                  by_cases c18 : 0 ≤ x20_1
                  · rw [if_pos c18] at H
                    have c18b0 : decide (0 ≤ x20_1) = true := decide_eq_true c18
                    clear c18
                    by_cases c19 : x20_1 < (l0.length : Int)
                    · rw [if_pos c19] at H
                      have c19b0 : decide (x20_1 < (l0.length : Int)) = true := decide_eq_true c19
                      clear c19
                      obtain ⟨ji20, hji20⟩ : ∃ j_ : Int, (wrap64 (x20_1 + 1)) = j_ := ⟨_, rfl⟩
                      replace H : (if 0 ≤ (ji20) then (if (ji20) < (x4_1.length : Int) then (skerryref01_Lend.l0 k1 l0 (x4_1.set ((ji20) : Int).toNat (rd l0 x20_1)) l0 (l0.length : Int) ji20) else (none)) else (none)) = some (r1, r2) := by first | (rw [hji20] at H; exact H) | (simp only [hji20] at H ⊢; exact H)
                      have hji20w : (IntKind.i64.wrap (x20_1 + 1)) = ji20 := (i64_w _).trans hji20
                      by_cases c21 : 0 ≤ (ji20)
                      · rw [if_pos c21] at H
                        have c21b0 : decide (0 ≤ (ji20)) = true := decide_eq_true c21
                        clear c21
                        by_cases c22 : (ji20) < (x4_1.length : Int)
                        · rw [if_pos c22] at H
                          have c22b0 : decide ((ji20) < (x4_1.length : Int)) = true := decide_eq_true c22
                          clear c22
                          obtain ⟨y177, hy177⟩ : ∃ y_ : List Int, y_ = (x4_1.set ((ji20) : Int).toNat (rd l0 x20_1)) := ⟨_, rfl⟩
                          replace H : (skerryref01_Lend.l0 k1 l0 y177 l0 (l0.length : Int) ji20) = some (r1, r2) := by first | (rw [hy177]; with_reducible exact H) | (have H2_ := (Option.bind_some _ _).symm.trans H; rw [hy177]; with_reducible exact H2_) | (have H2_ := (Option.bind_some _ _).symm.trans H; with_reducible exact H2_) | with_reducible exact H | (rw [hy177]; exact H) | exact H
                          have Ny177 := Aside0.mk hy177
                          clear hy177
                          have H' := Aside0.mk H
                          clear H
                          have p176 : 0 ≤ (x20_1 : Int) := of_decide_eq_true (by first | (with_reducible assumption) | assumption)
                          have q176 : x20_1 < (l0.length : Int) := of_decide_eq_true (by first | (with_reducible assumption) | assumption)
                          obtain ⟨ad176, e176, hx176_0⟩ := Kd.at_int HR0.out x20_1 p176 q176
                          cases e176
                          replace hx176_0 := (HB.out.cell (World.block_lt_of_cell? w _ hx176_0)).trans hx176_0
                          replace p176 := eq_true p176
                          replace q176 := eq_true q176
                          have p23 : 0 ≤ ((ji20) : Int) := of_decide_eq_true (by first | (with_reducible assumption) | assumption)
                          have q23 : ((ji20) : Int) < ((x4_1.length : Int) : Int) := of_decide_eq_true (by first | (with_reducible assumption) | assumption)
                          obtain ⟨hx23_0, hf23_0⟩ := Kd.R_celln 0 HO_4.out ((ji20) : Int) p23 q23
                          replace p23 := eq_true p23
                          replace q23 := eq_true q23
                          have HP24 := Kd.R_putg HO_4.out ((ji20) : Int) (rd l0 x20_1)
                          go_wp2_with (first | ((with_reducible refine gate_store (t := 5) (p := 29) rfl ?_); (try (rw [drewN_self wr]; generalize hq_ : World.drewN wr _ = wr; have n0_ := Aside0.mk (Kd.R_at hq_ HO_4.out); have n1_ := Aside0.mk (below_at hq_ HB.out); clear hq_ HO_4 HB; have HO_4 := n0_; have HB := n1_; clear n0_ n1_; (try (have HP24 := Kd.R_putg HO_4.out ((ji20) : Int) (rd l0 x20_1))))); refine store_event (t := 5) (p := 29) (v := ?vo_w25) (w1 := (wr.setCell ⟨go6, ((ji20) : Int).toNat, none⟩ (.int .u8 (rd l0 x20_1)))) ?hg ?ho ?hn ?hr ?_; (case ho => rfl); (case hg => rfl); (case hn => rfl); (case hr => first | (go_simp; done) | (go_simp; rfl)); intro w25 hw; have hg : wr.grownBy w25 (some go6) := (by rw [hw]; exact HP24.2); have hp_ : Kd.R (Kd.int .u8) 5 w25 w.heap.size (fun _ => True) (.slice (some ⟨go6, 0, none⟩) x4_1.length co6) y177 := (by rw [hw, Ny177.out]; exact HP24.1); clear HP24; have n0_ := Aside0.mk (hp_); have n1_ := Aside0.mk ((by rw [hw]; exact below_set (HB.out) GB6.out : Below w.heap.size w w25)); clear HO_4; clear HB; have HO_4 := n0_; have HB := n1_; clear n0_ n1_; clear hg hw hp_))
                          repeat (go_quiet (first | ((with_reducible refine gate_store (t := 5) (p := 29) rfl ?_); (try (rw [drewN_self wr]; generalize hq_ : World.drewN wr _ = wr; have n0_ := Aside0.mk (Kd.R_at hq_ HO_4.out); have n1_ := Aside0.mk (below_at hq_ HB.out); clear hq_ HO_4 HB; have HO_4 := n0_; have HB := n1_; clear n0_ n1_; (try (have HP24 := Kd.R_putg HO_4.out ((ji20) : Int) (rd l0 x20_1))))); refine store_event (t := 5) (p := 29) (v := ?vo_w25) (w1 := (wr.setCell ⟨go6, ((ji20) : Int).toNat, none⟩ (.int .u8 (rd l0 x20_1)))) ?hg ?ho ?hn ?hr ?_; (case ho => rfl); (case hg => rfl); (case hn => rfl); (case hr => first | (go_simp; done) | (go_simp; rfl)); intro w25 hw; have hg : wr.grownBy w25 (some go6) := (by rw [hw]; exact HP24.2); have hp_ : Kd.R (Kd.int .u8) 5 w25 w.heap.size (fun _ => True) (.slice (some ⟨go6, 0, none⟩) x4_1.length co6) y177 := (by rw [hw, Ny177.out]; exact HP24.1); clear HP24; have n0_ := Aside0.mk (hp_); have n1_ := Aside0.mk ((by rw [hw]; exact below_set (HB.out) GB6.out : Below w.heap.size w w25)); clear HO_4; clear HB; have HO_4 := n0_; have HB := n1_; clear n0_ n1_; clear hg hw hp_)); try go_wp2_with (first | ((with_reducible refine gate_store (t := 5) (p := 29) rfl ?_); (try (rw [drewN_self wr]; generalize hq_ : World.drewN wr _ = wr; have n0_ := Aside0.mk (Kd.R_at hq_ HO_4.out); have n1_ := Aside0.mk (below_at hq_ HB.out); clear hq_ HO_4 HB; have HO_4 := n0_; have HB := n1_; clear n0_ n1_; (try (have HP24 := Kd.R_putg HO_4.out ((ji20) : Int) (rd l0 x20_1))))); refine store_event (t := 5) (p := 29) (v := ?vo_w25) (w1 := (wr.setCell ⟨go6, ((ji20) : Int).toNat, none⟩ (.int .u8 (rd l0 x20_1)))) ?hg ?ho ?hn ?hr ?_; (case ho => rfl); (case hg => rfl); (case hn => rfl); (case hr => first | (go_simp; done) | (go_simp; rfl)); intro w25 hw; have hg : wr.grownBy w25 (some go6) := (by rw [hw]; exact HP24.2); have hp_ : Kd.R (Kd.int .u8) 5 w25 w.heap.size (fun _ => True) (.slice (some ⟨go6, 0, none⟩) x4_1.length co6) y177 := (by rw [hw, Ny177.out]; exact HP24.1); clear HP24; have n0_ := Aside0.mk (hp_); have n1_ := Aside0.mk ((by rw [hw]; exact below_set (HB.out) GB6.out : Below w.heap.size w w25)); clear HO_4; clear HB; have HO_4 := n0_; have HB := n1_; clear n0_ n1_; clear hg hw hp_)))
                          (try simp only [← hl4_1])
                          go_roundg k1
                          case measure => have := HK1.out; omega
                          case rel => exact ⟨(y177), (ji20), (by first | rfl | (simp; done) | (simp only [← hji20] <;> (first | rfl | simp)) | (simp [*]; done)), H', ⟨by have := HK1.out; omega⟩, ⟨by (try simp only [hl4_1]); (with_reducible repeat (first | apply Kd.R_alloc | apply Kd.R_drewN | apply Kd.R_drew)); exact HO_4.out⟩, ⟨by repeat (first | (with_reducible first | exact HB.out | apply below_alloc | apply pw_below_drewN | apply below_drew1) | exact HB.out)⟩⟩
                        · rw [if_neg c22] at H
                          exact absurd H (by simp)
                      · rw [if_neg c21] at H
                        exact absurd H (by simp)
                    · rw [if_neg c19] at H
                      exact absurd H (by simp)
                  · rw [if_neg c18] at H
                    exact absurd H (by simp)
                · rw [if_neg c17] at H
                  have c17b0 : decide (x20_1 < (l0.length : Int)) = false := decide_eq_false c17
                  clear c17
                  by_cases c26 : 1 ≤ (wrap64 ((l0.length : Int) + 1))
                  · rw [if_pos c26] at H
                    have c26b0 := eq_true c26
                    have c26b1 : decide (1 ≤ (wrap64 ((l0.length : Int) + 1))) = true := decide_eq_true c26
                    by_cases c27 : (wrap64 ((l0.length : Int) + 1)) ≤ (x4_1.length : Int)
                    · rw [if_pos c27] at H
                      have c27b0 := eq_true c27
                      have c27b1 : decide ((wrap64 ((l0.length : Int) + 1)) ≤ (x4_1.length : Int)) = true := decide_eq_true c27
                      obtain ⟨y178, hy178⟩ : ∃ y_ : List Int, y_ = ((x4_1.take ((wrap64 ((l0.length : Int) + 1)) : Int).toNat).drop 1) := ⟨_, rfl⟩
                      replace H : (some (x4_1, y178)) = some (r1, r2) := by first | (rw [hy178]; with_reducible exact H) | (have H2_ := (Option.bind_some _ _).symm.trans H; rw [hy178]; with_reducible exact H2_) | (have H2_ := (Option.bind_some _ _).symm.trans H; with_reducible exact H2_) | with_reducible exact H | (rw [hy178]; exact H) | exact H
                      have Ny178 := Aside0.mk hy178
                      clear hy178
                      simp only [Option.some.injEq, Prod.mk.injEq] at H
                      obtain ⟨rfl, rfl⟩ := H
                      clear hji2w hji7w hji2 hji7
                      have q28 : ((wrap64 ((l0.length : Int) + 1)) : Int) ≤ ((x4_1.length : Int) : Int) := of_decide_eq_true (by first | (with_reducible assumption) | assumption)
                      obtain ⟨i028, hi028, _, hsz28, _⟩ := info_parts info5
                      have hroom28 : x4_1.length ≤ co6 := (Kd.R_reads' HO_4.out).2.1
                      have hC28 : Kd.C (Kd.int .u8) _ (some ⟨go6, 0, none⟩) x4_1.length x4_1 := (Kd.R_reads' HO_4.out).2.2
                      have ql28 : (1 : Int) ≤ ((wrap64 ((l0.length : Int) + 1)) : Int) := of_decide_eq_true (by first | (with_reducible assumption) | assumption)
                      have hcut28 := cut_mid (P := Try.prog) 27 5 .i64 .i64 Try.underlying27 hi028 1 hsz28 (some ⟨go6, 0, none⟩) x4_1.length co6 1 (wrap64 ((l0.length : Int) + 1)) (by omega) ql28 q28 hroom28
                      have hr28 := Kd.C_mid (lo := (1 : Int).toNat) (hi := ((wrap64 ((l0.length : Int) + 1)) : Int).toNat) (c := co6) hC28 (one_le_of c26) (toNat_le_of c27) hroom28
                      obtain ⟨A28, hA28⟩ : ∃ A1, A1 = (if co6 = (1 : Int).toNat then (some ⟨go6, 0, none⟩) else ((some ⟨go6, 0, none⟩) : Option Addr).map (·.add ((1 : Int).toNat * 1))) := ⟨_, rfl⟩
                      obtain ⟨c28, hc28⟩ : ∃ c1, c1 = co6 - (1 : Int).toNat := ⟨_, rfl⟩
                      have hy28 : y178.length = ((wrap64 ((l0.length : Int) + 1)) : Int).toNat - (1 : Int).toNat := (by rw [Ny178.out]; exact len_cut _ _ c26 c27)
                      rw [show ((x4_1).take ((wrap64 ((l0.length : Int) + 1)) : Int).toNat).drop (1 : Int).toNat = y178 from Ny178.out.symm] at hr28
                      replace hr28 : Kd.C (Kd.int .u8) _ A28 y178.length y178 := (by rw [hA28]; exact hr28)
                      rw [← hy28, ← hA28, ← hc28] at hcut28
                      have HR181 := Aside0.mk hr28
                      have HC181 := Aside0.mk (show y178.length ≤ c28 from by rw [hy28, hc28]; exact Nat.sub_le_sub_right (Nat.le_trans (toNat_le_of c27) hroom28) _)
                      have KC28 := Aside0.mk hc28
                      clear hr28 hC28 hroom28 hi028 hsz28 hc28
                      have KY28 := Aside0.mk hy28
                      have KA28 := Aside0.mk hA28
                      clear hy28 hA28
                      have KL28 := Aside0.mk (show ((wrap64 ((l0.length : Int) + 1)) : Int).toNat ≤ x4_1.length from toNat_le_of c27)
                      have KM28 := Aside0.mk (show 1 ≤ ((wrap64 ((l0.length : Int) + 1)) : Int).toNat from one_le_of c26)
                      replace q28 := eq_true q28
                      go_wp2
                      repeat (go_quiet (fail); try go_wp2)
                      go_ret2
                      exact ⟨_, _, by first | rfl | (simp [errW_none, errW_some] <;> rfl) | (simp [*, errW_none, errW_some] <;> rfl), by (with_reducible repeat (first | apply Kd.R_alloc | apply Kd.R_drewN | apply Kd.R_drew)); exact HO_4.out, (by (with_reducible repeat (first | apply Kd.Q_alloc | apply Kd.Q_drewN | apply Kd.Q_drew)); rw [KA28.out, KY28.out, KC28.out, Ny178.out]; exact Kd.Q_drop (k := 1) (Kd.Q_take (Kd.Q_of_R HO_4.out) KL28.out) (by rw [List.length_take]; exact Nat.le_min.2 ⟨KM28.out, Nat.le_trans KM28.out KL28.out⟩)), by repeat (first | (with_reducible first | exact HB.out | apply below_alloc | apply pw_below_drewN | apply below_drew1) | exact HB.out)⟩
                    · rw [if_neg c27] at H
                      exact absurd H (by simp)
                  · rw [if_neg c26] at H
                    exact absurd H (by simp)
          · rw [if_neg c9] at H
            exact absurd H (by simp)
        · rw [if_neg c8] at H
          exact absurd H (by simp)
      · rw [if_neg c5] at H
        exact absurd H (by simp)
    · rw [if_neg c4] at H
      exact absurd H (by simp)
  · rw [if_neg c3] at H
    exact absurd H (by simp)

/-! ### codec_fourth: function 80 -/
def codec_fourth.l0 : Nat → Int → List Int → Int → Int → Option (Int)
  | 0, _, _, _, _ => none
  | k + 1, x3, x7, x8, x9 => if x9 < x8 then (if 0 ≤ x9 then (if x9 < (x7.length : Int) then (codec_fourth.l0 k (Go.bits .or .u32 ((x3 * 256) % 4294967296) ((rd x7 x9) % 4294967296)) x7 x8 (wrap64 (x9 + 1))) else (none)) else (none)) else (some x3)
def codec_fourth.f (k : Nat) (l0 : List Int) : Option (Int) := if 4 ≤ (l0.length : Int) then (codec_fourth.l0 k 0 (l0.take 4) ((l0.take 4).length : Int) 0) else (none)
theorem codec_fourth.mono_l : ∀ k, (∀ y0 y1 y2 y3, LeO (codec_fourth.l0 k y0 y1 y2 y3) (codec_fourth.l0 (k + 1) y0 y1 y2 y3))
  | 0 => fun _ _ _ _ r h => by simp [codec_fourth.l0] at h
  | k + 1 => by
    have ih0 := codec_fourth.mono_l k
    · intro y0 y1 y2 y3
      unfold codec_fourth.l0
      repeat' first
      | (with_reducible exact ih0 _ _ _ _)
      | (with_reducible exact LeO.refl _)
      | (with_reducible exact LeO.none _)
      | (with_reducible refine LeO.ite ?_ ?_)
      | (with_reducible refine LeO.bind ?_ (fun _ => ?_))
      | exact ih0 _ _ _ _
      | exact LeO.none _
      | refine LeO.ite ?_ ?_
      | refine LeO.bind ?_ (fun _ => ?_)
theorem codec_fourth.mono : ∀ a0 k, LeO (codec_fourth.f k a0) (codec_fourth.f (k + 1) a0) := by
  intro a0 k
  have ih0 := codec_fourth.mono_l k
  unfold codec_fourth.f
  repeat' first
      | (with_reducible exact ih0 _ _ _ _)
      | (with_reducible exact LeO.refl _)
      | (with_reducible exact LeO.none _)
      | (with_reducible refine LeO.ite ?_ ?_)
      | (with_reducible refine LeO.bind ?_ (fun _ => ?_))
      | exact ih0 _ _ _ _
      | exact LeO.none _
      | refine LeO.ite ?_ ?_
      | refine LeO.bind ?_ (fun _ => ?_)
set_option maxHeartbeats 8000000 in
set_option maxRecDepth 100000 in
theorem codec_fourth.calls (k : Nat) (A0 : Option Addr) (c0 : Nat) (l0 : List Int) (r : Int) (w : World) (hr0 : Kd.C (Kd.int .u8) w A0 l0.length l0) (hc0 : l0.length ≤ c0) (h : codec_fourth.f k l0 = some r) :
    Calls Try.prog 80 #[.slice A0 l0.length c0] w fun e w' => e = .returned (.int .u32 r) ∧ Drawn0 w w' := by
  have HR0 := Aside0.mk hr0
  have HC0 := Aside0.mk hc0
  clear hr0 hc0
  have H : (if 4 ≤ (l0.length : Int) then (codec_fourth.l0 k 0 (l0.take 4) ((l0.take 4).length : Int) 0) else (none)) = some r := h
  clear h
  by_cases c2 : 4 ≤ (l0.length : Int)
  · rw [if_pos c2] at H
    have c2b0 := eq_true c2
    have c2b1 : decide (4 ≤ (l0.length : Int)) = true := decide_eq_true c2
    clear c2
    have H' := Aside0.mk H
    clear H
    obtain ⟨i03, hi03, _, hsz3, _⟩ := info_parts info5
    obtain ⟨hcut3, hA3, hC3⟩ := print_take_of (P := Try.prog) (Value.int .u8) 0 27 5 .i64 Try.underlying27 hi03 hsz3 A0 c0 l0 4 (by omega) (of_decide_eq_true (by first | (with_reducible assumption) | assumption)) HC0.out
    have HR177 := Aside0.mk (Kd.C_of_reads (h1 := fun _ => rfl) (hA3 _ (Kd.reads_of_C HR0.out)))
    have HC177 := Aside0.mk hC3
    clear hA3 hC3 hi03 hsz3
    obtain ⟨y4_, hy4_⟩ : ∃ y_ : List Int, y_ = l0.take 4 := ⟨_, rfl⟩
    rw [show List.take (Int.toNat 4) l0 = y4_ from hy4_.symm] at HR177 HC177 hcut3
    replace H' := Aside0.mk (show codec_fourth.l0 k 0 y4_ (y4_.length : Int) 0 = some r from by rw [hy4_]; exact H'.out)
    clear hy4_
    go_enter Try.func80, Try.ntmps80
    go_wp2
    go_loopg [3, 9] k (fun kq v3 v9 w' => ∃ (x3_1 : Int) (x9_1 : Int), v3 = .int .u32 x3_1 ∧ v9 = .int .i64 x9_1 ∧ Aside0 (codec_fourth.l0 kq x3_1 y4_ (y4_.length : Int) x9_1 = some r) ∧ Aside0 (kq ≤ k) ∧ Drawn0 w w')
    case atStart => exact ⟨(0), (0), (by first | rfl | (simp; done) | (simp [*]; done)), (by first | rfl | (simp; done) | (simp [*]; done)), H', ⟨Nat.le_refl _⟩, by repeat (first | exact Drawn0.refl _ | apply Drawn0.step)⟩
    case round =>
      clear H'
      try clear c2
      try clear c2b0
      try clear c2b1
      try clear p2
      obtain ⟨x3_1, x9_1, rfl, rfl, HA, HK1, ⟨m1, rfl⟩⟩ := hrel
      cases gk with
      | zero => exact absurd HA.out (by simp [codec_fourth.l0])
      | succ k1 =>
        have H := HA.out
        clear HA
        simp only [codec_fourth.l0] at H
        by_cases c4 : x9_1 < (y4_.length : Int)
        · rw [if_pos c4] at H
          have c4b0 : decide (x9_1 < (y4_.length : Int)) = true := decide_eq_true c4
          clear c4
          by_cases c5 : 0 ≤ x9_1
          · rw [if_pos c5] at H
            have c5b0 : decide (0 ≤ x9_1) = true := decide_eq_true c5
            clear c5
            by_cases c6 : x9_1 < (y4_.length : Int)
            · rw [if_pos c6] at H
              have c6b0 : decide (x9_1 < (y4_.length : Int)) = true := decide_eq_true c6
              clear c6
              have H' := Aside0.mk H
              clear H
              have p178 : 0 ≤ (x9_1 : Int) := of_decide_eq_true (by first | (with_reducible assumption) | assumption)
              have q178 : x9_1 < (y4_.length : Int) := of_decide_eq_true (by first | (with_reducible assumption) | assumption)
              obtain ⟨ad178, e178, hx178_0⟩ := Kd.at_int HR177.out x9_1 p178 q178
              cases e178
              replace p178 := eq_true p178
              replace q178 := eq_true q178
              go_wp2
              go_roundg k1
              case measure => have := HK1.out; omega
              case rel => exact ⟨(Go.bits .or .u32 ((x3_1 * 256) % 4294967296) ((rd y4_ x9_1) % 4294967296)), (wrap64 (x9_1 + 1)), (by first | rfl | (simp; done) | (simp [*]; done)), (by first | rfl | (simp; done) | (simp [*]; done)), H', ⟨by have := HK1.out; omega⟩, by repeat (first | exact Drawn0.refl _ | apply Drawn0.step)⟩
            · rw [if_neg c6] at H
              exact absurd H (by simp)
          · rw [if_neg c5] at H
            exact absurd H (by simp)
        · rw [if_neg c4] at H
          have c4b0 : decide (x9_1 < (y4_.length : Int)) = false := decide_eq_false c4
          clear c4
          obtain rfl := Option.some.inj H
          go_wp2
          go_ret
          exact ⟨by first | rfl | (simp; done) | (simp [*]; done), by repeat (first | exact Drawn0.refl _ | apply Drawn0.step)⟩
  · rw [if_neg c2] at H
    exact absurd H (by simp)

end Go.Proofs.Ytcopbkdlpfcjpaa
