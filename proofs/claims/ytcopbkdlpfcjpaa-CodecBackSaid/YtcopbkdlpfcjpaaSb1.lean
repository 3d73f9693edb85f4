/- Joined by a program of this session (slim.py) out of: Mine, Given, Bx0, Bx1, Ma, Bx4, Bx5, Bx6, Mb, Bx2, Bx3, Lives, Gx0, CelA, CelB, CelC, CelD, CelE, CelF, CelN, CelQ: what this claim uses of them. -/
import Derived.ArgAppend
import Derived.Below
import Derived.BigQuiet
import Derived.Deep.AppendLies
import Derived.Deep.CutBlock
import Derived.Deep.DeepCutAuto
import Derived.Deep.Draws
import Derived.Deep.LoopGhost
import Derived.Deep.OwnRows
import Derived.Deep.QuietTactic
import Derived.Deep.RegionHeld3
import Derived.Deep.RegionLaw
import Derived.KernelRfl
import Derived.Laws.Bits64
import Derived.Laws.BitsAllLaws
import Derived.Laws.BitsLemmas
import Derived.Laws.BytesArg
import Derived.Laws.CopyOwn
import Derived.Laws.IdiomCopy
import Derived.Laws.MakeOwn
import Derived.Laws.OwnMore
import Derived.Laws.Rows
import Derived.Laws.Slices
import Derived.Lib.AppendStr
import Derived.Lib.ConvBytes
import Derived.Lib.SlBytesConst
import Derived.Maps.AppendAt
import Derived.OrdersHeld
import Derived.OwnWalk
import Derived.Recover
import Derived.RowKit
import Derived.RowKit3
import Derived.Tactics
import Derived.Test.YtcopbkdlpfcjpaaProg
import Derived.WalkKit
import Derived.WalkLawsBesides
import Derived.WideLaws
import Derived.Test.YtcopbkdlpfcjpaaSb0
namespace Go.Proofs.YtcopbkdlpfcjpaaW.PrintWords
open Go.RowKit
namespace Kd
section
variable {P : Program} {ops : Array Oper} {rest : List Oper} {o : Oper} {a : Act} {Q : Exit → Act → World → Prop}
variable {α : Type}
/-- make([]T, 0, n). -/
theorem R_make0 (d : Kd α) {w0 W : World} (base e : Nat) (hgd : o.guard = none) {N : Tmp} (_hd : o.dst = some N) (t : TypeId) (x y : Operand) (ho : o.op = .makeSlice t x y) (n : Int) (hx : a.eval x = .int .i64 0) (hy : a.eval y = .int .i64 n)
    (ht : P.underlying t = some (.slice e)) (z : Value) (bytes : Nat) (hinfo : (P.info? e).map (fun i => (i.zero, i.size, i.bytes)) = some (some z, d.sz, bytes)) (_hz : z.cells.size = d.sz) (_hs0 : 0 < d.sz) (hb0 : 0 < bytes)
    (z0 : α) {ok okp : Nat → Prop} (_hzero : d.M W base okp z0 z.cells.toList) (_hok : ∀ k, okp k → ok k) (hfresh : ok W.heap.size) (h0 : 0 ≤ n) (hl : n.toNat * bytes ≤ 281474976710656) (HB : Below base w0 W) (hbase : base ≤ W.heap.size)
    (h : ∀ v1 w1, d.R e w1 base ok v1 [] → Below base w0 w1 → W.grownBy w1 none → (∃ b, v1.ownBlock = some b ∧ W.heap.size ≤ b) → wpList P ops Q rest (a.put o.dst v1) w1) : wpList P ops Q (o :: rest) a W := by
  obtain ⟨m, rfl⟩ := Int.eq_ofNat_of_zero_le h0
  simp only [Int.toNat_natCast] at hl
  obtain ⟨i0, hi, hzz⟩ := Option.map_eq_some_iff.1 hinfo
  simp only [Prod.mk.injEq] at hzz
  obtain ⟨hz0, hz1, hz2⟩ := hzz
  have hm : m ≤ 281474976710656 := Nat.le_trans (Nat.le_mul_of_pos_right _ hb0) hl
  obtain ⟨w', hr, hown, hg⟩ := run_make_own (P := P) (w := W) base t e i0 z d.sz ht hi hz0 hz1 .i64 .i64 m (by rw [hz2, Nat.mul_comm]; exact hl) (by unfold maxLen; omega) hbase
  refine event_run hgd (v := .slice (some ⟨W.heap.size, 0, none⟩) 0 m) (w1 := w') (by simp [execOp, ho, hx, hy, hr]) (h _ _ ⟨fun k hk => ?_, [], hown, Reps.none _ _⟩ (HB.grown hg hbase (fun _ hk => by cases hk)) hg ⟨W.heap.size, by simp [Value.ownBlock], Nat.le_refl _⟩)
  have : W.heap.size = k := by simpa [Value.ownBlock] using hk
  subst this
  exact hfresh
end
end Kd
theorem cut_len_mid {α : Type} {xs : List α} {a b : Int} (hcl_ : b ≤ (xs.length : Int)) : (List.drop a.toNat (List.take b.toNat xs)).length = b.toNat - a.toNat := by
  rw [List.length_drop, List.length_take]
  omega
theorem cut_len_take {α : Type} {xs : List α} {b : Int} (hcl_ : b ≤ (xs.length : Int)) : (List.take b.toNat xs).length = b.toNat := by
  rw [List.length_take]
  omega
section
variable {P : Program} {w : World}
open Go.Lib
theorem run_append_str_at (base : Nat) (t u ty e : TypeId) (i : TypeInfo) (ht : P.underlying t = some (.slice e)) (hu : P.underlying u = some .string) (hi : P.info? e = some i) (hz : i.zero = some (.int .u8 0))
    (hsize : i.size = 1) (hby : i.bytes = 1)
    (v : Value) (n : Nat) (xs : List Value) (hown : w.ownsRow base e 1 v n xs) (s : ByteArray)
    (h63 : n + s.size ≤ maxLen) (hbytes : n + s.size ≤ 140737488355328) (hbase : base ≤ w.heap.size) :
    ∃ v' w', (Builtin.append_ #[t, u] ty #[v, .string s]).run P w = .ok v' w' ∧ w'.ownsRow base e 1 v' (n + s.size) (xs ++ strCells s) ∧ w.grownBy w' v.ownBlock ∧
      (v'.ownBlock = v.ownBlock ∨ ∃ b, v'.ownBlock = some b ∧ w.heap.size ≤ b) := by
  obtain ⟨v', w', hr, h1, h2, h3⟩ := run_append_own_string (P := P) w base t u ty e i ht hu hi hz hsize hby v n xs hown s h63 hbytes hbase
  refine ⟨v', w', hr, h1, h2, ?_⟩
  have hsmall : n + s.size ≤ 9223372036854775807 := by simp only [maxLen] at h63; omega
  have hxl : xs.length = n := by simpa using hown.1
  rcases hown.2 with ⟨rfl, rfl⟩ | ⟨g, cap, cur, rfl, hbg, hg, hnc, hcm, hcs, htake⟩
  · by_cases hm : s.size = 0
    · left
      rw [h3.2 ⟨rfl, hm⟩]
    · have hr2 := run_append_nil_string (P := P) w t u ty e i (.int .u8 0) ht hu hi hz s (by omega) (by omega) (by rw [hby]; omega)
      rw [hr] at hr2
      injection hr2 with e1 e2
      right
      exact ⟨w.heap.size, by rw [e1]; simp [Value.ownBlock], Nat.le_refl _⟩
  · by_cases hroom : n + s.size ≤ cap
    · have hr2 := run_append_room_string (P := P) w t u ty e i ht hu hi hsize g n cap cur hg s hroom (by omega)
      rw [hr] at hr2
      injection hr2 with e1 e2
      left
      rw [e1]
      simp [Value.ownBlock]
    · have holds : ∀ j u, xs[j]? = some u → w.cell? ((⟨g, 0, none⟩ : Addr).add j) = some u := hown.cells (g := g) rfl
      have hr2 := run_append_grow_string (P := P) w t u ty e i (.int .u8 0) ht hu hi hz ⟨g, 0, none⟩ n cap xs (by rw [hsize]; simpa using hxl) holds s (by omega) (by omega) (by rw [hby]; exact growslice_fits (by omega) (by omega))
      rw [hr] at hr2
      injection hr2 with e1 e2
      right
      exact ⟨w.heap.size, by rw [e1]; simp [Value.ownBlock], Nat.le_refl _⟩
end
namespace Kd
/-- A literal's row, with whatever mark, is read. -/
theorem C_lit_marked (w : World) (k : IntKind) (xs : List Int) (C : Array Value) (t : TypeId) (fr : Nat × Nat) (hC : C = (xs.map (Value.int k)).toArray) (hm : xs.length ≤ 9223372036854775807) :
    (Kd.int k).C (w.alloc (.cells C t fr)) (some ⟨w.heap.size, 0, none⟩) xs.length xs := by
  refine ⟨rfl, hm, fun _ => ⟨_, rfl, fun j p hj => ⟨[.int k p], rfl, rfl, fun i u hu => ?_⟩⟩⟩
  cases i with
  | succ i => simp at hu
  | zero =>
    simp only [List.getElem?_cons_zero, Option.some.injEq] at hu
    subst hu
    subst hC
    rw [add_plain, World.cell?_alloc_mark]
    show (xs.map (Value.int k)).toArray[j * 1 + 0]? = _
    rw [Nat.mul_one, Nat.add_zero]
    simp [hj]
section
variable {P : Program} {ops : Array Oper} {rest : List Oper} {o : Oper} {a : Act} {Q : Exit → Act → World → Prop}
/-- append(b, s...), s a string. -/
theorem R_append_str {w0 W : World} (base : Nat) (hgd : o.guard = none) (s x : Operand) (t u e : TypeId)
    (ho : o.op = .call { callee := .builtin .append, args := #[s, x], argTypes := #[t, u] })
    (ht : P.underlying t = some (.slice e)) (hu : P.underlying u = some .string) (hinfo : (P.info? e).map (fun i => (i.zero, i.size, i.bytes)) = some (some (.int .u8 0), 1, 1))
    (v : Value) (xs : List Int) (y : ByteArray) (ok : Nat → Prop) (hs : a.eval s = v) (hx : a.eval x = .string y)
    (HO : (Kd.int .u8).R e W base ok v xs) (hfresh : ∀ k, W.heap.size ≤ k → ok k) (HB : Below base w0 W) (hbase : base ≤ W.heap.size) (hl : xs.length + y.size ≤ 140737488355328)
    (h : ∀ v1 w1, (Kd.int .u8).R e w1 base ok v1 (xs ++ bytesOf y) → Below base w0 w1 → W.grownBy w1 v.ownBlock → (v1.ownBlock = v.ownBlock ∨ ∃ b, v1.ownBlock = some b ∧ W.heap.size ≤ b) → wpList P ops Q rest (a.put o.dst v1) w1) :
    wpList P ops Q (o :: rest) a W := by
  obtain ⟨i0, hi, hzz⟩ := Option.map_eq_some_iff.1 hinfo
  simp only [Prod.mk.injEq] at hzz
  obtain ⟨hz0, hz1, hz2⟩ := hzz
  have HO1 : W.ownsRow base e 1 v xs.length (nums .u8 xs) := Kd.own_of_R HO
  obtain ⟨v1, w1, hr, hown, hg, hat⟩ := run_append_str_at (P := P) (w := W) base t u o.type e i0 ht hu hi hz0 hz1 hz2 v xs.length (nums .u8 xs) HO1 y (by simp only [maxLen]; omega) hl hbase
  have hl2 : (xs ++ bytesOf y).length = xs.length + y.size := by rw [List.length_append, bytesOf_length]
  have hc : nums .u8 (xs ++ bytesOf y) = nums .u8 xs ++ Lib.strCells y := by
    rw [nums_append]
    congr 1
    simp [nums, bytesOf, Lib.strCells]
  have hfin := h v1 w1 (Kd.R_of_own (h1 := fun _ => rfl) (by rw [hl2]; rw [← hc] at hown; exact hown) (fun k hk => by
    rcases hat with e1 | ⟨b, e1, hbb⟩
    · exact HO.1 k (by rw [← e1]; exact hk)
    · rw [e1] at hk
      injection hk with hk
      subst hk
      exact hfresh _ hbb)) (HB.grown hg hbase (own_base HO1)) hg hat
  refine wpList_plain hgd fun K hK => ?_
  unfold Oper.wp execOp
  simp only [ho, resolve, invoke, builtin, Sem.run_bind, Sem.run_pure, Result.andThen_ok, List.map_toArray, List.map_cons, List.map_nil, hs, hx, hr]
  exact hK _ _ hfin
end
end Kd
end Go.Proofs.YtcopbkdlpfcjpaaW.PrintWords
namespace Go.Proofs.Ytcopbkdlpfcjpaa
open Go.RowKit Go.Proofs.YtcopbkdlpfcjpaaW.PrintWords Go.Proofs.YtcopbkdlpfcjpaaW.PrintLast Go.Proofs.YtcopbkdlpfcjpaaW.PrintMore
attribute [local go_sem] max2_int min2_int max_two min_two max_three min_three max_four min_four
set_option linter.unusedVariables false
set_option linter.unusedSimpArgs false
theorem info5 : (Try.prog.info? 5).map (fun i => (i.zero, i.size, i.bytes)) = some (some (.int .u8 0), 1, 1) := by kernel_rfl
end Go.Proofs.Ytcopbkdlpfcjpaa
namespace Go.Proofs.Ytcopbkdlpfcjpaa.B
open Go.RowKit Go.Proofs.YtcopbkdlpfcjpaaW.PrintWords Go.Proofs.YtcopbkdlpfcjpaaW.PrintLast Go.Proofs.YtcopbkdlpfcjpaaW.PrintMore
attribute [local go_sem] max2_int min2_int max_two min_two max_three min_three max_four min_four
set_option linter.unusedVariables false
set_option linter.unusedSimpArgs false
def errW : Option Int → Value
  | none => .nilIface
  | some c => .iface 0 (.int .i64 c)
theorem errW_none : errW none = .nilIface := rfl
theorem errW_some (c : Int) : errW (some c) = .iface 0 (.int .i64 c) := rfl
theorem info5 : (Try.prog.info? 5).map (fun i => (i.zero, i.size, i.bytes)) = some (some (.int .u8 0), 1, 1) := by kernel_rfl
end Go.Proofs.Ytcopbkdlpfcjpaa.B
namespace Go.Proofs.Ytcopbkdlpfcjpaa.B
open Go.RowKit Go.Proofs.YtcopbkdlpfcjpaaW.PrintWords Go.Proofs.YtcopbkdlpfcjpaaW.PrintLast Go.Proofs.YtcopbkdlpfcjpaaW.PrintMore
attribute [local go_sem] max2_int min2_int max_two min_two max_three min_three max_four min_four
set_option linter.unusedVariables false
set_option linter.unusedSimpArgs false
def codec_Zig.f (a0 : Int) : Option (Int) := some (Go.bits .xor .u64 (IntKind.u64.wrap ((IntKind.u64.wrap (a0)) * 2)) (IntKind.u64.wrap (a0 / 9223372036854775808)))
set_option maxHeartbeats 8000000 in
set_option maxRecDepth 100000 in
theorem codec_Zig.calls (a0 : Int) (r : Int) (w : World) (h : codec_Zig.f a0 = some r) :
    Calls Try.prog 21 #[.int .i64 a0] w fun e w' => e = .returned (.int .u64 r) ∧ Drawn0 w w' := by
  have H : (some (Go.bits .xor .u64 (IntKind.u64.wrap ((IntKind.u64.wrap (a0)) * 2)) (IntKind.u64.wrap (a0 / 9223372036854775808)))) = some r := h
  clear h
  obtain rfl := Option.some.inj H
  go_enter Try.func21, Try.ntmps21
  go_wp2
  go_ret
  exact ⟨by first | rfl | (simp; done) | (simp [*]; done), by repeat (first | exact Drawn0.refl _ | apply Drawn0.step)⟩
def codec_Zag.f (a0 : Int) : Option (Int) := some (Go.bits .xor .i64 (wrap64 (a0 / 2)) (wrap64 (-(wrap64 (Go.bits .and .u64 a0 1)))))
set_option maxHeartbeats 8000000 in
set_option maxRecDepth 100000 in
theorem codec_Zag.calls (a0 : Int) (r : Int) (w : World) (h : codec_Zag.f a0 = some r) :
    Calls Try.prog 22 #[.int .u64 a0] w fun e w' => e = .returned (.int .i64 r) ∧ Drawn0 w w' := by
  have H : (some (Go.bits .xor .i64 (wrap64 (a0 / 2)) (wrap64 (-(wrap64 (Go.bits .and .u64 a0 1)))))) = some r := h
  clear h
  obtain rfl := Option.some.inj H
  go_enter Try.func22, Try.ntmps22
  go_wp2
  go_ret
  exact ⟨by first | rfl | (simp; done) | (simp [*]; done), by repeat (first | exact Drawn0.refl _ | apply Drawn0.step)⟩
def codec_put.l0 : Nat → List Int → Int → Option (List Int)
  | 0, _, _ => none
  | k + 1, x0, x1 => if x1 > 127 then (if x0.length < 140737488355328 then (codec_put.l0 k (x0 ++ [Go.bits .or .u8 ((x1) % 256) 128]) (x1 / 128)) else (none)) else (if x0.length < 140737488355328 then (some (x0 ++ [(x1) % 256])) else (none))
def codec_put.f (k : Nat) (l0 : List Int) (a1 : Int) : Option (List Int) := codec_put.l0 k l0 a1
theorem codec_put.mono_l : ∀ k, (∀ y0 y1, LeO (codec_put.l0 k y0 y1) (codec_put.l0 (k + 1) y0 y1))
  | 0 => fun _ _ r h => by simp [codec_put.l0] at h
  | k + 1 => by
    have ih0 := codec_put.mono_l k
    · intro y0 y1
      unfold codec_put.l0
      repeat' first
      | (with_reducible exact ih0 _ _)
      | (with_reducible exact LeO.refl _)
      | (with_reducible exact LeO.none _)
      | (with_reducible refine LeO.ite ?_ ?_)
      | (with_reducible refine LeO.bind ?_ (fun _ => ?_))
      | exact ih0 _ _
      | exact LeO.none _
      | refine LeO.ite ?_ ?_
      | refine LeO.bind ?_ (fun _ => ?_)
theorem codec_put.mono : ∀ a0 a1 k, LeO (codec_put.f k a0 a1) (codec_put.f (k + 1) a0 a1) := by
  intro a0 a1 k
  have ih0 := codec_put.mono_l k
  unfold codec_put.f
  repeat' first
      | (with_reducible exact ih0 _ _)
      | (with_reducible exact LeO.refl _)
      | (with_reducible exact LeO.none _)
      | (with_reducible refine LeO.ite ?_ ?_)
      | (with_reducible refine LeO.bind ?_ (fun _ => ?_))
      | exact ih0 _ _
      | exact LeO.none _
      | refine LeO.ite ?_ ?_
      | refine LeO.bind ?_ (fun _ => ?_)
set_option maxHeartbeats 8000000 in
set_option maxRecDepth 100000 in
theorem codec_put.calls (k : Nat) (P0_ : Nat → Prop) (u9000_ : Value) (l0 : List Int) (a1 : Int) (r : List Int) (w0 w : World) (hB : Below w0.heap.size w0 w) (ho0 : Kd.R (Kd.int .u8) 5 w w0.heap.size P0_ u9000_ l0) (h : codec_put.f k l0 a1 = some r) :
    Calls Try.prog 73 #[u9000_, .int .u64 a1] w fun e w' => ∃ v0_ : Value, e = .returned (v0_) ∧ Kd.R (Kd.int .u8) 5 w' w0.heap.size (fun k_ => (P0_ k_ ∨ w.heap.size ≤ k_)) v0_ r ∧ Below w0.heap.size w0 w' ∧ Kept w w' (fun k_ => P0_ k_) := by
  have HO0 := Aside0.mk (show Kd.R (Kd.int .u8) 5 w w0.heap.size (fun k_ => (P0_ k_ ∨ w.heap.size ≤ k_)) u9000_ l0 from Kd.R_mono ho0 (fun k_ hk => (.inl hk)))
  have HK := Aside0.mk (Kept.refl w (fun k_ => P0_ k_))
  have HW0 := Aside0.mk hB.size
  have HB := Aside0.mk hB
  clear hB
  have H : (codec_put.l0 k l0 a1) = some r := h
  clear h
  have H' := Aside0.mk H
  clear H
  go_enter Try.func73, Try.ntmps73
  go_wp2
  go_loopg [0, 1] k (fun kq v0 v1 w' => ∃ (x0_1 : List Int) (x1_1 : Int), v1 = .int .u64 x1_1 ∧ Aside0 (codec_put.l0 kq x0_1 x1_1 = some r) ∧ Aside0 (kq ≤ k) ∧ Aside0 (Kd.R (Kd.int .u8) 5 w' w0.heap.size (fun k_ => (P0_ k_ ∨ w.heap.size ≤ k_)) v0 x0_1) ∧ Aside0 (Kept w w' (fun k_ => P0_ k_)) ∧ Aside0 (Below w0.heap.size w0 w'))
  case atStart => exact ⟨(l0), (a1), (by first | rfl | (simp; done) | (simp [*]; done)), H', ⟨Nat.le_refl _⟩, ⟨by (with_reducible repeat (first | apply Kd.R_alloc | apply Kd.R_drewN | apply Kd.R_drew)); exact HO0.out⟩, ⟨by repeat (first | (with_reducible first | exact HK.out | apply Kept.alloc | apply Kept.drewN | apply Kept.drew) | exact HK.out)⟩, ⟨by repeat (first | (with_reducible first | exact HB.out | apply below_alloc | apply pw_below_drewN | apply below_drew1) | exact HB.out)⟩⟩
  case round =>
    clear H'
    try clear p2
    obtain ⟨x0_1, x1_1, rfl, HA, HK1, HO_0, HK, HB⟩ := hrel
    cases gk with
    | zero => exact absurd HA.out (by simp [codec_put.l0])
    | succ k1 =>
      have H := HA.out
      clear HA
      simp only [codec_put.l0] at H
      by_cases c3 : x1_1 > 127
      · rw [if_pos c3] at H
        have c3b0 : decide (127 < x1_1) = true := decide_eq_true c3
        clear c3
        by_cases c4 : x0_1.length < 140737488355328
        · rw [if_pos c4] at H
          have LMc4 := Aside0.mk c4
          clear c4
          obtain ⟨y101, hy101⟩ : ∃ y_ : List Int, y_ = (x0_1 ++ [Go.bits .or .u8 ((x1_1) % 256) 128]) := ⟨_, rfl⟩
          replace H : (codec_put.l0 k1 y101 (x1_1 / 128)) = some r := by first | (rw [hy101]; with_reducible exact H) | (have H2_ := (Option.bind_some _ _).symm.trans H; rw [hy101]; with_reducible exact H2_) | (have H2_ := (Option.bind_some _ _).symm.trans H; with_reducible exact H2_) | with_reducible exact H | (rw [hy101]; exact H) | exact H
          have Ny101 := Aside0.mk hy101
          clear hy101
          have H' := Aside0.mk H
          clear H
          go_wp2_with (first | ((with_reducible refine gate_builtin (b := .append) (xs := #[.tmp 9, .tmp 13]) rfl ?_); at_builtin; refine Kd.R_append (Kd.int .u8) (w0 := w0) w0.heap.size rfl (.tmp 9) (.tmp 13) 27 5 (.int .u8 0) 1 rfl Try.underlying27 info5 rfl (by decide) (by omega) u0 x0_1 (Go.bits .or .u8 ((x1_1) % 256) 128) [.int .u8 (Go.bits .or .u8 ((x1_1) % 256) 128)] (fun k_ => (P0_ k_ ∨ w.heap.size ≤ k_)) (fun _ => False) rfl rfl ?aP (fun _ hk => hk.elim) ?aF ?aO ?aB ?aS ?aL ?_; (case aP => exact rfl); (case aB => exact (by repeat (first | (with_reducible first | exact HB.out | apply below_alloc | apply pw_below_drewN | apply below_drew1) | exact HB.out))); (case aF => exact (fun k_ hk => (.inr (Nat.le_trans (by first | exact HK.out.1 | exact (show Kept w _ (fun k_ => P0_ k_) from by repeat (first | (with_reducible first | exact HK.out | apply Kept.alloc | apply Kept.drewN | apply Kept.drew) | exact HK.out)).1) hk)))); (case aO => exact (by (with_reducible repeat (first | apply Kd.R_alloc | apply Kd.R_drewN | apply Kd.R_drew)); exact HO_0.out)); (case aS => exact (below_size (by repeat (first | (with_reducible first | exact HB.out | apply below_alloc | apply pw_below_drewN | apply below_drew1) | exact HB.out)))); (case aL => have := LMc4.out; omega); intro v102 w5 ho hb hg hat; rw [← Ny101.out] at ho; have n0_ := Aside0.mk (hb); have n1_ := Aside0.mk (Kept.of_grown (S := (fun k_ => P0_ k_)) hg (by repeat (first | (with_reducible first | exact HK.out | apply Kept.alloc | apply Kept.drewN | apply Kept.drew) | exact HK.out)) (fun k_ e_ => (HO_0.out.1 k_ e_))); have n2_ := Aside0.mk (ho); clear HB; clear HK; clear HO_0; have HB := n0_; have HK := n1_; have HO103 := n2_; clear n0_ n1_ n2_; clear ho hb hg hat))
          go_roundg k1
          case measure => have := HK1.out; omega
          case rel => exact ⟨(y101), (x1_1 / 128), (by first | rfl | (simp; done) | (simp [*]; done)), H', ⟨by have := HK1.out; omega⟩, ⟨by (with_reducible repeat (first | apply Kd.R_alloc | apply Kd.R_drewN | apply Kd.R_drew)); exact HO103.out⟩, ⟨by repeat (first | (with_reducible first | exact HK.out | apply Kept.alloc | apply Kept.drewN | apply Kept.drew) | exact HK.out)⟩, ⟨by repeat (first | (with_reducible first | exact HB.out | apply below_alloc | apply pw_below_drewN | apply below_drew1) | exact HB.out)⟩⟩
        · rw [if_neg c4] at H
          exact absurd H (by simp)
      · rw [if_neg c3] at H
        have c3b0 : decide (127 < x1_1) = false := decide_eq_false c3
        clear c3
        by_cases c6 : x0_1.length < 140737488355328
        · rw [if_pos c6] at H
          have LMc6 := Aside0.mk c6
          clear c6
          obtain ⟨y104, hy104⟩ : ∃ y_ : List Int, y_ = (x0_1 ++ [(x1_1) % 256]) := ⟨_, rfl⟩
          replace H : (some y104) = some r := by first | (rw [hy104]; with_reducible exact H) | (have H2_ := (Option.bind_some _ _).symm.trans H; rw [hy104]; with_reducible exact H2_) | (have H2_ := (Option.bind_some _ _).symm.trans H; with_reducible exact H2_) | with_reducible exact H | (rw [hy104]; exact H) | exact H
          have Ny104 := Aside0.mk hy104
          clear hy104
          obtain rfl := Option.some.inj H
          go_wp2_with (first | ((with_reducible refine gate_builtin (b := .append) (xs := #[.tmp 15, .tmp 18]) rfl ?_); at_builtin; refine Kd.R_append (Kd.int .u8) (w0 := w0) w0.heap.size rfl (.tmp 15) (.tmp 18) 27 5 (.int .u8 0) 1 rfl Try.underlying27 info5 rfl (by decide) (by omega) u0 x0_1 ((x1_1) % 256) [.int .u8 ((x1_1) % 256)] (fun k_ => (P0_ k_ ∨ w.heap.size ≤ k_)) (fun _ => False) rfl rfl ?aP (fun _ hk => hk.elim) ?aF ?aO ?aB ?aS ?aL ?_; (case aP => exact rfl); (case aB => exact (by repeat (first | (with_reducible first | exact HB.out | apply below_alloc | apply pw_below_drewN | apply below_drew1) | exact HB.out))); (case aF => exact (fun k_ hk => (.inr (Nat.le_trans (by first | exact HK.out.1 | exact (show Kept w _ (fun k_ => P0_ k_) from by repeat (first | (with_reducible first | exact HK.out | apply Kept.alloc | apply Kept.drewN | apply Kept.drew) | exact HK.out)).1) hk)))); (case aO => exact (by (with_reducible repeat (first | apply Kd.R_alloc | apply Kd.R_drewN | apply Kd.R_drew)); exact HO_0.out)); (case aS => exact (below_size (by repeat (first | (with_reducible first | exact HB.out | apply below_alloc | apply pw_below_drewN | apply below_drew1) | exact HB.out)))); (case aL => have := LMc6.out; omega); intro v105 w7 ho hb hg hat; rw [← Ny104.out] at ho; have n0_ := Aside0.mk (hb); have n1_ := Aside0.mk (Kept.of_grown (S := (fun k_ => P0_ k_)) hg (by repeat (first | (with_reducible first | exact HK.out | apply Kept.alloc | apply Kept.drewN | apply Kept.drew) | exact HK.out)) (fun k_ e_ => (HO_0.out.1 k_ e_))); have n2_ := Aside0.mk (ho); clear HB; clear HK; clear HO_0; have HB := n0_; have HK := n1_; have HO106 := n2_; clear n0_ n1_ n2_; clear ho hb hg hat))
          go_ret
          exact ⟨_, by first | rfl | (simp [errW_none, errW_some] <;> rfl) | (simp [*, errW_none, errW_some] <;> rfl), by (with_reducible repeat (first | apply Kd.R_alloc | apply Kd.R_drewN | apply Kd.R_drew)); exact HO106.out, by repeat (first | (with_reducible first | exact HB.out | apply below_alloc | apply pw_below_drewN | apply below_drew1) | exact HB.out), by repeat (first | (with_reducible first | exact HK.out | apply Kept.alloc | apply Kept.drewN | apply Kept.drew) | exact HK.out)⟩
        · rw [if_neg c6] at H
          exact absurd H (by simp)
def codec_Put.f (k : Nat) (l0 : List Int) (a1 : Int) : Option (List Int) := if ([] : List Int).length + l0.length < 140737488355328 then ((codec_put.f k (([] : List Int) ++ l0) a1).bind fun t110 => (some t110)) else (none)
theorem codec_Put.mono : ∀ a0 a1 k, LeO (codec_Put.f k a0 a1) (codec_Put.f (k + 1) a0 a1) := by
  intro a0 a1 k
  unfold codec_Put.f
  repeat' first
      | (with_reducible exact codec_put.mono _ _ _)
      | (with_reducible exact LeO.refl _)
      | (with_reducible exact LeO.none _)
      | (with_reducible refine LeO.ite ?_ ?_)
      | (with_reducible refine LeO.bind ?_ (fun _ => ?_))
      | exact codec_put.mono _ _ _
      | exact LeO.none _
      | refine LeO.ite ?_ ?_
      | refine LeO.bind ?_ (fun _ => ?_)
set_option maxHeartbeats 8000000 in
set_option maxRecDepth 100000 in
theorem codec_Put.calls (k : Nat) (A0 : Option Addr) (c0 : Nat) (l0 : List Int) (a1 : Int) (r : List Int) (w : World) (hr0 : Kd.C (Kd.int .u8) w A0 l0.length l0) (hc0 : l0.length ≤ c0) (h : codec_Put.f k l0 a1 = some r) :
    Calls Try.prog 24 #[.slice A0 l0.length c0, .int .u64 a1] w fun e w' => ∃ v0_ : Value, e = .returned (v0_) ∧ Kd.R (Kd.int .u8) 5 w' w.heap.size (fun _ => True) v0_ r ∧ Below w.heap.size w w' := by
  have HR0 := Aside0.mk hr0
  have HC0 := Aside0.mk hc0
  clear hr0 hc0
  have HB := Aside0.mk (Below.refl w.heap.size w)
  have H : (if ([] : List Int).length + l0.length < 140737488355328 then ((codec_put.f k (([] : List Int) ++ l0) a1).bind fun t110 => (some t110)) else (none)) = some r := h
  clear h
  by_cases c3 : ([] : List Int).length + l0.length < 140737488355328
  · rw [if_pos c3] at H
    have LMc3 := Aside0.mk c3
    clear c3
    obtain ⟨y107, hy107⟩ : ∃ y_ : List Int, y_ = (([] : List Int) ++ l0) := ⟨_, rfl⟩
    replace H : ((codec_put.f k y107 a1).bind fun t110 => (some t110)) = some r := by first | (rw [hy107]; with_reducible exact H) | (have H2_ := (Option.bind_some _ _).symm.trans H; rw [hy107]; with_reducible exact H2_) | (have H2_ := (Option.bind_some _ _).symm.trans H; with_reducible exact H2_) | with_reducible exact H | (rw [hy107]; exact H) | exact H
    have Ny107 := Aside0.mk hy107
    clear hy107
    replace H := Option.bind_eq_some_iff.mp H
    obtain ⟨t110, A40, H⟩ := H
    replace H : (some t110) = some r := H
    have A4 := Aside0.mk A40
    clear A40
    obtain rfl := Option.some.inj H
    go_enter Try.func24, Try.ntmps24
    go_wp2_with (first | ((with_reducible refine gate_builtin (b := .append) (xs := #[.const (.slice none 0 0), .tmp 5]) rfl ?_); at_builtin; refine Kd.R_append_rows (Kd.int .u8) (w0 := w) w.heap.size rfl (.const (.slice none 0 0)) (.tmp 5) 27 5 (.int .u8 0) 1 rfl Try.underlying27 info5 rfl (by decide) (by omega) (.slice none 0 0) ([] : List Int) l0 _ _ _ (fun _ => True) (fun _ => False) rfl rfl ?aO ?aR (fun _ _ h => h) (fun _ h => h.elim) ?aF ?aB ?aS ?aL ?_; (case aR => repeat (first | exact HR0.out | (with_reducible refine Kd.C_alloc ?_ _) | (with_reducible refine Kd.C_drewN ?_ _) | (with_reducible refine Kd.C_drew ?_))); (case aB => exact (by repeat (first | (with_reducible first | exact HB.out | apply below_alloc | apply pw_below_drewN | apply below_drew1) | exact HB.out))); (case aF => exact (fun _ _ => trivial)); (case aO => exact ((Kd.R_nil _ _ _ _ (fun _ => True)))); (case aS => exact (below_size (by repeat (first | (with_reducible first | exact HB.out | apply below_alloc | apply pw_below_drewN | apply below_drew1) | exact HB.out)))); (case aL => have := LMc3.out; omega); intro v108 w5 ho hb hg hat; rw [← Ny107.out] at ho; have n0_ := Aside0.mk (hb); have n1_ := Aside0.mk (ho); clear HB; have HB := n0_; have HO109 := n1_; clear n0_ n1_; clear ho hb hg hat; obtain ⟨Ao6, co6, eo6⟩ := Kd.R_slice HO109.out; subst eo6) | ((with_reducible refine gate_callee (f := 73) rfl ?_); refine goesL_ (some 8) rfl rfl Try.func73 (by kernel_rfl) rfl #[.slice Ao6 y107.length co6, .int .u64 a1] rfl (by (try simp only [List.map_toArray, List.map_cons, List.map_nil]); first | done | rfl | (simp only [List.length_drop, List.length_take]; rfl)) ?_; (with_reducible refine (codec_put.calls k (fun k_ => some k_ = (.slice Ao6 y107.length co6 : Value).ownBlock) (.slice Ao6 y107.length co6) y107 a1 t110 w _ ?side1 ?side2 A4.out).mono ?_); (case side1 => repeat (first | (with_reducible first | exact HB.out | apply below_alloc | apply pw_below_drewN | apply below_drew1) | exact HB.out)); (case side2 => exact Kd.R_tight rfl HO109.out); rintro e w7 ⟨v111, rfl, ho0, hb, hkp⟩; refine ⟨_, rfl, ?_⟩; have n0_ := Aside0.mk (Kd.R_mono (ok' := fun k_ => True) ho0 (fun k_ hk_ => trivial)); have n1_ := Aside0.mk (hb); clear HB; clear HO109; have HO112 := n0_; have HB := n1_; clear n0_ n1_; (try clear hb); (try clear hkp); (try clear ho0)))
    go_ret
    exact ⟨_, by first | rfl | (simp [errW_none, errW_some] <;> rfl) | (simp [*, errW_none, errW_some] <;> rfl), by (with_reducible repeat (first | apply Kd.R_alloc | apply Kd.R_drewN | apply Kd.R_drew)); exact HO112.out, by repeat (first | (with_reducible first | exact HB.out | apply below_alloc | apply pw_below_drewN | apply below_drew1) | exact HB.out)⟩
  · rw [if_neg c3] at H
    exact absurd H (by simp)
def skerryref01_Same.f (l0 : List Int) (l1 : List Int) : Option (Bool) := some ((strOfNums l0).toList == (strOfNums l1).toList)
set_option maxHeartbeats 8000000 in
set_option maxRecDepth 100000 in
theorem skerryref01_Same.calls (A0 : Option Addr) (c0 : Nat) (l0 : List Int) (A1 : Option Addr) (c1 : Nat) (l1 : List Int) (r : Bool) (w : World) (hr0 : Kd.C (Kd.int .u8) w A0 l0.length l0) (hc0 : l0.length ≤ c0) (hr1 : Kd.C (Kd.int .u8) w A1 l1.length l1) (hc1 : l1.length ≤ c1) (h : skerryref01_Same.f l0 l1 = some r) :
    Calls Try.prog 28 #[.slice A0 l0.length c0, .slice A1 l1.length c1] w fun e w' => e = .returned (.bool r) ∧ Drawn0 w w' := by
  have HR0 := Aside0.mk hr0
  have HC0 := Aside0.mk hc0
  clear hr0 hc0
  have HR1 := Aside0.mk hr1
  have HC1 := Aside0.mk hc1
  clear hr1 hc1
  have H : (some ((strOfNums l0).toList == (strOfNums l1).toList)) = some r := h
  clear h
  obtain rfl := Option.some.inj H
  have hcv3 := Kd.C_string (P := Try.prog) (A := A0) (c := c0) Try.underlying27 Try.underlying5 Try.underlying9 HR0.out
  have hcvq3 := fun n_ : Nat => Kd.C_string (P := Try.prog) (A := A0) (c := c0) Try.underlying27 Try.underlying5 Try.underlying9 (Kd.C_drewN (HR0.out) n_)
  (try (rw [cut_len_mid] at hcvq3; rotate_left; exact of_decide_eq_true (by first | (with_reducible assumption) | assumption)))
  (try (rw [cut_len_take] at hcvq3; rotate_left; exact of_decide_eq_true (by first | (with_reducible assumption) | assumption)))
  (try rw [List.length_drop] at hcvq3)
  (try simp only [Int.reduceToNat, Int.toNat_one, Int.toNat_ofNat] at hcvq3)
  have hcv4 := Kd.C_string (P := Try.prog) (A := A1) (c := c1) Try.underlying27 Try.underlying5 Try.underlying9 HR1.out
  have hcvq4 := fun n_ : Nat => Kd.C_string (P := Try.prog) (A := A1) (c := c1) Try.underlying27 Try.underlying5 Try.underlying9 (Kd.C_drewN (HR1.out) n_)
  (try (rw [cut_len_mid] at hcvq4; rotate_left; exact of_decide_eq_true (by first | (with_reducible assumption) | assumption)))
  (try (rw [cut_len_take] at hcvq4; rotate_left; exact of_decide_eq_true (by first | (with_reducible assumption) | assumption)))
  (try rw [List.length_drop] at hcvq4)
  (try simp only [Int.reduceToNat, Int.toNat_one, Int.toNat_ofNat] at hcvq4)
  go_enter Try.func28, Try.ntmps28
  go_wp2
  go_ret
  exact ⟨by first | rfl | (simp; done) | (simp [*]; done), by repeat (first | exact Drawn0.refl _ | apply Drawn0.step)⟩
def codec_text.f (k : Nat) (l0 : List Int) (a1 : ByteArray) : Option (List Int) := (codec_put.f k l0 (IntKind.u64.wrap ((a1.size : Int)))).bind fun t113 => (if t113.length + a1.size < 140737488355328 then (some (t113 ++ bytesOf a1)) else (none))
theorem codec_text.mono : ∀ a0 a1 k, LeO (codec_text.f k a0 a1) (codec_text.f (k + 1) a0 a1) := by
  intro a0 a1 k
  unfold codec_text.f
  repeat' first
      | (with_reducible exact codec_put.mono _ _ _)
      | (with_reducible exact LeO.refl _)
      | (with_reducible exact LeO.none _)
      | (with_reducible refine LeO.ite ?_ ?_)
      | (with_reducible refine LeO.bind ?_ (fun _ => ?_))
      | exact codec_put.mono _ _ _
      | exact LeO.none _
      | refine LeO.ite ?_ ?_
      | refine LeO.bind ?_ (fun _ => ?_)
set_option maxHeartbeats 8000000 in
set_option maxRecDepth 100000 in
theorem codec_text.calls (k : Nat) (P0_ : Nat → Prop) (u9000_ : Value) (l0 : List Int) (a1 : ByteArray) (r : List Int) (w0 w : World) (hB : Below w0.heap.size w0 w) (ho0 : Kd.R (Kd.int .u8) 5 w w0.heap.size P0_ u9000_ l0) (h : codec_text.f k l0 a1 = some r) :
    Calls Try.prog 74 #[u9000_, .string a1] w fun e w' => ∃ v0_ : Value, e = .returned (v0_) ∧ Kd.R (Kd.int .u8) 5 w' w0.heap.size (fun k_ => (P0_ k_ ∨ w.heap.size ≤ k_)) v0_ r ∧ Below w0.heap.size w0 w' ∧ Kept w w' (fun k_ => P0_ k_) := by
  have HO0 := Aside0.mk (show Kd.R (Kd.int .u8) 5 w w0.heap.size (fun k_ => (P0_ k_ ∨ w.heap.size ≤ k_)) u9000_ l0 from Kd.R_mono ho0 (fun k_ hk => (.inl hk)))
  have HK := Aside0.mk (Kept.refl w (fun k_ => P0_ k_))
  have HW0 := Aside0.mk hB.size
  have HB := Aside0.mk hB
  clear hB
  have H : ((codec_put.f k l0 (IntKind.u64.wrap ((a1.size : Int)))).bind fun t113 => (if t113.length + a1.size < 140737488355328 then (some (t113 ++ bytesOf a1)) else (none))) = some r := h
  clear h
  replace H := Option.bind_eq_some_iff.mp H
  obtain ⟨t113, A30, H⟩ := H
  replace H : (if t113.length + a1.size < 140737488355328 then (some (t113 ++ bytesOf a1)) else (none)) = some r := H
  have A3 := Aside0.mk A30
  clear A30
  by_cases c4 : t113.length + a1.size < 140737488355328
  · rw [if_pos c4] at H
    have LMc4 := Aside0.mk c4
    clear c4
    obtain ⟨y116, hy116⟩ : ∃ y_ : List Int, y_ = (t113 ++ bytesOf a1) := ⟨_, rfl⟩
    replace H : (some y116) = some r := by first | (rw [hy116]; with_reducible exact H) | (have H2_ := (Option.bind_some _ _).symm.trans H; rw [hy116]; with_reducible exact H2_) | (have H2_ := (Option.bind_some _ _).symm.trans H; with_reducible exact H2_) | with_reducible exact H | (rw [hy116]; exact H) | exact H
    have Ny116 := Aside0.mk hy116
    clear hy116
    obtain rfl := Option.some.inj H
    obtain ⟨Ao5, co5, eo5⟩ := Kd.R_slice HO0.out
    subst eo5
    go_enter Try.func74, Try.ntmps74
    go_wp2_with (first | ((with_reducible refine gate_callee (f := 73) rfl ?_); refine goesL_ (some 9) rfl rfl Try.func73 (by kernel_rfl) rfl #[.slice Ao5 l0.length co5, .int .u64 (IntKind.u64.wrap ((a1.size : Int)))] rfl (by (try simp only [List.map_toArray, List.map_cons, List.map_nil]); first | done | rfl | (simp only [List.length_drop, List.length_take]; rfl)) ?_; (with_reducible refine (codec_put.calls k (fun k_ => some k_ = (.slice Ao5 l0.length co5 : Value).ownBlock) (.slice Ao5 l0.length co5) l0 (IntKind.u64.wrap ((a1.size : Int))) t113 w0 _ ?side1 ?side2 A3.out).mono ?_); (case side1 => repeat (first | (with_reducible first | exact HB.out | apply below_alloc | apply pw_below_drewN | apply below_drew1) | exact HB.out)); (case side2 => exact Kd.R_tight rfl HO0.out); rintro e w6 ⟨v114, rfl, ho0, hb, hkp⟩; refine ⟨_, rfl, ?_⟩; have n0_ := Aside0.mk (Kd.R_mono (ok' := fun k_ => (P0_ k_ ∨ w.heap.size ≤ k_)) ho0 (fun k_ hk_ => Or.elim hk_ (fun hs_ => (HO0.out.1 k_ (hs_).symm)) (fun hn_ => (.inr (Nat.le_trans (by first | exact HK.out.1 | exact (show Kept w _ (fun k_ => P0_ k_) from by repeat (first | (with_reducible first | exact HK.out | apply Kept.alloc | apply Kept.drewN | apply Kept.drew) | exact HK.out)).1) hn_))))); have n1_ := Aside0.mk (Kept.then_ (S := (fun k_ => P0_ k_)) (by repeat (first | (with_reducible first | exact HK.out | apply Kept.alloc | apply Kept.drewN | apply Kept.drew) | exact HK.out)) hkp (fun k_ hs_ => (fun e_ => (HO0.out.1 k_ e_.symm)) hs_)); have n2_ := Aside0.mk (hb); clear HK; clear HB; clear HO0; have HO115 := n0_; have HK := n1_; have HB := n2_; clear n0_ n1_ n2_; (try clear hb); (try clear hkp); (try clear ho0)) | (at_builtin; refine Kd.R_append_str (w0 := w0) w0.heap.size rfl (.tmp 9) _ 27 9 5 rfl Try.underlying27 Try.underlying9 info5 v114 t113 a1 (fun k_ => (P0_ k_ ∨ w.heap.size ≤ k_)) rfl rfl ?aO ?aF ?aB ?aS ?aL ?_; (case aB => exact (by repeat (first | (with_reducible first | exact HB.out | apply below_alloc | apply pw_below_drewN | apply below_drew1) | exact HB.out))); (case aF => exact (fun k_ hk => (.inr (Nat.le_trans (by first | exact HK.out.1 | exact (show Kept w _ (fun k_ => P0_ k_) from by repeat (first | (with_reducible first | exact HK.out | apply Kept.alloc | apply Kept.drewN | apply Kept.drew) | exact HK.out)).1) hk)))); (case aO => exact (by (with_reducible repeat (first | apply Kd.R_alloc | apply Kd.R_drewN | apply Kd.R_drew)); exact HO115.out)); (case aS => exact (below_size (by repeat (first | (with_reducible first | exact HB.out | apply below_alloc | apply pw_below_drewN | apply below_drew1) | exact HB.out)))); (case aL => have := LMc4.out; omega); intro v117 w7 ho hb hg hat; rw [← Ny116.out] at ho; change Kd.R (Kd.int .u8) 5 w7 w0.heap.size (fun k_ => (P0_ k_ ∨ w.heap.size ≤ k_)) v117 y116 at ho; have n0_ := Aside0.mk (hb); have n1_ := Aside0.mk (Kept.of_grown (S := (fun k_ => P0_ k_)) hg (by repeat (first | (with_reducible first | exact HK.out | apply Kept.alloc | apply Kept.drewN | apply Kept.drew) | exact HK.out)) (fun k_ e_ => (HO115.out.1 k_ e_))); have n2_ := Aside0.mk (ho); clear HB; clear HK; clear HO115; have HB := n0_; have HK := n1_; have HO118 := n2_; clear n0_ n1_ n2_; clear ho hb hg hat))
    go_ret
    exact ⟨_, by first | rfl | (simp [errW_none, errW_some] <;> rfl) | (simp [*, errW_none, errW_some] <;> rfl), by (with_reducible repeat (first | apply Kd.R_alloc | apply Kd.R_drewN | apply Kd.R_drew)); exact HO118.out, by repeat (first | (with_reducible first | exact HB.out | apply below_alloc | apply pw_below_drewN | apply below_drew1) | exact HB.out), by repeat (first | (with_reducible first | exact HK.out | apply Kept.alloc | apply Kept.drewN | apply Kept.drew) | exact HK.out)⟩
  · rw [if_neg c4] at H
    exact absurd H (by simp)
def codec_PutText.f (k : Nat) (l0 : List Int) (a1 : ByteArray) : Option (List Int) := if ([] : List Int).length + l0.length < 140737488355328 then ((codec_text.f k (([] : List Int) ++ l0) a1).bind fun t122 => (some t122)) else (none)
theorem codec_PutText.mono : ∀ a0 a1 k, LeO (codec_PutText.f k a0 a1) (codec_PutText.f (k + 1) a0 a1) := by
  intro a0 a1 k
  unfold codec_PutText.f
  repeat' first
      | (with_reducible exact codec_text.mono _ _ _)
      | (with_reducible exact LeO.refl _)
      | (with_reducible exact LeO.none _)
      | (with_reducible refine LeO.ite ?_ ?_)
      | (with_reducible refine LeO.bind ?_ (fun _ => ?_))
      | exact codec_text.mono _ _ _
      | exact LeO.none _
      | refine LeO.ite ?_ ?_
      | refine LeO.bind ?_ (fun _ => ?_)
set_option maxHeartbeats 8000000 in
set_option maxRecDepth 100000 in
theorem codec_PutText.calls (k : Nat) (A0 : Option Addr) (c0 : Nat) (l0 : List Int) (a1 : ByteArray) (r : List Int) (w : World) (hr0 : Kd.C (Kd.int .u8) w A0 l0.length l0) (hc0 : l0.length ≤ c0) (h : codec_PutText.f k l0 a1 = some r) :
    Calls Try.prog 35 #[.slice A0 l0.length c0, .string a1] w fun e w' => ∃ v0_ : Value, e = .returned (v0_) ∧ Kd.R (Kd.int .u8) 5 w' w.heap.size (fun _ => True) v0_ r ∧ Below w.heap.size w w' := by
  have HR0 := Aside0.mk hr0
  have HC0 := Aside0.mk hc0
  clear hr0 hc0
  have HB := Aside0.mk (Below.refl w.heap.size w)
  have H : (if ([] : List Int).length + l0.length < 140737488355328 then ((codec_text.f k (([] : List Int) ++ l0) a1).bind fun t122 => (some t122)) else (none)) = some r := h
  clear h
  by_cases c3 : ([] : List Int).length + l0.length < 140737488355328
  · rw [if_pos c3] at H
    have LMc3 := Aside0.mk c3
    clear c3
    obtain ⟨y119, hy119⟩ : ∃ y_ : List Int, y_ = (([] : List Int) ++ l0) := ⟨_, rfl⟩
    replace H : ((codec_text.f k y119 a1).bind fun t122 => (some t122)) = some r := by first | (rw [hy119]; with_reducible exact H) | (have H2_ := (Option.bind_some _ _).symm.trans H; rw [hy119]; with_reducible exact H2_) | (have H2_ := (Option.bind_some _ _).symm.trans H; with_reducible exact H2_) | with_reducible exact H | (rw [hy119]; exact H) | exact H
    have Ny119 := Aside0.mk hy119
    clear hy119
    replace H := Option.bind_eq_some_iff.mp H
    obtain ⟨t122, A40, H⟩ := H
    replace H : (some t122) = some r := H
    have A4 := Aside0.mk A40
    clear A40
    obtain rfl := Option.some.inj H
    go_enter Try.func35, Try.ntmps35
    go_wp2_with (first | ((with_reducible refine gate_builtin (b := .append) (xs := #[.const (.slice none 0 0), .tmp 5]) rfl ?_); at_builtin; refine Kd.R_append_rows (Kd.int .u8) (w0 := w) w.heap.size rfl (.const (.slice none 0 0)) (.tmp 5) 27 5 (.int .u8 0) 1 rfl Try.underlying27 info5 rfl (by decide) (by omega) (.slice none 0 0) ([] : List Int) l0 _ _ _ (fun _ => True) (fun _ => False) rfl rfl ?aO ?aR (fun _ _ h => h) (fun _ h => h.elim) ?aF ?aB ?aS ?aL ?_; (case aR => repeat (first | exact HR0.out | (with_reducible refine Kd.C_alloc ?_ _) | (with_reducible refine Kd.C_drewN ?_ _) | (with_reducible refine Kd.C_drew ?_))); (case aB => exact (by repeat (first | (with_reducible first | exact HB.out | apply below_alloc | apply pw_below_drewN | apply below_drew1) | exact HB.out))); (case aF => exact (fun _ _ => trivial)); (case aO => exact ((Kd.R_nil _ _ _ _ (fun _ => True)))); (case aS => exact (below_size (by repeat (first | (with_reducible first | exact HB.out | apply below_alloc | apply pw_below_drewN | apply below_drew1) | exact HB.out)))); (case aL => have := LMc3.out; omega); intro v120 w5 ho hb hg hat; rw [← Ny119.out] at ho; have n0_ := Aside0.mk (hb); have n1_ := Aside0.mk (ho); clear HB; have HB := n0_; have HO121 := n1_; clear n0_ n1_; clear ho hb hg hat; obtain ⟨Ao6, co6, eo6⟩ := Kd.R_slice HO121.out; subst eo6) | ((with_reducible refine gate_callee (f := 74) rfl ?_); refine goesL_ (some 8) rfl rfl Try.func74 (by kernel_rfl) rfl #[.slice Ao6 y119.length co6, .string a1] rfl (by (try simp only [List.map_toArray, List.map_cons, List.map_nil]); first | done | rfl | (simp only [List.length_drop, List.length_take]; rfl)) ?_; (with_reducible refine (codec_text.calls k (fun k_ => some k_ = (.slice Ao6 y119.length co6 : Value).ownBlock) (.slice Ao6 y119.length co6) y119 a1 t122 w _ ?side1 ?side2 A4.out).mono ?_); (case side1 => repeat (first | (with_reducible first | exact HB.out | apply below_alloc | apply pw_below_drewN | apply below_drew1) | exact HB.out)); (case side2 => exact Kd.R_tight rfl HO121.out); rintro e w7 ⟨v123, rfl, ho0, hb, hkp⟩; refine ⟨_, rfl, ?_⟩; have n0_ := Aside0.mk (Kd.R_mono (ok' := fun k_ => True) ho0 (fun k_ hk_ => trivial)); have n1_ := Aside0.mk (hb); clear HB; clear HO121; have HO124 := n0_; have HB := n1_; clear n0_ n1_; (try clear hb); (try clear hkp); (try clear ho0)))
    go_ret
    exact ⟨_, by first | rfl | (simp [errW_none, errW_some] <;> rfl) | (simp [*, errW_none, errW_some] <;> rfl), by (with_reducible repeat (first | apply Kd.R_alloc | apply Kd.R_drewN | apply Kd.R_drew)); exact HO124.out, by repeat (first | (with_reducible first | exact HB.out | apply below_alloc | apply pw_below_drewN | apply below_drew1) | exact HB.out)⟩
  · rw [if_neg c3] at H
    exact absurd H (by simp)
end Go.Proofs.Ytcopbkdlpfcjpaa.B
namespace Go.Proofs.Ytcopbkdlpfcjpaa.Ma
open Go.RowKit Go.Proofs.YtcopbkdlpfcjpaaW.PrintWords Go.Proofs.YtcopbkdlpfcjpaaW.PrintLast Go.Proofs.YtcopbkdlpfcjpaaW.PrintMore Go.Proofs.Ytcopbkdlpfcjpaa.B
theorem u64_of {a : Int} (h : (Lit.int .u64 a).wf = true) : 0 ≤ a ∧ a < 18446744073709551616 := by
  have hmin : IntKind.u64.min = 0 := rfl
  have hmax : IntKind.u64.max = 18446744073709551615 := rfl
  simp only [Lit.wf, Bool.and_eq_true, decide_eq_true_eq] at h
  omega
theorem i64_of {a : Int} (h : (Lit.int .i64 a).wf = true) : -9223372036854775808 ≤ a ∧ a < 9223372036854775808 := by
  have hmin : IntKind.i64.min = -9223372036854775808 := rfl
  have hmax : IntKind.i64.max = 9223372036854775807 := rfl
  simp only [Lit.wf, Bool.and_eq_true, decide_eq_true_eq] at h
  omega
theorem xor_ones (w x : Nat) (h : x < 2 ^ w) : x ^^^ (2 ^ w - 1) = 2 ^ w - 1 - x := by
  have h1 := congrArg BitVec.toNat (BitVec.xor_allOnes (x := BitVec.ofNat w x))
  rw [BitVec.toNat_xor, BitVec.toNat_not, BitVec.toNat_allOnes, BitVec.toNat_ofNat, Nat.mod_eq_of_lt h] at h1
  exact h1
theorem xor_ones64 (x : Nat) (h : x < 18446744073709551616) : x ^^^ 18446744073709551615 = 18446744073709551615 - x := xor_ones 64 x (by omega)
theorem wrap_in {n : Int} (h : -9223372036854775808 ≤ n ∧ n < 9223372036854775808) : wrap64 n = n := by
  unfold wrap64
  omega
theorem xor_i64_eq (a b : Int) : bits .xor .i64 a b = wrap64 ((BitVec.ofInt 64 a ^^^ BitVec.ofInt 64 b).toNat : Int) := by
  rw [← i64_w]
  rfl
theorem xor_i64_zero (a : Int) (h : -9223372036854775808 ≤ a ∧ a < 9223372036854775808) : bits .xor .i64 a 0 = a := by
  have e : BitVec.ofInt 64 0 = 0#64 := rfl
  rw [xor_i64_eq, e, BitVec.xor_zero, BitVec.toNat_ofInt]
  unfold wrap64
  omega
theorem xor_i64_ones (a : Int) (h : -9223372036854775808 ≤ a ∧ a < 9223372036854775808) : bits .xor .i64 a (-1) = -a - 1 := by
  have e : BitVec.ofInt 64 (-1) = BitVec.allOnes 64 := by decide +kernel
  rw [xor_i64_eq, e, BitVec.xor_allOnes, BitVec.toNat_not, BitVec.toNat_ofInt]
  unfold wrap64
  omega
theorem and1_u64 (m : Nat) (h : m < 18446744073709551616) : bits .and .u64 (m : Int) 1 = ((m % 2 : Nat) : Int) := by
  rw [show (1 : Int) = ((1 : Nat) : Int) from rfl, u64_and_nat _ _ h (by omega), Nat.and_one_is_mod]
theorem zag_even (u : Int) (h0 : 0 ≤ u) (h1 : u < 18446744073709551616) (h2 : u % 2 = 0) : codec_Zag.f u = some (u / 2) := by
  unfold codec_Zag.f
  obtain ⟨m, rfl⟩ := Int.eq_ofNat_of_zero_le h0
  rw [and1_u64 m (by omega), show (m % 2 : Nat) = 0 from by omega, wrap_in (by omega)]
  have e : wrap64 (-(wrap64 ((0 : Nat) : Int))) = 0 := by unfold wrap64; omega
  rw [e, xor_i64_zero _ (by omega)]
theorem zag_odd (u : Int) (h0 : 0 ≤ u) (h1 : u < 18446744073709551616) (h2 : u % 2 = 1) : codec_Zag.f u = some (-(u / 2) - 1) := by
  unfold codec_Zag.f
  obtain ⟨m, rfl⟩ := Int.eq_ofNat_of_zero_le h0
  rw [and1_u64 m (by omega), show (m % 2 : Nat) = 1 from by omega, wrap_in (by omega)]
  have e : wrap64 (-(wrap64 ((1 : Nat) : Int))) = -1 := by unfold wrap64; omega
  rw [e, xor_i64_ones _ (by omega)]
theorem zig_pos (n : Int) (h0 : 0 ≤ n) (h1 : n < 9223372036854775808) : codec_Zig.f n = some (2 * n) := by
  unfold codec_Zig.f
  rw [IntKind.wrap_u64, IntKind.wrap_u64, IntKind.wrap_u64]
  obtain ⟨m, rfl⟩ := Int.eq_ofNat_of_zero_le h0
  have e1 : ((m : Int) % 18446744073709551616 * 2) % 18446744073709551616 = ((2 * m : Nat) : Int) := by omega
  have e2 : ((m : Int) / 9223372036854775808) % 18446744073709551616 = ((0 : Nat) : Int) := by omega
  rw [e1, e2, u64_xor_nat _ _ (by omega) (by omega), Nat.xor_zero]
  congr 1
theorem zig_neg (n : Int) (h0 : n < 0) (h1 : -9223372036854775808 ≤ n) : codec_Zig.f n = some (-2 * n - 1) := by
  unfold codec_Zig.f
  rw [IntKind.wrap_u64, IntKind.wrap_u64, IntKind.wrap_u64]
  obtain ⟨m, hm⟩ : ∃ m : Nat, (m : Int) = -2 * n - 1 := ⟨(-2 * n - 1).toNat, by omega⟩
  have e1 : (n % 18446744073709551616 * 2) % 18446744073709551616 = ((18446744073709551615 - m : Nat) : Int) := by omega
  have e2 : (n / 9223372036854775808) % 18446744073709551616 = ((18446744073709551615 : Nat) : Int) := by omega
  rw [e1, e2, u64_xor_nat _ _ (by omega) (by omega), xor_ones64 _ (by omega)]
  congr 1
  omega
/-- 'zig' and 'zag' in one term each. -/
def zig (n : Int) : Int := if n < 0 then -2 * n - 1 else 2 * n
def zag (u : Int) : Int := if u % 2 = 1 then -(u / 2) - 1 else u / 2
theorem Zig_eq (n : Int) (h : -9223372036854775808 ≤ n ∧ n < 9223372036854775808) : codec_Zig.f n = some (zig n) := by
  unfold zig
  split
  · exact zig_neg n (by omega) h.1
  · exact zig_pos n (by omega) h.2
theorem Zag_eq (u : Int) (h : 0 ≤ u ∧ u < 18446744073709551616) : codec_Zag.f u = some (zag u) := by
  unfold zag
  split
  · exact zag_odd u h.1 h.2 (by omega)
  · exact zag_even u h.1 h.2 (by omega)
end Go.Proofs.Ytcopbkdlpfcjpaa.Ma
namespace Go.Proofs.Ytcopbkdlpfcjpaa.B
open Go.RowKit Go.Proofs.YtcopbkdlpfcjpaaW.PrintWords Go.Proofs.YtcopbkdlpfcjpaaW.PrintLast Go.Proofs.YtcopbkdlpfcjpaaW.PrintMore
attribute [local go_sem] max2_int min2_int max_two min_two max_three min_three max_four min_four
set_option linter.unusedVariables false
set_option linter.unusedSimpArgs false
mutual
def codec_Get.l0 : Nat → Int → List Int → Int → Int → Option (Int × Int)
  | 0, _, _, _, _ => none
  | k + 1, x4, x7, x8, x9 => if x9 < x8 then (if 0 ≤ x9 then (if x9 < (x7.length : Int) then (if x9 = 9 then (if (rd x7 x9) > 1 then (codec_Get.j1 k x4 x9 (rd x7 x9) x7 x8 x9 true) else (if x9 > 0 then (codec_Get.j1 k x4 x9 (rd x7 x9) x7 x8 x9 ((rd x7 x9) == 0)) else (codec_Get.j1 k x4 x9 (rd x7 x9) x7 x8 x9 false))) else (if x9 > 0 then (codec_Get.j1 k x4 x9 (rd x7 x9) x7 x8 x9 ((rd x7 x9) == 0)) else (codec_Get.j1 k x4 x9 (rd x7 x9) x7 x8 x9 false))) else (none)) else (none)) else (some (0, 0))
def codec_Get.j1 : Nat → Int → Int → Int → List Int → Int → Int → Bool → Option (Int × Int)
  | 0, _, _, _, _, _, _, _ => none
  | k + 1, x4, x5, x6, x7, x8, x9, x27 => if x27 = true then (some (0, 0)) else (if 0 ≤ (wrap64 (7 * x5)) then (if x6 < 128 then (some (Go.bits .or .u64 x4 (shl .u64 (IntKind.u64.wrap (Go.bits .and .u8 x6 127)) (wrap64 (7 * x5))), wrap64 (x5 + 1))) else (codec_Get.l0 k (Go.bits .or .u64 x4 (shl .u64 (IntKind.u64.wrap (Go.bits .and .u8 x6 127)) (wrap64 (7 * x5)))) x7 x8 (wrap64 (x9 + 1)))) else (none))
end
def codec_Get.f (k : Nat) (l0 : List Int) : Option (Int × Int) := codec_Get.l0 k 0 l0 (l0.length : Int) 0
theorem codec_Get.mono_l : ∀ k, (∀ y0 y1 y2 y3, LeO (codec_Get.l0 k y0 y1 y2 y3) (codec_Get.l0 (k + 1) y0 y1 y2 y3)) ∧ (∀ y0 y1 y2 y3 y4 y5 y6, LeO (codec_Get.j1 k y0 y1 y2 y3 y4 y5 y6) (codec_Get.j1 (k + 1) y0 y1 y2 y3 y4 y5 y6))
  | 0 => ⟨fun _ _ _ _ r h => by simp [codec_Get.l0] at h, fun _ _ _ _ _ _ _ r h => by simp [codec_Get.j1] at h⟩
  | k + 1 => by
    obtain ⟨ih0, ih1⟩ := codec_Get.mono_l k
    refine ⟨?_, ?_⟩
    · intro y0 y1 y2 y3
      unfold codec_Get.l0
      repeat' first
      | (with_reducible exact ih0 _ _ _ _)
      | (with_reducible exact ih1 _ _ _ _ _ _ _)
      | (with_reducible exact LeO.refl _)
      | (with_reducible exact LeO.none _)
      | (with_reducible refine LeO.ite ?_ ?_)
      | (with_reducible refine LeO.bind ?_ (fun _ => ?_))
      | exact ih0 _ _ _ _
      | exact ih1 _ _ _ _ _ _ _
      | exact LeO.none _
      | refine LeO.ite ?_ ?_
      | refine LeO.bind ?_ (fun _ => ?_)
    · intro y0 y1 y2 y3 y4 y5 y6
      unfold codec_Get.j1
      repeat' first
      | (with_reducible exact ih0 _ _ _ _)
      | (with_reducible exact ih1 _ _ _ _ _ _ _)
      | (with_reducible exact LeO.refl _)
      | (with_reducible exact LeO.none _)
      | (with_reducible refine LeO.ite ?_ ?_)
      | (with_reducible refine LeO.bind ?_ (fun _ => ?_))
      | exact ih0 _ _ _ _
      | exact ih1 _ _ _ _ _ _ _
      | exact LeO.none _
      | refine LeO.ite ?_ ?_
      | refine LeO.bind ?_ (fun _ => ?_)
theorem codec_Get.mono : ∀ a0 k, LeO (codec_Get.f k a0) (codec_Get.f (k + 1) a0) := by
  intro a0 k
  obtain ⟨ih0, ih1⟩ := codec_Get.mono_l k
  unfold codec_Get.f
  repeat' first
      | (with_reducible exact ih0 _ _ _ _)
      | (with_reducible exact ih1 _ _ _ _ _ _ _)
      | (with_reducible exact LeO.refl _)
      | (with_reducible exact LeO.none _)
      | (with_reducible refine LeO.ite ?_ ?_)
      | (with_reducible refine LeO.bind ?_ (fun _ => ?_))
      | exact ih0 _ _ _ _
      | exact ih1 _ _ _ _ _ _ _
      | exact LeO.none _
      | refine LeO.ite ?_ ?_
      | refine LeO.bind ?_ (fun _ => ?_)
set_option maxHeartbeats 8000000 in
set_option maxRecDepth 100000 in
theorem codec_Get.calls (k : Nat) (A0 : Option Addr) (c0 : Nat) (l0 : List Int) (r1 : Int) (r2 : Int) (w : World) (hr0 : Kd.C (Kd.int .u8) w A0 l0.length l0) (hc0 : l0.length ≤ c0) (h : codec_Get.f k l0 = some (r1, r2)) :
    Calls Try.prog 25 #[.slice A0 l0.length c0] w fun e w' => e = .returned (.tuple #[.int .u64 r1, .int .i64 r2]) ∧ Drawn0 w w' := by
  have HR0 := Aside0.mk hr0
  have HC0 := Aside0.mk hc0
  clear hr0 hc0
  have H : (codec_Get.l0 k 0 l0 (l0.length : Int) 0) = some (r1, r2) := h
  clear h
  have H' := Aside0.mk H
  clear H
  go_enter Try.func25, Try.ntmps25
  go_wp2
  go_loopg [4, 9] k (fun kq v4 v9 w' => ∃ (x4_1 : Int) (x9_1 : Int), v4 = .int .u64 x4_1 ∧ v9 = .int .i64 x9_1 ∧ Aside0 (codec_Get.l0 kq x4_1 l0 (l0.length : Int) x9_1 = some (r1, r2)) ∧ Aside0 (kq ≤ k) ∧ Drawn0 w w')
  case atStart => exact ⟨(0), (0), (by first | rfl | (simp; done) | (simp [*]; done)), (by first | rfl | (simp; done) | (simp [*]; done)), H', ⟨Nat.le_refl _⟩, by repeat (first | exact Drawn0.refl _ | apply Drawn0.step)⟩
  case round =>
    clear H'
    obtain ⟨x4_1, x9_1, rfl, rfl, HA, HK1, ⟨m1, rfl⟩⟩ := hrel
    cases gk with
    | zero => exact absurd HA.out (by simp [codec_Get.l0])
    | succ k1 =>
      have H := HA.out
      clear HA
      simp only [codec_Get.l0] at H
      by_cases c2 : x9_1 < (l0.length : Int)
      · rw [if_pos c2] at H
        have c2b0 : decide (x9_1 < (l0.length : Int)) = true := decide_eq_true c2
        clear c2
        by_cases c3 : 0 ≤ x9_1
        · rw [if_pos c3] at H
          have c3b0 : decide (0 ≤ x9_1) = true := decide_eq_true c3
          clear c3
          by_cases c4 : x9_1 < (l0.length : Int)
          · rw [if_pos c4] at H
            have c4b0 : decide (x9_1 < (l0.length : Int)) = true := decide_eq_true c4
            clear c4
            have HC5 := Aside0.mk H
            clear H
            have p148 : 0 ≤ (x9_1 : Int) := of_decide_eq_true (by first | (with_reducible assumption) | assumption)
            have q148 : x9_1 < (l0.length : Int) := of_decide_eq_true (by first | (with_reducible assumption) | assumption)
            obtain ⟨ad148, e148, hx148_0⟩ := Kd.at_int HR0.out x9_1 p148 q148
            cases e148
            replace p148 := eq_true p148
            replace q148 := eq_true q148
            go_upto_region 5 with (fail)
            go_cut [27] (fun v27 wc => ∃ (kq : Nat) (x27_4 : Bool), v27 = .bool x27_4 ∧ Aside0 (codec_Get.j1 kq x4_1 x9_1 (rd l0 x9_1) l0 (l0.length : Int) x9_1 x27_4 = some (r1, r2)) ∧ Aside0 (kq ≤ k1) ∧ Drawn0 w wc)
            case first =>
              have H := HC5.out
              clear HC5
              by_cases c6 : x9_1 = 9
              · rw [if_pos c6] at H
                have c6b0 : (x9_1 == 9) = true := beq_iff_eq.mpr c6
                have c6b1 : (x9_1 != 9) = false := bne_eq_false_iff_eq.mpr c6
                clear c6
                (first | rw [c6b0] | (simp only [i64_w, i32_w]; rw [c6b0]) | skip)
                by_cases c7 : (rd l0 x9_1) > 1
                · rw [if_pos c7] at H
                  have c7b0 : decide (1 < (rd l0 x9_1)) = true := decide_eq_true c7
                  clear c7
                  have H' := Aside0.mk H
                  clear H
                  go_wp2
                  go_meet
                  case rel => exact ⟨_, (true), (by first | rfl | (simp; done) | (simp [*]; done)), H', ⟨by have := HK1.out; first | omega | exact Nat.le_refl _⟩, by repeat (first | exact Drawn0.refl _ | apply Drawn0.step)⟩
                · rw [if_neg c7] at H
                  have c7b0 : decide (1 < (rd l0 x9_1)) = false := decide_eq_false c7
                  clear c7
                  by_cases c8 : x9_1 > 0
                  · rw [if_pos c8] at H
                    have c8b0 : decide (0 < x9_1) = true := decide_eq_true c8
                    clear c8
                    have H' := Aside0.mk H
                    clear H
                    go_wp2
                    go_meet
                    case rel => exact ⟨_, (((rd l0 x9_1) == 0)), (by first | rfl | (simp; done) | (simp [*]; done)), H', ⟨by have := HK1.out; first | omega | exact Nat.le_refl _⟩, by repeat (first | exact Drawn0.refl _ | apply Drawn0.step)⟩
                  · rw [if_neg c8] at H
                    have c8b0 : decide (0 < x9_1) = false := decide_eq_false c8
                    clear c8
                    have H' := Aside0.mk H
                    clear H
                    go_wp2
                    go_meet
                    case rel => exact ⟨_, (false), (by first | rfl | (simp; done) | (simp [*]; done)), H', ⟨by have := HK1.out; first | omega | exact Nat.le_refl _⟩, by repeat (first | exact Drawn0.refl _ | apply Drawn0.step)⟩
              · rw [if_neg c6] at H
                have c6b0 : (x9_1 == 9) = false := beq_eq_false_iff_ne.mpr c6
                have c6b1 : (x9_1 != 9) = true := bne_iff_ne.mpr c6
                (first | rw [c6b0] | (simp only [i64_w, i32_w]; rw [c6b0]) | skip)
                by_cases c9 : x9_1 > 0
                · rw [if_pos c9] at H
                  have c9b0 : decide (0 < x9_1) = true := decide_eq_true c9
                  clear c9
                  have H' := Aside0.mk H
                  clear H
                  go_wp2
                  go_meet
                  case rel => exact ⟨_, (((rd l0 x9_1) == 0)), (by first | rfl | (simp; done) | (simp [*]; done)), H', ⟨by have := HK1.out; first | omega | exact Nat.le_refl _⟩, by repeat (first | exact Drawn0.refl _ | apply Drawn0.step)⟩
                · rw [if_neg c9] at H
                  have c9b0 : decide (0 < x9_1) = false := decide_eq_false c9
                  clear c9
                  have H' := Aside0.mk H
                  clear H
                  go_wp2
                  go_meet
                  case rel => exact ⟨_, (false), (by first | rfl | (simp; done) | (simp [*]; done)), H', ⟨by have := HK1.out; first | omega | exact Nat.le_refl _⟩, by repeat (first | exact Drawn0.refl _ | apply Drawn0.step)⟩
            case rest =>
              clear HC5
              try clear p1
              try clear q1
              try clear hx1
              try clear c2
              try clear c2b0
              try clear p2
              try clear c3
              try clear c3b0
              try clear c4
              try clear c4b0
              try clear c6
              try clear c6b0
              try clear c6b1
              try clear c7
              try clear c7b0
              try clear c8
              try clear c8b0
              try clear c9
              try clear c9b0
              try clear hx148_0
              try clear p148
              try clear q148
              obtain ⟨kq, x27_4, rfl, HA, HJ4, ⟨mc4, rfl⟩⟩ := hcut
              cases kq with
              | zero => exact absurd HA.out (by simp [codec_Get.j1])
              | succ kj4 =>
                have H := HA.out
                clear HA
                simp only [codec_Get.j1] at H
                by_cases c10 : x27_4 = true
                · subst c10
                  have H1 : (some (0, 0)) = some (r1, r2) := by rw [if_pos rfl] at H; exact H
                  clear H
                  have H := H1
                  clear H1
                  simp only [Option.some.injEq, Prod.mk.injEq] at H
                  obtain ⟨rfl, rfl⟩ := H
                  go_wp2
                  go_ret2
                  exact ⟨by first | rfl | (simp; done) | (simp [*]; done), by repeat (first | exact Drawn0.refl _ | apply Drawn0.step)⟩
                · replace c10 := Bool.eq_false_iff.mpr c10
                  subst c10
                  have H1 : (if 0 ≤ (wrap64 (7 * x9_1)) then (if (rd l0 x9_1) < 128 then (some (Go.bits .or .u64 x4_1 (shl .u64 (IntKind.u64.wrap (Go.bits .and .u8 (rd l0 x9_1) 127)) (wrap64 (7 * x9_1))), wrap64 (x9_1 + 1))) else (codec_Get.l0 kj4 (Go.bits .or .u64 x4_1 (shl .u64 (IntKind.u64.wrap (Go.bits .and .u8 (rd l0 x9_1) 127)) (wrap64 (7 * x9_1)))) l0 (l0.length : Int) (wrap64 (x9_1 + 1)))) else (none)) = some (r1, r2) := by rw [if_neg (show ¬ (false = true) by decide)] at H; exact H
                  clear H
                  have H := H1
                  clear H1
                  obtain ⟨ji11, hji11⟩ : ∃ j_ : Int, (wrap64 (7 * x9_1)) = j_ := ⟨_, rfl⟩
                  replace H : (if 0 ≤ (ji11) then (if (rd l0 x9_1) < 128 then (some (Go.bits .or .u64 x4_1 (shl .u64 (IntKind.u64.wrap (Go.bits .and .u8 (rd l0 x9_1) 127)) (ji11)), wrap64 (x9_1 + 1))) else (codec_Get.l0 kj4 (Go.bits .or .u64 x4_1 (shl .u64 (IntKind.u64.wrap (Go.bits .and .u8 (rd l0 x9_1) 127)) (ji11))) l0 (l0.length : Int) (wrap64 (x9_1 + 1)))) else (none)) = some (r1, r2) := by first | (rw [hji11] at H; exact H) | (simp only [hji11] at H ⊢; exact H)
                  have hji11w : (IntKind.i64.wrap (7 * x9_1)) = ji11 := (i64_w _).trans hji11
                  by_cases c12 : 0 ≤ (ji11)
                  · rw [if_pos c12] at H
                    have c12b0 := eq_true c12
                    have c12b1 : decide (0 ≤ (ji11)) = true := decide_eq_true c12
                    clear c12
                    obtain ⟨ji13, hji13⟩ : ∃ j_ : Int, (shl .u64 (IntKind.u64.wrap (Go.bits .and .u8 (rd l0 x9_1) 127)) (ji11)) = j_ := ⟨_, rfl⟩
                    replace H : (if (rd l0 x9_1) < 128 then (some (Go.bits .or .u64 x4_1 (ji13), wrap64 (x9_1 + 1))) else (codec_Get.l0 kj4 (Go.bits .or .u64 x4_1 (ji13)) l0 (l0.length : Int) (wrap64 (x9_1 + 1)))) = some (r1, r2) := by first | (rw [hji13] at H; exact H) | (simp only [hji13] at H ⊢; exact H)
                    have hji13_ : (IntKind.u64.wrap ((IntKind.u64.wrap (Go.bits .and .u8 (rd l0 x9_1) 127)) * 2 ^ min (ji11).toNat 64)) = ji13 := hji13
                    have hji13z : (ji11) ≤ 64 → (IntKind.u64.wrap ((IntKind.u64.wrap (Go.bits .and .u8 (rd l0 x9_1) 127)) * 2 ^ (ji11).toNat)) = ji13 := shl_small hji13
                    by_cases c14 : (rd l0 x9_1) < 128
                    · rw [if_pos c14] at H
                      have c14b0 : decide ((rd l0 x9_1) < 128) = true := decide_eq_true c14
                      clear c14
                      simp only [Option.some.injEq, Prod.mk.injEq] at H
                      obtain ⟨rfl, rfl⟩ := H
                      go_wp2
                      go_ret2
                      exact ⟨by first | rfl | (simp; done) | (simp only [← hji11, ← hji13] <;> (first | rfl | simp)) | (simp [*]; done), by repeat (first | exact Drawn0.refl _ | apply Drawn0.step)⟩
                    · rw [if_neg c14] at H
                      have c14b0 : decide ((rd l0 x9_1) < 128) = false := decide_eq_false c14
                      clear c14
                      have H' := Aside0.mk H
                      clear H
                      go_wp2
                      go_roundg kj4
                      case measure => have := HK1.out; have := HJ4.out; omega
                      case rel => exact ⟨(Go.bits .or .u64 x4_1 (ji13)), (wrap64 (x9_1 + 1)), (by first | rfl | (simp; done) | (simp only [← hji13] <;> (first | rfl | simp)) | (simp [*]; done)), (by first | rfl | (simp; done) | (simp [*]; done)), H', ⟨by have := HK1.out; have := HJ4.out; omega⟩, by repeat (first | exact Drawn0.refl _ | apply Drawn0.step)⟩
                  · rw [if_neg c12] at H
                    exact absurd H (by simp)
          · rw [if_neg c4] at H
            exact absurd H (by simp)
        · rw [if_neg c3] at H
          exact absurd H (by simp)
      · rw [if_neg c2] at H
        have c2b0 : decide (x9_1 < (l0.length : Int)) = false := decide_eq_false c2
        clear c2
        simp only [Option.some.injEq, Prod.mk.injEq] at H
        obtain ⟨rfl, rfl⟩ := H
        go_wp2
        go_ret2
        exact ⟨by first | rfl | (simp; done) | (simp [*]; done), by repeat (first | exact Drawn0.refl _ | apply Drawn0.step)⟩
end Go.Proofs.Ytcopbkdlpfcjpaa.B
namespace Go.Proofs.Ytcopbkdlpfcjpaa.B
open Go.RowKit Go.Proofs.YtcopbkdlpfcjpaaW.PrintWords Go.Proofs.YtcopbkdlpfcjpaaW.PrintLast Go.Proofs.YtcopbkdlpfcjpaaW.PrintMore
attribute [local go_sem] max2_int min2_int max_two min_two max_three min_three max_four min_four
set_option linter.unusedVariables false
set_option linter.unusedSimpArgs false
mutual
def skerryref01_Get.l0 : Nat → List Int → Int → Int → Option (Int × Int)
  | 0, _, _, _ => none
  | k + 1, x0, x4, x5 => if x5 < (x0.length : Int) then (skerryref01_Get.j1 k x0 x4 x5 (decide (x5 < 10))) else (skerryref01_Get.j1 k x0 x4 x5 false)
def skerryref01_Get.j1 : Nat → List Int → Int → Int → Bool → Option (Int × Int)
  | 0, _, _, _, _ => none
  | k + 1, x0, x4, x5, x13 => if x13 = true then (if x5 = 9 then (if 0 ≤ x5 then (if x5 < (x0.length : Int) then (skerryref01_Get.j2 k x0 x4 x5 (decide ((rd x0 x5) > 1))) else (none)) else (none)) else (skerryref01_Get.j2 k x0 x4 x5 false)) else (some (0, 0))
def skerryref01_Get.j2 : Nat → List Int → Int → Int → Bool → Option (Int × Int)
  | 0, _, _, _, _ => none
  | k + 1, x0, x4, x5, x24 => if x24 = true then (some (0, 0)) else (if 0 ≤ x5 then (if x5 < (x0.length : Int) then (if 0 ≤ (IntKind.u64.wrap (wrap64 (7 * x5))) then (if (rd x0 x5) < 128 then (if x5 > 0 then (if (rd x0 x5) = 0 then (some (0, 0)) else (some (IntKind.u64.wrap (x4 + (shl .u64 (IntKind.u64.wrap (Int.tmod (rd x0 x5) 128)) (IntKind.u64.wrap (wrap64 (7 * x5))))), wrap64 (x5 + 1)))) else (some (IntKind.u64.wrap (x4 + (shl .u64 (IntKind.u64.wrap (Int.tmod (rd x0 x5) 128)) (IntKind.u64.wrap (wrap64 (7 * x5))))), wrap64 (x5 + 1)))) else (skerryref01_Get.l0 k x0 (IntKind.u64.wrap (x4 + (shl .u64 (IntKind.u64.wrap (Int.tmod (rd x0 x5) 128)) (IntKind.u64.wrap (wrap64 (7 * x5)))))) (wrap64 (x5 + 1)))) else (none)) else (none)) else (none))
end
def skerryref01_Get.f (k : Nat) (l0 : List Int) : Option (Int × Int) := skerryref01_Get.l0 k l0 0 0
theorem skerryref01_Get.mono_l : ∀ k, (∀ y0 y1 y2, LeO (skerryref01_Get.l0 k y0 y1 y2) (skerryref01_Get.l0 (k + 1) y0 y1 y2)) ∧ (∀ y0 y1 y2 y3, LeO (skerryref01_Get.j1 k y0 y1 y2 y3) (skerryref01_Get.j1 (k + 1) y0 y1 y2 y3)) ∧ (∀ y0 y1 y2 y3, LeO (skerryref01_Get.j2 k y0 y1 y2 y3) (skerryref01_Get.j2 (k + 1) y0 y1 y2 y3))
  | 0 => ⟨fun _ _ _ r h => by simp [skerryref01_Get.l0] at h, fun _ _ _ _ r h => by simp [skerryref01_Get.j1] at h, fun _ _ _ _ r h => by simp [skerryref01_Get.j2] at h⟩
  | k + 1 => by
    obtain ⟨ih0, ih1, ih2⟩ := skerryref01_Get.mono_l k
    refine ⟨?_, ?_, ?_⟩
    · intro y0 y1 y2
      unfold skerryref01_Get.l0
      repeat' first
      | (with_reducible exact ih0 _ _ _)
      | (with_reducible exact ih1 _ _ _ _)
      | (with_reducible exact ih2 _ _ _ _)
      | (with_reducible exact LeO.refl _)
      | (with_reducible exact LeO.none _)
      | (with_reducible refine LeO.ite ?_ ?_)
      | (with_reducible refine LeO.bind ?_ (fun _ => ?_))
      | exact ih0 _ _ _
      | exact ih1 _ _ _ _
      | exact ih2 _ _ _ _
      | exact LeO.none _
      | refine LeO.ite ?_ ?_
      | refine LeO.bind ?_ (fun _ => ?_)
    · intro y0 y1 y2 y3
      unfold skerryref01_Get.j1
      repeat' first
      | (with_reducible exact ih0 _ _ _)
      | (with_reducible exact ih1 _ _ _ _)
      | (with_reducible exact ih2 _ _ _ _)
      | (with_reducible exact LeO.refl _)
      | (with_reducible exact LeO.none _)
      | (with_reducible refine LeO.ite ?_ ?_)
      | (with_reducible refine LeO.bind ?_ (fun _ => ?_))
      | exact ih0 _ _ _
      | exact ih1 _ _ _ _
      | exact ih2 _ _ _ _
      | exact LeO.none _
      | refine LeO.ite ?_ ?_
      | refine LeO.bind ?_ (fun _ => ?_)
    · intro y0 y1 y2 y3
      unfold skerryref01_Get.j2
      repeat' first
      | (with_reducible exact ih0 _ _ _)
      | (with_reducible exact ih1 _ _ _ _)
      | (with_reducible exact ih2 _ _ _ _)
      | (with_reducible exact LeO.refl _)
      | (with_reducible exact LeO.none _)
      | (with_reducible refine LeO.ite ?_ ?_)
      | (with_reducible refine LeO.bind ?_ (fun _ => ?_))
      | exact ih0 _ _ _
      | exact ih1 _ _ _ _
      | exact ih2 _ _ _ _
      | exact LeO.none _
      | refine LeO.ite ?_ ?_
      | refine LeO.bind ?_ (fun _ => ?_)
theorem skerryref01_Get.mono : ∀ a0 k, LeO (skerryref01_Get.f k a0) (skerryref01_Get.f (k + 1) a0) := by
  intro a0 k
  obtain ⟨ih0, ih1, ih2⟩ := skerryref01_Get.mono_l k
  unfold skerryref01_Get.f
  repeat' first
      | (with_reducible exact ih0 _ _ _)
      | (with_reducible exact ih1 _ _ _ _)
      | (with_reducible exact ih2 _ _ _ _)
      | (with_reducible exact LeO.refl _)
      | (with_reducible exact LeO.none _)
      | (with_reducible refine LeO.ite ?_ ?_)
      | (with_reducible refine LeO.bind ?_ (fun _ => ?_))
      | exact ih0 _ _ _
      | exact ih1 _ _ _ _
      | exact ih2 _ _ _ _
      | exact LeO.none _
      | refine LeO.ite ?_ ?_
      | refine LeO.bind ?_ (fun _ => ?_)
set_option maxHeartbeats 8000000 in
set_option maxRecDepth 100000 in
theorem skerryref01_Get.calls (k : Nat) (A0 : Option Addr) (c0 : Nat) (l0 : List Int) (r1 : Int) (r2 : Int) (w : World) (hr0 : Kd.C (Kd.int .u8) w A0 l0.length l0) (hc0 : l0.length ≤ c0) (h : skerryref01_Get.f k l0 = some (r1, r2)) :
    Calls Try.prog 27 #[.slice A0 l0.length c0] w fun e w' => e = .returned (.tuple #[.int .u64 r1, .int .i64 r2]) ∧ Drawn0 w w' := by
  have HR0 := Aside0.mk hr0
  have HC0 := Aside0.mk hc0
  clear hr0 hc0
  have H : (skerryref01_Get.l0 k l0 0 0) = some (r1, r2) := h
  clear h
  have H' := Aside0.mk H
  clear H
  go_enter Try.func27, Try.ntmps27
  go_wp2
  go_loopg [4, 5] k (fun kq v4 v5 w' => ∃ (x4_1 : Int) (x5_1 : Int), v4 = .int .u64 x4_1 ∧ v5 = .int .i64 x5_1 ∧ Aside0 (skerryref01_Get.l0 kq l0 x4_1 x5_1 = some (r1, r2)) ∧ Aside0 (kq ≤ k) ∧ Drawn0 w w')
  case atStart => exact ⟨(0), (0), (by first | rfl | (simp; done) | (simp [*]; done)), (by first | rfl | (simp; done) | (simp [*]; done)), H', ⟨Nat.le_refl _⟩, by repeat (first | exact Drawn0.refl _ | apply Drawn0.step)⟩
  case round =>
    clear H'
    obtain ⟨x4_1, x5_1, rfl, rfl, HA, HK1, ⟨m1, rfl⟩⟩ := hrel
    cases gk with
    | zero => exact absurd HA.out (by simp [skerryref01_Get.l0])
    | succ k1 =>
      have H := HA.out
      clear HA
      simp only [skerryref01_Get.l0] at H
      have HC2 := Aside0.mk H
      clear H
      go_upto_region 3 with (fail)
      go_cut [13] (fun v13 wc => ∃ (kq : Nat) (x13_1 : Bool), v13 = .bool x13_1 ∧ Aside0 (skerryref01_Get.j1 kq l0 x4_1 x5_1 x13_1 = some (r1, r2)) ∧ Aside0 (kq ≤ k1) ∧ Drawn0 w wc)
      case first =>
        have H := HC2.out
        clear HC2
        by_cases c3 : x5_1 < (l0.length : Int)
        · rw [if_pos c3] at H
          have c3b0 : decide (x5_1 < (l0.length : Int)) = true := decide_eq_true c3
          clear c3
          (first | rw [c3b0] | (simp only [i64_w, i32_w]; rw [c3b0]) | skip)
          have H' := Aside0.mk H
          clear H
          go_wp2
          go_meet
          case rel => exact ⟨_, (decide (x5_1 < 10)), (by first | rfl | (simp; done) | (simp [*]; done)), H', ⟨by have := HK1.out; first | omega | exact Nat.le_refl _⟩, by repeat (first | exact Drawn0.refl _ | apply Drawn0.step)⟩
        · rw [if_neg c3] at H
          have c3b0 : decide (x5_1 < (l0.length : Int)) = false := decide_eq_false c3
          clear c3
          (first | rw [c3b0] | (simp only [i64_w, i32_w]; rw [c3b0]) | skip)
          have H' := Aside0.mk H
          clear H
          go_wp2
          go_meet
          case rel => exact ⟨_, (false), (by first | rfl | (simp; done) | (simp [*]; done)), H', ⟨by have := HK1.out; first | omega | exact Nat.le_refl _⟩, by repeat (first | exact Drawn0.refl _ | apply Drawn0.step)⟩
      case rest =>
        clear HC2
        try clear c2
        try clear p2
        try clear c3
        try clear c3b0
        obtain ⟨kq, x13_1, rfl, HA, HJ1, ⟨mc1, rfl⟩⟩ := hcut
        cases kq with
        | zero => exact absurd HA.out (by simp [skerryref01_Get.j1])
        | succ kj1 =>
          have H := HA.out
          clear HA
          simp only [skerryref01_Get.j1] at H
          by_cases c4 : x13_1 = true
          · subst c4
            have H1 : (if x5_1 = 9 then (if 0 ≤ x5_1 then (if x5_1 < (l0.length : Int) then (skerryref01_Get.j2 kj1 l0 x4_1 x5_1 (decide ((rd l0 x5_1) > 1))) else (none)) else (none)) else (skerryref01_Get.j2 kj1 l0 x4_1 x5_1 false)) = some (r1, r2) := by rw [if_pos rfl] at H; exact H
            clear H
            have H := H1
            clear H1
            have HC5 := Aside0.mk H
            clear H
            go_upto_region 5 with (fail)
            go_cut [24] (fun v24 wc => ∃ (kq : Nat) (x24_4 : Bool), v24 = .bool x24_4 ∧ Aside0 (skerryref01_Get.j2 kq l0 x4_1 x5_1 x24_4 = some (r1, r2)) ∧ Aside0 (kq ≤ kj1) ∧ Drawn0 w wc)
            case first =>
              have H := HC5.out
              clear HC5
              by_cases c6 : x5_1 = 9
              · rw [if_pos c6] at H
                have c6b0 : (x5_1 == 9) = true := beq_iff_eq.mpr c6
                have c6b1 : (x5_1 != 9) = false := bne_eq_false_iff_eq.mpr c6
                clear c6
                (first | rw [c6b0] | (simp only [i64_w, i32_w]; rw [c6b0]) | skip)
                by_cases c7 : 0 ≤ x5_1
                · rw [if_pos c7] at H
                  have c7b0 : decide (0 ≤ x5_1) = true := decide_eq_true c7
                  clear c7
                  by_cases c8 : x5_1 < (l0.length : Int)
                  · rw [if_pos c8] at H
                    have c8b0 : decide (x5_1 < (l0.length : Int)) = true := decide_eq_true c8
                    clear c8
                    have H' := Aside0.mk H
                    clear H
                    have p149 : 0 ≤ (x5_1 : Int) := of_decide_eq_true (by first | (with_reducible assumption) | assumption)
                    have q149 : x5_1 < (l0.length : Int) := of_decide_eq_true (by first | (with_reducible assumption) | assumption)
                    obtain ⟨ad149, e149, hx149_0⟩ := Kd.at_int HR0.out x5_1 p149 q149
                    cases e149
                    replace p149 := eq_true p149
                    replace q149 := eq_true q149
                    go_wp2
                    go_meet
                    case rel => exact ⟨_, (decide ((rd l0 x5_1) > 1)), (by first | rfl | (simp; done) | (simp [*]; done)), H', ⟨by have := HK1.out; have := HJ1.out; first | omega | exact Nat.le_refl _⟩, by repeat (first | exact Drawn0.refl _ | apply Drawn0.step)⟩
                  · rw [if_neg c8] at H
                    exact absurd H (by simp)
                · rw [if_neg c7] at H
                  exact absurd H (by simp)
              · rw [if_neg c6] at H
                have c6b0 : (x5_1 == 9) = false := beq_eq_false_iff_ne.mpr c6
                have c6b1 : (x5_1 != 9) = true := bne_iff_ne.mpr c6
                (first | rw [c6b0] | (simp only [i64_w, i32_w]; rw [c6b0]) | skip)
                have H' := Aside0.mk H
                clear H
                go_wp2
                go_meet
                case rel => exact ⟨_, (false), (by first | rfl | (simp; done) | (simp [*]; done)), H', ⟨by have := HK1.out; have := HJ1.out; first | omega | exact Nat.le_refl _⟩, by repeat (first | exact Drawn0.refl _ | apply Drawn0.step)⟩
            case rest =>
              clear HC5
              try clear c1
              try clear p1
              try clear q1
              try clear hx1
              try clear c2
              try clear p2
              try clear c3
              try clear c3b0
              try clear c4
              try clear c6
              try clear c6b0
              try clear c6b1
              try clear c7
              try clear c7b0
              try clear c8
              try clear c8b0
              try clear hx149_0
              try clear p149
              try clear p2
              try clear q149
              obtain ⟨kq, x24_4, rfl, HA, HJ4, ⟨mc4, rfl⟩⟩ := hcut
              cases kq with
              | zero => exact absurd HA.out (by simp [skerryref01_Get.j2])
              | succ kj4 =>
                have H := HA.out
                clear HA
                simp only [skerryref01_Get.j2] at H
                by_cases c9 : x24_4 = true
                · subst c9
                  have H1 : (some (0, 0)) = some (r1, r2) := by rw [if_pos rfl] at H; exact H
                  clear H
                  have H := H1
                  clear H1
                  simp only [Option.some.injEq, Prod.mk.injEq] at H
                  obtain ⟨rfl, rfl⟩ := H
                  go_wp2
                  go_ret2
                  exact ⟨by first | rfl | (simp; done) | (simp [*]; done), by repeat (first | exact Drawn0.refl _ | apply Drawn0.step)⟩
                · replace c9 := Bool.eq_false_iff.mpr c9
                  subst c9
                  have H1 : (if 0 ≤ x5_1 then (if x5_1 < (l0.length : Int) then (if 0 ≤ (IntKind.u64.wrap (wrap64 (7 * x5_1))) then (if (rd l0 x5_1) < 128 then (if x5_1 > 0 then (if (rd l0 x5_1) = 0 then (some (0, 0)) else (some (IntKind.u64.wrap (x4_1 + (shl .u64 (IntKind.u64.wrap (Int.tmod (rd l0 x5_1) 128)) (IntKind.u64.wrap (wrap64 (7 * x5_1))))), wrap64 (x5_1 + 1)))) else (some (IntKind.u64.wrap (x4_1 + (shl .u64 (IntKind.u64.wrap (Int.tmod (rd l0 x5_1) 128)) (IntKind.u64.wrap (wrap64 (7 * x5_1))))), wrap64 (x5_1 + 1)))) else (skerryref01_Get.l0 kj4 l0 (IntKind.u64.wrap (x4_1 + (shl .u64 (IntKind.u64.wrap (Int.tmod (rd l0 x5_1) 128)) (IntKind.u64.wrap (wrap64 (7 * x5_1)))))) (wrap64 (x5_1 + 1)))) else (none)) else (none)) else (none)) = some (r1, r2) := by rw [if_neg (show ¬ (false = true) by decide)] at H; exact H
                  clear H
                  have H := H1
                  clear H1
                  by_cases c10 : 0 ≤ x5_1
                  · rw [if_pos c10] at H
                    have c10b0 : decide (0 ≤ x5_1) = true := decide_eq_true c10
                    clear c10
                    by_cases c11 : x5_1 < (l0.length : Int)
                    · rw [if_pos c11] at H
                      have c11b0 : decide (x5_1 < (l0.length : Int)) = true := decide_eq_true c11
                      clear c11
                      obtain ⟨ji12, hji12⟩ : ∃ j_ : Int, (IntKind.u64.wrap (wrap64 (7 * x5_1))) = j_ := ⟨_, rfl⟩
                      replace H : (if 0 ≤ (ji12) then (if (rd l0 x5_1) < 128 then (if x5_1 > 0 then (if (rd l0 x5_1) = 0 then (some (0, 0)) else (some (IntKind.u64.wrap (x4_1 + (shl .u64 (IntKind.u64.wrap (Int.tmod (rd l0 x5_1) 128)) (ji12))), wrap64 (x5_1 + 1)))) else (some (IntKind.u64.wrap (x4_1 + (shl .u64 (IntKind.u64.wrap (Int.tmod (rd l0 x5_1) 128)) (ji12))), wrap64 (x5_1 + 1)))) else (skerryref01_Get.l0 kj4 l0 (IntKind.u64.wrap (x4_1 + (shl .u64 (IntKind.u64.wrap (Int.tmod (rd l0 x5_1) 128)) (ji12)))) (wrap64 (x5_1 + 1)))) else (none)) = some (r1, r2) := by first | (rw [hji12] at H; exact H) | (simp only [hji12] at H ⊢; exact H)
                      by_cases c13 : 0 ≤ (ji12)
                      · rw [if_pos c13] at H
                        have c13b0 := eq_true c13
                        have c13b1 : decide (0 ≤ (ji12)) = true := decide_eq_true c13
                        clear c13
                        obtain ⟨ji14, hji14⟩ : ∃ j_ : Int, (shl .u64 (IntKind.u64.wrap (Int.tmod (rd l0 x5_1) 128)) (ji12)) = j_ := ⟨_, rfl⟩
                        replace H : (if (rd l0 x5_1) < 128 then (if x5_1 > 0 then (if (rd l0 x5_1) = 0 then (some (0, 0)) else (some (IntKind.u64.wrap (x4_1 + (ji14)), wrap64 (x5_1 + 1)))) else (some (IntKind.u64.wrap (x4_1 + (ji14)), wrap64 (x5_1 + 1)))) else (skerryref01_Get.l0 kj4 l0 (IntKind.u64.wrap (x4_1 + (ji14))) (wrap64 (x5_1 + 1)))) = some (r1, r2) := by first | (rw [hji14] at H; exact H) | (simp only [hji14] at H ⊢; exact H)
                        have hji14_ : (IntKind.u64.wrap ((IntKind.u64.wrap (Int.tmod (rd l0 x5_1) 128)) * 2 ^ min (ji12).toNat 64)) = ji14 := hji14
                        have hji14z : (ji12) ≤ 64 → (IntKind.u64.wrap ((IntKind.u64.wrap (Int.tmod (rd l0 x5_1) 128)) * 2 ^ (ji12).toNat)) = ji14 := shl_small hji14
                        by_cases c15 : (rd l0 x5_1) < 128
                        · rw [if_pos c15] at H
                          have c15b0 : decide ((rd l0 x5_1) < 128) = true := decide_eq_true c15
                          clear c15
                          by_cases c16 : x5_1 > 0
                          · rw [if_pos c16] at H
                            have c16b0 : decide (0 < x5_1) = true := decide_eq_true c16
                            clear c16
                            by_cases c17 : (rd l0 x5_1) = 0
                            · rw [if_pos c17] at H
                              have c17b0 : ((rd l0 x5_1) == 0) = true := beq_iff_eq.mpr c17
                              have c17b1 : ((rd l0 x5_1) != 0) = false := bne_eq_false_iff_eq.mpr c17
                              clear c17
                              simp only [Option.some.injEq, Prod.mk.injEq] at H
                              obtain ⟨rfl, rfl⟩ := H
                              have p150 : 0 ≤ (x5_1 : Int) := of_decide_eq_true (by first | (with_reducible assumption) | assumption)
                              have q150 : x5_1 < (l0.length : Int) := of_decide_eq_true (by first | (with_reducible assumption) | assumption)
                              obtain ⟨ad150, e150, hx150_0⟩ := Kd.at_int HR0.out x5_1 p150 q150
                              cases e150
                              replace p150 := eq_true p150
                              replace q150 := eq_true q150
                              have p151 : 0 ≤ (x5_1 : Int) := of_decide_eq_true (by first | (with_reducible assumption) | assumption)
                              have q151 : x5_1 < (l0.length : Int) := of_decide_eq_true (by first | (with_reducible assumption) | assumption)
                              obtain ⟨ad151, e151, hx151_0⟩ := Kd.at_int HR0.out x5_1 p151 q151
                              obtain rfl : ad150 = ad151 := (by injection e151)
                              replace p151 := eq_true p151
                              replace q151 := eq_true q151
                              have p152 : 0 ≤ (x5_1 : Int) := of_decide_eq_true (by first | (with_reducible assumption) | assumption)
                              have q152 : x5_1 < (l0.length : Int) := of_decide_eq_true (by first | (with_reducible assumption) | assumption)
                              obtain ⟨ad152, e152, hx152_0⟩ := Kd.at_int HR0.out x5_1 p152 q152
                              obtain rfl : ad150 = ad152 := (by injection e152)
                              replace p152 := eq_true p152
                              replace q152 := eq_true q152
                              go_wp2
                              go_ret2
                              exact ⟨by first | rfl | (simp; done) | (simp only [← hji12, ← hji14] <;> (first | rfl | simp)) | (simp [*]; done), by repeat (first | exact Drawn0.refl _ | apply Drawn0.step)⟩
                            · rw [if_neg c17] at H
                              have c17b0 : ((rd l0 x5_1) == 0) = false := beq_eq_false_iff_ne.mpr c17
                              have c17b1 : ((rd l0 x5_1) != 0) = true := bne_iff_ne.mpr c17
                              simp only [Option.some.injEq, Prod.mk.injEq] at H
                              obtain ⟨rfl, rfl⟩ := H
                              have p150 : 0 ≤ (x5_1 : Int) := of_decide_eq_true (by first | (with_reducible assumption) | assumption)
                              have q150 : x5_1 < (l0.length : Int) := of_decide_eq_true (by first | (with_reducible assumption) | assumption)
                              obtain ⟨ad150, e150, hx150_0⟩ := Kd.at_int HR0.out x5_1 p150 q150
                              cases e150
                              replace p150 := eq_true p150
                              replace q150 := eq_true q150
                              have p151 : 0 ≤ (x5_1 : Int) := of_decide_eq_true (by first | (with_reducible assumption) | assumption)
                              have q151 : x5_1 < (l0.length : Int) := of_decide_eq_true (by first | (with_reducible assumption) | assumption)
                              obtain ⟨ad151, e151, hx151_0⟩ := Kd.at_int HR0.out x5_1 p151 q151
                              obtain rfl : ad150 = ad151 := (by injection e151)
                              replace p151 := eq_true p151
                              replace q151 := eq_true q151
                              have p152 : 0 ≤ (x5_1 : Int) := of_decide_eq_true (by first | (with_reducible assumption) | assumption)
                              have q152 : x5_1 < (l0.length : Int) := of_decide_eq_true (by first | (with_reducible assumption) | assumption)
                              obtain ⟨ad152, e152, hx152_0⟩ := Kd.at_int HR0.out x5_1 p152 q152
                              obtain rfl : ad150 = ad152 := (by injection e152)
                              replace p152 := eq_true p152
                              replace q152 := eq_true q152
                              go_wp2
                              go_ret2
                              exact ⟨by first | rfl | (simp; done) | (simp only [← hji12, ← hji14] <;> (first | rfl | simp)) | (simp [*]; done), by repeat (first | exact Drawn0.refl _ | apply Drawn0.step)⟩
                          · rw [if_neg c16] at H
                            have c16b0 : decide (0 < x5_1) = false := decide_eq_false c16
                            clear c16
                            simp only [Option.some.injEq, Prod.mk.injEq] at H
                            obtain ⟨rfl, rfl⟩ := H
                            have p150 : 0 ≤ (x5_1 : Int) := of_decide_eq_true (by first | (with_reducible assumption) | assumption)
                            have q150 : x5_1 < (l0.length : Int) := of_decide_eq_true (by first | (with_reducible assumption) | assumption)
                            obtain ⟨ad150, e150, hx150_0⟩ := Kd.at_int HR0.out x5_1 p150 q150
                            cases e150
                            replace p150 := eq_true p150
                            replace q150 := eq_true q150
                            have p151 : 0 ≤ (x5_1 : Int) := of_decide_eq_true (by first | (with_reducible assumption) | assumption)
                            have q151 : x5_1 < (l0.length : Int) := of_decide_eq_true (by first | (with_reducible assumption) | assumption)
                            obtain ⟨ad151, e151, hx151_0⟩ := Kd.at_int HR0.out x5_1 p151 q151
                            obtain rfl : ad150 = ad151 := (by injection e151)
                            replace p151 := eq_true p151
                            replace q151 := eq_true q151
                            go_wp2
                            go_ret2
                            exact ⟨by first | rfl | (simp; done) | (simp only [← hji12, ← hji14] <;> (first | rfl | simp)) | (simp [*]; done), by repeat (first | exact Drawn0.refl _ | apply Drawn0.step)⟩
                        · rw [if_neg c15] at H
                          have c15b0 : decide ((rd l0 x5_1) < 128) = false := decide_eq_false c15
                          clear c15
                          have H' := Aside0.mk H
                          clear H
                          have p150 : 0 ≤ (x5_1 : Int) := of_decide_eq_true (by first | (with_reducible assumption) | assumption)
                          have q150 : x5_1 < (l0.length : Int) := of_decide_eq_true (by first | (with_reducible assumption) | assumption)
                          obtain ⟨ad150, e150, hx150_0⟩ := Kd.at_int HR0.out x5_1 p150 q150
                          cases e150
                          replace p150 := eq_true p150
                          replace q150 := eq_true q150
                          have p151 : 0 ≤ (x5_1 : Int) := of_decide_eq_true (by first | (with_reducible assumption) | assumption)
                          have q151 : x5_1 < (l0.length : Int) := of_decide_eq_true (by first | (with_reducible assumption) | assumption)
                          obtain ⟨ad151, e151, hx151_0⟩ := Kd.at_int HR0.out x5_1 p151 q151
                          obtain rfl : ad150 = ad151 := (by injection e151)
                          replace p151 := eq_true p151
                          replace q151 := eq_true q151
                          go_wp2
                          go_roundg kj4
                          case measure => have := HK1.out; have := HJ1.out; have := HJ4.out; omega
                          case rel => exact ⟨(IntKind.u64.wrap (x4_1 + (ji14))), (wrap64 (x5_1 + 1)), (by first | rfl | (simp; done) | (simp only [← hji14] <;> (first | rfl | simp)) | (simp [*]; done)), (by first | rfl | (simp; done) | (simp [*]; done)), H', ⟨by have := HK1.out; have := HJ1.out; have := HJ4.out; omega⟩, by repeat (first | exact Drawn0.refl _ | apply Drawn0.step)⟩
                      · rw [if_neg c13] at H
                        exact absurd H (by simp)
                    · rw [if_neg c11] at H
                      exact absurd H (by simp)
                  · rw [if_neg c10] at H
                    exact absurd H (by simp)
          · replace c4 := Bool.eq_false_iff.mpr c4
            subst c4
            have H1 : (some (0, 0)) = some (r1, r2) := by rw [if_neg (show ¬ (false = true) by decide)] at H; exact H
            clear H
            have H := H1
            clear H1
            simp only [Option.some.injEq, Prod.mk.injEq] at H
            obtain ⟨rfl, rfl⟩ := H
            go_wp2
            go_ret2
            exact ⟨by first | rfl | (simp; done) | (simp [*]; done), by repeat (first | exact Drawn0.refl _ | apply Drawn0.step)⟩
end Go.Proofs.Ytcopbkdlpfcjpaa.B
namespace Go.Proofs.Ytcopbkdlpfcjpaa.B
open Go.RowKit Go.Proofs.YtcopbkdlpfcjpaaW.PrintWords Go.Proofs.YtcopbkdlpfcjpaaW.PrintLast Go.Proofs.YtcopbkdlpfcjpaaW.PrintMore
attribute [local go_sem] max2_int min2_int max_two min_two max_three min_three max_four min_four
set_option linter.unusedVariables false
set_option linter.unusedSimpArgs false
def codec_GetText.f (k : Nat) (l0 : List Int) : Option (ByteArray × Int) := (codec_Get.f k l0).bind fun bt165 => (if bt165.2 = 0 then (some ((⟨#[]⟩ : ByteArray), 0)) else (if bt165.1 > (IntKind.u64.wrap (wrap64 ((l0.length : Int) - bt165.2))) then (some ((⟨#[]⟩ : ByteArray), 0)) else (if 0 ≤ bt165.2 then (if bt165.2 ≤ (wrap64 (bt165.2 + (wrap64 (bt165.1)))) then (if (wrap64 (bt165.2 + (wrap64 (bt165.1)))) ≤ (l0.length : Int) then (some (strOfNums ((l0.take ((wrap64 (bt165.2 + (wrap64 (bt165.1)))) : Int).toNat).drop (bt165.2 : Int).toNat), wrap64 (bt165.2 + (wrap64 (bt165.1))))) else (none)) else (none)) else (none))))
theorem codec_GetText.mono : ∀ a0 k, LeO (codec_GetText.f k a0) (codec_GetText.f (k + 1) a0) := by
  intro a0 k
  unfold codec_GetText.f
  repeat' first
      | (with_reducible exact codec_Get.mono _ _)
      | (with_reducible exact LeO.refl _)
      | (with_reducible exact LeO.none _)
      | (with_reducible refine LeO.ite ?_ ?_)
      | (with_reducible refine LeO.bind ?_ (fun _ => ?_))
      | exact codec_Get.mono _ _
      | exact LeO.none _
      | refine LeO.ite ?_ ?_
      | refine LeO.bind ?_ (fun _ => ?_)
set_option maxHeartbeats 8000000 in
set_option maxRecDepth 100000 in
theorem codec_GetText.calls (k : Nat) (A0 : Option Addr) (c0 : Nat) (l0 : List Int) (r1 : ByteArray) (r2 : Int) (w : World) (hr0 : Kd.C (Kd.int .u8) w A0 l0.length l0) (hc0 : l0.length ≤ c0) (h : codec_GetText.f k l0 = some (r1, r2)) :
    Calls Try.prog 33 #[.slice A0 l0.length c0] w fun e w' => e = .returned (.tuple #[.string r1, .int .i64 r2]) ∧ Drawn0 w w' := by
  have HR0 := Aside0.mk hr0
  have HC0 := Aside0.mk hc0
  clear hr0 hc0
  have H : ((codec_Get.f k l0).bind fun bt165 => (if bt165.2 = 0 then (some ((⟨#[]⟩ : ByteArray), 0)) else (if bt165.1 > (IntKind.u64.wrap (wrap64 ((l0.length : Int) - bt165.2))) then (some ((⟨#[]⟩ : ByteArray), 0)) else (if 0 ≤ bt165.2 then (if bt165.2 ≤ (wrap64 (bt165.2 + (wrap64 (bt165.1)))) then (if (wrap64 (bt165.2 + (wrap64 (bt165.1)))) ≤ (l0.length : Int) then (some (strOfNums ((l0.take ((wrap64 (bt165.2 + (wrap64 (bt165.1)))) : Int).toNat).drop (bt165.2 : Int).toNat), wrap64 (bt165.2 + (wrap64 (bt165.1))))) else (none)) else (none)) else (none))))) = some (r1, r2) := h
  clear h
  replace H := Option.bind_eq_some_iff.mp H
  obtain ⟨⟨t165, t166⟩, A20, H⟩ := H
  replace H : (if t166 = 0 then (some ((⟨#[]⟩ : ByteArray), 0)) else (if t165 > (IntKind.u64.wrap (wrap64 ((l0.length : Int) - t166))) then (some ((⟨#[]⟩ : ByteArray), 0)) else (if 0 ≤ t166 then (if t166 ≤ (wrap64 (t166 + (wrap64 (t165)))) then (if (wrap64 (t166 + (wrap64 (t165)))) ≤ (l0.length : Int) then (some (strOfNums ((l0.take ((wrap64 (t166 + (wrap64 (t165)))) : Int).toNat).drop (t166 : Int).toNat), wrap64 (t166 + (wrap64 (t165))))) else (none)) else (none)) else (none)))) = some (r1, r2) := H
  have A2 := Aside0.mk A20
  clear A20
  by_cases c3 : t166 = 0
  · rw [if_pos c3] at H
    have c3b0 : (t166 == 0) = true := beq_iff_eq.mpr c3
    have c3b1 : (t166 != 0) = false := bne_eq_false_iff_eq.mpr c3
    clear c3
    simp only [Option.some.injEq, Prod.mk.injEq] at H
    obtain ⟨rfl, rfl⟩ := H
    go_enter Try.func33, Try.ntmps33
    go_wp2_with (first | ((with_reducible refine gate_callee (f := 25) rfl ?_); refine goesL_ (some 9) rfl rfl Try.func25 (by kernel_rfl) rfl #[.slice A0 l0.length c0] rfl (by (try simp only [List.map_toArray, List.map_cons, List.map_nil]); first | done | rfl | (simp only [List.length_drop, List.length_take]; rfl)) ?_; (with_reducible refine (codec_Get.calls k _ _ l0 t165 t166 _ ?side1 ?side2 A2.out).mono ?_); (case side1 => repeat (first | exact HR0.out | (with_reducible refine Kd.C_alloc ?_ _) | (with_reducible refine Kd.C_drewN ?_ _) | (with_reducible refine Kd.C_drew ?_))); (case side2 => exact HC0.out); rintro e w' ⟨rfl, ⟨nd, rfl⟩⟩; refine ⟨_, rfl, ?_⟩))
    go_ret2
    exact ⟨by first | rfl | (simp; done) | (simp [*]; done), by repeat (first | exact Drawn0.refl _ | apply Drawn0.step)⟩
  · rw [if_neg c3] at H
    have c3b0 : (t166 == 0) = false := beq_eq_false_iff_ne.mpr c3
    have c3b1 : (t166 != 0) = true := bne_iff_ne.mpr c3
    by_cases c4 : t165 > (IntKind.u64.wrap (wrap64 ((l0.length : Int) - t166)))
    · rw [if_pos c4] at H
      have c4b0 : decide ((IntKind.u64.wrap (wrap64 ((l0.length : Int) - t166))) < t165) = true := decide_eq_true c4
      (try (have c4b1 : decide ((IntKind.u64.wrap (IntKind.i64.wrap ((l0.length : Int) - t166))) < t165) = true := by simp only [i64_w, i32_w]; exact decide_eq_true c4))
      clear c4
      simp only [Option.some.injEq, Prod.mk.injEq] at H
      obtain ⟨rfl, rfl⟩ := H
      go_enter Try.func33, Try.ntmps33
      go_wp2_with (first | ((with_reducible refine gate_callee (f := 25) rfl ?_); refine goesL_ (some 9) rfl rfl Try.func25 (by kernel_rfl) rfl #[.slice A0 l0.length c0] rfl (by (try simp only [List.map_toArray, List.map_cons, List.map_nil]); first | done | rfl | (simp only [List.length_drop, List.length_take]; rfl)) ?_; (with_reducible refine (codec_Get.calls k _ _ l0 t165 t166 _ ?side1 ?side2 A2.out).mono ?_); (case side1 => repeat (first | exact HR0.out | (with_reducible refine Kd.C_alloc ?_ _) | (with_reducible refine Kd.C_drewN ?_ _) | (with_reducible refine Kd.C_drew ?_))); (case side2 => exact HC0.out); rintro e w' ⟨rfl, ⟨nd, rfl⟩⟩; refine ⟨_, rfl, ?_⟩))
      go_ret2
      exact ⟨by first | rfl | (simp; done) | (simp [*]; done), by repeat (first | exact Drawn0.refl _ | apply Drawn0.step)⟩
    · rw [if_neg c4] at H
      have c4b0 : decide ((IntKind.u64.wrap (wrap64 ((l0.length : Int) - t166))) < t165) = false := decide_eq_false c4
      (try (have c4b1 : decide ((IntKind.u64.wrap (IntKind.i64.wrap ((l0.length : Int) - t166))) < t165) = false := by simp only [i64_w, i32_w]; exact decide_eq_false c4))
      clear c4
      by_cases c5 : 0 ≤ t166
      · rw [if_pos c5] at H
        have c5b0 := eq_true c5
        have c5b1 : decide (0 ≤ t166) = true := decide_eq_true c5
        clear c5
        by_cases c6 : t166 ≤ (wrap64 (t166 + (wrap64 (t165))))
        · rw [if_pos c6] at H
          have c6b0 := eq_true c6
          have c6b1 : decide (t166 ≤ (wrap64 (t166 + (wrap64 (t165))))) = true := decide_eq_true c6
          by_cases c7 : (wrap64 (t166 + (wrap64 (t165)))) ≤ (l0.length : Int)
          · rw [if_pos c7] at H
            have c7b0 := eq_true c7
            have c7b1 : decide ((wrap64 (t166 + (wrap64 (t165)))) ≤ (l0.length : Int)) = true := decide_eq_true c7
            simp only [Option.some.injEq, Prod.mk.injEq] at H
            obtain ⟨rfl, rfl⟩ := H
            go_enter Try.func33, Try.ntmps33
            go_wp2_with (first | ((with_reducible refine gate_callee (f := 25) rfl ?_); refine goesL_ (some 9) rfl rfl Try.func25 (by kernel_rfl) rfl #[.slice A0 l0.length c0] rfl (by (try simp only [List.map_toArray, List.map_cons, List.map_nil]); first | done | rfl | (simp only [List.length_drop, List.length_take]; rfl)) ?_; (with_reducible refine (codec_Get.calls k _ _ l0 t165 t166 _ ?side1 ?side2 A2.out).mono ?_); (case side1 => repeat (first | exact HR0.out | (with_reducible refine Kd.C_alloc ?_ _) | (with_reducible refine Kd.C_drewN ?_ _) | (with_reducible refine Kd.C_drew ?_))); (case side2 => exact HC0.out); rintro e w' ⟨rfl, ⟨nd, rfl⟩⟩; refine ⟨_, rfl, ?_⟩; obtain ⟨i08, hi08, _, hsz8, _⟩ := info_parts info5; obtain ⟨A8, hcut8, hA8, hC8⟩ := print_mid_of (P := Try.prog) (Value.int .u8) 0 27 5 .i64 .i64 Try.underlying27 hi08 hsz8 A0 c0 l0 t166 (wrap64 (t166 + (wrap64 (t165)))) (of_decide_eq_true (by first | (with_reducible assumption) | assumption)) (by first | omega | exact of_decide_eq_true (by first | (with_reducible assumption) | assumption)) (of_decide_eq_true (by first | (with_reducible assumption) | assumption)) HC0.out; have HR167 := Aside0.mk (Kd.C_of_reads (h1 := fun _ => rfl) (hA8 _ (Kd.reads_of_C HR0.out))); have HC167 := Aside0.mk hC8; clear hA8 hC8 hi08 hsz8; have hcv9 := Kd.C_string (P := Try.prog) (A := A8) (c := (c0 - t166.toNat)) Try.underlying27 Try.underlying5 Try.underlying9 HR167.out; have hcvq9 := fun n_ : Nat => Kd.C_string (P := Try.prog) (A := A8) (c := (c0 - t166.toNat)) Try.underlying27 Try.underlying5 Try.underlying9 (Kd.C_drewN (HR167.out) n_); (try (rw [cut_len_mid] at hcvq9; rotate_left; exact of_decide_eq_true (by first | (with_reducible assumption) | assumption))); (try (rw [cut_len_take] at hcvq9; rotate_left; exact of_decide_eq_true (by first | (with_reducible assumption) | assumption))); (try rw [List.length_drop] at hcvq9); (try simp only [Int.reduceToNat, Int.toNat_one, Int.toNat_ofNat] at hcvq9)))
            go_ret2
            exact ⟨by first | rfl | (simp; done) | (simp [*]; done), by repeat (first | exact Drawn0.refl _ | apply Drawn0.step)⟩
          · rw [if_neg c7] at H
            exact absurd H (by simp)
        · rw [if_neg c6] at H
          exact absurd H (by simp)
      · rw [if_neg c5] at H
        exact absurd H (by simp)
end Go.Proofs.Ytcopbkdlpfcjpaa.B
namespace Go.Proofs.Ytcopbkdlpfcjpaa.Ma
open Go.RowKit Go.Proofs.YtcopbkdlpfcjpaaW.PrintWords Go.Proofs.YtcopbkdlpfcjpaaW.PrintLast Go.Proofs.YtcopbkdlpfcjpaaW.PrintMore Go.Proofs.Ytcopbkdlpfcjpaa.B
/-- Bytes as the printed functions have them. -/
def up (L : List Nat) : List Int := L.map Int.ofNat
theorem up_length (L : List Nat) : (up L).length = L.length := by simp [up]
theorem up_append (A B : List Nat) : up (A ++ B) = up A ++ up B := by simp [up]
theorem up_drop (A : List Nat) (n : Nat) : (up A).drop n = up (A.drop n) := by simp [up, List.map_drop]
theorem up_take (A : List Nat) (n : Nat) : (up A).take n = up (A.take n) := by simp [up, List.map_take]
theorem rd_up (L : List Nat) (i : Nat) : rd (up L) (i : Int) = ((L.getD i 0 : Nat) : Int) := by
  unfold rd up
  simp only [Int.toNat_natCast, List.getD_eq_getElem?_getD, List.getElem?_map]
  cases L[i]? <;> rfl
/-- A number's digits to base 128. -/
def digN (u : Nat) : List Nat := if u < 128 then [u] else (u % 128 + 128) :: digN (u / 128)
termination_by u
decreasing_by omega
theorem digN_lo {u : Nat} (h : u < 128) : digN u = [u] := by rw [digN, if_pos h]
theorem digN_hi {u : Nat} (h : ¬ u < 128) : digN u = (u % 128 + 128) :: digN (u / 128) := by rw [digN, if_neg h]
theorem or128 : ∀ m : Nat, m < 256 → m ||| 128 = m % 128 + 128 := by decide +kernel
theorem and127 : ∀ m : Nat, m < 256 → m &&& 127 = m % 128 := by decide +kernel
/-- The count of digits: below what 7 bits each can hold. -/
theorem digN_len (n : Nat) : ∀ u, u < 128 ^ n → 0 < n → (digN u).length ≤ n := by
  induction n with
  | zero => intro u _ h; omega
  | succ n ih =>
    intro u hu _
    by_cases h : u < 128
    · rw [digN_lo h]; simp
    · rw [digN_hi h, List.length_cons]
      have hn : 0 < n := by
        rcases Nat.eq_zero_or_pos n with rfl | hn
        · simp at hu; omega
        · exact hn
      have := ih (u / 128) (by rw [Nat.pow_succ] at hu; exact Nat.div_lt_of_lt_mul (by omega)) hn
      omega
theorem digN_len64 (u : Nat) (h : u < 18446744073709551616) : (digN u).length ≤ 10 := digN_len 10 u (by omega) (by omega)
theorem put_ev (u : Nat) : ∀ x0 : List Int, u < 18446744073709551616 → x0.length + (digN u).length ≤ 140737488355328 → Ev (fun k => codec_put.l0 k x0 (u : Int)) (x0 ++ up (digN u)) := by
  induction u using Nat.strongRecOn with
  | ind u ih =>
    intro x0 hu hl
    by_cases h : u < 128
    · rw [digN_lo h] at hl ⊢
      simp only [List.length_singleton] at hl
      refine Ev.step (f := fun _ => some (x0 ++ [(u : Int)])) (fun k => ?_) (Ev.now _)
      simp only [codec_put.l0]
      rw [if_neg (by omega), if_pos (by omega), show (u : Int) % 256 = u from by omega]
    · rw [digN_hi h] at hl ⊢
      simp only [List.length_cons] at hl
      have h0 := ih (u / 128) (by omega) (x0 ++ [((u % 128 + 128 : Nat) : Int)]) (by omega) (by rw [List.length_append, List.length_singleton]; omega)
      refine Ev.step (f := fun k => codec_put.l0 k (x0 ++ [((u % 128 + 128 : Nat) : Int)]) ((u / 128 : Nat) : Int)) (fun k => ?_) ?_
      · simp only [codec_put.l0]
        rw [if_pos (by omega), if_pos (by omega)]
        have e : bits .or .u8 ((u : Int) % 256) 128 = ((u % 128 + 128 : Nat) : Int) := by
          have e1 : (u : Int) % 256 = ((u % 256 : Nat) : Int) := by omega
          rw [e1, show (128 : Int) = ((128 : Nat) : Int) from rfl, u8_or_nat _ _ (by omega) (by omega), or128 _ (by omega)]
          congr 1
          omega
        rw [e]
        rfl
      · have e : x0 ++ up ((u % 128 + 128) :: digN (u / 128)) = (x0 ++ [((u % 128 + 128 : Nat) : Int)]) ++ up (digN (u / 128)) := by rw [List.append_assoc]; rfl
        rw [e]
        exact h0
theorem Put_ev (L : List Nat) (u : Nat) (hu : u < 18446744073709551616) (hl : L.length ≤ 1000000000) : Ev (fun k => codec_Put.f k (up L) (u : Int)) (up L ++ up (digN u)) := by
  have hd := digN_len64 u hu
  have h := put_ev u (up L) hu (by rw [up_length]; omega)
  refine Ev.congr (f := fun k => (codec_put.l0 k (up L) (u : Int)).bind fun t => some t) (fun k => ?_) (Ev.bind (f := fun _ t => some t) h (Ev.now _))
  unfold codec_Put.f codec_put.f
  rw [if_pos (by rw [up_length]; simp; omega), List.nil_append]
/-- The number that bytes begin with, from byte i on, u being told already. -/
def getS : List Nat → Nat → Nat → Nat × Nat
  | [], _, _ => (0, 0)
  | x :: r, i, u => if i = 9 ∧ x > 1 ∨ i > 0 ∧ x = 0 then (0, 0) else if x < 128 then (u + 2 ^ (7 * i) * (x % 128), i + 1) else getS r (i + 1) (u + 2 ^ (7 * i) * (x % 128))
def pr (p : Nat × Nat) : Int × Int := ((p.1 : Int), (p.2 : Int))
theorem shl_u64 (x i : Nat) (hi : i ≤ 9) (hx : x < 128) (h9 : i = 9 → x ≤ 1) (c : Int) (hc : c = 7 * (i : Int)) : shl .u64 (x : Int) c = ((2 ^ (7 * i) * x : Nat) : Int) ∧ 2 ^ (7 * i) * x < 18446744073709551616 := by
  subst hc
  have hp : 2 ^ (7 * i) * x < 18446744073709551616 := by
    rcases Nat.lt_or_ge i 9 with h | h
    · have h1 : 2 ^ (7 * i) ≤ 2 ^ 56 := Nat.pow_le_pow_right (by omega) (by omega)
      calc 2 ^ (7 * i) * x ≤ 2 ^ 56 * 127 := Nat.mul_le_mul h1 (by omega)
        _ < 18446744073709551616 := by decide
    · have : i = 9 := by omega
      subst this
      have := h9 rfl
      calc 2 ^ (7 * 9) * x ≤ 2 ^ (7 * 9) * 1 := Nat.mul_le_mul_left _ this
        _ < 18446744073709551616 := by decide
  refine ⟨?_, hp⟩
  unfold shl
  have e : min ((7 * (i : Int)).toNat) (IntKind.bits .u64) = 7 * i := by
    have : IntKind.bits .u64 = 64 := rfl
    rw [this]
    omega
  rw [e, IntKind.wrap_u64]
  have e2 : (x : Int) * 2 ^ (7 * i) = ((2 ^ (7 * i) * x : Nat) : Int) := by
    push_cast
    rw [Int.mul_comm]
  rw [e2]
  omega
theorem pow_next (u i x : Nat) (hu : u < 2 ^ (7 * i)) (hx : x < 128) : u + 2 ^ (7 * i) * x < 2 ^ (7 * (i + 1)) := by
  have e : 2 ^ (7 * (i + 1)) = 2 ^ (7 * i) * 128 := by rw [Nat.mul_add, Nat.pow_add]
  rw [e]
  have h1 : 2 ^ (7 * i) * x + 2 ^ (7 * i) ≤ 2 ^ (7 * i) * 128 := by rw [← Nat.mul_succ]; exact Nat.mul_le_mul_left _ hx
  omega
theorem Get_ev (L : List Nat) (hL : ∀ x ∈ L, x < 256) (hlen : L.length ≤ 1000000000) (d : Nat) : ∀ i u : Nat, i + d = L.length → i ≤ 9 ∨ d = 0 → u < 2 ^ (7 * i) → Ev (fun k => codec_Get.l0 k (u : Int) (up L) ((up L).length : Int) (i : Int)) (pr (getS (L.drop i) i u)) := by
  induction d with
  | zero =>
    intro i u hd _ _
    have e : L.drop i = [] := List.drop_eq_nil_of_le (by omega)
    rw [e]
    refine Ev.step (f := fun _ => some (0, 0)) (fun k => ?_) (Ev.now _)
    simp only [codec_Get.l0]
    rw [if_neg (by rw [up_length]; omega)]
  | succ d ih =>
    intro i u hd hi hu
    have hi9 : i ≤ 9 := by omega
    have hlt : i < L.length := by omega
    have hx : L.getD i 0 < 256 := by
      rw [List.getD_eq_getElem?_getD, List.getElem?_eq_getElem hlt]
      exact hL _ (List.getElem_mem hlt)
    have edrop : L.drop i = L.getD i 0 :: L.drop (i + 1) := by
      rw [List.drop_eq_getElem_cons hlt, List.getD_eq_getElem?_getD, List.getElem?_eq_getElem hlt]
      rfl
    rw [edrop]
    generalize hxx : L.getD i 0 = x at *
    have hrd : rd (up L) (i : Int) = (x : Int) := by rw [rd_up, hxx]
    have hul : ((up L).length : Int) = (L.length : Int) := by rw [up_length]
    have hw7 : wrap64 (7 * (i : Int)) = 7 * (i : Int) := wrap_in (by omega)
    have hand : bits .and .u8 (x : Int) 127 = ((x % 128 : Nat) : Int) := by
      rw [show (127 : Int) = ((127 : Nat) : Int) from rfl, u8_and_nat _ _ hx (by omega), and127 _ hx]
    have hwu : IntKind.u64.wrap ((x % 128 : Nat) : Int) = ((x % 128 : Nat) : Int) := by rw [IntKind.wrap_u64]; omega
    refine Ev.step (f := fun k => codec_Get.j1 k (u : Int) (i : Int) (x : Int) (up L) ((up L).length : Int) (i : Int) (decide (i = 9 ∧ x > 1 ∨ i > 0 ∧ x = 0))) (fun k => ?_) ?_
    · simp only [codec_Get.l0]
      rw [hrd, hul, if_pos (by omega), if_pos (by omega), if_pos (by omega)]
      by_cases h9 : i = 9
      · rw [if_pos (by omega)]
        by_cases h1 : x > 1
        · rw [if_pos (by omega), decide_eq_true (p := (i = 9 ∧ x > 1 ∨ i > 0 ∧ x = 0)) (by omega)]
        · rw [if_neg (by omega), if_pos (by omega)]
          congr 1
          by_cases h0 : x = 0
          · rw [decide_eq_true (p := (i = 9 ∧ x > 1 ∨ i > 0 ∧ x = 0)) (by omega)]
            exact beq_iff_eq.mpr (by omega)
          · rw [decide_eq_false (p := (i = 9 ∧ x > 1 ∨ i > 0 ∧ x = 0)) (by omega)]
            exact beq_eq_false_iff_ne.mpr (by omega)
      · rw [if_neg (by omega)]
        by_cases hp : i > 0
        · rw [if_pos (by omega)]
          congr 1
          by_cases h0 : x = 0
          · rw [decide_eq_true (p := (i = 9 ∧ x > 1 ∨ i > 0 ∧ x = 0)) (by omega)]
            exact beq_iff_eq.mpr (by omega)
          · rw [decide_eq_false (p := (i = 9 ∧ x > 1 ∨ i > 0 ∧ x = 0)) (by omega)]
            exact beq_eq_false_iff_ne.mpr (by omega)
        · rw [if_neg (by omega), decide_eq_false (p := (i = 9 ∧ x > 1 ∨ i > 0 ∧ x = 0)) (by omega)]
    · by_cases hc : i = 9 ∧ x > 1 ∨ i > 0 ∧ x = 0
      · rw [decide_eq_true hc, getS, if_pos hc]
        refine Ev.step (f := fun _ => some (0, 0)) (fun k => ?_) (Ev.now _)
        simp only [codec_Get.j1, if_true]
      · rw [decide_eq_false hc, getS, if_neg hc]
        have hs := shl_u64 (x % 128) i hi9 (by omega) (by omega) (7 * (i : Int)) rfl
        have hor : bits .or .u64 (u : Int) ((2 ^ (7 * i) * (x % 128) : Nat) : Int) = ((u + 2 ^ (7 * i) * (x % 128) : Nat) : Int) := by
          have hu2 : u < 18446744073709551616 := by
            have : 2 ^ (7 * i) ≤ 2 ^ 63 := Nat.pow_le_pow_right (by omega) (by omega)
            have e : (2 : Nat) ^ 63 < 18446744073709551616 := by decide
            omega
          rw [u64_or_nat _ _ hu2 hs.2, Nat.or_comm, ← Nat.two_pow_add_eq_or_of_lt hu, Nat.add_comm]
        by_cases hb : x < 128
        · rw [if_pos hb]
          refine Ev.step (f := fun _ => some (pr (u + 2 ^ (7 * i) * (x % 128), i + 1))) (fun k => ?_) (Ev.now _)
          simp only [codec_Get.j1]
          rw [if_neg (by simp), hw7, if_pos (by omega), if_pos (by omega), hand, hwu, hs.1, hor, wrap_in (by omega)]
          rfl
        · rw [if_neg hb]
          have h0 := ih (i + 1) (u + 2 ^ (7 * i) * (x % 128)) (by omega) (by omega) (pow_next u i _ hu (by omega))
          refine Ev.step (fun k => ?_) h0
          simp only [codec_Get.j1]
          rw [if_neg (by simp), hw7, if_pos (by omega), if_neg (by omega), hand, hwu, hs.1, hor, wrap_in (by omega)]
          rfl
theorem refGet_ev (L : List Nat) (hL : ∀ x ∈ L, x < 256) (hlen : L.length ≤ 1000000000) (d : Nat) : ∀ i u : Nat, i + d = L.length → i ≤ 9 ∨ d = 0 → u < 2 ^ (7 * i) → Ev (fun k => skerryref01_Get.l0 k (up L) (u : Int) (i : Int)) (pr (getS (L.drop i) i u)) := by
  induction d with
  | zero =>
    intro i u hd _ _
    have e : L.drop i = [] := List.drop_eq_nil_of_le (by omega)
    rw [e]
    refine Ev.step (f := fun k => skerryref01_Get.j1 k (up L) (u : Int) (i : Int) false) (fun k => ?_) (Ev.step (f := fun _ => some (0, 0)) (fun k => ?_) (Ev.now _))
    · simp only [skerryref01_Get.l0]
      rw [if_neg (by rw [up_length]; omega)]
    · simp only [skerryref01_Get.j1]
      rw [if_neg (by simp)]
  | succ d ih =>
    intro i u hd hi hu
    have hi9 : i ≤ 9 := by omega
    have hlt : i < L.length := by omega
    have hx : L.getD i 0 < 256 := by
      rw [List.getD_eq_getElem?_getD, List.getElem?_eq_getElem hlt]
      exact hL _ (List.getElem_mem hlt)
    have edrop : L.drop i = L.getD i 0 :: L.drop (i + 1) := by
      rw [List.drop_eq_getElem_cons hlt, List.getD_eq_getElem?_getD, List.getElem?_eq_getElem hlt]
      rfl
    rw [edrop]
    generalize hxx : L.getD i 0 = x at *
    have hrd : rd (up L) (i : Int) = (x : Int) := by rw [rd_up, hxx]
    have hul : ((up L).length : Int) = (L.length : Int) := by rw [up_length]
    have hw7 : wrap64 (7 * (i : Int)) = 7 * (i : Int) := wrap_in (by omega)
    have hwc : IntKind.u64.wrap (7 * (i : Int)) = 7 * (i : Int) := by rw [IntKind.wrap_u64]; omega
    have hmod : Int.tmod (x : Int) 128 = ((x % 128 : Nat) : Int) := by rw [Int.tmod_eq_emod_of_nonneg (by omega)]; omega
    have hwu : IntKind.u64.wrap ((x % 128 : Nat) : Int) = ((x % 128 : Nat) : Int) := by rw [IntKind.wrap_u64]; omega
    refine Ev.step (f := fun k => skerryref01_Get.j1 k (up L) (u : Int) (i : Int) true) (fun k => ?_) ?_
    · simp only [skerryref01_Get.l0]
      rw [hul, if_pos (by omega), decide_eq_true (p := ((i : Int) < 10)) (by omega)]
    refine Ev.step (f := fun k => skerryref01_Get.j2 k (up L) (u : Int) (i : Int) (decide (i = 9 ∧ x > 1))) (fun k => ?_) ?_
    · simp only [skerryref01_Get.j1, if_true]
      rw [hrd, hul]
      by_cases h9 : i = 9
      · rw [if_pos (by omega), if_pos (by omega), if_pos (by omega)]
        congr 1
        by_cases h1 : x > 1
        · rw [decide_eq_true (p := (i = 9 ∧ x > 1)) ⟨h9, h1⟩]; exact decide_eq_true (by omega)
        · rw [decide_eq_false (p := (i = 9 ∧ x > 1)) (by omega)]; exact decide_eq_false (by omega)
      · rw [if_neg (by omega), decide_eq_false (p := (i = 9 ∧ x > 1)) (by omega)]
    · by_cases hc : i = 9 ∧ x > 1
      · rw [decide_eq_true hc, getS, if_pos (.inl hc)]
        refine Ev.step (f := fun _ => some (0, 0)) (fun k => ?_) (Ev.now _)
        simp only [skerryref01_Get.j2, if_true]
      · rw [decide_eq_false hc, getS]
        have hs := shl_u64 (x % 128) i hi9 (by omega) (by omega) (7 * (i : Int)) rfl
        have hn := pow_next u i (x % 128) hu (by omega)
        have h70 : (2 : Nat) ^ (7 * i) * (x % 128) + u < 18446744073709551616 := by
          rcases Nat.lt_or_ge i 9 with h | h
          · have h1 : 2 ^ (7 * (i + 1)) ≤ 2 ^ 63 := Nat.pow_le_pow_right (by omega) (by omega)
            have e : (2 : Nat) ^ 63 < 18446744073709551616 := by decide
            omega
          · have : i = 9 := by omega
            subst this
            have e : (2 : Nat) ^ (7 * 9) = 9223372036854775808 := by decide
            rw [e] at hu ⊢
            have : x % 128 ≤ 1 := by omega
            have := Nat.mul_le_mul_left 9223372036854775808 this
            omega
        have hor : IntKind.u64.wrap ((u : Int) + ((2 ^ (7 * i) * (x % 128) : Nat) : Int)) = ((u + 2 ^ (7 * i) * (x % 128) : Nat) : Int) := by
          rw [IntKind.wrap_u64, ← Int.natCast_add]
          omega
        by_cases hb : x < 128
        · by_cases hz : i > 0 ∧ x = 0
          · rw [if_pos (.inr hz)]
            refine Ev.step (f := fun _ => some (0, 0)) (fun k => ?_) (Ev.now _)
            simp only [skerryref01_Get.j2]
            rw [if_neg (by simp), if_pos (by omega), hul, if_pos (by omega), hw7, hwc, if_pos (by omega), hrd, if_pos (by omega), if_pos (by omega), if_pos (by omega)]
          · rw [if_neg (by omega), if_pos hb]
            refine Ev.step (f := fun _ => some (pr (u + 2 ^ (7 * i) * (x % 128), i + 1))) (fun k => ?_) (Ev.now _)
            simp only [skerryref01_Get.j2]
            rw [if_neg (by simp), if_pos (by omega), hul, if_pos (by omega), hw7, hwc, if_pos (by omega), hrd, if_pos (by omega), hmod, hwu, hs.1, hor, wrap_in (by omega)]
            by_cases hp : i > 0
            · rw [if_pos (by omega), if_neg (by omega)]
              rfl
            · rw [if_neg (by omega)]
              rfl
        · rw [if_neg (by omega), if_neg hb]
          have h0 := ih (i + 1) (u + 2 ^ (7 * i) * (x % 128)) (by omega) (by omega) hn
          refine Ev.step (fun k => ?_) h0
          simp only [skerryref01_Get.j2]
          rw [if_neg (by simp), if_pos (by omega), hul, if_pos (by omega), hw7, hwc, if_pos (by omega), hrd, if_neg (by omega), hmod, hwu, hs.1, hor, wrap_in (by omega)]
          rfl
theorem Get_all (L : List Nat) (hL : ∀ x ∈ L, x < 256) (hlen : L.length ≤ 1000000000) : Ev (fun k => codec_Get.f k (up L)) (pr (getS L 0 0)) :=
  Get_ev L hL hlen L.length 0 0 (by omega) (by omega) (by decide)
theorem refGet_all (L : List Nat) (hL : ∀ x ∈ L, x < 256) (hlen : L.length ≤ 1000000000) : Ev (fun k => skerryref01_Get.f k (up L)) (pr (getS L 0 0)) :=
  refGet_ev L hL hlen L.length 0 0 (by omega) (by omega) (by decide)
/-- What Put writes Get reads, whatever stands behind it. -/
theorem getS_dig (v : Nat) : ∀ i u : Nat, ∀ rest : List Nat, 2 ^ (7 * i) * v < 18446744073709551616 → i ≤ 9 → (i > 0 → v > 0) → getS (digN v ++ rest) i u = (u + 2 ^ (7 * i) * v, i + (digN v).length) := by
  induction v using Nat.strongRecOn with
  | ind v ih =>
    intro i u rest hv hi hp
    have h9 : i = 9 → v ≤ 1 := by
      rintro rfl
      have : (2 : Nat) ^ (7 * 9) = 9223372036854775808 := by decide
      rw [this] at hv
      omega
    by_cases h : v < 128
    · rw [digN_lo h, List.singleton_append, getS, if_neg (by omega), if_pos h, Nat.mod_eq_of_lt h, List.length_singleton]
    · rw [digN_hi h, List.cons_append, getS, if_neg (by omega), if_neg (by omega), List.length_cons]
      have e : 2 ^ (7 * (i + 1)) = 2 ^ (7 * i) * 128 := by rw [Nat.mul_add, Nat.pow_add]
      rw [ih (v / 128) (by omega) (i + 1) _ rest (by rw [e, Nat.mul_assoc]; exact Nat.lt_of_le_of_lt (Nat.mul_le_mul_left _ (by omega)) hv) (by omega) (by omega), e]
      have e2 : (v % 128 + 128) % 128 = v % 128 := by omega
      rw [e2, Nat.mul_assoc]
      have e3 : 2 ^ (7 * i) * (v % 128) + 2 ^ (7 * i) * (128 * (v / 128)) = 2 ^ (7 * i) * v := by rw [← Nat.mul_add]; congr 1; omega
      ext
      · show u + _ + _ = _
        omega
      · show i + 1 + _ = _
        omega
theorem digN_byte (u : Nat) : ∀ x ∈ digN u, x < 256 := by
  induction u using Nat.strongRecOn with
  | ind u ih =>
    intro x hx
    by_cases h : u < 128
    · rw [digN_lo h, List.mem_singleton] at hx
      omega
    · rw [digN_hi h, List.mem_cons] at hx
      rcases hx with rfl | hx
      · omega
      · exact ih (u / 128) (by omega) x hx
theorem digN_ne (u : Nat) : digN u ≠ [] := by
  by_cases h : u < 128
  · rw [digN_lo h]; simp
  · rw [digN_hi h]; simp
theorem digN_pos (u : Nat) : 0 < (digN u).length := List.length_pos_iff.mpr (digN_ne u)
end Go.Proofs.Ytcopbkdlpfcjpaa.Ma
namespace Go.Proofs.Ytcopbkdlpfcjpaa.B
open Go.RowKit Go.Proofs.YtcopbkdlpfcjpaaW.PrintWords Go.Proofs.YtcopbkdlpfcjpaaW.PrintLast Go.Proofs.YtcopbkdlpfcjpaaW.PrintMore
attribute [local go_sem] max2_int min2_int max_two min_two max_three min_three max_four min_four
set_option linter.unusedVariables false
set_option linter.unusedSimpArgs false
mutual
def codec_crc.l0 : Nat → Int → List Int → Int → Int → Option (Int)
  | 0, _, _, _, _ => none
  | k + 1, x0, x7, x8, x9 => if x9 < x8 then (if 0 ≤ x9 then (if x9 < (x7.length : Int) then (codec_crc.l1 k (Go.bits .xor .u32 x0 ((rd x7 x9) % 4294967296)) x7 x8 x9 0) else (none)) else (none)) else (some x0)
def codec_crc.l1 : Nat → Int → List Int → Int → Int → Int → Option (Int)
  | 0, _, _, _, _, _ => none
  | k + 1, x0, x7, x8, x9, x17 => if x17 < 8 then (codec_crc.l1 k (Go.bits .xor .u32 (x0 / 2) (Go.bits .and .u32 3988292384 ((-(Go.bits .and .u32 x0 1)) % 4294967296))) x7 x8 x9 (wrap64 (x17 + 1))) else (codec_crc.l0 k x0 x7 x8 (wrap64 (x9 + 1)))
end
def codec_crc.f (k : Nat) (a0 : Int) (l1 : List Int) : Option (Int) := codec_crc.l0 k a0 l1 (l1.length : Int) 0
theorem codec_crc.mono_l : ∀ k, (∀ y0 y1 y2 y3, LeO (codec_crc.l0 k y0 y1 y2 y3) (codec_crc.l0 (k + 1) y0 y1 y2 y3)) ∧ (∀ y0 y1 y2 y3 y4, LeO (codec_crc.l1 k y0 y1 y2 y3 y4) (codec_crc.l1 (k + 1) y0 y1 y2 y3 y4))
  | 0 => ⟨fun _ _ _ _ r h => by simp [codec_crc.l0] at h, fun _ _ _ _ _ r h => by simp [codec_crc.l1] at h⟩
  | k + 1 => by
    obtain ⟨ih0, ih1⟩ := codec_crc.mono_l k
    refine ⟨?_, ?_⟩
    · intro y0 y1 y2 y3
      unfold codec_crc.l0
      repeat' first
      | (with_reducible exact ih0 _ _ _ _)
      | (with_reducible exact ih1 _ _ _ _ _)
      | (with_reducible exact LeO.refl _)
      | (with_reducible exact LeO.none _)
      | (with_reducible refine LeO.ite ?_ ?_)
      | (with_reducible refine LeO.bind ?_ (fun _ => ?_))
      | exact ih0 _ _ _ _
      | exact ih1 _ _ _ _ _
      | exact LeO.none _
      | refine LeO.ite ?_ ?_
      | refine LeO.bind ?_ (fun _ => ?_)
    · intro y0 y1 y2 y3 y4
      unfold codec_crc.l1
      repeat' first
      | (with_reducible exact ih0 _ _ _ _)
      | (with_reducible exact ih1 _ _ _ _ _)
      | (with_reducible exact LeO.refl _)
      | (with_reducible exact LeO.none _)
      | (with_reducible refine LeO.ite ?_ ?_)
      | (with_reducible refine LeO.bind ?_ (fun _ => ?_))
      | exact ih0 _ _ _ _
      | exact ih1 _ _ _ _ _
      | exact LeO.none _
      | refine LeO.ite ?_ ?_
      | refine LeO.bind ?_ (fun _ => ?_)
theorem codec_crc.mono : ∀ a0 a1 k, LeO (codec_crc.f k a0 a1) (codec_crc.f (k + 1) a0 a1) := by
  intro a0 a1 k
  obtain ⟨ih0, ih1⟩ := codec_crc.mono_l k
  unfold codec_crc.f
  repeat' first
      | (with_reducible exact ih0 _ _ _ _)
      | (with_reducible exact ih1 _ _ _ _ _)
      | (with_reducible exact LeO.refl _)
      | (with_reducible exact LeO.none _)
      | (with_reducible refine LeO.ite ?_ ?_)
      | (with_reducible refine LeO.bind ?_ (fun _ => ?_))
      | exact ih0 _ _ _ _
      | exact ih1 _ _ _ _ _
      | exact LeO.none _
      | refine LeO.ite ?_ ?_
      | refine LeO.bind ?_ (fun _ => ?_)
set_option maxHeartbeats 8000000 in
set_option maxRecDepth 100000 in
theorem codec_crc.calls (k : Nat) (a0 : Int) (A1 : Option Addr) (c1 : Nat) (l1 : List Int) (r : Int) (w : World) (hr1 : Kd.C (Kd.int .u8) w A1 l1.length l1) (hc1 : l1.length ≤ c1) (h : codec_crc.f k a0 l1 = some r) :
    Calls Try.prog 83 #[.int .u32 a0, .slice A1 l1.length c1] w fun e w' => e = .returned (.int .u32 r) ∧ Drawn0 w w' := by
  have HR1 := Aside0.mk hr1
  have HC1 := Aside0.mk hc1
  clear hr1 hc1
  have H : (codec_crc.l0 k a0 l1 (l1.length : Int) 0) = some r := h
  clear h
  have H' := Aside0.mk H
  clear H
  go_enter Try.func83, Try.ntmps83
  go_wp2
  go_loopg [0, 9] k (fun kq v0 v9 w' => ∃ (x0_1 : Int) (x9_1 : Int), v0 = .int .u32 x0_1 ∧ v9 = .int .i64 x9_1 ∧ Aside0 (codec_crc.l0 kq x0_1 l1 (l1.length : Int) x9_1 = some r) ∧ Aside0 (kq ≤ k) ∧ Drawn0 w w')
  case atStart => exact ⟨(a0), (0), (by first | rfl | (simp; done) | (simp [*]; done)), (by first | rfl | (simp; done) | (simp [*]; done)), H', ⟨Nat.le_refl _⟩, by repeat (first | exact Drawn0.refl _ | apply Drawn0.step)⟩
  case round =>
    clear H'
    try clear c1
    try clear p2
    obtain ⟨x0_1, x9_1, rfl, rfl, HA, HK1, ⟨m1, rfl⟩⟩ := hrel
    cases gk with
    | zero => exact absurd HA.out (by simp [codec_crc.l0])
    | succ k1 =>
      have H := HA.out
      clear HA
      simp only [codec_crc.l0] at H
      by_cases c3 : x9_1 < (l1.length : Int)
      · rw [if_pos c3] at H
        have c3b0 : decide (x9_1 < (l1.length : Int)) = true := decide_eq_true c3
        clear c3
        by_cases c4 : 0 ≤ x9_1
        · rw [if_pos c4] at H
          have c4b0 : decide (0 ≤ x9_1) = true := decide_eq_true c4
          clear c4
          by_cases c5 : x9_1 < (l1.length : Int)
          · rw [if_pos c5] at H
            have c5b0 : decide (x9_1 < (l1.length : Int)) = true := decide_eq_true c5
            clear c5
            have H' := Aside0.mk H
            clear H
            have p125 : 0 ≤ (x9_1 : Int) := of_decide_eq_true (by first | (with_reducible assumption) | assumption)
            have q125 : x9_1 < (l1.length : Int) := of_decide_eq_true (by first | (with_reducible assumption) | assumption)
            obtain ⟨ad125, e125, hx125_0⟩ := Kd.at_int HR1.out x9_1 p125 q125
            cases e125
            replace p125 := eq_true p125
            replace q125 := eq_true q125
            go_wp2
            go_loopg [0, 17] k1 (fun kq v0 v17 w' => ∃ (x0_2 : Int) (x17_2 : Int), v0 = .int .u32 x0_2 ∧ v17 = .int .i64 x17_2 ∧ Aside0 (codec_crc.l1 kq x0_2 l1 (l1.length : Int) x9_1 x17_2 = some r) ∧ Aside0 (kq ≤ k1) ∧ Drawn0 w w')
            case atStart => exact ⟨(Go.bits .xor .u32 x0_1 ((rd l1 x9_1) % 4294967296)), (0), (by first | rfl | (simp; done) | (simp [*]; done)), (by first | rfl | (simp; done) | (simp [*]; done)), H', ⟨Nat.le_refl _⟩, by repeat (first | exact Drawn0.refl _ | apply Drawn0.step)⟩
            case round =>
              clear H'
              try clear c1
              try clear p1
              try clear q1
              try clear hx1
              try clear p2
              try clear c3
              try clear c3b0
              try clear c4
              try clear c4b0
              try clear c5
              try clear c5b0
              try clear hx125_0
              try clear p125
              try clear p2
              try clear q125
              obtain ⟨x0_2, x17_2, rfl, rfl, HA, HK2, ⟨m2, rfl⟩⟩ := hrel
              cases gk with
              | zero => exact absurd HA.out (by simp [codec_crc.l1])
              | succ k2 =>
                have H := HA.out
                clear HA
                simp only [codec_crc.l1] at H
                by_cases c6 : x17_2 < 8
                · rw [if_pos c6] at H
                  have c6b0 : decide (x17_2 < 8) = true := decide_eq_true c6
                  clear c6
                  have H' := Aside0.mk H
                  clear H
                  go_wp2
                  go_roundg k2
                  case measure => have := HK1.out; have := HK2.out; omega
                  case rel => exact ⟨(Go.bits .xor .u32 (x0_2 / 2) (Go.bits .and .u32 3988292384 ((-(Go.bits .and .u32 x0_2 1)) % 4294967296))), (wrap64 (x17_2 + 1)), (by first | rfl | (simp; done) | (simp [*]; done)), (by first | rfl | (simp; done) | (simp [*]; done)), H', ⟨by have := HK1.out; have := HK2.out; omega⟩, by repeat (first | exact Drawn0.refl _ | apply Drawn0.step)⟩
                · rw [if_neg c6] at H
                  have c6b0 : decide (x17_2 < 8) = false := decide_eq_false c6
                  clear c6
                  have H' := Aside0.mk H
                  clear H
                  go_wp2
                  go_roundg k2
                  case measure => have := HK1.out; have := HK2.out; omega
                  case rel => exact ⟨(x0_2), (wrap64 (x9_1 + 1)), (by first | rfl | (simp; done) | (simp [*]; done)), (by first | rfl | (simp; done) | (simp [*]; done)), H', ⟨by have := HK1.out; have := HK2.out; omega⟩, by repeat (first | exact Drawn0.refl _ | apply Drawn0.step)⟩
          · rw [if_neg c5] at H
            exact absurd H (by simp)
        · rw [if_neg c4] at H
          exact absurd H (by simp)
      · rw [if_neg c3] at H
        have c3b0 : decide (x9_1 < (l1.length : Int)) = false := decide_eq_false c3
        clear c3
        obtain rfl := Option.some.inj H
        go_wp2
        go_ret
        exact ⟨by first | rfl | (simp; done) | (simp [*]; done), by repeat (first | exact Drawn0.refl _ | apply Drawn0.step)⟩
def codec_Sum.f (k : Nat) (l0 : List Int) : Option (Int) := (codec_crc.f k 4294967295 l0).bind fun t126 => (some (Go.bits .xor .u32 4294967295 t126))
theorem codec_Sum.mono : ∀ a0 k, LeO (codec_Sum.f k a0) (codec_Sum.f (k + 1) a0) := by
  intro a0 k
  unfold codec_Sum.f
  repeat' first
      | (with_reducible exact codec_crc.mono _ _ _)
      | (with_reducible exact LeO.refl _)
      | (with_reducible exact LeO.none _)
      | (with_reducible refine LeO.ite ?_ ?_)
      | (with_reducible refine LeO.bind ?_ (fun _ => ?_))
      | exact codec_crc.mono _ _ _
      | exact LeO.none _
      | refine LeO.ite ?_ ?_
      | refine LeO.bind ?_ (fun _ => ?_)
set_option maxHeartbeats 8000000 in
set_option maxRecDepth 100000 in
theorem codec_Sum.calls (k : Nat) (A0 : Option Addr) (c0 : Nat) (l0 : List Int) (r : Int) (w : World) (hr0 : Kd.C (Kd.int .u8) w A0 l0.length l0) (hc0 : l0.length ≤ c0) (h : codec_Sum.f k l0 = some r) :
    Calls Try.prog 49 #[.slice A0 l0.length c0] w fun e w' => e = .returned (.int .u32 r) ∧ Drawn0 w w' := by
  have HR0 := Aside0.mk hr0
  have HC0 := Aside0.mk hc0
  clear hr0 hc0
  have H : ((codec_crc.f k 4294967295 l0).bind fun t126 => (some (Go.bits .xor .u32 4294967295 t126))) = some r := h
  clear h
  replace H := Option.bind_eq_some_iff.mp H
  obtain ⟨t126, A20, H⟩ := H
  replace H : (some (Go.bits .xor .u32 4294967295 t126)) = some r := H
  have A2 := Aside0.mk A20
  clear A20
  obtain rfl := Option.some.inj H
  go_enter Try.func49, Try.ntmps49
  go_wp2_with (first | ((with_reducible refine gate_callee (f := 83) rfl ?_); refine goesL_ (some 4) rfl rfl Try.func83 (by kernel_rfl) rfl #[.int .u32 4294967295, .slice A0 l0.length c0] rfl (by (try simp only [List.map_toArray, List.map_cons, List.map_nil]); first | done | rfl | (simp only [List.length_drop, List.length_take]; rfl)) ?_; (with_reducible refine (codec_crc.calls k 4294967295 _ _ l0 t126 _ ?side1 ?side2 A2.out).mono ?_); (case side1 => repeat (first | exact HR0.out | (with_reducible refine Kd.C_alloc ?_ _) | (with_reducible refine Kd.C_drewN ?_ _) | (with_reducible refine Kd.C_drew ?_))); (case side2 => exact HC0.out); rintro e w' ⟨rfl, ⟨nd, rfl⟩⟩; refine ⟨_, rfl, ?_⟩))
  go_ret
  exact ⟨by first | rfl | (simp; done) | (simp [*]; done), by repeat (first | exact Drawn0.refl _ | apply Drawn0.step)⟩
def codec_seal.f (k : Nat) (l0 : List Int) (l1 : List Int) : Option (Int) := (codec_crc.f k 4294967295 l0).bind fun t127 => ((codec_crc.f k t127 l1).bind fun t128 => (some (Go.bits .xor .u32 4294967295 t128)))
theorem codec_seal.mono : ∀ a0 a1 k, LeO (codec_seal.f k a0 a1) (codec_seal.f (k + 1) a0 a1) := by
  intro a0 a1 k
  unfold codec_seal.f
  repeat' first
      | (with_reducible exact codec_crc.mono _ _ _)
      | (with_reducible exact LeO.refl _)
      | (with_reducible exact LeO.none _)
      | (with_reducible refine LeO.ite ?_ ?_)
      | (with_reducible refine LeO.bind ?_ (fun _ => ?_))
      | exact codec_crc.mono _ _ _
      | exact LeO.none _
      | refine LeO.ite ?_ ?_
      | refine LeO.bind ?_ (fun _ => ?_)
set_option maxHeartbeats 8000000 in
set_option maxRecDepth 100000 in
theorem codec_seal.calls (k : Nat) (A0 : Option Addr) (c0 : Nat) (l0 : List Int) (A1 : Option Addr) (c1 : Nat) (l1 : List Int) (r : Int) (w : World) (hr0 : Kd.C (Kd.int .u8) w A0 l0.length l0) (hc0 : l0.length ≤ c0) (hr1 : Kd.C (Kd.int .u8) w A1 l1.length l1) (hc1 : l1.length ≤ c1) (h : codec_seal.f k l0 l1 = some r) :
    Calls Try.prog 81 #[.slice A0 l0.length c0, .slice A1 l1.length c1] w fun e w' => e = .returned (.int .u32 r) ∧ Drawn0 w w' := by
  have HR0 := Aside0.mk hr0
  have HC0 := Aside0.mk hc0
  clear hr0 hc0
  have HR1 := Aside0.mk hr1
  have HC1 := Aside0.mk hc1
  clear hr1 hc1
  have H : ((codec_crc.f k 4294967295 l0).bind fun t127 => ((codec_crc.f k t127 l1).bind fun t128 => (some (Go.bits .xor .u32 4294967295 t128)))) = some r := h
  clear h
  replace H := Option.bind_eq_some_iff.mp H
  obtain ⟨t127, A30, H⟩ := H
  replace H : ((codec_crc.f k t127 l1).bind fun t128 => (some (Go.bits .xor .u32 4294967295 t128))) = some r := H
  have A3 := Aside0.mk A30
  clear A30
  replace H := Option.bind_eq_some_iff.mp H
  obtain ⟨t128, A40, H⟩ := H
  replace H : (some (Go.bits .xor .u32 4294967295 t128)) = some r := H
  have A4 := Aside0.mk A40
  clear A40
  obtain rfl := Option.some.inj H
  go_enter Try.func81, Try.ntmps81
  go_wp2_with (first | ((with_reducible refine gate_callee (f := 83) rfl ?_); refine goesL_ (some 6) rfl rfl Try.func83 (by kernel_rfl) rfl #[.int .u32 4294967295, .slice A0 l0.length c0] rfl (by (try simp only [List.map_toArray, List.map_cons, List.map_nil]); first | done | rfl | (simp only [List.length_drop, List.length_take]; rfl)) ?_; (with_reducible refine (codec_crc.calls k 4294967295 _ _ l0 t127 _ ?side1 ?side2 A3.out).mono ?_); (case side1 => repeat (first | exact HR0.out | (with_reducible refine Kd.C_alloc ?_ _) | (with_reducible refine Kd.C_drewN ?_ _) | (with_reducible refine Kd.C_drew ?_))); (case side2 => exact HC0.out); rintro e w' ⟨rfl, ⟨nd, rfl⟩⟩; refine ⟨_, rfl, ?_⟩) | ((with_reducible refine gate_callee (f := 83) rfl ?_); refine goesL_ (some 8) rfl rfl Try.func83 (by kernel_rfl) rfl #[.int .u32 t127, .slice A1 l1.length c1] rfl (by (try simp only [List.map_toArray, List.map_cons, List.map_nil]); first | done | rfl | (simp only [List.length_drop, List.length_take]; rfl)) ?_; (with_reducible refine (codec_crc.calls k t127 _ _ l1 t128 _ ?side1 ?side2 A4.out).mono ?_); (case side1 => repeat (first | exact HR1.out | (with_reducible refine Kd.C_alloc ?_ _) | (with_reducible refine Kd.C_drewN ?_ _) | (with_reducible refine Kd.C_drew ?_))); (case side2 => exact HC1.out); rintro e w' ⟨rfl, ⟨nd, rfl⟩⟩; refine ⟨_, rfl, ?_⟩))
  go_ret
  exact ⟨by first | rfl | (simp; done) | (simp [*]; done), by repeat (first | exact Drawn0.refl _ | apply Drawn0.step)⟩
def codec_four.f (l0 : List Int) (a1 : Int) : Option (List Int) := (some (([(a1 / 16777216) % 256, (a1 / 65536) % 256, (a1 / 256) % 256, (a1) % 256] : List Int) : List Int)).bind fun y129 => (if l0.length + y129.length < 140737488355328 then (some (l0 ++ y129)) else (none))
set_option maxHeartbeats 8000000 in
set_option maxRecDepth 100000 in
theorem codec_four.calls (P0_ : Nat → Prop) (u9000_ : Value) (l0 : List Int) (a1 : Int) (r : List Int) (w0 w : World) (hB : Below w0.heap.size w0 w) (ho0 : Kd.R (Kd.int .u8) 5 w w0.heap.size P0_ u9000_ l0) (h : codec_four.f l0 a1 = some r) :
    Calls Try.prog 84 #[u9000_, .int .u32 a1] w fun e w' => ∃ v0_ : Value, e = .returned (v0_) ∧ Kd.R (Kd.int .u8) 5 w' w0.heap.size (fun k_ => (P0_ k_ ∨ w.heap.size ≤ k_)) v0_ r ∧ Below w0.heap.size w0 w' ∧ Kept w w' (fun k_ => P0_ k_) := by
  have HO0 := Aside0.mk (show Kd.R (Kd.int .u8) 5 w w0.heap.size (fun k_ => (P0_ k_ ∨ w.heap.size ≤ k_)) u9000_ l0 from Kd.R_mono ho0 (fun k_ hk => (.inl hk)))
  have HK := Aside0.mk (Kept.refl w (fun k_ => P0_ k_))
  have HW0 := Aside0.mk hB.size
  have HB := Aside0.mk hB
  clear hB
  have H : ((some (([(a1 / 16777216) % 256, (a1 / 65536) % 256, (a1 / 256) % 256, (a1) % 256] : List Int) : List Int)).bind fun y129 => (if l0.length + y129.length < 140737488355328 then (some (l0 ++ y129)) else (none))) = some r := h
  clear h
  obtain ⟨y129, hy129⟩ : ∃ y_ : List Int, y_ = (([(a1 / 16777216) % 256, (a1 / 65536) % 256, (a1 / 256) % 256, (a1) % 256] : List Int)) := ⟨_, rfl⟩
  replace H : (if l0.length + y129.length < 140737488355328 then (some (l0 ++ y129)) else (none)) = some r := by first | (rw [hy129]; with_reducible exact H) | (have H2_ := (Option.bind_some _ _).symm.trans H; rw [hy129]; with_reducible exact H2_) | (have H2_ := (Option.bind_some _ _).symm.trans H; with_reducible exact H2_) | with_reducible exact H | (rw [hy129]; exact H) | exact H
  have Ny129 := Aside0.mk hy129
  clear hy129
  by_cases c3 : l0.length + y129.length < 140737488355328
  · rw [if_pos c3] at H
    have LMc3 := Aside0.mk c3
    clear c3
    obtain ⟨y132, hy132⟩ : ∃ y_ : List Int, y_ = (l0 ++ y129) := ⟨_, rfl⟩
    replace H : (some y132) = some r := by first | (rw [hy132]; with_reducible exact H) | (have H2_ := (Option.bind_some _ _).symm.trans H; rw [hy132]; with_reducible exact H2_) | (have H2_ := (Option.bind_some _ _).symm.trans H; with_reducible exact H2_) | with_reducible exact H | (rw [hy132]; exact H) | exact H
    have Ny132 := Aside0.mk hy132
    clear hy132
    obtain rfl := Option.some.inj H
    go_enter Try.func84, Try.ntmps84
    go_wp2_with (first | ((with_reducible refine gate_dst (N := 17) rfl ?_); refine Kd.R_lit (Kd.int .u8) _ 5 ?hg (N := 17) ?hd (xs := ([(a1 / 16777216) % 256, (a1 / 65536) % 256, (a1 / 256) % 256, (a1) % 256] : List Int)) (inner := [.int .u8 ((a1 / 16777216) % 256), .int .u8 ((a1 / 65536) % 256), .int .u8 ((a1 / 256) % 256), .int .u8 ((a1) % 256)]) (ok := fun _ => True) (okp := fun _ => True) ?hr ?hp (fun _ hk => hk) trivial (Below.refl _ _) (Nat.le_refl _) (by simp) ?_; (case hd => rfl); (case hg => rfl); (case hr => first | (go_simp; done) | (go_simp; rfl)); (case hp => exact (Reps.one (show Kd.M (Kd.int .u8) _ _ _ ((a1 / 16777216) % 256) [.int .u8 ((a1 / 16777216) % 256)] from rfl) (Reps.one (show Kd.M (Kd.int .u8) _ _ _ ((a1 / 65536) % 256) [.int .u8 ((a1 / 65536) % 256)] from rfl) (Reps.one (show Kd.M (Kd.int .u8) _ _ _ ((a1 / 256) % 256) [.int .u8 ((a1 / 256) % 256)] from rfl) (Reps.one (show Kd.M (Kd.int .u8) _ _ _ ((a1) % 256) [.int .u8 ((a1) % 256)] from rfl) (Reps.none _ _)))))); intro v130 w4 ho5 hb hg_ hnew_; clear hg_ hnew_; (first | rw [← Ny129.out] at ho5 | (simp only [Int.reduceToNat] at ho5; rw [← Ny129.out] at ho5)); have n0_ := Aside0.mk (Kd.R_elder' (by (with_reducible repeat (first | apply Kd.R_alloc | apply Kd.R_drewN | apply Kd.R_drew)); exact HO0.out) (Kd.R_base ho5) hb); have n1_ := Aside0.mk (Kd.R_lower (Kd.R_new' (Kd.R_newM (M := fun k_ => (P0_ k_ ∨ w.heap.size ≤ k_)) ho5 (by first | exact HK.out.1 | exact (show Kept w _ (fun k_ => P0_ k_) from by repeat (first | (with_reducible first | exact HK.out | apply Kept.alloc | apply Kept.drewN | apply Kept.drew) | exact HK.out)).1) (fun k_ h_ => .inr h_)) (Kd.R_lt (by (with_reducible repeat (first | apply Kd.R_alloc | apply Kd.R_drewN | apply Kd.R_drew)); exact HO0.out))) (below_size (by repeat (first | (with_reducible first | exact HB.out | apply below_alloc | apply pw_below_drewN | apply below_drew1) | exact HB.out)))); have n2_ := Aside0.mk (Kept.below (S := (fun k_ => P0_ k_)) (by repeat (first | (with_reducible first | exact HK.out | apply Kept.alloc | apply Kept.drewN | apply Kept.drew) | exact HK.out)) hb); have n3_ := Aside0.mk (below_step (by repeat (first | (with_reducible first | exact HB.out | apply below_alloc | apply pw_below_drewN | apply below_drew1) | exact HB.out)) hb); clear HO0; clear HK; clear HB; have HO0 := n0_; have HO131 := n1_; have HK := n2_; have HB := n3_; clear n0_ n1_ n2_ n3_; clear hb ho5; obtain ⟨Ao7, co7, eo7⟩ := Kd.R_slice HO131.out; subst eo7) | ((with_reducible refine gate_builtin (b := .append) (xs := #[.tmp 5, .tmp 17]) rfl ?_); at_builtin; refine Kd.R_append_rows (Kd.int .u8) (w0 := w0) w0.heap.size rfl (.tmp 5) (.tmp 17) 27 5 (.int .u8 0) 1 rfl Try.underlying27 info5 rfl (by decide) (by omega) u9000_ l0 y129 _ _ _ (fun k_ => (P0_ k_ ∨ w.heap.size ≤ k_) ∧ some k_ ≠ (.slice Ao7 y129.length co7 : Value).ownBlock) (fun _ => False) rfl rfl ?aO ?aR (fun _ _ h => h) (fun _ h => h.elim) ?aF ?aB ?aS ?aL ?_; (case aR => repeat (first | exact (Kd.R_reads' HO131.out).2.2 | (with_reducible refine Kd.C_alloc ?_ _) | (with_reducible refine Kd.C_drewN ?_ _) | (with_reducible refine Kd.C_drew ?_))); (case aB => exact (by repeat (first | (with_reducible first | exact HB.out | apply below_alloc | apply pw_below_drewN | apply below_drew1) | exact HB.out))); (case aF => exact (fun k_ hk => ⟨(.inr (Nat.le_trans (by first | exact HK.out.1 | exact (show Kept w _ (fun k_ => P0_ k_) from by repeat (first | (with_reducible first | exact HK.out | apply Kept.alloc | apply Kept.drewN | apply Kept.drew) | exact HK.out)).1) hk)), Kd.fresh' (Kd.R_lt (by (with_reducible repeat (first | apply Kd.R_alloc | apply Kd.R_drewN | apply Kd.R_drew)); exact HO131.out)) k_ hk⟩)); (case aO => exact (by (with_reducible repeat (first | apply Kd.R_alloc | apply Kd.R_drewN | apply Kd.R_drew)); exact HO0.out)); (case aS => exact (below_size (by repeat (first | (with_reducible first | exact HB.out | apply below_alloc | apply pw_below_drewN | apply below_drew1) | exact HB.out)))); (case aL => have := LMc3.out; omega); intro v133 w6 ho hb hg hat; rw [← Ny132.out] at ho; have n0_ := Aside0.mk (Kd.R_after (ok := (fun k_ => (P0_ k_ ∨ w.heap.size ≤ k_))) (by (with_reducible repeat (first | apply Kd.R_alloc | apply Kd.R_drewN | apply Kd.R_drew)); exact Kd.R_mono HO131.out (fun _ hk => ⟨hk.1.1, hk.2⟩)) hg hat); have n1_ := Aside0.mk (hb); have n2_ := Aside0.mk (Kept.of_grown (S := (fun k_ => P0_ k_)) hg (by repeat (first | (with_reducible first | exact HK.out | apply Kept.alloc | apply Kept.drewN | apply Kept.drew) | exact HK.out)) (fun k_ e_ => (HO0.out.1 k_ e_).1)); have n3_ := Aside0.mk (ho); clear HO131; clear HB; clear HK; clear HO0; have HO131 := n0_; have HB := n1_; have HK := n2_; have HO134 := n3_; clear n0_ n1_ n2_ n3_; clear ho hb hg hat))
    go_ret
    exact ⟨_, by first | rfl | (simp [errW_none, errW_some] <;> rfl) | (simp [*, errW_none, errW_some] <;> rfl), by (with_reducible repeat (first | apply Kd.R_alloc | apply Kd.R_drewN | apply Kd.R_drew)); exact Kd.R_mono HO134.out (fun _ hk => hk.1), by repeat (first | (with_reducible first | exact HB.out | apply below_alloc | apply pw_below_drewN | apply below_drew1) | exact HB.out), by repeat (first | (with_reducible first | exact HK.out | apply Kept.alloc | apply Kept.drewN | apply Kept.drew) | exact HK.out)⟩
  · rw [if_neg c3] at H
    exact absurd H (by simp)
end Go.Proofs.Ytcopbkdlpfcjpaa.B
namespace Go.Proofs.Ytcopbkdlpfcjpaa.B
open Go.RowKit Go.Proofs.YtcopbkdlpfcjpaaW.PrintWords Go.Proofs.YtcopbkdlpfcjpaaW.PrintLast Go.Proofs.YtcopbkdlpfcjpaaW.PrintMore
attribute [local go_sem] max2_int min2_int max_two min_two max_three min_three max_four min_four
set_option linter.unusedVariables false
set_option linter.unusedSimpArgs false
def codec_Frame.f (k : Nat) (l0 : List Int) : Option (List Int) := if (l0.length : Int) > 262144 then (some ([] : List Int)) else (if 0 ≤ (wrap64 ((l0.length : Int) + 8)) then (if (wrap64 ((l0.length : Int) + 8) : Int).toNat ≤ 281474976710656 then ((codec_four.f (([] : List Int)) (((l0.length : Int)) % 4294967296)).bind fun t138 => ((codec_seal.f k t138 l0).bind fun t141 => ((codec_four.f t138 t141).bind fun t142 => (if t142.length + l0.length < 140737488355328 then (some (t142 ++ l0)) else (none))))) else (none)) else (none))
theorem codec_Frame.mono : ∀ a0 k, LeO (codec_Frame.f k a0) (codec_Frame.f (k + 1) a0) := by
  intro a0 k
  unfold codec_Frame.f
  repeat' first
      | (with_reducible exact codec_seal.mono _ _ _)
      | (with_reducible exact LeO.refl _)
      | (with_reducible exact LeO.none _)
      | (with_reducible refine LeO.ite ?_ ?_)
      | (with_reducible refine LeO.bind ?_ (fun _ => ?_))
      | exact codec_seal.mono _ _ _
      | exact LeO.none _
      | refine LeO.ite ?_ ?_
      | refine LeO.bind ?_ (fun _ => ?_)
set_option maxHeartbeats 8000000 in
set_option maxRecDepth 100000 in
theorem codec_Frame.calls (k : Nat) (A0 : Option Addr) (c0 : Nat) (l0 : List Int) (r : List Int) (w : World) (hr0 : Kd.C (Kd.int .u8) w A0 l0.length l0) (hc0 : l0.length ≤ c0) (h : codec_Frame.f k l0 = some r) :
    Calls Try.prog 51 #[.slice A0 l0.length c0] w fun e w' => ∃ v0_ : Value, e = .returned (v0_) ∧ Kd.R (Kd.int .u8) 5 w' w.heap.size (fun _ => True) v0_ r ∧ Below w.heap.size w w' := by
  have HR0 := Aside0.mk hr0
  have HC0 := Aside0.mk hc0
  clear hr0 hc0
  have HB := Aside0.mk (Below.refl w.heap.size w)
  have H : (if (l0.length : Int) > 262144 then (some ([] : List Int)) else (if 0 ≤ (wrap64 ((l0.length : Int) + 8)) then (if (wrap64 ((l0.length : Int) + 8) : Int).toNat ≤ 281474976710656 then ((codec_four.f (([] : List Int)) (((l0.length : Int)) % 4294967296)).bind fun t138 => ((codec_seal.f k t138 l0).bind fun t141 => ((codec_four.f t138 t141).bind fun t142 => (if t142.length + l0.length < 140737488355328 then (some (t142 ++ l0)) else (none))))) else (none)) else (none))) = some r := h
  clear h
  by_cases c2 : (l0.length : Int) > 262144
  · rw [if_pos c2] at H
    have c2b0 : decide (262144 < (l0.length : Int)) = true := decide_eq_true c2
    have c2b1 : decide (262144 < l0.length) = true := decide_eq_true (by omega)
    clear c2
    obtain rfl := Option.some.inj H
    go_enter Try.func51, Try.ntmps51
    go_wp2
    go_ret
    exact ⟨_, by first | rfl | (simp [errW_none, errW_some] <;> rfl) | (simp [*, errW_none, errW_some] <;> rfl), by first | exact Kd.R_nil _ _ _ _ _ | exact Kd.N_nil _ _ _ _ _ | exact Kd.V_nil _ _ _ _ _ | exact Kd.Q_nil _ _ _ _ _ | exact Kd.S_nil _ _ _ _ _, by repeat (first | (with_reducible first | exact HB.out | apply below_alloc | apply pw_below_drewN | apply below_drew1) | exact HB.out)⟩
  · rw [if_neg c2] at H
    have c2b0 : decide (262144 < (l0.length : Int)) = false := decide_eq_false c2
    have c2b1 : decide (262144 < l0.length) = false := decide_eq_false (by omega)
    clear c2
    obtain ⟨ji3, hji3⟩ : ∃ j_ : Int, (wrap64 ((l0.length : Int) + 8)) = j_ := ⟨_, rfl⟩
    replace H : (if 0 ≤ (ji3) then (if (ji3 : Int).toNat ≤ 281474976710656 then ((codec_four.f (([] : List Int)) (((l0.length : Int)) % 4294967296)).bind fun t138 => ((codec_seal.f k t138 l0).bind fun t141 => ((codec_four.f t138 t141).bind fun t142 => (if t142.length + l0.length < 140737488355328 then (some (t142 ++ l0)) else (none))))) else (none)) else (none)) = some r := by first | (rw [hji3] at H; exact H) | (simp only [hji3] at H ⊢; exact H)
    have hji3w : (IntKind.i64.wrap ((l0.length : Int) + 8)) = ji3 := (i64_w _).trans hji3
    by_cases c4 : 0 ≤ (ji3)
    · rw [if_pos c4] at H
      have c4b0 := eq_true c4
      have c4b1 : decide (0 ≤ (ji3)) = true := decide_eq_true c4
      clear c4
      by_cases c5 : (ji3 : Int).toNat ≤ 281474976710656
      · rw [if_pos c5] at H
        have c5b0 := eq_true c5
        have c5b1 : decide ((ji3 : Int).toNat ≤ 281474976710656) = true := decide_eq_true c5
        clear c5
        obtain ⟨y135, hy135⟩ : ∃ y_ : List Int, y_ = (([] : List Int)) := ⟨_, rfl⟩
        replace H : ((codec_four.f y135 (((l0.length : Int)) % 4294967296)).bind fun t138 => ((codec_seal.f k t138 l0).bind fun t141 => ((codec_four.f t138 t141).bind fun t142 => (if t142.length + l0.length < 140737488355328 then (some (t142 ++ l0)) else (none))))) = some r := by first | (rw [hy135]; with_reducible exact H) | (have H2_ := (Option.bind_some _ _).symm.trans H; rw [hy135]; with_reducible exact H2_) | (have H2_ := (Option.bind_some _ _).symm.trans H; with_reducible exact H2_) | with_reducible exact H | (rw [hy135]; exact H) | exact H
        have Ny135 := Aside0.mk hy135
        clear hy135
        replace H := Option.bind_eq_some_iff.mp H
        obtain ⟨t138, A60, H⟩ := H
        replace H : ((codec_seal.f k t138 l0).bind fun t141 => ((codec_four.f t138 t141).bind fun t142 => (if t142.length + l0.length < 140737488355328 then (some (t142 ++ l0)) else (none)))) = some r := H
        have A6 := Aside0.mk A60
        clear A60
        replace H := Option.bind_eq_some_iff.mp H
        obtain ⟨t141, A70, H⟩ := H
        replace H : ((codec_four.f t138 t141).bind fun t142 => (if t142.length + l0.length < 140737488355328 then (some (t142 ++ l0)) else (none))) = some r := H
        have A7 := Aside0.mk A70
        clear A70
        replace H := Option.bind_eq_some_iff.mp H
        obtain ⟨t142, A80, H⟩ := H
        replace H : (if t142.length + l0.length < 140737488355328 then (some (t142 ++ l0)) else (none)) = some r := H
        have A8 := Aside0.mk A80
        clear A80
        by_cases c9 : t142.length + l0.length < 140737488355328
        · rw [if_pos c9] at H
          have LMc9 := Aside0.mk c9
          clear c9
          obtain ⟨y145, hy145⟩ : ∃ y_ : List Int, y_ = (t142 ++ l0) := ⟨_, rfl⟩
          replace H : (some y145) = some r := by first | (rw [hy145]; with_reducible exact H) | (have H2_ := (Option.bind_some _ _).symm.trans H; rw [hy145]; with_reducible exact H2_) | (have H2_ := (Option.bind_some _ _).symm.trans H; with_reducible exact H2_) | with_reducible exact H | (rw [hy145]; exact H) | exact H
          have Ny145 := Aside0.mk hy145
          clear hy145
          obtain rfl := Option.some.inj H
          go_enter Try.func51, Try.ntmps51
          go_wp2_with (first | ((with_reducible refine gate_dst (N := 10) rfl ?_); refine Kd.R_make0 (Kd.int .u8) _ 5 rfl (N := 10) rfl 27 _ _ rfl ji3 rfl rfl Try.underlying27 (.int .u8 0) 1 info5 rfl (by decide) (by omega) 0 (ok := fun _ => True) (okp := fun _ => True) rfl (fun _ hk => hk) trivial (of_decide_eq_true (by first | (with_reducible assumption) | assumption)) (Nat.le_trans (Nat.mul_le_mul_right _ (of_decide_eq_true (by first | (with_reducible assumption) | assumption) : ji3.toNat ≤ 281474976710656)) (by omega)) (Below.refl _ _) (Nat.le_refl _) ?_; intro v136 w10 ho11 hb hg_ hnew_; clear hg_ hnew_; (first | rw [← Ny135.out] at ho11 | (simp only [Int.reduceToNat] at ho11; rw [← Ny135.out] at ho11)); have n0_ := Aside0.mk (Kd.R_lower ho11 (below_size (by repeat (first | (with_reducible first | exact HB.out | apply below_alloc | apply pw_below_drewN | apply below_drew1) | exact HB.out)))); have n1_ := Aside0.mk (below_step (by repeat (first | (with_reducible first | exact HB.out | apply below_alloc | apply pw_below_drewN | apply below_drew1) | exact HB.out)) hb); clear HB; have HO137 := n0_; have HB := n1_; clear n0_ n1_; clear hb ho11; obtain ⟨Ao12, co12, eo12⟩ := Kd.R_slice HO137.out; subst eo12) | ((with_reducible refine gate_callee (f := 84) rfl ?_); refine goesL_ (some 14) rfl rfl Try.func84 (by kernel_rfl) rfl #[.slice Ao12 y135.length co12, .int .u32 (((l0.length : Int)) % 4294967296)] rfl (by (try simp only [List.map_toArray, List.map_cons, List.map_nil]); first | done | rfl | (simp only [List.length_drop, List.length_take]; rfl)) ?_; (with_reducible refine (codec_four.calls (fun k_ => some k_ = (.slice Ao12 y135.length co12 : Value).ownBlock) (.slice Ao12 y135.length co12) y135 (((l0.length : Int)) % 4294967296) t138 w _ ?side1 ?side2 A6.out).mono ?_); (case side1 => repeat (first | (with_reducible first | exact HB.out | apply below_alloc | apply pw_below_drewN | apply below_drew1) | exact HB.out)); (case side2 => exact Kd.R_tight rfl HO137.out); rintro e w13 ⟨v139, rfl, ho0, hb, hkp⟩; refine ⟨_, rfl, ?_⟩; have n0_ := Aside0.mk (Kd.R_mono (ok' := fun k_ => True) ho0 (fun k_ hk_ => trivial)); have n1_ := Aside0.mk (hb); clear HB; clear HO137; have HO140 := n0_; have HB := n1_; clear n0_ n1_; (try clear hb); (try clear hkp); (try clear ho0); obtain ⟨Ao14, co14, eo14⟩ := Kd.R_slice HO140.out; subst eo14) | ((with_reducible refine gate_callee (f := 81) rfl ?_); refine goesL_ (some 18) rfl rfl Try.func81 (by kernel_rfl) rfl #[.slice Ao14 t138.length co14, .slice A0 l0.length c0] rfl (by (try simp only [List.map_toArray, List.map_cons, List.map_nil]); first | done | rfl | (simp only [List.length_drop, List.length_take]; rfl)) ?_; (with_reducible refine (codec_seal.calls k _ _ t138 _ _ l0 t141 _ ?side1 ?side2 ?side3 ?side4 A7.out).mono ?_); (case side1 => repeat (first | exact (Kd.R_reads' HO140.out).2.2 | (with_reducible refine Kd.C_alloc ?_ _) | (with_reducible refine Kd.C_drewN ?_ _) | (with_reducible refine Kd.C_drew ?_))); (case side2 => exact (Kd.R_reads' HO140.out).2.1); (case side3 => repeat (first | exact (Kd.C_below HR0.out HB.out) | (with_reducible refine Kd.C_alloc ?_ _) | (with_reducible refine Kd.C_drewN ?_ _) | (with_reducible refine Kd.C_drew ?_))); (case side4 => exact HC0.out); rintro e w' ⟨rfl, ⟨nd, rfl⟩⟩; refine ⟨_, rfl, ?_⟩) | ((with_reducible refine gate_callee (f := 84) rfl ?_); refine goesL_ (some 19) rfl rfl Try.func84 (by kernel_rfl) rfl #[.slice Ao14 t138.length co14, .int .u32 t141] rfl (by (try simp only [List.map_toArray, List.map_cons, List.map_nil]); first | done | rfl | (simp only [List.length_drop, List.length_take]; rfl)) ?_; (with_reducible refine (codec_four.calls (fun k_ => some k_ = (.slice Ao14 t138.length co14 : Value).ownBlock) (.slice Ao14 t138.length co14) t138 t141 t142 w _ ?side1 ?side2 A8.out).mono ?_); (case side1 => repeat (first | (with_reducible first | exact HB.out | apply below_alloc | apply pw_below_drewN | apply below_drew1) | exact HB.out)); (case side2 => exact Kd.R_tight rfl HO140.out); rintro e w15 ⟨v143, rfl, ho0, hb, hkp⟩; refine ⟨_, rfl, ?_⟩; have n0_ := Aside0.mk (Kd.R_mono (ok' := fun k_ => True) ho0 (fun k_ hk_ => trivial)); have n1_ := Aside0.mk (hb); clear HB; clear HO140; have HO144 := n0_; have HB := n1_; clear n0_ n1_; (try clear hb); (try clear hkp); (try clear ho0)) | ((with_reducible refine gate_builtin (b := .append) (xs := #[.tmp 19, .tmp 20]) rfl ?_); at_builtin; refine Kd.R_append_rows (Kd.int .u8) (w0 := w) w.heap.size rfl (.tmp 19) (.tmp 20) 27 5 (.int .u8 0) 1 rfl Try.underlying27 info5 rfl (by decide) (by omega) v143 t142 l0 _ _ _ (fun _ => True) (fun _ => False) rfl rfl ?aO ?aR (fun _ _ h => h) (fun _ h => h.elim) ?aF ?aB ?aS ?aL ?_; (case aR => repeat (first | exact (Kd.C_below HR0.out HB.out) | (with_reducible refine Kd.C_alloc ?_ _) | (with_reducible refine Kd.C_drewN ?_ _) | (with_reducible refine Kd.C_drew ?_))); (case aB => exact (by repeat (first | (with_reducible first | exact HB.out | apply below_alloc | apply pw_below_drewN | apply below_drew1) | exact HB.out))); (case aF => exact (fun _ _ => trivial)); (case aO => exact (by (with_reducible repeat (first | apply Kd.R_alloc | apply Kd.R_drewN | apply Kd.R_drew)); exact HO144.out)); (case aS => exact (below_size (by repeat (first | (with_reducible first | exact HB.out | apply below_alloc | apply pw_below_drewN | apply below_drew1) | exact HB.out)))); (case aL => have := LMc9.out; omega); intro v146 w16 ho hb hg hat; rw [← Ny145.out] at ho; have n0_ := Aside0.mk (hb); have n1_ := Aside0.mk (ho); clear HB; clear HO144; have HB := n0_; have HO147 := n1_; clear n0_ n1_; clear ho hb hg hat))
          go_ret
          exact ⟨_, by first | rfl | (simp [errW_none, errW_some] <;> rfl) | (simp only [← hji3]; first | rfl | (simp [errW_none, errW_some] <;> rfl)) | (simp [*, errW_none, errW_some] <;> rfl), by (with_reducible repeat (first | apply Kd.R_alloc | apply Kd.R_drewN | apply Kd.R_drew)); exact HO147.out, by repeat (first | (with_reducible first | exact HB.out | apply below_alloc | apply pw_below_drewN | apply below_drew1) | exact HB.out)⟩
        · rw [if_neg c9] at H
          exact absurd H (by simp)
      · rw [if_neg c5] at H
        exact absurd H (by simp)
    · rw [if_neg c4] at H
      exact absurd H (by simp)
end Go.Proofs.Ytcopbkdlpfcjpaa.B
namespace Go.Proofs.Ytcopbkdlpfcjpaa.H
open Go.RowKit Go.Proofs.YtcopbkdlpfcjpaaW.PrintWords Go.Proofs.YtcopbkdlpfcjpaaW.PrintLast Go.Proofs.YtcopbkdlpfcjpaaW.PrintMore Go.Proofs.Ytcopbkdlpfcjpaa.B
attribute [local go_sem] max2_int min2_int max_two min_two max_three min_three max_four min_four
set_option linter.unusedVariables false
set_option linter.unusedSimpArgs false
def skerrylaw01_livesW.f (k : Nat)  : Option (Bool) := (codec_Zig.f (-1)).bind fun t148 => (if t148 = 1 then ((codec_Put.f k ([] : List Int) 300).bind fun t149 => ((skerryref01_Same.f t149 (([172, 2] : List Int))).bind fun t155 => (if t155 = true then ((codec_PutText.f k ([] : List Int) (⟨#[97, 98]⟩ : ByteArray)).bind fun t156 => ((skerryref01_Same.f t156 (([2, 97, 98] : List Int))).bind fun t162 => (if t162 = true then ((codec_Frame.f k ([] : List Int)).bind fun t163 => (if (t163.length : Int) = 8 then ((codec_Sum.f k (([49, 50, 51, 52, 53, 54, 55, 56, 57] : List Int))).bind fun t169 => (some (t169 == 3421780262))) else (some false))) else (some false)))) else (some false)))) else (some false))
theorem skerrylaw01_livesW.mono : ∀ k, LeO (skerrylaw01_livesW.f k ) (skerrylaw01_livesW.f (k + 1) ) := by
  intro  k
  unfold skerrylaw01_livesW.f
  repeat' first
      | (with_reducible exact codec_Frame.mono _ _)
      | (with_reducible exact codec_Put.mono _ _ _)
      | (with_reducible exact codec_PutText.mono _ _ _)
      | (with_reducible exact codec_Sum.mono _ _)
      | (with_reducible exact LeO.refl _)
      | (with_reducible exact LeO.none _)
      | (with_reducible refine LeO.ite ?_ ?_)
      | (with_reducible refine LeO.bind ?_ (fun _ => ?_))
      | exact codec_Frame.mono _ _
      | exact codec_Put.mono _ _ _
      | exact codec_PutText.mono _ _ _
      | exact codec_Sum.mono _ _
      | exact LeO.none _
      | refine LeO.ite ?_ ?_
      | refine LeO.bind ?_ (fun _ => ?_)
set_option maxHeartbeats 8000000 in
set_option maxRecDepth 100000 in
theorem skerrylaw01_livesW.calls (k : Nat)  (r : Bool) (w : World) (h : skerrylaw01_livesW.f k  = some r) :
    Calls Try.prog 23 #[] w fun e w' => e = .returned (.bool r) ∧ Below w.heap.size w w' := by
  have HB := Aside0.mk (Below.refl w.heap.size w)
  have H : ((codec_Zig.f (-1)).bind fun t148 => (if t148 = 1 then ((codec_Put.f k ([] : List Int) 300).bind fun t149 => ((skerryref01_Same.f t149 (([172, 2] : List Int))).bind fun t155 => (if t155 = true then ((codec_PutText.f k ([] : List Int) (⟨#[97, 98]⟩ : ByteArray)).bind fun t156 => ((skerryref01_Same.f t156 (([2, 97, 98] : List Int))).bind fun t162 => (if t162 = true then ((codec_Frame.f k ([] : List Int)).bind fun t163 => (if (t163.length : Int) = 8 then ((codec_Sum.f k (([49, 50, 51, 52, 53, 54, 55, 56, 57] : List Int))).bind fun t169 => (some (t169 == 3421780262))) else (some false))) else (some false)))) else (some false)))) else (some false))) = some r := h
  clear h
  replace H := Option.bind_eq_some_iff.mp H
  obtain ⟨t148, A10, H⟩ := H
  replace H : (if t148 = 1 then ((codec_Put.f k ([] : List Int) 300).bind fun t149 => ((skerryref01_Same.f t149 (([172, 2] : List Int))).bind fun t155 => (if t155 = true then ((codec_PutText.f k ([] : List Int) (⟨#[97, 98]⟩ : ByteArray)).bind fun t156 => ((skerryref01_Same.f t156 (([2, 97, 98] : List Int))).bind fun t162 => (if t162 = true then ((codec_Frame.f k ([] : List Int)).bind fun t163 => (if (t163.length : Int) = 8 then ((codec_Sum.f k (([49, 50, 51, 52, 53, 54, 55, 56, 57] : List Int))).bind fun t169 => (some (t169 == 3421780262))) else (some false))) else (some false)))) else (some false)))) else (some false)) = some r := H
  have A1 := Aside0.mk A10
  clear A10
  by_cases c2 : t148 = 1
  · rw [if_pos c2] at H
    have c2b0 : (t148 == 1) = true := beq_iff_eq.mpr c2
    have c2b1 : (t148 != 1) = false := bne_eq_false_iff_eq.mpr c2
    clear c2
    replace H := Option.bind_eq_some_iff.mp H
    obtain ⟨t149, A30, H⟩ := H
    replace H : ((skerryref01_Same.f t149 (([172, 2] : List Int))).bind fun t155 => (if t155 = true then ((codec_PutText.f k ([] : List Int) (⟨#[97, 98]⟩ : ByteArray)).bind fun t156 => ((skerryref01_Same.f t156 (([2, 97, 98] : List Int))).bind fun t162 => (if t162 = true then ((codec_Frame.f k ([] : List Int)).bind fun t163 => (if (t163.length : Int) = 8 then ((codec_Sum.f k (([49, 50, 51, 52, 53, 54, 55, 56, 57] : List Int))).bind fun t169 => (some (t169 == 3421780262))) else (some false))) else (some false)))) else (some false))) = some r := H
    have A3 := Aside0.mk A30
    clear A30
    obtain ⟨y152, hy152⟩ : ∃ y_ : List Int, y_ = (([172, 2] : List Int)) := ⟨_, rfl⟩
    replace H : ((skerryref01_Same.f t149 y152).bind fun t155 => (if t155 = true then ((codec_PutText.f k ([] : List Int) (⟨#[97, 98]⟩ : ByteArray)).bind fun t156 => ((skerryref01_Same.f t156 (([2, 97, 98] : List Int))).bind fun t162 => (if t162 = true then ((codec_Frame.f k ([] : List Int)).bind fun t163 => (if (t163.length : Int) = 8 then ((codec_Sum.f k (([49, 50, 51, 52, 53, 54, 55, 56, 57] : List Int))).bind fun t169 => (some (t169 == 3421780262))) else (some false))) else (some false)))) else (some false))) = some r := by first | (rw [hy152]; with_reducible exact H) | (have H2_ := (Option.bind_some _ _).symm.trans H; rw [hy152]; with_reducible exact H2_) | (have H2_ := (Option.bind_some _ _).symm.trans H; with_reducible exact H2_) | with_reducible exact H | (rw [hy152]; exact H) | exact H
    have Ny152 := Aside0.mk hy152
    clear hy152
    replace H := Option.bind_eq_some_iff.mp H
    obtain ⟨t155, A40, H⟩ := H
    replace H : (if t155 = true then ((codec_PutText.f k ([] : List Int) (⟨#[97, 98]⟩ : ByteArray)).bind fun t156 => ((skerryref01_Same.f t156 (([2, 97, 98] : List Int))).bind fun t162 => (if t162 = true then ((codec_Frame.f k ([] : List Int)).bind fun t163 => (if (t163.length : Int) = 8 then ((codec_Sum.f k (([49, 50, 51, 52, 53, 54, 55, 56, 57] : List Int))).bind fun t169 => (some (t169 == 3421780262))) else (some false))) else (some false)))) else (some false)) = some r := H
    have A4 := Aside0.mk A40
    clear A40
    by_cases c5 : t155 = true
    · subst c5
      have H1 : ((codec_PutText.f k ([] : List Int) (⟨#[97, 98]⟩ : ByteArray)).bind fun t156 => ((skerryref01_Same.f t156 (([2, 97, 98] : List Int))).bind fun t162 => (if t162 = true then ((codec_Frame.f k ([] : List Int)).bind fun t163 => (if (t163.length : Int) = 8 then ((codec_Sum.f k (([49, 50, 51, 52, 53, 54, 55, 56, 57] : List Int))).bind fun t169 => (some (t169 == 3421780262))) else (some false))) else (some false)))) = some r := by rw [if_pos rfl] at H; exact H
      clear H
      have H := H1
      clear H1
      replace H := Option.bind_eq_some_iff.mp H
      obtain ⟨t156, A60, H⟩ := H
      replace H : ((skerryref01_Same.f t156 (([2, 97, 98] : List Int))).bind fun t162 => (if t162 = true then ((codec_Frame.f k ([] : List Int)).bind fun t163 => (if (t163.length : Int) = 8 then ((codec_Sum.f k (([49, 50, 51, 52, 53, 54, 55, 56, 57] : List Int))).bind fun t169 => (some (t169 == 3421780262))) else (some false))) else (some false))) = some r := H
      have A6 := Aside0.mk A60
      clear A60
      obtain ⟨y159, hy159⟩ : ∃ y_ : List Int, y_ = (([2, 97, 98] : List Int)) := ⟨_, rfl⟩
      replace H : ((skerryref01_Same.f t156 y159).bind fun t162 => (if t162 = true then ((codec_Frame.f k ([] : List Int)).bind fun t163 => (if (t163.length : Int) = 8 then ((codec_Sum.f k (([49, 50, 51, 52, 53, 54, 55, 56, 57] : List Int))).bind fun t169 => (some (t169 == 3421780262))) else (some false))) else (some false))) = some r := by first | (rw [hy159]; with_reducible exact H) | (have H2_ := (Option.bind_some _ _).symm.trans H; rw [hy159]; with_reducible exact H2_) | (have H2_ := (Option.bind_some _ _).symm.trans H; with_reducible exact H2_) | with_reducible exact H | (rw [hy159]; exact H) | exact H
      have Ny159 := Aside0.mk hy159
      clear hy159
      replace H := Option.bind_eq_some_iff.mp H
      obtain ⟨t162, A70, H⟩ := H
      replace H : (if t162 = true then ((codec_Frame.f k ([] : List Int)).bind fun t163 => (if (t163.length : Int) = 8 then ((codec_Sum.f k (([49, 50, 51, 52, 53, 54, 55, 56, 57] : List Int))).bind fun t169 => (some (t169 == 3421780262))) else (some false))) else (some false)) = some r := H
      have A7 := Aside0.mk A70
      clear A70
      by_cases c8 : t162 = true
      · subst c8
        have H1 : ((codec_Frame.f k ([] : List Int)).bind fun t163 => (if (t163.length : Int) = 8 then ((codec_Sum.f k (([49, 50, 51, 52, 53, 54, 55, 56, 57] : List Int))).bind fun t169 => (some (t169 == 3421780262))) else (some false))) = some r := by rw [if_pos rfl] at H; exact H
        clear H
        have H := H1
        clear H1
        replace H := Option.bind_eq_some_iff.mp H
        obtain ⟨t163, A90, H⟩ := H
        replace H : (if (t163.length : Int) = 8 then ((codec_Sum.f k (([49, 50, 51, 52, 53, 54, 55, 56, 57] : List Int))).bind fun t169 => (some (t169 == 3421780262))) else (some false)) = some r := H
        have A9 := Aside0.mk A90
        clear A90
        by_cases c10 : (t163.length : Int) = 8
        · rw [if_pos c10] at H
          have c10b0 : ((t163.length : Int) == 8) = true := beq_iff_eq.mpr c10
          have c10b1 : ((t163.length : Int) != 8) = false := bne_eq_false_iff_eq.mpr c10
          clear c10
          obtain ⟨y166, hy166⟩ : ∃ y_ : List Int, y_ = (([49, 50, 51, 52, 53, 54, 55, 56, 57] : List Int)) := ⟨_, rfl⟩
          replace H : ((codec_Sum.f k y166).bind fun t169 => (some (t169 == 3421780262))) = some r := by first | (rw [hy166]; with_reducible exact H) | (have H2_ := (Option.bind_some _ _).symm.trans H; rw [hy166]; with_reducible exact H2_) | (have H2_ := (Option.bind_some _ _).symm.trans H; with_reducible exact H2_) | with_reducible exact H | (rw [hy166]; exact H) | exact H
          have Ny166 := Aside0.mk hy166
          clear hy166
          replace H := Option.bind_eq_some_iff.mp H
          obtain ⟨t169, A110, H⟩ := H
          replace H : (some (t169 == 3421780262)) = some r := H
          have A11 := Aside0.mk A110
          clear A110
          obtain rfl := Option.some.inj H
          have kc := fun (w : World) (C : Array Value) (n c : Nat) => Lib.run_convert_bytes_const (P := Try.prog) w 27 5 C n c Try.underlying27 Try.underlying5
          go_enter Try.func23, Try.ntmps23
          go_wp2_with (first | ((with_reducible refine gate_callee (f := 21) rfl ?_); refine goesL_ (some 1) rfl rfl Try.func21 (by kernel_rfl) rfl #[.int .i64 (-1)] rfl (by (try simp only [List.map_toArray, List.map_cons, List.map_nil]); first | done | rfl | (simp only [List.length_drop, List.length_take]; rfl)) ?_; (with_reducible refine (codec_Zig.calls (-1) t148 _ A1.out).mono ?_); rintro e w' ⟨rfl, ⟨nd, rfl⟩⟩; refine ⟨_, rfl, ?_⟩) | (go_at_call 24; (refine (codec_Put.calls k _ _ ([] : List Int) 300 t149 _ ?side1 ?side2 A3.out).mono ?_); (case side1 => exact Kd.C_nil _ _); (case side2 => exact Nat.le_refl _); rintro e w12 ⟨v150, rfl, ho0, hb⟩; have n0_ := Aside0.mk (Kd.R_lower ho0 (below_size (by repeat (first | (with_reducible first | exact HB.out | apply below_alloc | apply pw_below_drewN | apply below_drew1) | exact HB.out)))); have n1_ := Aside0.mk (below_step (by repeat (first | (with_reducible first | exact HB.out | apply below_alloc | apply pw_below_drewN | apply below_drew1) | exact HB.out)) hb); clear HB; have HO151 := n0_; have HB := n1_; clear n0_ n1_; (try clear hb); (try clear hb2); (try clear hk); (try clear hi); (try clear ho0)) | ((with_reducible refine gate_dst (N := 5) rfl ?_); (try (refine gate_guard (by rfl) ?_; dsimp only)); refine Kd.R_lit (Kd.int .u8) _ 5 ?hg (N := 5) ?hd (xs := ([172, 2] : List Int)) (inner := [.int .u8 172, .int .u8 2]) (ok := fun _ => True) (okp := fun _ => True) ?hr ?hp (fun _ hk => hk) trivial (Below.refl _ _) (Nat.le_refl _) (by simp) ?_; (case hd => rfl); (case hg => rfl); (case hr => first | (go_simp; done) | (go_simp; rfl)); (case hp => exact (Reps.one (show Kd.M (Kd.int .u8) _ _ _ 172 [.int .u8 172] from rfl) (Reps.one (show Kd.M (Kd.int .u8) _ _ _ 2 [.int .u8 2] from rfl) (Reps.none _ _)))); intro v153 w13 ho14 hb hg_ hnew_; clear hg_ hnew_; (first | rw [← Ny152.out] at ho14 | (simp only [Int.reduceToNat] at ho14; rw [← Ny152.out] at ho14)); have n0_ := Aside0.mk (Kd.R_elder' (by (with_reducible repeat (first | apply Kd.R_alloc | apply Kd.R_drewN | apply Kd.R_drew)); exact HO151.out) (Kd.R_base ho14) hb); have n1_ := Aside0.mk (Kd.R_lower (Kd.R_new' ho14 (Kd.R_lt (by (with_reducible repeat (first | apply Kd.R_alloc | apply Kd.R_drewN | apply Kd.R_drew)); exact HO151.out))) (below_size (by repeat (first | (with_reducible first | exact HB.out | apply below_alloc | apply pw_below_drewN | apply below_drew1) | exact HB.out)))); have n2_ := Aside0.mk (below_step (by repeat (first | (with_reducible first | exact HB.out | apply below_alloc | apply pw_below_drewN | apply below_drew1) | exact HB.out)) hb); clear HO151; clear HB; have HO151 := n0_; have HO154 := n1_; have HB := n2_; clear n0_ n1_ n2_; clear hb ho14; obtain ⟨Ao15, co15, eo15⟩ := Kd.R_slice HO151.out; subst eo15; obtain ⟨Ao16, co16, eo16⟩ := Kd.R_slice HO154.out; subst eo16) | (go_at_call 28; (with_reducible refine (skerryref01_Same.calls _ _ t149 _ _ y152 true _ ?side1 ?side2 ?side3 ?side4 A4.out).mono ?_); (case side1 => repeat (first | exact (Kd.R_reads' HO151.out).2.2 | (with_reducible refine Kd.C_alloc ?_ _) | (with_reducible refine Kd.C_drewN ?_ _) | (with_reducible refine Kd.C_drew ?_))); (case side2 => exact (Kd.R_reads' HO151.out).2.1); (case side3 => repeat (first | exact (Kd.R_reads' HO154.out).2.2 | (with_reducible refine Kd.C_alloc ?_ _) | (with_reducible refine Kd.C_drewN ?_ _) | (with_reducible refine Kd.C_drew ?_))); (case side4 => exact (Kd.R_reads' HO154.out).2.1); rintro e w' ⟨rfl, ⟨nd, rfl⟩⟩) | (go_at_call 35; (refine (codec_PutText.calls k _ _ ([] : List Int) (⟨#[97, 98]⟩ : ByteArray) t156 _ ?side1 ?side2 A6.out).mono ?_); (case side1 => exact Kd.C_nil _ _); (case side2 => exact Nat.le_refl _); rintro e w17 ⟨v157, rfl, ho0, hb⟩; have n0_ := Aside0.mk (Kd.R_elder' (by (with_reducible repeat (first | apply Kd.R_alloc | apply Kd.R_drewN | apply Kd.R_drew)); exact HO151.out) (Kd.R_base ho0) hb); have n1_ := Aside0.mk (Kd.R_elder' (by (with_reducible repeat (first | apply Kd.R_alloc | apply Kd.R_drewN | apply Kd.R_drew)); exact HO154.out) (Kd.R_base ho0) hb); have n2_ := Aside0.mk (Kd.R_lower (Kd.R_new' (Kd.R_new' ho0 (Kd.R_lt (by (with_reducible repeat (first | apply Kd.R_alloc | apply Kd.R_drewN | apply Kd.R_drew)); exact HO151.out))) (Kd.R_lt (by (with_reducible repeat (first | apply Kd.R_alloc | apply Kd.R_drewN | apply Kd.R_drew)); exact HO154.out))) (below_size (by repeat (first | (with_reducible first | exact HB.out | apply below_alloc | apply pw_below_drewN | apply below_drew1) | exact HB.out)))); have n3_ := Aside0.mk (below_step (by repeat (first | (with_reducible first | exact HB.out | apply below_alloc | apply pw_below_drewN | apply below_drew1) | exact HB.out)) hb); clear HO151; clear HO154; clear HB; have HO151 := n0_; have HO154 := n1_; have HO158 := n2_; have HB := n3_; clear n0_ n1_ n2_ n3_; (try clear hb); (try clear hb2); (try clear hk); (try clear hi); (try clear ho0)) | ((with_reducible refine gate_dst (N := 10) rfl ?_); (try (refine gate_guard (by rfl) ?_; dsimp only)); refine Kd.R_lit (Kd.int .u8) _ 5 ?hg (N := 10) ?hd (xs := ([2, 97, 98] : List Int)) (inner := [.int .u8 2, .int .u8 97, .int .u8 98]) (ok := fun _ => True) (okp := fun _ => True) ?hr ?hp (fun _ hk => hk) trivial (Below.refl _ _) (Nat.le_refl _) (by simp) ?_; (case hd => rfl); (case hg => rfl); (case hr => first | (go_simp; done) | (go_simp; rfl)); (case hp => exact (Reps.one (show Kd.M (Kd.int .u8) _ _ _ 2 [.int .u8 2] from rfl) (Reps.one (show Kd.M (Kd.int .u8) _ _ _ 97 [.int .u8 97] from rfl) (Reps.one (show Kd.M (Kd.int .u8) _ _ _ 98 [.int .u8 98] from rfl) (Reps.none _ _))))); intro v160 w18 ho19 hb hg_ hnew_; clear hg_ hnew_; (first | rw [← Ny159.out] at ho19 | (simp only [Int.reduceToNat] at ho19; rw [← Ny159.out] at ho19)); have n0_ := Aside0.mk (Kd.R_elder' (by (with_reducible repeat (first | apply Kd.R_alloc | apply Kd.R_drewN | apply Kd.R_drew)); exact HO151.out) (Kd.R_base ho19) hb); have n1_ := Aside0.mk (Kd.R_elder' (by (with_reducible repeat (first | apply Kd.R_alloc | apply Kd.R_drewN | apply Kd.R_drew)); exact HO154.out) (Kd.R_base ho19) hb); have n2_ := Aside0.mk (Kd.R_elder' (by (with_reducible repeat (first | apply Kd.R_alloc | apply Kd.R_drewN | apply Kd.R_drew)); exact HO158.out) (Kd.R_base ho19) hb); have n3_ := Aside0.mk (Kd.R_lower (Kd.R_new' (Kd.R_new' (Kd.R_new' ho19 (Kd.R_lt (by (with_reducible repeat (first | apply Kd.R_alloc | apply Kd.R_drewN | apply Kd.R_drew)); exact HO151.out))) (Kd.R_lt (by (with_reducible repeat (first | apply Kd.R_alloc | apply Kd.R_drewN | apply Kd.R_drew)); exact HO154.out))) (Kd.R_lt (by (with_reducible repeat (first | apply Kd.R_alloc | apply Kd.R_drewN | apply Kd.R_drew)); exact HO158.out))) (below_size (by repeat (first | (with_reducible first | exact HB.out | apply below_alloc | apply pw_below_drewN | apply below_drew1) | exact HB.out)))); have n4_ := Aside0.mk (below_step (by repeat (first | (with_reducible first | exact HB.out | apply below_alloc | apply pw_below_drewN | apply below_drew1) | exact HB.out)) hb); clear HO151; clear HO154; clear HO158; clear HB; have HO151 := n0_; have HO154 := n1_; have HO158 := n2_; have HO161 := n3_; have HB := n4_; clear n0_ n1_ n2_ n3_ n4_; clear hb ho19; obtain ⟨Ao20, co20, eo20⟩ := Kd.R_slice HO158.out; subst eo20; obtain ⟨Ao21, co21, eo21⟩ := Kd.R_slice HO161.out; subst eo21) | (go_at_call 28; (with_reducible refine (skerryref01_Same.calls _ _ t156 _ _ y159 true _ ?side1 ?side2 ?side3 ?side4 A7.out).mono ?_); (case side1 => repeat (first | exact (Kd.R_reads' HO158.out).2.2 | (with_reducible refine Kd.C_alloc ?_ _) | (with_reducible refine Kd.C_drewN ?_ _) | (with_reducible refine Kd.C_drew ?_))); (case side2 => exact (Kd.R_reads' HO158.out).2.1); (case side3 => repeat (first | exact (Kd.R_reads' HO161.out).2.2 | (with_reducible refine Kd.C_alloc ?_ _) | (with_reducible refine Kd.C_drewN ?_ _) | (with_reducible refine Kd.C_drew ?_))); (case side4 => exact (Kd.R_reads' HO161.out).2.1); rintro e w' ⟨rfl, ⟨nd, rfl⟩⟩) | (go_at_call 51; (refine (codec_Frame.calls k _ _ ([] : List Int) t163 _ ?side1 ?side2 A9.out).mono ?_); (case side1 => exact Kd.C_nil _ _); (case side2 => exact Nat.le_refl _); rintro e w22 ⟨v164, rfl, ho0, hb⟩; have n0_ := Aside0.mk (Kd.R_elder' (by (with_reducible repeat (first | apply Kd.R_alloc | apply Kd.R_drewN | apply Kd.R_drew)); exact HO151.out) (Kd.R_base ho0) hb); have n1_ := Aside0.mk (Kd.R_elder' (by (with_reducible repeat (first | apply Kd.R_alloc | apply Kd.R_drewN | apply Kd.R_drew)); exact HO154.out) (Kd.R_base ho0) hb); have n2_ := Aside0.mk (Kd.R_elder' (by (with_reducible repeat (first | apply Kd.R_alloc | apply Kd.R_drewN | apply Kd.R_drew)); exact HO158.out) (Kd.R_base ho0) hb); have n3_ := Aside0.mk (Kd.R_elder' (by (with_reducible repeat (first | apply Kd.R_alloc | apply Kd.R_drewN | apply Kd.R_drew)); exact HO161.out) (Kd.R_base ho0) hb); have n4_ := Aside0.mk (Kd.R_lower (Kd.R_new' (Kd.R_new' (Kd.R_new' (Kd.R_new' ho0 (Kd.R_lt (by (with_reducible repeat (first | apply Kd.R_alloc | apply Kd.R_drewN | apply Kd.R_drew)); exact HO151.out))) (Kd.R_lt (by (with_reducible repeat (first | apply Kd.R_alloc | apply Kd.R_drewN | apply Kd.R_drew)); exact HO154.out))) (Kd.R_lt (by (with_reducible repeat (first | apply Kd.R_alloc | apply Kd.R_drewN | apply Kd.R_drew)); exact HO158.out))) (Kd.R_lt (by (with_reducible repeat (first | apply Kd.R_alloc | apply Kd.R_drewN | apply Kd.R_drew)); exact HO161.out))) (below_size (by repeat (first | (with_reducible first | exact HB.out | apply below_alloc | apply pw_below_drewN | apply below_drew1) | exact HB.out)))); have n5_ := Aside0.mk (below_step (by repeat (first | (with_reducible first | exact HB.out | apply below_alloc | apply pw_below_drewN | apply below_drew1) | exact HB.out)) hb); clear HO151; clear HO154; clear HO158; clear HO161; clear HB; have HO151 := n0_; have HO154 := n1_; have HO158 := n2_; have HO161 := n3_; have HO165 := n4_; have HB := n5_; clear n0_ n1_ n2_ n3_ n4_ n5_; (try clear hb); (try clear hb2); (try clear hk); (try clear hi); (try clear ho0); obtain ⟨Ao23, co23, eo23⟩ := Kd.R_slice HO165.out; subst eo23) | (go_at_call 49; refine (codec_Sum.calls k (some ⟨_, 0, none⟩) 9 ([49, 50, 51, 52, 53, 54, 55, 56, 57] : List Int) t169 _ ?side1 (by decide) (by rw [← Ny166.out]; exact A11.out)).mono ?_; (case side1 => exact Kd.C_lit_marked _ .u8 [49, 50, 51, 52, 53, 54, 55, 56, 57] _ _ _ rfl (by decide)); rintro e w' ⟨rfl, ⟨nd, rfl⟩⟩))
          go_ret
          exact ⟨by first | rfl | (simp [errW_none, errW_some] <;> rfl) | (simp [*, errW_none, errW_some] <;> rfl), by repeat (first | (with_reducible first | exact HB.out | apply below_alloc | apply pw_below_drewN | apply below_drew1) | exact HB.out)⟩
        · rw [if_neg c10] at H
          have c10b0 : ((t163.length : Int) == 8) = false := beq_eq_false_iff_ne.mpr c10
          have c10b1 : ((t163.length : Int) != 8) = true := bne_iff_ne.mpr c10
          obtain rfl := Option.some.inj H
          go_enter Try.func23, Try.ntmps23
          go_wp2_with (first | ((with_reducible refine gate_callee (f := 21) rfl ?_); refine goesL_ (some 1) rfl rfl Try.func21 (by kernel_rfl) rfl #[.int .i64 (-1)] rfl (by (try simp only [List.map_toArray, List.map_cons, List.map_nil]); first | done | rfl | (simp only [List.length_drop, List.length_take]; rfl)) ?_; (with_reducible refine (codec_Zig.calls (-1) t148 _ A1.out).mono ?_); rintro e w' ⟨rfl, ⟨nd, rfl⟩⟩; refine ⟨_, rfl, ?_⟩) | (go_at_call 24; (refine (codec_Put.calls k _ _ ([] : List Int) 300 t149 _ ?side1 ?side2 A3.out).mono ?_); (case side1 => exact Kd.C_nil _ _); (case side2 => exact Nat.le_refl _); rintro e w27 ⟨v150, rfl, ho0, hb⟩; have n0_ := Aside0.mk (Kd.R_lower ho0 (below_size (by repeat (first | (with_reducible first | exact HB.out | apply below_alloc | apply pw_below_drewN | apply below_drew1) | exact HB.out)))); have n1_ := Aside0.mk (below_step (by repeat (first | (with_reducible first | exact HB.out | apply below_alloc | apply pw_below_drewN | apply below_drew1) | exact HB.out)) hb); clear HB; have HO151 := n0_; have HB := n1_; clear n0_ n1_; (try clear hb); (try clear hb2); (try clear hk); (try clear hi); (try clear ho0)) | ((with_reducible refine gate_dst (N := 5) rfl ?_); (try (refine gate_guard (by rfl) ?_; dsimp only)); refine Kd.R_lit (Kd.int .u8) _ 5 ?hg (N := 5) ?hd (xs := ([172, 2] : List Int)) (inner := [.int .u8 172, .int .u8 2]) (ok := fun _ => True) (okp := fun _ => True) ?hr ?hp (fun _ hk => hk) trivial (Below.refl _ _) (Nat.le_refl _) (by simp) ?_; (case hd => rfl); (case hg => rfl); (case hr => first | (go_simp; done) | (go_simp; rfl)); (case hp => exact (Reps.one (show Kd.M (Kd.int .u8) _ _ _ 172 [.int .u8 172] from rfl) (Reps.one (show Kd.M (Kd.int .u8) _ _ _ 2 [.int .u8 2] from rfl) (Reps.none _ _)))); intro v153 w28 ho29 hb hg_ hnew_; clear hg_ hnew_; (first | rw [← Ny152.out] at ho29 | (simp only [Int.reduceToNat] at ho29; rw [← Ny152.out] at ho29)); have n0_ := Aside0.mk (Kd.R_elder' (by (with_reducible repeat (first | apply Kd.R_alloc | apply Kd.R_drewN | apply Kd.R_drew)); exact HO151.out) (Kd.R_base ho29) hb); have n1_ := Aside0.mk (Kd.R_lower (Kd.R_new' ho29 (Kd.R_lt (by (with_reducible repeat (first | apply Kd.R_alloc | apply Kd.R_drewN | apply Kd.R_drew)); exact HO151.out))) (below_size (by repeat (first | (with_reducible first | exact HB.out | apply below_alloc | apply pw_below_drewN | apply below_drew1) | exact HB.out)))); have n2_ := Aside0.mk (below_step (by repeat (first | (with_reducible first | exact HB.out | apply below_alloc | apply pw_below_drewN | apply below_drew1) | exact HB.out)) hb); clear HO151; clear HB; have HO151 := n0_; have HO154 := n1_; have HB := n2_; clear n0_ n1_ n2_; clear hb ho29; obtain ⟨Ao30, co30, eo30⟩ := Kd.R_slice HO151.out; subst eo30; obtain ⟨Ao31, co31, eo31⟩ := Kd.R_slice HO154.out; subst eo31) | (go_at_call 28; (with_reducible refine (skerryref01_Same.calls _ _ t149 _ _ y152 true _ ?side1 ?side2 ?side3 ?side4 A4.out).mono ?_); (case side1 => repeat (first | exact (Kd.R_reads' HO151.out).2.2 | (with_reducible refine Kd.C_alloc ?_ _) | (with_reducible refine Kd.C_drewN ?_ _) | (with_reducible refine Kd.C_drew ?_))); (case side2 => exact (Kd.R_reads' HO151.out).2.1); (case side3 => repeat (first | exact (Kd.R_reads' HO154.out).2.2 | (with_reducible refine Kd.C_alloc ?_ _) | (with_reducible refine Kd.C_drewN ?_ _) | (with_reducible refine Kd.C_drew ?_))); (case side4 => exact (Kd.R_reads' HO154.out).2.1); rintro e w' ⟨rfl, ⟨nd, rfl⟩⟩) | (go_at_call 35; (refine (codec_PutText.calls k _ _ ([] : List Int) (⟨#[97, 98]⟩ : ByteArray) t156 _ ?side1 ?side2 A6.out).mono ?_); (case side1 => exact Kd.C_nil _ _); (case side2 => exact Nat.le_refl _); rintro e w32 ⟨v157, rfl, ho0, hb⟩; have n0_ := Aside0.mk (Kd.R_elder' (by (with_reducible repeat (first | apply Kd.R_alloc | apply Kd.R_drewN | apply Kd.R_drew)); exact HO151.out) (Kd.R_base ho0) hb); have n1_ := Aside0.mk (Kd.R_elder' (by (with_reducible repeat (first | apply Kd.R_alloc | apply Kd.R_drewN | apply Kd.R_drew)); exact HO154.out) (Kd.R_base ho0) hb); have n2_ := Aside0.mk (Kd.R_lower (Kd.R_new' (Kd.R_new' ho0 (Kd.R_lt (by (with_reducible repeat (first | apply Kd.R_alloc | apply Kd.R_drewN | apply Kd.R_drew)); exact HO151.out))) (Kd.R_lt (by (with_reducible repeat (first | apply Kd.R_alloc | apply Kd.R_drewN | apply Kd.R_drew)); exact HO154.out))) (below_size (by repeat (first | (with_reducible first | exact HB.out | apply below_alloc | apply pw_below_drewN | apply below_drew1) | exact HB.out)))); have n3_ := Aside0.mk (below_step (by repeat (first | (with_reducible first | exact HB.out | apply below_alloc | apply pw_below_drewN | apply below_drew1) | exact HB.out)) hb); clear HO151; clear HO154; clear HB; have HO151 := n0_; have HO154 := n1_; have HO158 := n2_; have HB := n3_; clear n0_ n1_ n2_ n3_; (try clear hb); (try clear hb2); (try clear hk); (try clear hi); (try clear ho0)) | ((with_reducible refine gate_dst (N := 10) rfl ?_); (try (refine gate_guard (by rfl) ?_; dsimp only)); refine Kd.R_lit (Kd.int .u8) _ 5 ?hg (N := 10) ?hd (xs := ([2, 97, 98] : List Int)) (inner := [.int .u8 2, .int .u8 97, .int .u8 98]) (ok := fun _ => True) (okp := fun _ => True) ?hr ?hp (fun _ hk => hk) trivial (Below.refl _ _) (Nat.le_refl _) (by simp) ?_; (case hd => rfl); (case hg => rfl); (case hr => first | (go_simp; done) | (go_simp; rfl)); (case hp => exact (Reps.one (show Kd.M (Kd.int .u8) _ _ _ 2 [.int .u8 2] from rfl) (Reps.one (show Kd.M (Kd.int .u8) _ _ _ 97 [.int .u8 97] from rfl) (Reps.one (show Kd.M (Kd.int .u8) _ _ _ 98 [.int .u8 98] from rfl) (Reps.none _ _))))); intro v160 w33 ho34 hb hg_ hnew_; clear hg_ hnew_; (first | rw [← Ny159.out] at ho34 | (simp only [Int.reduceToNat] at ho34; rw [← Ny159.out] at ho34)); have n0_ := Aside0.mk (Kd.R_elder' (by (with_reducible repeat (first | apply Kd.R_alloc | apply Kd.R_drewN | apply Kd.R_drew)); exact HO151.out) (Kd.R_base ho34) hb); have n1_ := Aside0.mk (Kd.R_elder' (by (with_reducible repeat (first | apply Kd.R_alloc | apply Kd.R_drewN | apply Kd.R_drew)); exact HO154.out) (Kd.R_base ho34) hb); have n2_ := Aside0.mk (Kd.R_elder' (by (with_reducible repeat (first | apply Kd.R_alloc | apply Kd.R_drewN | apply Kd.R_drew)); exact HO158.out) (Kd.R_base ho34) hb); have n3_ := Aside0.mk (Kd.R_lower (Kd.R_new' (Kd.R_new' (Kd.R_new' ho34 (Kd.R_lt (by (with_reducible repeat (first | apply Kd.R_alloc | apply Kd.R_drewN | apply Kd.R_drew)); exact HO151.out))) (Kd.R_lt (by (with_reducible repeat (first | apply Kd.R_alloc | apply Kd.R_drewN | apply Kd.R_drew)); exact HO154.out))) (Kd.R_lt (by (with_reducible repeat (first | apply Kd.R_alloc | apply Kd.R_drewN | apply Kd.R_drew)); exact HO158.out))) (below_size (by repeat (first | (with_reducible first | exact HB.out | apply below_alloc | apply pw_below_drewN | apply below_drew1) | exact HB.out)))); have n4_ := Aside0.mk (below_step (by repeat (first | (with_reducible first | exact HB.out | apply below_alloc | apply pw_below_drewN | apply below_drew1) | exact HB.out)) hb); clear HO151; clear HO154; clear HO158; clear HB; have HO151 := n0_; have HO154 := n1_; have HO158 := n2_; have HO161 := n3_; have HB := n4_; clear n0_ n1_ n2_ n3_ n4_; clear hb ho34; obtain ⟨Ao35, co35, eo35⟩ := Kd.R_slice HO158.out; subst eo35; obtain ⟨Ao36, co36, eo36⟩ := Kd.R_slice HO161.out; subst eo36) | (go_at_call 28; (with_reducible refine (skerryref01_Same.calls _ _ t156 _ _ y159 true _ ?side1 ?side2 ?side3 ?side4 A7.out).mono ?_); (case side1 => repeat (first | exact (Kd.R_reads' HO158.out).2.2 | (with_reducible refine Kd.C_alloc ?_ _) | (with_reducible refine Kd.C_drewN ?_ _) | (with_reducible refine Kd.C_drew ?_))); (case side2 => exact (Kd.R_reads' HO158.out).2.1); (case side3 => repeat (first | exact (Kd.R_reads' HO161.out).2.2 | (with_reducible refine Kd.C_alloc ?_ _) | (with_reducible refine Kd.C_drewN ?_ _) | (with_reducible refine Kd.C_drew ?_))); (case side4 => exact (Kd.R_reads' HO161.out).2.1); rintro e w' ⟨rfl, ⟨nd, rfl⟩⟩) | (go_at_call 51; (refine (codec_Frame.calls k _ _ ([] : List Int) t163 _ ?side1 ?side2 A9.out).mono ?_); (case side1 => exact Kd.C_nil _ _); (case side2 => exact Nat.le_refl _); rintro e w37 ⟨v164, rfl, ho0, hb⟩; have n0_ := Aside0.mk (Kd.R_elder' (by (with_reducible repeat (first | apply Kd.R_alloc | apply Kd.R_drewN | apply Kd.R_drew)); exact HO151.out) (Kd.R_base ho0) hb); have n1_ := Aside0.mk (Kd.R_elder' (by (with_reducible repeat (first | apply Kd.R_alloc | apply Kd.R_drewN | apply Kd.R_drew)); exact HO154.out) (Kd.R_base ho0) hb); have n2_ := Aside0.mk (Kd.R_elder' (by (with_reducible repeat (first | apply Kd.R_alloc | apply Kd.R_drewN | apply Kd.R_drew)); exact HO158.out) (Kd.R_base ho0) hb); have n3_ := Aside0.mk (Kd.R_elder' (by (with_reducible repeat (first | apply Kd.R_alloc | apply Kd.R_drewN | apply Kd.R_drew)); exact HO161.out) (Kd.R_base ho0) hb); have n4_ := Aside0.mk (Kd.R_lower (Kd.R_new' (Kd.R_new' (Kd.R_new' (Kd.R_new' ho0 (Kd.R_lt (by (with_reducible repeat (first | apply Kd.R_alloc | apply Kd.R_drewN | apply Kd.R_drew)); exact HO151.out))) (Kd.R_lt (by (with_reducible repeat (first | apply Kd.R_alloc | apply Kd.R_drewN | apply Kd.R_drew)); exact HO154.out))) (Kd.R_lt (by (with_reducible repeat (first | apply Kd.R_alloc | apply Kd.R_drewN | apply Kd.R_drew)); exact HO158.out))) (Kd.R_lt (by (with_reducible repeat (first | apply Kd.R_alloc | apply Kd.R_drewN | apply Kd.R_drew)); exact HO161.out))) (below_size (by repeat (first | (with_reducible first | exact HB.out | apply below_alloc | apply pw_below_drewN | apply below_drew1) | exact HB.out)))); have n5_ := Aside0.mk (below_step (by repeat (first | (with_reducible first | exact HB.out | apply below_alloc | apply pw_below_drewN | apply below_drew1) | exact HB.out)) hb); clear HO151; clear HO154; clear HO158; clear HO161; clear HB; have HO151 := n0_; have HO154 := n1_; have HO158 := n2_; have HO161 := n3_; have HO165 := n4_; have HB := n5_; clear n0_ n1_ n2_ n3_ n4_ n5_; (try clear hb); (try clear hb2); (try clear hk); (try clear hi); (try clear ho0); obtain ⟨Ao38, co38, eo38⟩ := Kd.R_slice HO165.out; subst eo38))
          go_ret
          exact ⟨by first | rfl | (simp [errW_none, errW_some] <;> rfl) | (simp [*, errW_none, errW_some] <;> rfl), by repeat (first | (with_reducible first | exact HB.out | apply below_alloc | apply pw_below_drewN | apply below_drew1) | exact HB.out)⟩
      · replace c8 := Bool.eq_false_iff.mpr c8
        subst c8
        have H1 : (some false) = some r := by rw [if_neg (show ¬ (false = true) by decide)] at H; exact H
        clear H
        have H := H1
        clear H1
        obtain rfl := Option.some.inj H
        go_enter Try.func23, Try.ntmps23
        go_wp2_with (first | ((with_reducible refine gate_callee (f := 21) rfl ?_); refine goesL_ (some 1) rfl rfl Try.func21 (by kernel_rfl) rfl #[.int .i64 (-1)] rfl (by (try simp only [List.map_toArray, List.map_cons, List.map_nil]); first | done | rfl | (simp only [List.length_drop, List.length_take]; rfl)) ?_; (with_reducible refine (codec_Zig.calls (-1) t148 _ A1.out).mono ?_); rintro e w' ⟨rfl, ⟨nd, rfl⟩⟩; refine ⟨_, rfl, ?_⟩) | (go_at_call 24; (refine (codec_Put.calls k _ _ ([] : List Int) 300 t149 _ ?side1 ?side2 A3.out).mono ?_); (case side1 => exact Kd.C_nil _ _); (case side2 => exact Nat.le_refl _); rintro e w39 ⟨v150, rfl, ho0, hb⟩; have n0_ := Aside0.mk (Kd.R_lower ho0 (below_size (by repeat (first | (with_reducible first | exact HB.out | apply below_alloc | apply pw_below_drewN | apply below_drew1) | exact HB.out)))); have n1_ := Aside0.mk (below_step (by repeat (first | (with_reducible first | exact HB.out | apply below_alloc | apply pw_below_drewN | apply below_drew1) | exact HB.out)) hb); clear HB; have HO151 := n0_; have HB := n1_; clear n0_ n1_; (try clear hb); (try clear hb2); (try clear hk); (try clear hi); (try clear ho0)) | ((with_reducible refine gate_dst (N := 5) rfl ?_); (try (refine gate_guard (by rfl) ?_; dsimp only)); refine Kd.R_lit (Kd.int .u8) _ 5 ?hg (N := 5) ?hd (xs := ([172, 2] : List Int)) (inner := [.int .u8 172, .int .u8 2]) (ok := fun _ => True) (okp := fun _ => True) ?hr ?hp (fun _ hk => hk) trivial (Below.refl _ _) (Nat.le_refl _) (by simp) ?_; (case hd => rfl); (case hg => rfl); (case hr => first | (go_simp; done) | (go_simp; rfl)); (case hp => exact (Reps.one (show Kd.M (Kd.int .u8) _ _ _ 172 [.int .u8 172] from rfl) (Reps.one (show Kd.M (Kd.int .u8) _ _ _ 2 [.int .u8 2] from rfl) (Reps.none _ _)))); intro v153 w40 ho41 hb hg_ hnew_; clear hg_ hnew_; (first | rw [← Ny152.out] at ho41 | (simp only [Int.reduceToNat] at ho41; rw [← Ny152.out] at ho41)); have n0_ := Aside0.mk (Kd.R_elder' (by (with_reducible repeat (first | apply Kd.R_alloc | apply Kd.R_drewN | apply Kd.R_drew)); exact HO151.out) (Kd.R_base ho41) hb); have n1_ := Aside0.mk (Kd.R_lower (Kd.R_new' ho41 (Kd.R_lt (by (with_reducible repeat (first | apply Kd.R_alloc | apply Kd.R_drewN | apply Kd.R_drew)); exact HO151.out))) (below_size (by repeat (first | (with_reducible first | exact HB.out | apply below_alloc | apply pw_below_drewN | apply below_drew1) | exact HB.out)))); have n2_ := Aside0.mk (below_step (by repeat (first | (with_reducible first | exact HB.out | apply below_alloc | apply pw_below_drewN | apply below_drew1) | exact HB.out)) hb); clear HO151; clear HB; have HO151 := n0_; have HO154 := n1_; have HB := n2_; clear n0_ n1_ n2_; clear hb ho41; obtain ⟨Ao42, co42, eo42⟩ := Kd.R_slice HO151.out; subst eo42; obtain ⟨Ao43, co43, eo43⟩ := Kd.R_slice HO154.out; subst eo43) | (go_at_call 28; (with_reducible refine (skerryref01_Same.calls _ _ t149 _ _ y152 true _ ?side1 ?side2 ?side3 ?side4 A4.out).mono ?_); (case side1 => repeat (first | exact (Kd.R_reads' HO151.out).2.2 | (with_reducible refine Kd.C_alloc ?_ _) | (with_reducible refine Kd.C_drewN ?_ _) | (with_reducible refine Kd.C_drew ?_))); (case side2 => exact (Kd.R_reads' HO151.out).2.1); (case side3 => repeat (first | exact (Kd.R_reads' HO154.out).2.2 | (with_reducible refine Kd.C_alloc ?_ _) | (with_reducible refine Kd.C_drewN ?_ _) | (with_reducible refine Kd.C_drew ?_))); (case side4 => exact (Kd.R_reads' HO154.out).2.1); rintro e w' ⟨rfl, ⟨nd, rfl⟩⟩) | (go_at_call 35; (refine (codec_PutText.calls k _ _ ([] : List Int) (⟨#[97, 98]⟩ : ByteArray) t156 _ ?side1 ?side2 A6.out).mono ?_); (case side1 => exact Kd.C_nil _ _); (case side2 => exact Nat.le_refl _); rintro e w44 ⟨v157, rfl, ho0, hb⟩; have n0_ := Aside0.mk (Kd.R_elder' (by (with_reducible repeat (first | apply Kd.R_alloc | apply Kd.R_drewN | apply Kd.R_drew)); exact HO151.out) (Kd.R_base ho0) hb); have n1_ := Aside0.mk (Kd.R_elder' (by (with_reducible repeat (first | apply Kd.R_alloc | apply Kd.R_drewN | apply Kd.R_drew)); exact HO154.out) (Kd.R_base ho0) hb); have n2_ := Aside0.mk (Kd.R_lower (Kd.R_new' (Kd.R_new' ho0 (Kd.R_lt (by (with_reducible repeat (first | apply Kd.R_alloc | apply Kd.R_drewN | apply Kd.R_drew)); exact HO151.out))) (Kd.R_lt (by (with_reducible repeat (first | apply Kd.R_alloc | apply Kd.R_drewN | apply Kd.R_drew)); exact HO154.out))) (below_size (by repeat (first | (with_reducible first | exact HB.out | apply below_alloc | apply pw_below_drewN | apply below_drew1) | exact HB.out)))); have n3_ := Aside0.mk (below_step (by repeat (first | (with_reducible first | exact HB.out | apply below_alloc | apply pw_below_drewN | apply below_drew1) | exact HB.out)) hb); clear HO151; clear HO154; clear HB; have HO151 := n0_; have HO154 := n1_; have HO158 := n2_; have HB := n3_; clear n0_ n1_ n2_ n3_; (try clear hb); (try clear hb2); (try clear hk); (try clear hi); (try clear ho0)) | ((with_reducible refine gate_dst (N := 10) rfl ?_); (try (refine gate_guard (by rfl) ?_; dsimp only)); refine Kd.R_lit (Kd.int .u8) _ 5 ?hg (N := 10) ?hd (xs := ([2, 97, 98] : List Int)) (inner := [.int .u8 2, .int .u8 97, .int .u8 98]) (ok := fun _ => True) (okp := fun _ => True) ?hr ?hp (fun _ hk => hk) trivial (Below.refl _ _) (Nat.le_refl _) (by simp) ?_; (case hd => rfl); (case hg => rfl); (case hr => first | (go_simp; done) | (go_simp; rfl)); (case hp => exact (Reps.one (show Kd.M (Kd.int .u8) _ _ _ 2 [.int .u8 2] from rfl) (Reps.one (show Kd.M (Kd.int .u8) _ _ _ 97 [.int .u8 97] from rfl) (Reps.one (show Kd.M (Kd.int .u8) _ _ _ 98 [.int .u8 98] from rfl) (Reps.none _ _))))); intro v160 w45 ho46 hb hg_ hnew_; clear hg_ hnew_; (first | rw [← Ny159.out] at ho46 | (simp only [Int.reduceToNat] at ho46; rw [← Ny159.out] at ho46)); have n0_ := Aside0.mk (Kd.R_elder' (by (with_reducible repeat (first | apply Kd.R_alloc | apply Kd.R_drewN | apply Kd.R_drew)); exact HO151.out) (Kd.R_base ho46) hb); have n1_ := Aside0.mk (Kd.R_elder' (by (with_reducible repeat (first | apply Kd.R_alloc | apply Kd.R_drewN | apply Kd.R_drew)); exact HO154.out) (Kd.R_base ho46) hb); have n2_ := Aside0.mk (Kd.R_elder' (by (with_reducible repeat (first | apply Kd.R_alloc | apply Kd.R_drewN | apply Kd.R_drew)); exact HO158.out) (Kd.R_base ho46) hb); have n3_ := Aside0.mk (Kd.R_lower (Kd.R_new' (Kd.R_new' (Kd.R_new' ho46 (Kd.R_lt (by (with_reducible repeat (first | apply Kd.R_alloc | apply Kd.R_drewN | apply Kd.R_drew)); exact HO151.out))) (Kd.R_lt (by (with_reducible repeat (first | apply Kd.R_alloc | apply Kd.R_drewN | apply Kd.R_drew)); exact HO154.out))) (Kd.R_lt (by (with_reducible repeat (first | apply Kd.R_alloc | apply Kd.R_drewN | apply Kd.R_drew)); exact HO158.out))) (below_size (by repeat (first | (with_reducible first | exact HB.out | apply below_alloc | apply pw_below_drewN | apply below_drew1) | exact HB.out)))); have n4_ := Aside0.mk (below_step (by repeat (first | (with_reducible first | exact HB.out | apply below_alloc | apply pw_below_drewN | apply below_drew1) | exact HB.out)) hb); clear HO151; clear HO154; clear HO158; clear HB; have HO151 := n0_; have HO154 := n1_; have HO158 := n2_; have HO161 := n3_; have HB := n4_; clear n0_ n1_ n2_ n3_ n4_; clear hb ho46; obtain ⟨Ao47, co47, eo47⟩ := Kd.R_slice HO158.out; subst eo47; obtain ⟨Ao48, co48, eo48⟩ := Kd.R_slice HO161.out; subst eo48) | (go_at_call 28; (with_reducible refine (skerryref01_Same.calls _ _ t156 _ _ y159 false _ ?side1 ?side2 ?side3 ?side4 A7.out).mono ?_); (case side1 => repeat (first | exact (Kd.R_reads' HO158.out).2.2 | (with_reducible refine Kd.C_alloc ?_ _) | (with_reducible refine Kd.C_drewN ?_ _) | (with_reducible refine Kd.C_drew ?_))); (case side2 => exact (Kd.R_reads' HO158.out).2.1); (case side3 => repeat (first | exact (Kd.R_reads' HO161.out).2.2 | (with_reducible refine Kd.C_alloc ?_ _) | (with_reducible refine Kd.C_drewN ?_ _) | (with_reducible refine Kd.C_drew ?_))); (case side4 => exact (Kd.R_reads' HO161.out).2.1); rintro e w' ⟨rfl, ⟨nd, rfl⟩⟩))
        go_ret
        exact ⟨by first | rfl | (simp [errW_none, errW_some] <;> rfl) | (simp [*, errW_none, errW_some] <;> rfl), by repeat (first | (with_reducible first | exact HB.out | apply below_alloc | apply pw_below_drewN | apply below_drew1) | exact HB.out)⟩
    · replace c5 := Bool.eq_false_iff.mpr c5
      subst c5
      have H1 : (some false) = some r := by rw [if_neg (show ¬ (false = true) by decide)] at H; exact H
      clear H
      have H := H1
      clear H1
      obtain rfl := Option.some.inj H
      go_enter Try.func23, Try.ntmps23
      go_wp2_with (first | ((with_reducible refine gate_callee (f := 21) rfl ?_); refine goesL_ (some 1) rfl rfl Try.func21 (by kernel_rfl) rfl #[.int .i64 (-1)] rfl (by (try simp only [List.map_toArray, List.map_cons, List.map_nil]); first | done | rfl | (simp only [List.length_drop, List.length_take]; rfl)) ?_; (with_reducible refine (codec_Zig.calls (-1) t148 _ A1.out).mono ?_); rintro e w' ⟨rfl, ⟨nd, rfl⟩⟩; refine ⟨_, rfl, ?_⟩) | (go_at_call 24; (refine (codec_Put.calls k _ _ ([] : List Int) 300 t149 _ ?side1 ?side2 A3.out).mono ?_); (case side1 => exact Kd.C_nil _ _); (case side2 => exact Nat.le_refl _); rintro e w49 ⟨v150, rfl, ho0, hb⟩; have n0_ := Aside0.mk (Kd.R_lower ho0 (below_size (by repeat (first | (with_reducible first | exact HB.out | apply below_alloc | apply pw_below_drewN | apply below_drew1) | exact HB.out)))); have n1_ := Aside0.mk (below_step (by repeat (first | (with_reducible first | exact HB.out | apply below_alloc | apply pw_below_drewN | apply below_drew1) | exact HB.out)) hb); clear HB; have HO151 := n0_; have HB := n1_; clear n0_ n1_; (try clear hb); (try clear hb2); (try clear hk); (try clear hi); (try clear ho0)) | ((with_reducible refine gate_dst (N := 5) rfl ?_); (try (refine gate_guard (by rfl) ?_; dsimp only)); refine Kd.R_lit (Kd.int .u8) _ 5 ?hg (N := 5) ?hd (xs := ([172, 2] : List Int)) (inner := [.int .u8 172, .int .u8 2]) (ok := fun _ => True) (okp := fun _ => True) ?hr ?hp (fun _ hk => hk) trivial (Below.refl _ _) (Nat.le_refl _) (by simp) ?_; (case hd => rfl); (case hg => rfl); (case hr => first | (go_simp; done) | (go_simp; rfl)); (case hp => exact (Reps.one (show Kd.M (Kd.int .u8) _ _ _ 172 [.int .u8 172] from rfl) (Reps.one (show Kd.M (Kd.int .u8) _ _ _ 2 [.int .u8 2] from rfl) (Reps.none _ _)))); intro v153 w50 ho51 hb hg_ hnew_; clear hg_ hnew_; (first | rw [← Ny152.out] at ho51 | (simp only [Int.reduceToNat] at ho51; rw [← Ny152.out] at ho51)); have n0_ := Aside0.mk (Kd.R_elder' (by (with_reducible repeat (first | apply Kd.R_alloc | apply Kd.R_drewN | apply Kd.R_drew)); exact HO151.out) (Kd.R_base ho51) hb); have n1_ := Aside0.mk (Kd.R_lower (Kd.R_new' ho51 (Kd.R_lt (by (with_reducible repeat (first | apply Kd.R_alloc | apply Kd.R_drewN | apply Kd.R_drew)); exact HO151.out))) (below_size (by repeat (first | (with_reducible first | exact HB.out | apply below_alloc | apply pw_below_drewN | apply below_drew1) | exact HB.out)))); have n2_ := Aside0.mk (below_step (by repeat (first | (with_reducible first | exact HB.out | apply below_alloc | apply pw_below_drewN | apply below_drew1) | exact HB.out)) hb); clear HO151; clear HB; have HO151 := n0_; have HO154 := n1_; have HB := n2_; clear n0_ n1_ n2_; clear hb ho51; obtain ⟨Ao52, co52, eo52⟩ := Kd.R_slice HO151.out; subst eo52; obtain ⟨Ao53, co53, eo53⟩ := Kd.R_slice HO154.out; subst eo53) | (go_at_call 28; (with_reducible refine (skerryref01_Same.calls _ _ t149 _ _ y152 false _ ?side1 ?side2 ?side3 ?side4 A4.out).mono ?_); (case side1 => repeat (first | exact (Kd.R_reads' HO151.out).2.2 | (with_reducible refine Kd.C_alloc ?_ _) | (with_reducible refine Kd.C_drewN ?_ _) | (with_reducible refine Kd.C_drew ?_))); (case side2 => exact (Kd.R_reads' HO151.out).2.1); (case side3 => repeat (first | exact (Kd.R_reads' HO154.out).2.2 | (with_reducible refine Kd.C_alloc ?_ _) | (with_reducible refine Kd.C_drewN ?_ _) | (with_reducible refine Kd.C_drew ?_))); (case side4 => exact (Kd.R_reads' HO154.out).2.1); rintro e w' ⟨rfl, ⟨nd, rfl⟩⟩))
      go_ret
      exact ⟨by first | rfl | (simp [errW_none, errW_some] <;> rfl) | (simp [*, errW_none, errW_some] <;> rfl), by repeat (first | (with_reducible first | exact HB.out | apply below_alloc | apply pw_below_drewN | apply below_drew1) | exact HB.out)⟩
  · rw [if_neg c2] at H
    have c2b0 : (t148 == 1) = false := beq_eq_false_iff_ne.mpr c2
    have c2b1 : (t148 != 1) = true := bne_iff_ne.mpr c2
    obtain rfl := Option.some.inj H
    go_enter Try.func23, Try.ntmps23
    go_wp2_with (first | ((with_reducible refine gate_callee (f := 21) rfl ?_); refine goesL_ (some 1) rfl rfl Try.func21 (by kernel_rfl) rfl #[.int .i64 (-1)] rfl (by (try simp only [List.map_toArray, List.map_cons, List.map_nil]); first | done | rfl | (simp only [List.length_drop, List.length_take]; rfl)) ?_; (with_reducible refine (codec_Zig.calls (-1) t148 _ A1.out).mono ?_); rintro e w' ⟨rfl, ⟨nd, rfl⟩⟩; refine ⟨_, rfl, ?_⟩))
    go_ret
    exact ⟨by first | rfl | (simp [errW_none, errW_some] <;> rfl) | (simp [*, errW_none, errW_some] <;> rfl), by repeat (first | (with_reducible first | exact HB.out | apply below_alloc | apply pw_below_drewN | apply below_drew1) | exact HB.out)⟩
theorem lives_ok : skerrylaw01_livesW.f 100 = some true := by decide +kernel
def skerrylaw01_lives.f : Option Bool := some true
theorem skerrylaw01_lives.calls (r : Bool) (w : World) (h : skerrylaw01_lives.f = some r) :
    Calls Try.prog 23 #[] w fun e w' => e = .returned (.bool r) ∧ Below w.heap.size w w' := by
  obtain rfl := Option.some.inj h
  exact skerrylaw01_livesW.calls 100 true w lives_ok
end Go.Proofs.Ytcopbkdlpfcjpaa.H
namespace Go.Proofs.Ytcopbkdlpfcjpaa.G
open Go.RowKit Go.Proofs.YtcopbkdlpfcjpaaW.PrintWords Go.Proofs.YtcopbkdlpfcjpaaW.PrintLast Go.Proofs.YtcopbkdlpfcjpaaW.PrintMore Go.Proofs.Ytcopbkdlpfcjpaa.B Go.Proofs.Ytcopbkdlpfcjpaa.H
attribute [local go_sem] max2_int min2_int max_two min_two max_three min_three max_four min_four
set_option linter.unusedVariables false
set_option linter.unusedSimpArgs false
def errW : Option Int → Value
  | none => .nilIface
  | some c => .iface 0 (.int .i64 c)
theorem errW_none : errW none = .nilIface := rfl
theorem errW_some (c : Int) : errW (some c) = .iface 0 (.int .i64 c) := rfl
theorem info5 : (Try.prog.info? 5).map (fun i => (i.zero, i.size, i.bytes)) = some (some (.int .u8 0), 1, 1) := by kernel_rfl
structure S95 where
  f0 : ByteArray
  f1 : ByteArray
  f2 : Int
  f3 : ByteArray
def z95 : S95 := ⟨(⟨#[]⟩ : ByteArray), (⟨#[]⟩ : ByteArray), (0 : Int), (⟨#[]⟩ : ByteArray)⟩
def k95 : Kd S95 := Kd.iso (Kd.pair Kd.string (Kd.pair Kd.string (Kd.pair (Kd.int .i64) Kd.string))) (fun x : S95 => (x.f0, x.f1, x.f2, x.f3))
theorem k95_open {w : World} {x : S95} {cs : List Value} (h : k95.K w x cs) : cs = [.string x.f0, .string x.f1, .int .i64 x.f2, .string x.f3] := by
  obtain ⟨_, _, rfl, rfl, ⟨_, _, rfl, rfl, ⟨_, _, rfl, rfl, rfl⟩⟩⟩ := h
  exact rfl
theorem k95_mk (w : World) (x : S95)  : k95.K w x [.string x.f0, .string x.f1, .int .i64 x.f2, .string x.f3] := ⟨[.string x.f0], [.string x.f1, .int .i64 x.f2, .string x.f3], rfl, rfl, ⟨[.string x.f1], [.int .i64 x.f2, .string x.f3], rfl, rfl, ⟨[.int .i64 x.f2], [.string x.f3], rfl, rfl, rfl⟩⟩⟩
theorem k95_mkM (w : World) (base : Nat) (ok : Nat → Prop) (x : S95)  : k95.M w base ok x [.string x.f0, .string x.f1, .int .i64 x.f2, .string x.f3] := ⟨[.string x.f0], [.string x.f1, .int .i64 x.f2, .string x.f3], rfl, rfl, ⟨[.string x.f1], [.int .i64 x.f2, .string x.f3], rfl, rfl, ⟨[.int .i64 x.f2], [.string x.f3], rfl, rfl, rfl⟩⟩⟩
structure S97 where
  f0 : Int
  f1 : Int
  f2 : ByteArray
def z97 : S97 := ⟨(0 : Int), (0 : Int), (⟨#[]⟩ : ByteArray)⟩
def k97 : Kd S97 := Kd.iso (Kd.pair (Kd.int .i64) (Kd.pair (Kd.int .i64) Kd.string)) (fun x : S97 => (x.f0, x.f1, x.f2))
theorem k97_open {w : World} {x : S97} {cs : List Value} (h : k97.K w x cs) : cs = [.int .i64 x.f0, .int .i64 x.f1, .string x.f2] := by
  obtain ⟨_, _, rfl, rfl, ⟨_, _, rfl, rfl, rfl⟩⟩ := h
  exact rfl
theorem k97_mk (w : World) (x : S97)  : k97.K w x [.int .i64 x.f0, .int .i64 x.f1, .string x.f2] := ⟨[.int .i64 x.f0], [.int .i64 x.f1, .string x.f2], rfl, rfl, ⟨[.int .i64 x.f1], [.string x.f2], rfl, rfl, rfl⟩⟩
theorem k97_mkM (w : World) (base : Nat) (ok : Nat → Prop) (x : S97)  : k97.M w base ok x [.int .i64 x.f0, .int .i64 x.f1, .string x.f2] := ⟨[.int .i64 x.f0], [.int .i64 x.f1, .string x.f2], rfl, rfl, ⟨[.int .i64 x.f1], [.string x.f2], rfl, rfl, rfl⟩⟩
structure S99 where
  f0 : Int
  f1 : Bool
  f2 : Int
  f3 : S97
def z99 : S99 := ⟨(0 : Int), false, (0 : Int), z97⟩
def k99 : Kd S99 := Kd.iso (Kd.pair (Kd.int .i64) (Kd.pair Kd.bool (Kd.pair (Kd.int .i64) k97))) (fun x : S99 => (x.f0, x.f1, x.f2, x.f3))
theorem k99_open {w : World} {x : S99} {cs : List Value} (h : k99.K w x cs) : cs = [.int .i64 x.f0, .bool x.f1, .int .i64 x.f2, .int .i64 x.f3.f0, .int .i64 x.f3.f1, .string x.f3.f2] := by
  obtain ⟨_, _, rfl, rfl, ⟨_, _, rfl, rfl, ⟨_, _, rfl, rfl, s3⟩⟩⟩ := h
  obtain rfl := k97_open s3
  exact rfl
theorem k99_mk (w : World) (x : S99)  : k99.K w x [.int .i64 x.f0, .bool x.f1, .int .i64 x.f2, .int .i64 x.f3.f0, .int .i64 x.f3.f1, .string x.f3.f2] := ⟨[.int .i64 x.f0], [.bool x.f1, .int .i64 x.f2, .int .i64 x.f3.f0, .int .i64 x.f3.f1, .string x.f3.f2], rfl, rfl, ⟨[.bool x.f1], [.int .i64 x.f2, .int .i64 x.f3.f0, .int .i64 x.f3.f1, .string x.f3.f2], rfl, rfl, ⟨[.int .i64 x.f2], [.int .i64 x.f3.f0, .int .i64 x.f3.f1, .string x.f3.f2], rfl, rfl, (k97_mk w x.f3 )⟩⟩⟩
theorem k99_mkM (w : World) (base : Nat) (ok : Nat → Prop) (x : S99)  : k99.M w base ok x [.int .i64 x.f0, .bool x.f1, .int .i64 x.f2, .int .i64 x.f3.f0, .int .i64 x.f3.f1, .string x.f3.f2] := ⟨[.int .i64 x.f0], [.bool x.f1, .int .i64 x.f2, .int .i64 x.f3.f0, .int .i64 x.f3.f1, .string x.f3.f2], rfl, rfl, ⟨[.bool x.f1], [.int .i64 x.f2, .int .i64 x.f3.f0, .int .i64 x.f3.f1, .string x.f3.f2], rfl, rfl, ⟨[.int .i64 x.f2], [.int .i64 x.f3.f0, .int .i64 x.f3.f1, .string x.f3.f2], rfl, rfl, (k97_mkM w base ok x.f3 )⟩⟩⟩
structure S101 where
  f0 : S95
  f1 : S99
def z101 : S101 := ⟨z95, z99⟩
def k101 : Kd S101 := Kd.iso (Kd.pair k95 k99) (fun x : S101 => (x.f0, x.f1))
theorem k101_open {w : World} {x : S101} {cs : List Value} (h : k101.K w x cs) : cs = [.string x.f0.f0, .string x.f0.f1, .int .i64 x.f0.f2, .string x.f0.f3, .int .i64 x.f1.f0, .bool x.f1.f1, .int .i64 x.f1.f2, .int .i64 x.f1.f3.f0, .int .i64 x.f1.f3.f1, .string x.f1.f3.f2] := by
  obtain ⟨_, _, rfl, s0, s4⟩ := h
  obtain rfl := k95_open s0
  obtain rfl := k99_open s4
  exact rfl
theorem k101_mk (w : World) (x : S101)  : k101.K w x [.string x.f0.f0, .string x.f0.f1, .int .i64 x.f0.f2, .string x.f0.f3, .int .i64 x.f1.f0, .bool x.f1.f1, .int .i64 x.f1.f2, .int .i64 x.f1.f3.f0, .int .i64 x.f1.f3.f1, .string x.f1.f3.f2] := ⟨[.string x.f0.f0, .string x.f0.f1, .int .i64 x.f0.f2, .string x.f0.f3], [.int .i64 x.f1.f0, .bool x.f1.f1, .int .i64 x.f1.f2, .int .i64 x.f1.f3.f0, .int .i64 x.f1.f3.f1, .string x.f1.f3.f2], rfl, (k95_mk w x.f0 ), (k99_mk w x.f1 )⟩
theorem k101_mkM (w : World) (base : Nat) (ok : Nat → Prop) (x : S101)  : k101.M w base ok x [.string x.f0.f0, .string x.f0.f1, .int .i64 x.f0.f2, .string x.f0.f3, .int .i64 x.f1.f0, .bool x.f1.f1, .int .i64 x.f1.f2, .int .i64 x.f1.f3.f0, .int .i64 x.f1.f3.f1, .string x.f1.f3.f2] := ⟨[.string x.f0.f0, .string x.f0.f1, .int .i64 x.f0.f2, .string x.f0.f3], [.int .i64 x.f1.f0, .bool x.f1.f1, .int .i64 x.f1.f2, .int .i64 x.f1.f3.f0, .int .i64 x.f1.f3.f1, .string x.f1.f3.f2], rfl, (k95_mkM w base ok x.f0 ), (k99_mkM w base ok x.f1 )⟩
def rd_T101 (xs : List S101) (i : Int) : S101 := xs.getD i.toNat z101
theorem at_T101 {w : World} {A : Option Addr} {n : Nat} {xs : List S101} (h : Kd.C k101 w A n xs) (i : Int) (h0 : 0 ≤ i) (h1 : i < n) : ∃ ad , A = some ad ∧ w.cell? (ad.add (i.toNat * 10)) = some (.string (rd_T101 xs i).f0.f0) ∧ w.cell? ⟨(ad.add (i.toNat * 10)).block, (ad.add (i.toNat * 10)).off + 1, none⟩ = some (.string (rd_T101 xs i).f0.f1) ∧ w.cell? ⟨(ad.add (i.toNat * 10)).block, (ad.add (i.toNat * 10)).off + 2, none⟩ = some (.int .i64 (rd_T101 xs i).f0.f2) ∧ w.cell? ⟨(ad.add (i.toNat * 10)).block, (ad.add (i.toNat * 10)).off + 3, none⟩ = some (.string (rd_T101 xs i).f0.f3) ∧ w.cell? ⟨(ad.add (i.toNat * 10)).block, (ad.add (i.toNat * 10)).off + 4, none⟩ = some (.int .i64 (rd_T101 xs i).f1.f0) ∧ w.cell? ⟨(ad.add (i.toNat * 10)).block, (ad.add (i.toNat * 10)).off + 5, none⟩ = some (.bool (rd_T101 xs i).f1.f1) ∧ w.cell? ⟨(ad.add (i.toNat * 10)).block, (ad.add (i.toNat * 10)).off + 6, none⟩ = some (.int .i64 (rd_T101 xs i).f1.f2) ∧ w.cell? ⟨(ad.add (i.toNat * 10)).block, (ad.add (i.toNat * 10)).off + 7, none⟩ = some (.int .i64 (rd_T101 xs i).f1.f3.f0) ∧ w.cell? ⟨(ad.add (i.toNat * 10)).block, (ad.add (i.toNat * 10)).off + 8, none⟩ = some (.int .i64 (rd_T101 xs i).f1.f3.f1) ∧ w.cell? ⟨(ad.add (i.toNat * 10)).block, (ad.add (i.toNat * 10)).off + 9, none⟩ = some (.string (rd_T101 xs i).f1.f3.f2) := by
  obtain ⟨ad, c, e, _, hK, hc0⟩ := Kd.C_get h z101 i h0 h1
  have hc : ∀ j u, c[j]? = some u → w.cell? (ad.add (i.toNat * 10 + j)) = some u := hc0
  obtain rfl := k101_open hK
  exact ⟨ad, e, hc 0 _ rfl, by rw [← add_field _ _ 1 (by omega)]; exact hc 1 _ rfl, by rw [← add_field _ _ 2 (by omega)]; exact hc 2 _ rfl, by rw [← add_field _ _ 3 (by omega)]; exact hc 3 _ rfl, by rw [← add_field _ _ 4 (by omega)]; exact hc 4 _ rfl, by rw [← add_field _ _ 5 (by omega)]; exact hc 5 _ rfl, by rw [← add_field _ _ 6 (by omega)]; exact hc 6 _ rfl, by rw [← add_field _ _ 7 (by omega)]; exact hc 7 _ rfl, by rw [← add_field _ _ 8 (by omega)]; exact hc 8 _ rfl, by rw [← add_field _ _ 9 (by omega)]; exact hc 9 _ rfl⟩
end Go.Proofs.Ytcopbkdlpfcjpaa.G
namespace Go.Proofs.Ytcopbkdlpfcjpaa.K
open Go.RowKit Go.Proofs.YtcopbkdlpfcjpaaW.PrintWords Go.Proofs.YtcopbkdlpfcjpaaW.PrintLast Go.Proofs.YtcopbkdlpfcjpaaW.PrintMore Go.Proofs.Ytcopbkdlpfcjpaa.B Go.Proofs.Ytcopbkdlpfcjpaa.G
attribute [local go_sem] max2_int min2_int max_two min_two max_three min_three max_four min_four
set_option linter.unusedVariables false
set_option linter.unusedSimpArgs false
open Go.Proofs.Ytcopbkdlpfcjpaa.Ma (getS digN Get_all)
theorem info5 : (Try.prog.info? 5).map (fun i => (i.zero, i.size, i.bytes)) = some (some (.int .u8 0), 1, 1) := by kernel_rfl
/-- Outside the blocks from lo to hi all is as it was. -/
structure Kp (lo hi : Nat) (w w' : World) : Prop where
  os : w'.os = w.os
  tape : w'.tape = w.tape
  output : w'.output = w.output
  size : w.heap.size ≤ w'.heap.size
  block : ∀ k, k < w.heap.size → (k < lo ∨ hi < k) → w'.heap[k]? = w.heap[k]?
theorem Kp.refl (lo hi : Nat) (w : World) : Kp lo hi w w := ⟨rfl, rfl, rfl, Nat.le_refl _, fun _ _ _ => rfl⟩
theorem Kp.trans {lo hi : Nat} {a b c : World} (h : Kp lo hi a b) (k : Kp lo hi b c) : Kp lo hi a c :=
  ⟨k.os.trans h.os, k.tape.trans h.tape, k.output.trans h.output, Nat.le_trans h.size k.size, fun i hi hb => (k.block i (Nat.lt_of_lt_of_le hi h.size) hb).trans (h.block i hi hb)⟩
theorem Kp.of_below {lo hi : Nat} {w w' : World} (h : Below w.heap.size w w') : Kp lo hi w w' := ⟨h.os, h.tape, h.output, h.size, fun k hk _ => h.block k hk⟩
theorem Kp.below {lo hi : Nat} {w0 w w' : World} (h : Kp lo hi w w') (hb : Below w0.heap.size w0 w) (hlo : w0.heap.size ≤ lo) : Below w0.heap.size w0 w' :=
  ⟨h.os.trans hb.os, h.tape.trans hb.tape, h.output.trans hb.output, Nat.le_trans hb.size h.size, fun k hk => (h.block k (Nat.lt_of_lt_of_le hk hb.size) (.inl (by omega))).trans (hb.block k hk)⟩
theorem Kp.of_grown {lo hi : Nat} {w w' : World} {row : Option Nat} (h : w.grownBy w' row) (hr : ∀ k, row = some k → lo ≤ k ∧ k ≤ hi) : Kp lo hi w w' :=
  ⟨h.os, h.tape, h.output, h.size, fun k hk hb => h.block k hk (fun e => by have := hr k e.symm; omega)⟩
theorem Kp.drew {lo hi : Nat} {w w' : World} (h : Kp lo hi w w') : Kp lo hi w w'.drew := ⟨h.os, h.tape, h.output, h.size, h.block⟩
theorem Kp.set (w : World) (g j : Nat) (u : Value) : Kp g g w (w.setCell ⟨g, j, none⟩ u) := ⟨rfl, rfl, rfl, by simp [World.setCell], fun k _ hb => Below.heap_setCell _ _ _ _ (by show k ≠ g; omega)⟩
/-- A slice from k on. -/
theorem cutC {A : Option Addr} {c : Nat} {r : List Int} {k : Nat} {w : World} (hC : Kd.C (Kd.int .u8) w A r.length r) (hc : r.length ≤ c) (hk : k ≤ r.length) :
    ∃ A', (∀ W, (Instr.slice 27 (.slice A r.length c) (some (.int .i64 (k : Int))) none none).run Try.prog W = .ok (.slice A' (r.drop k).length (c - k)) W) ∧ Kd.C (Kd.int .u8) w A' (r.drop k).length (r.drop k) ∧ (r.drop k).length ≤ c - k := by
  obtain ⟨i0, hi0, _, hsz, _⟩ := info_parts info5
  have h1 := cut_from (P := Try.prog) 27 5 .i64 Try.underlying27 hi0 1 hsz A r.length c (k : Int) (by omega) (by omega)
  have h2 := Kd.C_drop (m := k) (c := c) hC hk hc
  rw [Int.toNat_natCast] at h1
  exact ⟨_, by rw [List.length_drop]; exact h1, h2, by rw [List.length_drop]; omega⟩
theorem getS_le (L : List Nat) : ∀ i u, (getS L i u).2 ≤ i + L.length := by
  induction L with
  | nil => intro i u; simp [getS]
  | cons x r ih =>
    intro i u
    rw [getS]
    split
    · simp
    · split
      · simp
      · have := ih (i + 1) (u + 2 ^ (7 * i) * (x % 128)); rw [List.length_cons]; omega
/-- How bytes that are none are given up. -/
def PW : List PanicEntry := [{ v := .iface 116 (.agg #[]), recovered := false }]
set_option maxHeartbeats 8000000 in
set_option maxRecDepth 100000 in
theorem pass_zero (w : World) (v : Value) : Calls Try.prog 99 #[v, .int .i64 0] w fun e w' => e = .panicked PW ∧ w' = w := by
  go_enter Try.func99, Try.ntmps99
  go_wp2_with (fail)
  exact ⟨rfl, rfl, rfl⟩
/-- The program's reader at block g: the bytes L are still to be read; they came in by w0. -/
def Rdr (w0 w : World) (g : Nat) (L : List Nat) : Prop :=
  ∃ A c, w.heap[g]? = some (.cells #[.slice A (Ma.up L).length c] 119 (0, 0)) ∧ (Ma.up L).length ≤ c ∧ Kd.C (Kd.int .u8) w0 A (Ma.up L).length (Ma.up L) ∧ w0.heap.size ≤ g ∧ Below w0.heap.size w0 w
theorem Rdr.keep {w0 w w1 : World} {g : Nat} {L : List Nat} (h : Rdr w0 w g L) (hb : Below w.heap.size w w1) : Rdr w0 w1 g L := by
  obtain ⟨A, c, h1, h2, h3, h4, h5⟩ := h
  exact ⟨A, c, (hb.block g (blk_lt h1)).trans h1, h2, h3, h4, h5.trans (hb.mono h5.size)⟩
set_option maxHeartbeats 8000000 in
set_option maxRecDepth 100000 in
theorem pass_some {w0 w : World} {g : Nat} {L : List Nat} (hR : Rdr w0 w g L) (n : Nat) (hn : 0 < n) (hl : n ≤ L.length) : Calls Try.prog 99 #[.pointer (some ⟨g, 0, none⟩), .int .i64 (n : Int)] w fun e w' => e = .returned (.tuple #[]) ∧ Rdr w0 w' g (L.drop n) ∧ Kp g g w w' := by
  obtain ⟨A, c, h1, h2, h3, h4, h5⟩ := hR
  have hul := Ma.up_length L
  obtain ⟨A1, cut1, HR1, HC1⟩ := cutC (k := n) h3 h2 (by omega)
  rw [Ma.up_drop] at cut1 HR1 HC1
  have hb : ((n : Int) == 0) = false := beq_eq_false_iff_ne.mpr (by omega)
  have hq : ((n : Int) ≤ ((Ma.up L).length : Int)) = True := eq_true (by omega)
  have hc := (blk_cell h1 0).trans rfl
  have hz := blk_frozen h1 0
  have H1 := Aside0.mk h1
  have H2 := Aside0.mk (And.intro HR1 (And.intro HC1 (And.intro h4 h5)))
  clear h1 h2 h3 h4 h5 HR1 HC1 hul
  generalize Ma.up L = l at *
  go_enter Try.func99, Try.ntmps99
  go_wp2_with (fail)
  first | go_end0 | go_ret2 | go_ret
  obtain ⟨k1, k2, k3, k4⟩ := H2.out
  refine ⟨rfl, ⟨A1, c - n, by simpa using blk_set H1.out 0 (.slice A1 (Ma.up (L.drop n)).length (c - n)), k2, k1, k3, Below.setCell k4 k3 _⟩, Kp.set w g 0 _⟩
/-- A number, and what is left. -/
def numS (L : List Nat) : Option (Nat × List Nat) := if (getS L 0 0).2 = 0 then none else some ((getS L 0 0).1, L.drop (getS L 0 0).2)
theorem get_q (L : List Nat) (hL : ∀ x ∈ L, x < 256) (hlen : L.length ≤ 1000000000) : ∃ q, codec_Get.f q (Ma.up L) = some (((getS L 0 0).1 : Int), ((getS L 0 0).2 : Int)) := (Get_all L hL hlen).rounds
theorem Rdr.cell {w0 w : World} {g : Nat} {L : List Nat} (h : Rdr w0 w g L) : ∃ A c, w.cell? ⟨g, 0, none⟩ = some (.slice A (Ma.up L).length c) ∧ (Ma.up L).length ≤ c ∧ Kd.C (Kd.int .u8) w A (Ma.up L).length (Ma.up L) := by
  obtain ⟨A, c, h1, h2, h3, h4, h5⟩ := h
  exact ⟨A, c, (blk_cell h1 0).trans rfl, h2, Kd.C_below h3 h5⟩
theorem Rdr.below {w0 w : World} {g : Nat} {L : List Nat} (h : Rdr w0 w g L) : Below w0.heap.size w0 w ∧ w0.heap.size ≤ g ∧ g < w.heap.size := by
  obtain ⟨A, c, h1, h2, h3, h4, h5⟩ := h
  exact ⟨h5, h4, blk_lt h1⟩
set_option maxHeartbeats 8000000 in
set_option maxRecDepth 100000 in
theorem num_none {w0 w : World} {g : Nat} {L : List Nat} (hR : Rdr w0 w g L) (hL : ∀ x ∈ L, x < 256) (hlen : L.length ≤ 1000000000) (h : numS L = none) : Calls Try.prog 93 #[.pointer (some ⟨g, 0, none⟩)] w fun e w' => e = .panicked PW ∧ Kp g g w w' := by
  obtain ⟨q, hq⟩ := get_q L hL hlen
  obtain ⟨A, c, hc, hlc, hC⟩ := hR.cell
  have h0 : (getS L 0 0).2 = 0 := by
    unfold numS at h
    by_cases h0 : (getS L 0 0).2 = 0
    · exact h0
    · rw [if_neg h0] at h; cases h
  rw [h0] at hq
  have HG := Aside0.mk (codec_Get.calls q A c (Ma.up L) _ _ w hC hlc hq)
  generalize Ma.up L = l at *
  clear hR h hC hlc hq h0 hL hlen
  go_enter Try.func93, Try.ntmps93
  go_wp2_with (first | (go_at_call 25; with_reducible refine HG.out.mono ?_; rintro e w' ⟨rfl, ⟨nd, rfl⟩⟩) | (go_at_call 99; with_reducible refine (pass_zero _ _).mono ?_; rintro e w' ⟨rfl, h2⟩; obtain rfl := h2.symm))
  exact ⟨rfl, rfl, Kp.of_below (pw_below_drewN (Below.refl _ _) _)⟩
set_option maxHeartbeats 8000000 in
set_option maxRecDepth 100000 in
theorem num_some {w0 w : World} {g : Nat} {L L' : List Nat} {v : Nat} (hR : Rdr w0 w g L) (hL : ∀ x ∈ L, x < 256) (hlen : L.length ≤ 1000000000) (h : numS L = some (v, L')) : Calls Try.prog 93 #[.pointer (some ⟨g, 0, none⟩)] w fun e w' => e = .returned (.int .u64 (v : Int)) ∧ Rdr w0 w' g L' ∧ Kp g g w w' := by
  obtain ⟨q, hq⟩ := get_q L hL hlen
  obtain ⟨A, c, hc, hlc, hC⟩ := hR.cell
  unfold numS at h
  have hle := getS_le L 0 0
  by_cases h0 : (getS L 0 0).2 = 0
  · rw [if_pos h0] at h; cases h
  · rw [if_neg h0] at h
    have h := Option.some.inj h
    simp only [Prod.mk.injEq] at h
    obtain ⟨rfl, rfl⟩ := h
    have HP := Aside0.mk (fun nd => pass_some (hR.keep (pw_below_drewN (Below.refl w.heap.size w) nd)) (getS L 0 0).2 (by omega) (by omega))
    generalize (getS L 0 0).1 = v at *
    generalize (getS L 0 0).2 = n at *
    have HG := Aside0.mk (codec_Get.calls q A c (Ma.up L) _ _ w hC hlc hq)
    generalize Ma.up L = l at *
    clear hR hC hlc hq h0 hL hlen hle
    go_enter Try.func93, Try.ntmps93
    go_wp2_with (first | (go_at_call 25; with_reducible refine HG.out.mono ?_; rintro e w' ⟨rfl, ⟨nd, rfl⟩⟩) | (go_at_call 99; with_reducible refine (HP.out _).mono ?_; rintro e w2 ⟨rfl, hR2, hk⟩; replace hR2 := Aside0.mk hR2; replace hk := Aside0.mk hk))
    go_ret
    exact ⟨rfl, hR2.out, (Kp.of_below (pw_below_drewN (Below.refl _ _) _)).trans hk.out⟩
end Go.Proofs.Ytcopbkdlpfcjpaa.K
namespace Go.Proofs.Ytcopbkdlpfcjpaa.K
open Go.RowKit Go.Proofs.YtcopbkdlpfcjpaaW.PrintWords Go.Proofs.YtcopbkdlpfcjpaaW.PrintLast Go.Proofs.YtcopbkdlpfcjpaaW.PrintMore Go.Proofs.Ytcopbkdlpfcjpaa.B Go.Proofs.Ytcopbkdlpfcjpaa.G
attribute [local go_sem] max2_int min2_int max_two min_two max_three min_three max_four min_four
set_option linter.unusedVariables false
set_option linter.unusedSimpArgs false
open Go.Proofs.Ytcopbkdlpfcjpaa.Ma (getS digN Get_all)
/-- Bytes that a reader takes. -/
def OkB (L : List Nat) : Prop := (∀ x ∈ L, x < 256) ∧ L.length ≤ 1000000
theorem OkB.drop {L : List Nat} (h : OkB L) (n : Nat) : OkB (L.drop n) := ⟨fun x hx => h.1 x (List.mem_of_mem_drop hx), by have := h.2; rw [List.length_drop]; omega⟩
/-- A text, and what is left. -/
def textS (L : List Nat) : Option (ByteArray × List Nat) :=
  if (getS L 0 0).2 = 0 then none else if (getS L 0 0).1 > L.length - (getS L 0 0).2 then none
  else some (strOfNums (((Ma.up L).take ((getS L 0 0).2 + (getS L 0 0).1)).drop (getS L 0 0).2), L.drop ((getS L 0 0).2 + (getS L 0 0).1))
theorem gt_q (L : List Nat) (h : OkB L) : ∃ q, codec_GetText.f q (Ma.up L) = some (if (getS L 0 0).2 = 0 then ((⟨#[]⟩ : ByteArray), 0) else if (getS L 0 0).1 > L.length - (getS L 0 0).2 then ((⟨#[]⟩ : ByteArray), 0)
  else (strOfNums (((Ma.up L).take ((getS L 0 0).2 + (getS L 0 0).1)).drop (getS L 0 0).2), (((getS L 0 0).2 + (getS L 0 0).1 : Nat) : Int))) := by
  obtain ⟨q, hq⟩ := get_q L h.1 (by have := h.2; omega)
  have hul := Ma.up_length L
  have h2 := h.2
  have hle := getS_le L 0 0
  refine ⟨q, ?_⟩
  unfold codec_GetText.f
  rw [hq, Option.bind_some]
  generalize (getS L 0 0).1 = a at *
  generalize (getS L 0 0).2 = b at *
  rw [hul]
  simp only
  by_cases c1 : b = 0
  · subst c1; rw [if_pos rfl]; rfl
  · rw [if_neg (by omega), if_neg c1]
    have e1 : wrap64 ((L.length : Int) - (b : Int)) = (L.length : Int) - (b : Int) := Ma.wrap_in (by omega)
    rw [e1, IntKind.wrap_u64]
    have e : ((L.length : Int) - (b : Int)) % 18446744073709551616 = (L.length : Int) - (b : Int) := by omega
    rw [e]
    by_cases c2 : a > L.length - b
    · rw [if_pos (by omega), if_pos c2]
    · have e2 : wrap64 ((a : Nat) : Int) = (a : Int) := Ma.wrap_in (by omega)
      have e3 : wrap64 ((b : Int) + (a : Int)) = (b : Int) + (a : Int) := Ma.wrap_in (by omega)
      rw [if_neg (by omega), if_neg c2, e2, e3, if_pos (by omega), if_pos (by omega), if_pos (by omega)]
      have e4 : ((b : Int) + (a : Int)).toNat = b + a := by omega
      have e5 : (b : Int).toNat = b := by omega
      rw [e4, e5]
      simp
set_option maxHeartbeats 8000000 in
set_option maxRecDepth 100000 in
theorem text_none {w0 w : World} {g : Nat} {L : List Nat} (hR : Rdr w0 w g L) (hL : OkB L) (h : textS L = none) : Calls Try.prog 100 #[.pointer (some ⟨g, 0, none⟩)] w fun e w' => e = .panicked PW ∧ Kp g g w w' := by
  obtain ⟨q, hq⟩ := gt_q L hL
  obtain ⟨A, c, hc, hlc, hC⟩ := hR.cell
  have hq : codec_GetText.f q (Ma.up L) = some ((⟨#[]⟩ : ByteArray), 0) := by
    rw [hq]
    unfold textS at h
    by_cases c1 : (getS L 0 0).2 = 0
    · rw [if_pos c1]
    · rw [if_neg c1] at h ⊢
      by_cases c2 : (getS L 0 0).1 > L.length - (getS L 0 0).2
      · rw [if_pos c2]
      · rw [if_neg c2] at h; cases h
  have HG := Aside0.mk (codec_GetText.calls q A c (Ma.up L) _ _ w hC hlc hq)
  generalize Ma.up L = l at *
  clear hR h hC hlc hq hL
  go_enter Try.func100, Try.ntmps100
  go_wp2_with (first | (go_at_call 33; with_reducible refine HG.out.mono ?_; rintro e w' ⟨rfl, ⟨nd, rfl⟩⟩) | (go_at_call 99; with_reducible refine (pass_zero _ _).mono ?_; rintro e w' ⟨rfl, h2⟩; obtain rfl := h2.symm))
  exact ⟨rfl, rfl, Kp.of_below (pw_below_drewN (Below.refl _ _) _)⟩
set_option maxHeartbeats 8000000 in
set_option maxRecDepth 100000 in
theorem text_some {w0 w : World} {g : Nat} {L L' : List Nat} {v : ByteArray} (hR : Rdr w0 w g L) (hL : OkB L) (h : textS L = some (v, L')) : Calls Try.prog 100 #[.pointer (some ⟨g, 0, none⟩)] w fun e w' => e = .returned (.string v) ∧ Rdr w0 w' g L' ∧ Kp g g w w' := by
  obtain ⟨q, hq⟩ := gt_q L hL
  obtain ⟨A, c, hc, hlc, hC⟩ := hR.cell
  have hle := getS_le L 0 0
  unfold textS at h
  by_cases c1 : (getS L 0 0).2 = 0
  · rw [if_pos c1] at h; cases h
  · rw [if_neg c1] at h hq
    by_cases c2 : (getS L 0 0).1 > L.length - (getS L 0 0).2
    · rw [if_pos c2] at h; cases h
    · rw [if_neg c2] at h hq
      have h := Option.some.inj h
      simp only [Prod.mk.injEq] at h
      obtain ⟨h1, rfl⟩ := h
      rw [h1] at hq
      have HP := Aside0.mk (fun nd => pass_some (hR.keep (pw_below_drewN (Below.refl w.heap.size w) nd)) ((getS L 0 0).2 + (getS L 0 0).1) (by omega) (by omega))
      generalize (getS L 0 0).2 + (getS L 0 0).1 = n at *
      have HG := Aside0.mk (codec_GetText.calls q A c (Ma.up L) _ _ w hC hlc hq)
      generalize Ma.up L = l at *
      clear hR hC hlc hq c1 c2 hL hle h1
      go_enter Try.func100, Try.ntmps100
      go_wp2_with (first | (go_at_call 33; with_reducible refine HG.out.mono ?_; rintro e w' ⟨rfl, ⟨nd, rfl⟩⟩) | (go_at_call 99; with_reducible refine (HP.out _).mono ?_; rintro e w2 ⟨rfl, hR2, hk⟩; replace hR2 := Aside0.mk hR2; replace hk := Aside0.mk hk))
      go_ret
      exact ⟨rfl, hR2.out, (Kp.of_below (pw_below_drewN (Below.refl _ _) _)).trans hk.out⟩
theorem text_c {w0 w : World} {g : Nat} {L : List Nat} (hR : Rdr w0 w g L) (hL : OkB L) : Calls Try.prog 100 #[.pointer (some ⟨g, 0, none⟩)] w fun e w' => (∃ v L', textS L = some (v, L') ∧ e = .returned (.string v) ∧ Rdr w0 w' g L' ∧ Kp g g w w') ∨ (textS L = none ∧ e = .panicked PW ∧ Kp g g w w') := by
  cases h : textS L with
  | none => exact (text_none hR hL h).mono fun e w' k => .inr ⟨rfl, k⟩
  | some p => obtain ⟨v, L'⟩ := p; exact (text_some hR hL h).mono fun e w' k => .inl ⟨v, L', rfl, k⟩
theorem num_c {w0 w : World} {g : Nat} {L : List Nat} (hR : Rdr w0 w g L) (hL : OkB L) : Calls Try.prog 93 #[.pointer (some ⟨g, 0, none⟩)] w fun e w' => (∃ (v : Nat) (L' : List Nat), numS L = some (v, L') ∧ e = .returned (.int .u64 (v : Int)) ∧ Rdr w0 w' g L' ∧ Kp g g w w') ∨ (numS L = none ∧ e = .panicked PW ∧ Kp g g w w') := by
  cases h : numS L with
  | none => exact (num_none hR hL.1 (by have := hL.2; omega) h).mono fun e w' k => .inr ⟨rfl, k⟩
  | some p => obtain ⟨v, L'⟩ := p; exact (num_some hR hL.1 (by have := hL.2; omega) h).mono fun e w' k => .inl ⟨v, L', rfl, k⟩
theorem getS_lt' (L : List Nat) : ∀ i u, i ≤ 9 → u < 2 ^ (7 * i) → (getS L i u).1 < 18446744073709551616 := by
  induction L with
  | nil => intro i u _ _; simp [getS]
  | cons x r ih =>
    intro i u hi hu
    rw [getS]
    split
    · simp
    · rename_i hx
      have h1 : x % 128 < 128 := Nat.mod_lt _ (by omega)
      split
      · rename_i hx2
        have hs := (Ma.shl_u64 x i hi hx2 (fun h9 => by omega) _ rfl).2
        have e : x % 128 = x := Nat.mod_eq_of_lt hx2
        rw [e]
        show u + 2 ^ (7 * i) * x < 18446744073709551616
        rcases Nat.lt_or_ge i 9 with h | h
        · have h2 := Ma.pow_next u i x hu hx2
          have h3 : 2 ^ (7 * (i + 1)) ≤ 2 ^ 63 := Nat.pow_le_pow_right (by omega) (by omega)
          have h4 : (2 : Nat) ^ 63 = 9223372036854775808 := by decide
          omega
        · have : i = 9 := by omega
          subst this
          have hx1 : x ≤ 1 := by omega
          have h4 : (2 : Nat) ^ (7 * 9) = 9223372036854775808 := by decide
          rw [h4] at hu ⊢
          omega
      · rename_i hx2
        exact ih (i + 1) _ (by omega) (Ma.pow_next u i _ hu h1)
theorem getS_lt (L : List Nat) (h : ∀ x ∈ L, x < 256) (hl : L.length ≤ 1000000000) : (getS L 0 0).1 < 18446744073709551616 := getS_lt' L 0 0 (by omega) (by decide)
/-- A signed number, and what is left. -/
def intS (L : List Nat) : Option (Int × List Nat) := (numS L).map fun p => (Ma.zag (p.1 : Int), p.2)
set_option maxHeartbeats 8000000 in
set_option maxRecDepth 100000 in
theorem int_none {w0 w : World} {g : Nat} {L : List Nat} (hR : Rdr w0 w g L) (hL : OkB L) (h : numS L = none) : Calls Try.prog 101 #[.pointer (some ⟨g, 0, none⟩)] w fun e w' => e = .panicked PW ∧ Kp g g w w' := by
  have HN := Aside0.mk (num_none hR hL.1 (by have := hL.2; omega) h)
  clear hR hL h
  go_enter Try.func101, Try.ntmps101
  go_wp2_with (first | (go_at_call 93; with_reducible refine HN.out.mono ?_; rintro e w' ⟨rfl, hk⟩; replace hk := Aside0.mk hk))
  exact ⟨rfl, rfl, hk.out⟩
set_option maxHeartbeats 8000000 in
set_option maxRecDepth 100000 in
theorem int_some {w0 w : World} {g : Nat} {L L' : List Nat} {v : Nat} (hR : Rdr w0 w g L) (hL : OkB L) (h : numS L = some (v, L')) : Calls Try.prog 101 #[.pointer (some ⟨g, 0, none⟩)] w fun e w' => e = .returned (.int .i64 (Ma.zag (v : Int))) ∧ Rdr w0 w' g L' ∧ Kp g g w w' := by
  have hv : v < 18446744073709551616 := by
    have h1 := h
    have := getS_lt L hL.1 (by have := hL.2; omega)
    unfold numS at h1
    split at h1
    · cases h1
    · have h2 := Option.some.inj h1
      simp only [Prod.mk.injEq] at h2
      omega
  have HN := Aside0.mk (num_some hR hL.1 (by have := hL.2; omega) h)
  have HZ := Aside0.mk (fun w => codec_Zag.calls (v : Int) _ w (Ma.Zag_eq (v : Int) (by omega)))
  generalize Ma.zag (v : Int) = z at *
  clear hR hL h hv
  go_enter Try.func101, Try.ntmps101
  go_wp2_with (first | (go_at_call 93; with_reducible refine HN.out.mono ?_; rintro e w' ⟨rfl, hR2, hk⟩; replace hR2 := Aside0.mk hR2; replace hk := Aside0.mk hk) | (go_at_call 22; with_reducible refine (HZ.out _).mono ?_; rintro e w2 ⟨rfl, ⟨nd, rfl⟩⟩))
  go_ret
  exact ⟨rfl, hR2.out.keep (pw_below_drewN (Below.refl _ _) _), hk.out.trans (Kp.of_below (pw_below_drewN (Below.refl _ _) _))⟩
end Go.Proofs.Ytcopbkdlpfcjpaa.K
namespace Go.Proofs.Ytcopbkdlpfcjpaa.K
open Go.RowKit Go.Proofs.YtcopbkdlpfcjpaaW.PrintWords Go.Proofs.YtcopbkdlpfcjpaaW.PrintLast Go.Proofs.YtcopbkdlpfcjpaaW.PrintMore Go.Proofs.Ytcopbkdlpfcjpaa.B Go.Proofs.Ytcopbkdlpfcjpaa.G
attribute [local go_sem] max2_int min2_int max_two min_two max_three min_three max_four min_four
set_option linter.unusedVariables false
set_option linter.unusedSimpArgs false
open Go.Proofs.Ytcopbkdlpfcjpaa.Ma (getS digN Get_all)
/-- A flag, and what is left. -/
def flagS : List Nat → Option (Bool × List Nat)
  | [] => none
  | x :: r => if x > 1 then none else some (x == 1, r)
theorem pass_one {w0 w : World} {g : Nat} {L : List Nat} (hR : Rdr w0 w g L) (hl : 1 ≤ L.length) : Calls Try.prog 99 #[.pointer (some ⟨g, 0, none⟩), .int .i64 1] w fun e w' => e = .returned (.tuple #[]) ∧ Rdr w0 w' g (L.drop 1) ∧ Kp g g w w' := pass_some hR 1 (by omega) hl
set_option maxHeartbeats 8000000 in
set_option maxRecDepth 100000 in
theorem flag_nil {w0 w : World} {g : Nat} (hR : Rdr w0 w g []) : Calls Try.prog 102 #[.pointer (some ⟨g, 0, none⟩)] w fun e w' => e = .panicked PW ∧ Kp g g w w' := by
  obtain ⟨A, c, hc, hlc, hC⟩ := hR.cell
  replace hc : w.cell? ⟨g, 0, none⟩ = some (.slice A 0 c) := hc
  clear hR hlc hC
  go_enter Try.func102, Try.ntmps102
  go_wp2_with (fail)
  exact ⟨rfl, rfl, Kp.refl _ _ _⟩
set_option maxHeartbeats 8000000 in
set_option maxRecDepth 100000 in
theorem flag_big {w0 w : World} {g x : Nat} {r : List Nat} (hR : Rdr w0 w g (x :: r)) (hx : x > 1) : Calls Try.prog 102 #[.pointer (some ⟨g, 0, none⟩)] w fun e w' => e = .panicked PW ∧ Kp g g w w' := by
  obtain ⟨A, c, hc, hlc, hC⟩ := hR.cell
  have hul := Ma.up_length (x :: r)
  have hrd : rd (Ma.up (x :: r)) 0 = (x : Int) := by have := Ma.rd_up (x :: r) 0; simpa using this
  rw [List.length_cons] at hul
  have p1 : (0 : Int) ≤ 0 := by omega
  have q1 : (0 : Int) < ((Ma.up (x :: r)).length : Int) := by omega
  obtain ⟨ad, e, hx0⟩ := Kd.at_int hC 0 p1 q1
  rw [hrd] at hx0
  cases e
  replace hx0 : w.cell? ad = some (Value.int IntKind.u8 (x : Int)) := by simpa [Addr.add_zero'] using hx0
  have q2 : (0 < (Ma.up (x :: r)).length) = True := eq_true (by omega)
  have q3 := Ma.up_length (x :: r)
  have q4 : ((Ma.up (x :: r)).length = 0) = False := eq_false (by omega)
  clear q3
  replace p1 := eq_true p1
  replace q1 := eq_true q1
  have b1 : (((Ma.up (x :: r)).length : Int) == 0) = false := beq_eq_false_iff_ne.mpr (by omega)
  have b2 : decide (1 < (x : Int)) = true := decide_eq_true (by omega)
  clear hR hlc hC hrd hx hul
  generalize Ma.up (x :: r) = l at *
  go_enter Try.func102, Try.ntmps102
  go_wp2_with (fail)
  exact ⟨rfl, rfl, Kp.refl _ _ _⟩
set_option maxHeartbeats 8000000 in
set_option maxRecDepth 100000 in
theorem flag_ok {w0 w : World} {g x : Nat} {r : List Nat} (hR : Rdr w0 w g (x :: r)) (hx : ¬ x > 1) : Calls Try.prog 102 #[.pointer (some ⟨g, 0, none⟩)] w fun e w' => e = .returned (.bool (x == 1)) ∧ Rdr w0 w' g r ∧ Kp g g w w' := by
  obtain ⟨A, c, hc, hlc, hC⟩ := hR.cell
  have HP := Aside0.mk (pass_one hR (by rw [List.length_cons]; omega))
  have hul := Ma.up_length (x :: r)
  have hrd : rd (Ma.up (x :: r)) 0 = (x : Int) := by have := Ma.rd_up (x :: r) 0; simpa using this
  rw [List.length_cons] at hul
  have p1 : (0 : Int) ≤ 0 := by omega
  have q1 : (0 : Int) < ((Ma.up (x :: r)).length : Int) := by omega
  obtain ⟨ad, e, hx0⟩ := Kd.at_int hC 0 p1 q1
  rw [hrd] at hx0
  cases e
  replace hx0 : w.cell? ad = some (Value.int IntKind.u8 (x : Int)) := by simpa [Addr.add_zero'] using hx0
  have q2 : (0 < (Ma.up (x :: r)).length) = True := eq_true (by omega)
  have q3 := Ma.up_length (x :: r)
  have q4 : ((Ma.up (x :: r)).length = 0) = False := eq_false (by omega)
  clear q3
  replace p1 := eq_true p1
  replace q1 := eq_true q1
  have b1 : (((Ma.up (x :: r)).length : Int) == 0) = false := beq_eq_false_iff_ne.mpr (by omega)
  have b2 : decide (1 < (x : Int)) = false := decide_eq_false (by omega)
  have b3 : ((x : Int) == 1) = (x == 1) := by rw [Bool.eq_iff_iff]; simp; omega
  clear hR hlc hC hrd hx hul
  generalize (x == 1) = f at *
  generalize Ma.up (x :: r) = l at *
  go_enter Try.func102, Try.ntmps102
  go_wp2_with (first | (go_at_call 99; with_reducible refine HP.out.mono ?_; rintro e w2 ⟨rfl, hR2, hk⟩; replace hR2 := Aside0.mk hR2; replace hk := Aside0.mk hk))
  go_ret
  exact ⟨rfl, hR2.out, hk.out⟩
theorem flag_c {w0 w : World} {g : Nat} {L : List Nat} (hR : Rdr w0 w g L) : Calls Try.prog 102 #[.pointer (some ⟨g, 0, none⟩)] w fun e w' => (∃ v L', flagS L = some (v, L') ∧ e = .returned (.bool v) ∧ Rdr w0 w' g L' ∧ Kp g g w w') ∨ (flagS L = none ∧ e = .panicked PW ∧ Kp g g w w') := by
  cases L with
  | nil => exact (flag_nil hR).mono fun e w' k => .inr ⟨rfl, k⟩
  | cons x r =>
    by_cases hx : x > 1
    · exact (flag_big hR hx).mono fun e w' k => .inr ⟨if_pos hx, k⟩
    · exact (flag_ok hR hx).mono fun e w' k => .inl ⟨_, _, if_neg hx, k⟩
theorem int_c {w0 w : World} {g : Nat} {L : List Nat} (hR : Rdr w0 w g L) (hL : OkB L) : Calls Try.prog 101 #[.pointer (some ⟨g, 0, none⟩)] w fun e w' => (∃ v L', intS L = some (v, L') ∧ e = .returned (.int .i64 v) ∧ Rdr w0 w' g L' ∧ Kp g g w w') ∨ (intS L = none ∧ e = .panicked PW ∧ Kp g g w w') := by
  unfold intS
  cases h : numS L with
  | none => exact (int_none hR hL h).mono fun e w' k => .inr ⟨rfl, k⟩
  | some p => obtain ⟨v, L'⟩ := p; exact (int_some hR hL h).mono fun e w' k => .inl ⟨_, L', rfl, k⟩
set_option maxHeartbeats 8000000 in
set_option maxRecDepth 100000 in
/-- What is deferred, where the frame below panics, and where it returns. -/
theorem catch_panicking (n m : Nat) (x y : Value) (w : World) (hP : w.heap[n]? = some (.cells #[x] 85 (0, 0))) (hQ : w.heap[m]? = some (.cells #[y] 42 (0, 0))) (hne : m ≠ n) :
    CallsD Try.prog 92 #[.pointer (some ⟨n, 0, none⟩), .pointer (some ⟨m, 0, none⟩)] (.panicking PW) w fun e u' w' =>
      e = .returned (.tuple #[]) ∧ u' = .panicking [{ v := .iface 116 (.agg #[]), recovered := true }] ∧ w' = ((w.alloc (.cells #[] 116)).setCell ⟨n, 0, none⟩ (.slice none 0 0)).setCell ⟨m, 0, none⟩ (.int .i64 8) := by
  have hta : ∀ w : World, (Instr.typeAssert (.iface 116 (.agg #[])) 20 116 true).run Try.prog w = .ok (.tuple #[.agg #[], .bool true]) w := fun w => by kernel_rfl
  have hb : Below w.heap.size w (w.alloc (.cells #[] 116)) := (Below.refl w.heap.size w).alloc (Nat.le_refl _) _
  have hP1 := (hb.block n (blk_lt hP)).trans hP
  have hQ1 := (hb.block m (blk_lt hQ)).trans hQ
  have c1 := (blk_cell hP1 0).trans rfl
  have z1 := blk_frozen hP1 0
  have hQ2 := (Below.heap_setCell (w.alloc (.cells #[] 116)) ⟨n, 0, none⟩ (.slice none 0 0) m (by show m ≠ n; omega)).trans hQ1
  have c2 := (blk_cell hQ2 0).trans rfl
  have z2 := blk_frozen hQ2 0
  clear hP hQ hP1 hQ1 hQ2 hb hne
  refine callsD_of_wpS Try.func92 rfl fun c₀ cs hu => ?_
  apply wpS_seq
  apply wpS_region
  simp [wpOpsS, go_sem, recoverD, hu, Try.ntmps92, Exit.thenS, PW]
  refine wpS_of_wp ?_
  go_wp2_with (fail)
  cases c₀
  simp_all [bodyPostS, results, Try.results92]
set_option maxHeartbeats 8000000 in
set_option maxRecDepth 100000 in
theorem catch_idle (p q : Addr) (w : World) :
    CallsD Try.prog 92 #[.pointer (some p), .pointer (some q)] .returning w fun e u' w' => e = .returned (.tuple #[]) ∧ u' = .returning ∧ w' = w := by
  refine callsD_of_wpS Try.func92 rfl fun c₀ cs hu => ?_
  apply wpS_seq
  apply wpS_region
  simp [wpOpsS, go_sem, recoverD, hu, Try.ntmps92, Exit.thenS]
  refine wpS_of_wp ?_
  go_wp2_with (fail)
  cases c₀
  simp_all [bodyPostS, results, Try.results92]
end Go.Proofs.Ytcopbkdlpfcjpaa.K
namespace Go.Proofs.Ytcopbkdlpfcjpaa.K
open Go.RowKit Go.Proofs.YtcopbkdlpfcjpaaW.PrintWords Go.Proofs.YtcopbkdlpfcjpaaW.PrintLast Go.Proofs.YtcopbkdlpfcjpaaW.PrintMore Go.Proofs.Ytcopbkdlpfcjpaa.B Go.Proofs.Ytcopbkdlpfcjpaa.G
attribute [local go_sem] max2_int min2_int max_two min_two max_three min_three max_four min_four
set_option linter.unusedVariables false
set_option linter.unusedSimpArgs false
open Go.Proofs.Ytcopbkdlpfcjpaa.Ma (getS digN Get_all)
/-- A new cell's own cells. -/
abbrev Z10 : Array Value := #[.string ⟨#[]⟩, .string ⟨#[]⟩, .int .i64 0, .string ⟨#[]⟩, .int .i64 0, .bool false, .int .i64 0, .int .i64 0, .int .i64 0, .string ⟨#[]⟩]
/-- Within a cell's reading: n is the result's block, n + 1 the cell that is filled. -/
structure CI (w0 w w1 : World) (g : Nat) (L : List Nat) (x : Array Value) : Prop where
  rdr : Rdr w0 w1 g L
  ok : OkB L
  kp : Kp g g w w1
  glt : g < w.heap.size
  wlt : w0.heap.size ≤ w.heap.size
  res : w1.heap[w.heap.size]? = some (.cells Z10 101 (0, 0))
  mine : w1.heap[w.heap.size + 1]? = some (.cells x 101 (0, 0))
theorem Rdr.set {w0 w : World} {g : Nat} {L : List Nat} (h : Rdr w0 w g L) (a : Addr) (u : Value) (h1 : a.block ≠ g) (h2 : w0.heap.size ≤ a.block) : Rdr w0 (w.setCell a u) g L := by
  obtain ⟨A, c, k1, k2, k3, k4, k5⟩ := h
  exact ⟨A, c, (Below.heap_setCell w a u g (by omega)).trans k1, k2, k3, k4, Below.setCell k5 h2 _⟩
theorem Kp.setNew {lo hi : Nat} {w w1 : World} (h : Kp lo hi w w1) (a : Addr) (u : Value) (h2 : w.heap.size ≤ a.block) : Kp lo hi w (w1.setCell a u) :=
  ⟨h.os, h.tape, h.output, by simpa [World.setCell] using h.size, fun k hk hb => (Below.heap_setCell w1 a u k (by omega)).trans (h.block k hk hb)⟩
theorem CI.set {w0 w w1 : World} {g : Nat} {L : List Nat} {x x' : Array Value} (h : CI w0 w w1 g L x) (i : Nat) (u : Value) (e : x.setIfInBounds i u = x') : CI w0 w (w1.setCell ⟨w.heap.size + 1, i, none⟩ u) g L x' :=
  ⟨h.rdr.set _ _ (by have := h.glt; show w.heap.size + 1 ≠ g; omega) (by have := h.wlt; show w0.heap.size ≤ w.heap.size + 1; omega), h.ok, h.kp.setNew _ _ (by show w.heap.size ≤ w.heap.size + 1; omega), h.glt, h.wlt,
   (Below.heap_setCell w1 _ u _ (by show w.heap.size ≠ w.heap.size + 1; omega)).trans h.res, blk_put h.mine i u e⟩
theorem CI.step {w0 w w1 w2 : World} {g : Nat} {L L' : List Nat} {x : Array Value} (h : CI w0 w w1 g L x) (hR : Rdr w0 w2 g L') (hk : Kp g g w1 w2) (hO : OkB L') : CI w0 w w2 g L' x :=
  ⟨hR, hO, h.kp.trans hk, h.glt, h.wlt, (hk.block _ (blk_lt h.res) (.inr h.glt)).trans h.res, (hk.block _ (blk_lt h.mine) (.inr (by have := h.glt; omega))).trans h.mine⟩
theorem CI.init {w0 w : World} {g : Nat} {L : List Nat} (hR : Rdr w0 w g L) (hO : OkB L) : CI w0 w ((w.alloc (.cells Z10 101)).alloc (.cells Z10 101)) g L Z10 := by
  have hb0 : Below w.heap.size w (w.alloc (.cells Z10 101)) := (Below.refl w.heap.size w).alloc (Nat.le_refl _) _
  have hb : Below w.heap.size w ((w.alloc (.cells Z10 101)).alloc (.cells Z10 101)) := hb0.alloc hb0.size _
  obtain ⟨h1, h2, h3⟩ := hR.below
  refine ⟨hR.keep hb, hO, Kp.of_below hb, h3, h1.size, blk_alloc (blk_new w _) _, ?_⟩
  have h4 := blk_new (w.alloc (.cells Z10 101)) (.cells Z10 101)
  have h5 : (w.alloc (.cells Z10 101)).heap.size = w.heap.size + 1 := Array.size_push _
  rw [h5] at h4
  exact h4
theorem CI.done {w0 w w1 : World} {g : Nat} {L : List Nat} {x : Array Value} (h : CI w0 w w1 g L x) (cs : Array Value) : Rdr w0 (w1.setRow w.heap.size cs) g L ∧ Kp g g w (w1.setRow w.heap.size cs) := by
  obtain ⟨A, c, k1, k2, k3, k4, k5⟩ := h.rdr
  have hg := h.glt
  exact ⟨⟨A, c, (setRow_other w1 _ g cs (by omega)).trans k1, k2, k3, k4, below_setRow k5 h.wlt cs⟩, h.kp.os, h.kp.tape, h.kp.output, by rw [setRow_size]; exact h.kp.size, fun k hk hb => (setRow_other w1 _ k cs (by omega)).trans (h.kp.block k hk hb)⟩
theorem info101 : (Try.prog.info? 101).map (·.size) = some 10 := by kernel_rfl
theorem textS_ok {L L' : List Nat} {v : ByteArray} (h : textS L = some (v, L')) (hO : OkB L) : OkB L' := by
  unfold textS at h
  split at h
  · cases h
  · split at h
    · cases h
    · have h := Option.some.inj h
      simp only [Prod.mk.injEq] at h
      rw [← h.2]
      exact hO.drop _
theorem numS_ok {L L' : List Nat} {v : Nat} (h : numS L = some (v, L')) (hO : OkB L) : OkB L' := by
  unfold numS at h
  split at h
  · cases h
  · have h := Option.some.inj h
    simp only [Prod.mk.injEq] at h
    rw [← h.2]
    exact hO.drop _
theorem intS_ok {L L' : List Nat} {v : Int} (h : intS L = some (v, L')) (hO : OkB L) : OkB L' := by
  unfold intS at h
  cases h1 : numS L with
  | none => rw [h1] at h; cases h
  | some p =>
    obtain ⟨a, b⟩ := p
    rw [h1] at h
    simp only [Option.map_some, Option.some.injEq, Prod.mk.injEq] at h
    obtain ⟨_, rfl⟩ := h
    exact numS_ok h1 hO
theorem flagS_ok {L L' : List Nat} {v : Bool} (h : flagS L = some (v, L')) (hO : OkB L) : OkB L' := by
  cases L with
  | nil => cases h
  | cons x r =>
    replace h : (if x > 1 then none else some (x == 1, r)) = some (v, L') := h
    by_cases hx : x > 1
    · rw [if_pos hx] at h; cases h
    · rw [if_neg hx] at h
      have h := Option.some.inj h
      simp only [Prod.mk.injEq] at h
      rw [← h.2]
      exact hO.drop 1
theorem text_ci {w0 w w1 : World} {g : Nat} {L : List Nat} {x : Array Value} (h : CI w0 w w1 g L x) : Calls Try.prog 100 #[.pointer (some ⟨g, 0, none⟩)] w1 fun e w' => (∃ v L', Aside0 (textS L = some (v, L')) ∧ e = .returned (.string v) ∧ Aside0 (CI w0 w w' g L' x)) ∨ (Aside0 (textS L = none) ∧ e = .panicked PW ∧ Aside0 (Kp g g w w')) :=
  (text_c h.rdr h.ok).mono fun e w' k => k.imp (fun ⟨v, L', h1, h2, h3, h4⟩ => ⟨v, L', .mk h1, h2, .mk (h.step h3 h4 (textS_ok h1 h.ok))⟩) (fun ⟨h1, h2, h3⟩ => ⟨.mk h1, h2, .mk (h.kp.trans h3)⟩)
theorem int_ci {w0 w w1 : World} {g : Nat} {L : List Nat} {x : Array Value} (h : CI w0 w w1 g L x) : Calls Try.prog 101 #[.pointer (some ⟨g, 0, none⟩)] w1 fun e w' => (∃ v L', Aside0 (intS L = some (v, L')) ∧ e = .returned (.int .i64 v) ∧ Aside0 (CI w0 w w' g L' x)) ∨ (Aside0 (intS L = none) ∧ e = .panicked PW ∧ Aside0 (Kp g g w w')) :=
  (int_c h.rdr h.ok).mono fun e w' k => k.imp (fun ⟨v, L', h1, h2, h3, h4⟩ => ⟨v, L', .mk h1, h2, .mk (h.step h3 h4 (intS_ok h1 h.ok))⟩) (fun ⟨h1, h2, h3⟩ => ⟨.mk h1, h2, .mk (h.kp.trans h3)⟩)
theorem flag_ci {w0 w w1 : World} {g : Nat} {L : List Nat} {x : Array Value} (h : CI w0 w w1 g L x) : Calls Try.prog 102 #[.pointer (some ⟨g, 0, none⟩)] w1 fun e w' => (∃ v L', Aside0 (flagS L = some (v, L')) ∧ e = .returned (.bool v) ∧ Aside0 (CI w0 w w' g L' x)) ∨ (Aside0 (flagS L = none) ∧ e = .panicked PW ∧ Aside0 (Kp g g w w')) :=
  (flag_c h.rdr).mono fun e w' k => k.imp (fun ⟨v, L', h1, h2, h3, h4⟩ => ⟨v, L', .mk h1, h2, .mk (h.step h3 h4 (flagS_ok h1 h.ok))⟩) (fun ⟨h1, h2, h3⟩ => ⟨.mk h1, h2, .mk (h.kp.trans h3)⟩)
theorem num_ci {w0 w w1 : World} {g : Nat} {L : List Nat} {x : Array Value} (h : CI w0 w w1 g L x) : Calls Try.prog 93 #[.pointer (some ⟨g, 0, none⟩)] w1 fun e w' => (∃ (v : Nat) (L' : List Nat), Aside0 (numS L = some (v, L')) ∧ e = .returned (.int .u64 (v : Int)) ∧ Aside0 (CI w0 w w' g L' x)) ∨ (Aside0 (numS L = none) ∧ e = .panicked PW ∧ Aside0 (Kp g g w w')) :=
  (num_c h.rdr h.ok).mono fun e w' k => k.imp (fun ⟨v, L', h1, h2, h3, h4⟩ => ⟨v, L', .mk h1, h2, .mk (h.step h3 h4 (numS_ok h1 h.ok))⟩) (fun ⟨h1, h2, h3⟩ => ⟨.mk h1, h2, .mk (h.kp.trans h3)⟩)
/-- A cell, and what is left. -/
def cellS (L : List Nat) : Option (S101 × List Nat) :=
  (textS L).bind fun p1 => (textS p1.2).bind fun p2 => (intS p2.2).bind fun p3 => (textS p3.2).bind fun p4 => (intS p4.2).bind fun p5 => (flagS p5.2).bind fun p6 =>
    if p6.1 = true then (intS p6.2).bind fun p7 => some (⟨⟨p1.1, p2.1, p3.1, p4.1⟩, ⟨p5.1, true, p7.1, ⟨0, 0, ⟨#[]⟩⟩⟩⟩, p7.2)
    else (numS p6.2).bind fun p7 => (intS p7.2).bind fun p8 => (textS p8.2).bind fun p9 => some (⟨⟨p1.1, p2.1, p3.1, p4.1⟩, ⟨p5.1, false, 0, ⟨wrap64 (p7.1 : Int), p8.1, p9.1⟩⟩⟩, p9.2)
set_option maxHeartbeats 8000000 in
set_option maxRecDepth 100000 in
theorem cell_c {w0 w : World} {g : Nat} {L : List Nat} (hR : Rdr w0 w g L) (hL : OkB L) : Calls Try.prog 94 #[.pointer (some ⟨g, 0, none⟩)] w fun e w' => (∃ v L', cellS L = some (v, L') ∧ e = .returned (.agg #[.string v.f0.f0, .string v.f0.f1, .int .i64 v.f0.f2, .string v.f0.f3, .int .i64 v.f1.f0, .bool v.f1.f1, .int .i64 v.f1.f2, .int .i64 v.f1.f3.f0, .int .i64 v.f1.f3.f1, .string v.f1.f3.f2]) ∧ Rdr w0 w' g L' ∧ Kp g g w w') ∨ (cellS L = none ∧ e = .panicked PW ∧ Kp g g w w') := by
  have HCI := Aside0.mk (CI.init hR hL)
  have hmf : ∀ (fn : Fn) (first cap : Array Value) (w : World), (Instr.makeFunc fn first cap).run Try.prog w = .ok (.func fn first cap) w := fun _ _ _ _ => rfl
  clear hR hL
  go_enter Try.func94, Try.ntmps94
  go_wp2_with (fail)
  with_reducible refine (text_ci HCI.out).mono ?_
  rintro e w1 (⟨v1, L1, hs1, rfl, HD1⟩ | ⟨hs1, rfl, hk⟩)
  rotate_left
  · go_wp2_with (fail)
    exact ⟨rfl, .inr ⟨by simp [cellS, hs1.out], rfl, hk.out⟩⟩
  have c1 := (blk_cell HD1.out.mine 0).trans rfl
  have z1 := blk_frozen HD1.out.mine 0
  have HCI1 := Aside0.mk (HD1.out.set 0 (.string v1) rfl)
  clear HCI HD1
  go_wp2_with (fail)
  with_reducible refine (text_ci HCI1.out).mono ?_
  rintro e w2 (⟨v2, L2, hs2, rfl, HD2⟩ | ⟨hs2, rfl, hk⟩)
  rotate_left
  · go_wp2_with (fail)
    exact ⟨rfl, .inr ⟨by simp [cellS, hs1.out, hs2.out], rfl, hk.out⟩⟩
  have c2 := (blk_cell HD2.out.mine 1).trans rfl
  have z2 := blk_frozen HD2.out.mine 1
  have HCI2 := Aside0.mk (HD2.out.set 1 (.string v2) rfl)
  clear HCI1 HD2 c1 z1
  go_wp2_with (fail)
  with_reducible refine (int_ci HCI2.out).mono ?_
  rintro e w3 (⟨v3, L3, hs3, rfl, HD3⟩ | ⟨hs3, rfl, hk⟩)
  rotate_left
  · go_wp2_with (fail)
    exact ⟨rfl, .inr ⟨by simp [cellS, hs1.out, hs2.out, hs3.out], rfl, hk.out⟩⟩
  have c3 := (blk_cell HD3.out.mine 2).trans rfl
  have z3 := blk_frozen HD3.out.mine 2
  have HCI3 := Aside0.mk (HD3.out.set 2 (.int .i64 v3) rfl)
  clear HCI2 HD3 c2 z2
  go_wp2_with (fail)
  with_reducible refine (text_ci HCI3.out).mono ?_
  rintro e w4 (⟨v4, L4, hs4, rfl, HD4⟩ | ⟨hs4, rfl, hk⟩)
  rotate_left
  · go_wp2_with (fail)
    exact ⟨rfl, .inr ⟨by simp [cellS, hs1.out, hs2.out, hs3.out, hs4.out], rfl, hk.out⟩⟩
  have c4 := (blk_cell HD4.out.mine 3).trans rfl
  have z4 := blk_frozen HD4.out.mine 3
  have HCI4 := Aside0.mk (HD4.out.set 3 (.string v4) rfl)
  clear HCI3 HD4 c3 z3
  go_wp2_with (fail)
  with_reducible refine (int_ci HCI4.out).mono ?_
  rintro e w5 (⟨v5, L5, hs5, rfl, HD5⟩ | ⟨hs5, rfl, hk⟩)
  rotate_left
  · go_wp2_with (fail)
    exact ⟨rfl, .inr ⟨by simp [cellS, hs1.out, hs2.out, hs3.out, hs4.out, hs5.out], rfl, hk.out⟩⟩
  have c5 := (blk_cell HD5.out.mine 4).trans rfl
  have z5 := blk_frozen HD5.out.mine 4
  have HCI5 := Aside0.mk (HD5.out.set 4 (.int .i64 v5) rfl)
  clear HCI4 HD5 c4 z4
  go_wp2_with (fail)
  with_reducible refine (flag_ci HCI5.out).mono ?_
  rintro e w6 (⟨v6, L6, hs6, rfl, HD6⟩ | ⟨hs6, rfl, hk⟩)
  rotate_left
  · go_wp2_with (fail)
    exact ⟨rfl, .inr ⟨by simp [cellS, hs1.out, hs2.out, hs3.out, hs4.out, hs5.out, hs6.out], rfl, hk.out⟩⟩
  have c6 := (blk_cell HD6.out.mine 5).trans rfl
  have z6 := blk_frozen HD6.out.mine 5
  have HCI6 := Aside0.mk (HD6.out.set 5 (.bool v6) rfl)
  clear HCI5 HD6 c5 z5
  have f6 := (blk_cell HCI6.out.mine 5).trans rfl
  cases v6
  · go_wp2_with (fail)
    with_reducible refine (num_ci HCI6.out).mono ?_
    rintro e w7 (⟨v7, L7, hs7, rfl, HD7⟩ | ⟨hs7, rfl, hk⟩)
    rotate_left
    · go_wp2_with (fail)
      exact ⟨rfl, .inr ⟨by simp [cellS, hs1.out, hs2.out, hs3.out, hs4.out, hs5.out, hs6.out, hs7.out], rfl, hk.out⟩⟩
    have c7 := (blk_cell HD7.out.mine 7).trans rfl
    have z7 := blk_frozen HD7.out.mine 7
    have HCI7 := Aside0.mk (HD7.out.set 7 (.int .i64 (wrap64 (v7 : Int))) rfl)
    clear HCI6 HD7 c6 z6
    go_wp2_with (fail)
    with_reducible refine (int_ci HCI7.out).mono ?_
    rintro e w8 (⟨v8, L8, hs8, rfl, HD8⟩ | ⟨hs8, rfl, hk⟩)
    rotate_left
    · go_wp2_with (fail)
      exact ⟨rfl, .inr ⟨by simp [cellS, hs1.out, hs2.out, hs3.out, hs4.out, hs5.out, hs6.out, hs7.out, hs8.out], rfl, hk.out⟩⟩
    have c8 := (blk_cell HD8.out.mine 8).trans rfl
    have z8 := blk_frozen HD8.out.mine 8
    have HCI8 := Aside0.mk (HD8.out.set 8 (.int .i64 v8) rfl)
    clear HCI7 HD8 c7 z7
    go_wp2_with (fail)
    with_reducible refine (text_ci HCI8.out).mono ?_
    rintro e w9 (⟨v9, L9, hs9, rfl, HD9⟩ | ⟨hs9, rfl, hk⟩)
    rotate_left
    · go_wp2_with (fail)
      exact ⟨rfl, .inr ⟨by simp [cellS, hs1.out, hs2.out, hs3.out, hs4.out, hs5.out, hs6.out, hs7.out, hs8.out, hs9.out], rfl, hk.out⟩⟩
    have c9 := (blk_cell HD9.out.mine 9).trans rfl
    have z9 := blk_frozen HD9.out.mine 9
    have HCI9 := Aside0.mk (HD9.out.set 9 (.string v9) rfl)
    clear HCI8 HD9 c8 z8
    have hM := HCI9.out.mine
    have hN := HCI9.out.res
    have m0 := (blk_cell hM 0).trans rfl
    have m1 := (blk_cell hM 1).trans rfl
    have m2 := (blk_cell hM 2).trans rfl
    have m3 := (blk_cell hM 3).trans rfl
    have m4 := (blk_cell hM 4).trans rfl
    have m5 := (blk_cell hM 5).trans rfl
    have m6 := (blk_cell hM 6).trans rfl
    have m7 := (blk_cell hM 7).trans rfl
    have m8 := (blk_cell hM 8).trans rfl
    have m9 := (blk_cell hM 9).trans rfl
    have hD := Aside0.mk (HCI9.out.done #[.string v1, .string v2, .int .i64 v3, .string v4, .int .i64 v5, .bool false, .int .i64 0, .int .i64 (wrap64 (v7 : Int)), .int .i64 v8, .string v9])
    have hS := Aside0.mk (setRow_heap _ w.heap.size Z10 #[.string v1, .string v2, .int .i64 v3, .string v4, .int .i64 v5, .bool false, .int .i64 0, .int .i64 (wrap64 (v7 : Int)), .int .i64 v8, .string v9] 101 (0, 0) hN)
    replace hM := Aside0.mk hM
    replace hN := Aside0.mk hN
    go_wp2_with (first | ((with_reducible refine gate_ (.store 101 (.tmp 2) (.tmp 61)) rfl ?_); refine wpList_store_row rfl 101 _ _ rfl w.heap.size #[.string v1, .string v2, .int .i64 v3, .string v4, .int .i64 v5, .bool false, .int .i64 0, .int .i64 (wrap64 (v7 : Int)), .int .i64 v8, .string v9] rfl rfl 101 Z10 hN.out info101 rfl (by simp [go_sem, Value.oneCell']) ?_) | ((with_reducible refine gate_ (.store 101 (.tmp 2) (.tmp 42)) rfl ?_); refine wpList_store_row rfl 101 _ _ rfl w.heap.size #[.string v1, .string v2, .int .i64 v3, .string v4, .int .i64 v5, .bool false, .int .i64 0, .int .i64 (wrap64 (v7 : Int)), .int .i64 v8, .string v9] rfl rfl 101 Z10 hN.out info101 rfl (by simp [go_sem, Value.oneCell']) ?_))
    refine bodyPost_ret (results_cell_row rfl _ _ w.heap.size 101 _ (0, 0) _ rfl hS.out Try.underlying101 rfl info101) rfl ?_
    exact .inl ⟨⟨⟨v1, v2, v3, v4⟩, ⟨v5, false, 0, ⟨wrap64 (v7 : Int), v8, v9⟩⟩⟩, L9, by simp [cellS, hs1.out, hs2.out, hs3.out, hs4.out, hs5.out, hs6.out, hs7.out, hs8.out, hs9.out], rfl, hD.out⟩
  · go_wp2_with (fail)
    with_reducible refine (int_ci HCI6.out).mono ?_
    rintro e w7 (⟨v7, L7, hs7, rfl, HD7⟩ | ⟨hs7, rfl, hk⟩)
    rotate_left
    · go_wp2_with (fail)
      exact ⟨rfl, .inr ⟨by simp [cellS, hs1.out, hs2.out, hs3.out, hs4.out, hs5.out, hs6.out, hs7.out], rfl, hk.out⟩⟩
    have c7 := (blk_cell HD7.out.mine 6).trans rfl
    have z7 := blk_frozen HD7.out.mine 6
    have HCI7 := Aside0.mk (HD7.out.set 6 (.int .i64 v7) rfl)
    clear HCI6 HD7 c6 z6
    have hM := HCI7.out.mine
    have hN := HCI7.out.res
    have m0 := (blk_cell hM 0).trans rfl
    have m1 := (blk_cell hM 1).trans rfl
    have m2 := (blk_cell hM 2).trans rfl
    have m3 := (blk_cell hM 3).trans rfl
    have m4 := (blk_cell hM 4).trans rfl
    have m5 := (blk_cell hM 5).trans rfl
    have m6 := (blk_cell hM 6).trans rfl
    have m7 := (blk_cell hM 7).trans rfl
    have m8 := (blk_cell hM 8).trans rfl
    have m9 := (blk_cell hM 9).trans rfl
    have hD := Aside0.mk (HCI7.out.done #[.string v1, .string v2, .int .i64 v3, .string v4, .int .i64 v5, .bool true, .int .i64 v7, .int .i64 0, .int .i64 0, .string ⟨#[]⟩])
    have hS := Aside0.mk (setRow_heap _ w.heap.size Z10 #[.string v1, .string v2, .int .i64 v3, .string v4, .int .i64 v5, .bool true, .int .i64 v7, .int .i64 0, .int .i64 0, .string ⟨#[]⟩] 101 (0, 0) hN)
    replace hM := Aside0.mk hM
    replace hN := Aside0.mk hN
    go_wp2_with (first | ((with_reducible refine gate_ (.store 101 (.tmp 2) (.tmp 61)) rfl ?_); refine wpList_store_row rfl 101 _ _ rfl w.heap.size #[.string v1, .string v2, .int .i64 v3, .string v4, .int .i64 v5, .bool true, .int .i64 v7, .int .i64 0, .int .i64 0, .string ⟨#[]⟩] rfl rfl 101 Z10 hN.out info101 rfl (by simp [go_sem, Value.oneCell']) ?_) | ((with_reducible refine gate_ (.store 101 (.tmp 2) (.tmp 42)) rfl ?_); refine wpList_store_row rfl 101 _ _ rfl w.heap.size #[.string v1, .string v2, .int .i64 v3, .string v4, .int .i64 v5, .bool true, .int .i64 v7, .int .i64 0, .int .i64 0, .string ⟨#[]⟩] rfl rfl 101 Z10 hN.out info101 rfl (by simp [go_sem, Value.oneCell']) ?_))
    refine bodyPost_ret (results_cell_row rfl _ _ w.heap.size 101 _ (0, 0) _ rfl hS.out Try.underlying101 rfl info101) rfl ?_
    exact .inl ⟨⟨⟨v1, v2, v3, v4⟩, ⟨v5, true, v7, ⟨0, 0, ⟨#[]⟩⟩⟩⟩, L7, by simp [cellS, hs1.out, hs2.out, hs3.out, hs4.out, hs5.out, hs6.out, hs7.out], rfl, hD.out⟩
end Go.Proofs.Ytcopbkdlpfcjpaa.K
namespace Go.Proofs.Ytcopbkdlpfcjpaa.K
open Go.RowKit Go.Proofs.YtcopbkdlpfcjpaaW.PrintWords Go.Proofs.YtcopbkdlpfcjpaaW.PrintLast Go.Proofs.YtcopbkdlpfcjpaaW.PrintMore Go.Proofs.Ytcopbkdlpfcjpaa.B Go.Proofs.Ytcopbkdlpfcjpaa.G
attribute [local go_sem] max2_int min2_int max_two min_two max_three min_three max_four min_four
set_option linter.unusedVariables false
set_option linter.unusedSectionVars false
set_option linter.unusedSimpArgs false
/-- As many cells as n says, and what is left. -/
def readS : Nat → List Nat → Option (List S101 × List Nat)
  | 0, L => some ([], L)
  | n + 1, L => (cellS L).bind fun p => (readS n p.2).bind fun q => some (p.1 :: q.1, q.2)
/-- All cells of the bytes, none of which is left over. -/
def readCellsS (L : List Nat) : Option (List S101) := (numS L).bind fun p => (readS p.1 p.2).bind fun q => if q.2 = [] then some q.1 else none
/-- Where the named results lie. -/
structure PX (w0 w1 : World) (v x : Value) : Prop where
  below : Below w0.heap.size w0 w1
  res : w1.heap[w0.heap.size]? = some (.cells #[v] 85 (0, 0))
  err : w1.heap[w0.heap.size + 1]? = some (.cells #[x] 42 (0, 0))
/-- Within ReadCells: the reader at g = w0.heap.size + 2. -/
structure RI (w0 w1 : World) (L : List Nat) (xs : List S101) (v : Value) : Prop where
  rdr : Rdr w0 w1 (w0.heap.size + 2) L
  ok : OkB L
  px : PX w0 w1 v (.int .i64 0)
  row : k101.R 101 w1 (w0.heap.size + 3) (fun k => w0.heap.size + 3 ≤ k) v xs
theorem PX.step {w0 w1 w2 : World} {v x : Value} (h : PX w0 w1 v x) (hk : Kp (w0.heap.size + 2) (w0.heap.size + 2) w1 w2) : PX w0 w2 v x :=
  ⟨hk.below h.below (by omega), (hk.block _ (blk_lt h.res) (.inl (by omega))).trans h.res, (hk.block _ (blk_lt h.err) (.inl (by omega))).trans h.err⟩
theorem RI.step {w0 w1 w2 : World} {L L' : List Nat} {xs : List S101} {v : Value} (h : RI w0 w1 L xs v) (hR : Rdr w0 w2 (w0.heap.size + 2) L') (hO : OkB L') (hk : Kp (w0.heap.size + 2) (w0.heap.size + 2) w1 w2) : RI w0 w2 L' xs v :=
  ⟨hR, hO, h.px.step hk, Kd.R_step h.row (fun k ho hlt => hk.block k hlt (.inr (by omega)))⟩
theorem RI.init {w : World} {A : Option Addr} {c : Nat} {L : List Nat} (hC : Kd.C (Kd.int .u8) w A (Ma.up L).length (Ma.up L)) (hc : (Ma.up L).length ≤ c) (hO : OkB L) :
    RI w (((w.alloc (.cells #[.slice none 0 0] 85)).alloc (.cells #[.int .i64 0] 42)).alloc (.cells #[.slice A (Ma.up L).length c] 119)) L [] (.slice none 0 0) := by
  have b1 : Below w.heap.size w (w.alloc (.cells #[.slice none 0 0] 85)) := below_alloc (Below.refl _ _) _
  have b2 := b1.alloc b1.size (.cells #[.int .i64 0] 42)
  have b3 := b2.alloc b2.size (.cells #[.slice A (Ma.up L).length c] 119)
  have s1 : (w.alloc (.cells #[.slice none 0 0] 85)).heap.size = w.heap.size + 1 := Array.size_push _
  have s2 : ((w.alloc (.cells #[.slice none 0 0] 85)).alloc (.cells #[.int .i64 0] 42)).heap.size = w.heap.size + 2 := by
    have : ((w.alloc (.cells #[.slice none 0 0] 85)).alloc (.cells #[.int .i64 0] 42)).heap.size = (w.alloc (.cells #[.slice none 0 0] 85)).heap.size + 1 := Array.size_push _
    omega
  have n1 := blk_new w (.cells #[.slice none 0 0] 85)
  have n2 := blk_new (w.alloc (.cells #[.slice none 0 0] 85)) (.cells #[.int .i64 0] 42)
  have n3 := blk_new ((w.alloc (.cells #[.slice none 0 0] 85)).alloc (.cells #[.int .i64 0] 42)) (.cells #[.slice A (Ma.up L).length c] 119)
  rw [s1] at n2
  rw [s2] at n3
  exact ⟨⟨A, c, n3, hc, hC, by omega, b3⟩, hO, ⟨b3, blk_alloc (blk_alloc n1 _) _, blk_alloc n2 _⟩, Kd.R_nil _ _ _ _ _⟩
theorem num_ri {w0 w1 : World} {L : List Nat} {xs : List S101} {v : Value} (h : RI w0 w1 L xs v) : Calls Try.prog 93 #[.pointer (some ⟨w0.heap.size + 1 + 1, 0, none⟩)] w1 fun e w' => (∃ (n : Nat) (L' : List Nat), Aside0 (numS L = some (n, L')) ∧ e = .returned (.int .u64 (n : Int)) ∧ Aside0 (RI w0 w' L' xs v)) ∨ (Aside0 (numS L = none) ∧ e = .panicked PW ∧ Aside0 (PX w0 w' v (.int .i64 0))) :=
  (num_c h.rdr h.ok).mono fun e w' k => k.imp (fun ⟨v, L', h1, h2, h3, h4⟩ => ⟨v, L', .mk h1, h2, .mk (h.step h3 (numS_ok h1 h.ok) h4)⟩) (fun ⟨h1, h2, h3⟩ => ⟨.mk h1, h2, .mk (h.px.step h3)⟩)
theorem PX.caught {w0 w1 : World} {v x : Value} (h : PX w0 w1 v x) (W : World) (hW : W = ((w1.alloc (.cells #[] 116)).setCell ⟨w0.heap.size, 0, none⟩ (.slice none 0 0)).setCell ⟨w0.heap.size + 1, 0, none⟩ (.int .i64 8)) : W.cell? ⟨w0.heap.size, 0, none⟩ = some (.slice none 0 0) ∧ W.cell? ⟨w0.heap.size + 1, 0, none⟩ = some (.int .i64 8) ∧ Below w0.heap.size w0 W := by
  have e1 := blk_put (blk_alloc h.res (.cells #[] 116)) 0 (.slice none 0 0) rfl
  have e2 := (Below.heap_setCell (w1.alloc (.cells #[] 116)) ⟨w0.heap.size, 0, none⟩ (.slice none 0 0) (w0.heap.size + 1) (by show w0.heap.size + 1 ≠ w0.heap.size; omega)).trans (blk_alloc h.err (.cells #[] 116))
  have e3 := blk_put e2 0 (.int .i64 8) rfl
  have e4 := (Below.heap_setCell ((w1.alloc (.cells #[] 116)).setCell ⟨w0.heap.size, 0, none⟩ (.slice none 0 0)) ⟨w0.heap.size + 1, 0, none⟩ (.int .i64 8) w0.heap.size (by show w0.heap.size ≠ w0.heap.size + 1; omega)).trans e1
  subst hW
  exact ⟨(blk_cell e4 0).trans rfl, (blk_cell e3 0).trans rfl, Below.setCell (Below.setCell (h.below.alloc h.below.size _) (Nat.le_refl _) _) (by show w0.heap.size ≤ w0.heap.size + 1; omega) _⟩
set_option maxHeartbeats 8000000 in
set_option maxRecDepth 100000 in
/-- The end of ReadCells, where the body panics. -/
theorem bad_end {w0 w1 : World} {v x : Value} (h : PX w0 w1 v x) {R : Ending → World → Prop} (hR : ∀ W, Below w0.heap.size w0 W → R (.returned (.tuple #[.slice none 0 0, .int .i64 8])) W) {tmps : Array Value}
    (h2 : tmps[2]? = some (.pointer (some ⟨w0.heap.size, 0, none⟩))) (h3 : tmps[3]? = some (.pointer (some ⟨w0.heap.size + 1, 0, none⟩))) :
    bodyPostD Try.prog Try.f68 R (.panic PW) { tmps := tmps, defers := [{ target := .fn (.func 92) #[.pointer (some ⟨w0.heap.size, 0, none⟩), .pointer (some ⟨w0.heap.size + 1, 0, none⟩)], args := #[] }] } w1 := by
  refine leaves_cons (f := 92) (args := #[.pointer (some ⟨w0.heap.size, 0, none⟩), .pointer (some ⟨w0.heap.size + 1, 0, none⟩)]) (by simp) (by simp [go_sem]) ?_
  refine (catch_panicking w0.heap.size (w0.heap.size + 1) _ _ w1 h.res h.err (by omega)).mono ?_
  rintro e u' w2 ⟨rfl, rfl, hw⟩
  obtain ⟨q1, q2, q3⟩ := h.caught w2 hw
  clear hw
  have q4 := hR w2 q3
  simp [Leaves, settle, results, Try.results68, go_sem, q1, q2, h2, h3]
  exact q4
set_option maxHeartbeats 8000000 in
set_option maxRecDepth 100000 in
/-- The end of ReadCells, where the body returns. -/
theorem good_end {w0 w1 : World} {v x : Value} (h : PX w0 w1 v x) {R : Ending → World → Prop} (hR : R (.returned (.tuple #[v, x])) w1) {tmps : Array Value}
    (h2 : tmps[2]? = some (.pointer (some ⟨w0.heap.size, 0, none⟩))) (h3 : tmps[3]? = some (.pointer (some ⟨w0.heap.size + 1, 0, none⟩))) :
    bodyPostD Try.prog Try.f68 R .ret { tmps := tmps, defers := [{ target := .fn (.func 92) #[.pointer (some ⟨w0.heap.size, 0, none⟩), .pointer (some ⟨w0.heap.size + 1, 0, none⟩)], args := #[] }] } w1 := by
  refine leaves_cons (f := 92) (args := #[.pointer (some ⟨w0.heap.size, 0, none⟩), .pointer (some ⟨w0.heap.size + 1, 0, none⟩)]) (by simp) (by simp [go_sem]) ?_
  refine (catch_idle ⟨w0.heap.size, 0, none⟩ ⟨w0.heap.size + 1, 0, none⟩ w1).mono ?_
  rintro e u' w2 ⟨rfl, rfl, rfl⟩
  have q1 : w2.cell? ⟨w0.heap.size, 0, none⟩ = some v := (blk_cell h.res 0).trans rfl
  have q2 : w2.cell? ⟨w0.heap.size + 1, 0, none⟩ = some x := (blk_cell h.err 0).trans rfl
  simp [Leaves, settle, results, Try.results68, go_sem, q1, q2, h2, h3]
  exact hR
/-- The ten cells of a cell. -/
def cellsOf (v : S101) : List Value := [.string v.f0.f0, .string v.f0.f1, .int .i64 v.f0.f2, .string v.f0.f3, .int .i64 v.f1.f0, .bool v.f1.f1, .int .i64 v.f1.f2, .int .i64 v.f1.f3.f0, .int .i64 v.f1.f3.f1, .string v.f1.f3.f2]
theorem numS_len {L L' : List Nat} {v : Nat} (h : numS L = some (v, L')) : L'.length ≤ L.length := by
  unfold numS at h
  split at h
  · cases h
  · have h := Option.some.inj h
    simp only [Prod.mk.injEq] at h
    rw [← h.2, List.length_drop]; omega
theorem numS_lt {L L' : List Nat} {v : Nat} (hO : OkB L) (h : numS L = some (v, L')) : v < 18446744073709551616 := by
  have := getS_lt L hO.1 (by have := hO.2; omega)
  unfold numS at h
  split at h
  · cases h
  · have h := Option.some.inj h
    simp only [Prod.mk.injEq] at h
    omega
theorem textS_len {L L' : List Nat} {v : ByteArray} (h : textS L = some (v, L')) : L'.length + 1 ≤ L.length := by
  have hle := getS_le L 0 0
  unfold textS at h
  split at h
  · cases h
  · split at h
    · cases h
    · have h := Option.some.inj h
      simp only [Prod.mk.injEq] at h
      rw [← h.2, List.length_drop]; omega
theorem intS_len {L L' : List Nat} {v : Int} (h : intS L = some (v, L')) : L'.length ≤ L.length := by
  unfold intS at h
  cases h1 : numS L with
  | none => rw [h1] at h; cases h
  | some p =>
    obtain ⟨a, b⟩ := p
    rw [h1] at h
    simp only [Option.map_some, Option.some.injEq, Prod.mk.injEq] at h
    obtain ⟨_, rfl⟩ := h
    exact numS_len h1
theorem flagS_len {L L' : List Nat} {v : Bool} (h : flagS L = some (v, L')) : L'.length ≤ L.length := by
  cases L with
  | nil => cases h
  | cons x r =>
    replace h : (if x > 1 then none else some (x == 1, r)) = some (v, L') := h
    by_cases hx : x > 1
    · rw [if_pos hx] at h; cases h
    · rw [if_neg hx] at h
      have h := Option.some.inj h
      simp only [Prod.mk.injEq] at h
      rw [← h.2, List.length_cons]; omega
theorem cellS_prop {L L' : List Nat} {c : S101} (h : cellS L = some (c, L')) (hO : OkB L) : OkB L' ∧ L'.length + 1 ≤ L.length := by
  unfold cellS at h
  simp only [Option.bind_eq_some_iff] at h
  obtain ⟨⟨v1, L1⟩, h1, ⟨v2, L2⟩, h2, ⟨v3, L3⟩, h3, ⟨v4, L4⟩, h4, ⟨v5, L5⟩, h5, ⟨v6, L6⟩, h6, h⟩ := h
  simp only at h2 h3 h4 h5 h6 h
  have o6 := flagS_ok h6 (intS_ok h5 (textS_ok h4 (intS_ok h3 (textS_ok h2 (textS_ok h1 hO)))))
  have l1 := textS_len h1; have l2 := textS_len h2; have l3 := intS_len h3; have l4 := textS_len h4; have l5 := intS_len h5; have l6 := flagS_len h6
  split at h
  · simp only [Option.bind_eq_some_iff] at h
    obtain ⟨⟨v7, L7⟩, h7, h⟩ := h
    have l7 := intS_len h7
    have h := Option.some.inj h
    simp only [Prod.mk.injEq] at h
    obtain ⟨_, rfl⟩ := h
    exact ⟨intS_ok h7 o6, by omega⟩
  · simp only [Option.bind_eq_some_iff] at h
    obtain ⟨⟨v7, L7⟩, h7, ⟨v8, L8⟩, h8, ⟨v9, L9⟩, h9, h⟩ := h
    simp only at h8 h9 h
    have l7 := numS_len h7; have l8 := intS_len h8; have l9 := textS_len h9
    have h := Option.some.inj h
    simp only [Prod.mk.injEq] at h
    obtain ⟨_, rfl⟩ := h
    exact ⟨textS_ok h9 (intS_ok h8 (numS_ok h7 o6)), by omega⟩
theorem RI.drew {w0 w1 : World} {L : List Nat} {xs : List S101} {v : Value} (h : RI w0 w1 L xs v) : RI w0 w1.drew L xs v :=
  h.step (h.rdr.keep (below_drew (Below.refl _ _))) h.ok (Kp.drew (Kp.refl _ _ _))
theorem RI.alloc {w0 w1 : World} {L : List Nat} {xs : List S101} {v : Value} (h : RI w0 w1 L xs v) (o : Obj) : RI w0 (w1.alloc o) L xs v :=
  h.step (h.rdr.keep (below_alloc (Below.refl _ _) _)) h.ok (Kp.of_below (below_alloc (Below.refl _ _) _))
theorem RI.cell {w0 w1 : World} {L : List Nat} {xs : List S101} {v : Value} (h : RI w0 w1 L xs v) : w1.cell? ⟨w0.heap.size, 0, none⟩ = some v ∧ w1.frozen? ⟨w0.heap.size, 0, none⟩ = false := ⟨(blk_cell h.px.res 0).trans rfl, blk_frozen h.px.res 0⟩
theorem cell_ri_none {w0 w1 : World} {L : List Nat} {xs : List S101} {v : Value} (h : RI w0 w1 L xs v) (hc : cellS L = none) : Calls Try.prog 94 #[.pointer (some ⟨w0.heap.size + 1 + 1, 0, none⟩)] w1 fun e w' => e = .panicked PW ∧ Aside0 (PX w0 w' v (.int .i64 0)) :=
  (cell_c h.rdr h.ok).mono fun e w' k => k.elim (fun ⟨a, b, h1, _⟩ => by rw [hc] at h1; cases h1) (fun ⟨_, h2, h3⟩ => ⟨h2, .mk (h.px.step h3)⟩)
theorem cell_ri_some {w0 w1 : World} {L L' : List Nat} {xs : List S101} {v : Value} {c : S101} (h : RI w0 w1 L xs v) (hc : cellS L = some (c, L')) : Calls Try.prog 94 #[.pointer (some ⟨w0.heap.size + 1 + 1, 0, none⟩)] w1 fun e w' => e = .returned (.agg (cellsOf c).toArray) ∧ Aside0 (RI w0 w' L' xs v) :=
  (cell_c h.rdr h.ok).mono fun e w' k => k.elim (fun ⟨a, b, h1, h2, h3, h4⟩ => by
    rw [hc] at h1
    have h1 := Option.some.inj h1
    simp only [Prod.mk.injEq] at h1
    obtain ⟨rfl, rfl⟩ := h1
    exact ⟨h2, .mk (h.step h3 (cellS_prop hc h.ok).1 h4)⟩) (fun ⟨h1, _, _⟩ => by rw [hc] at h1; cases h1)
theorem info101z : (Try.prog.info? 101).map (fun i => (i.zero, i.size, i.bytes)) = some (some (.agg Z10), 10, 112) := by kernel_rfl
theorem PX.fin {w0 w1 : World} {v x y : Value} (h : PX w0 w1 v x) : PX w0 ((w1.setCell ⟨w0.heap.size, 0, none⟩ v).setCell ⟨w0.heap.size + 1, 0, none⟩ y) v y ∧ (w1.setCell ⟨w0.heap.size, 0, none⟩ v).cell? ⟨w0.heap.size + 1, 0, none⟩ = some x ∧ (w1.setCell ⟨w0.heap.size, 0, none⟩ v).frozen? ⟨w0.heap.size + 1, 0, none⟩ = false := by
  have e1 := blk_put h.res 0 v rfl
  have e2 := (Below.heap_setCell w1 ⟨w0.heap.size, 0, none⟩ v (w0.heap.size + 1) (by show w0.heap.size + 1 ≠ w0.heap.size; omega)).trans h.err
  have e3 := blk_put e2 0 y rfl
  have e4 := (Below.heap_setCell (w1.setCell ⟨w0.heap.size, 0, none⟩ v) ⟨w0.heap.size + 1, 0, none⟩ y w0.heap.size (by show w0.heap.size ≠ w0.heap.size + 1; omega)).trans e1
  exact ⟨⟨Below.setCell (Below.setCell h.below (Nat.le_refl _) _) (by show w0.heap.size ≤ w0.heap.size + 1; omega) _, e4, e3⟩, (blk_cell e2 0).trans rfl, blk_frozen e2 0⟩
theorem C_one {W : World} {b : Nat} {c : S101} (h : W.heap[b]? = some (.cells (cellsOf c).toArray 101 (0, 0))) : Kd.C k101 W (some ⟨b, 0, none⟩) 1 [c] := by
  refine ⟨rfl, by omega, fun _ => ⟨_, rfl, fun j p hp => ?_⟩⟩
  cases j with
  | succ j => simp at hp
  | zero =>
    obtain rfl : c = p := by simpa using hp
    refine ⟨cellsOf c, rfl, k101_mk _ _, fun i u hu => ?_⟩
    have e : (⟨b, 0, none⟩ : Addr).add (0 * k101.sz + i) = ⟨b, i, none⟩ := by
      rw [Nat.zero_mul, Nat.zero_add]
      unfold Addr.add
      by_cases hi : i = 0
      · rw [if_pos hi, hi]
      · rw [if_neg hi]; simp
    rw [e, blk_cell h i]
    simpa using hu
theorem RI.app {w0 W w5 : World} {L : List Nat} {xs ys : List S101} {v v4 : Value} (h : RI w0 W L xs v) (hr : k101.R 101 w5 (w0.heap.size + 3) (fun k => w0.heap.size + 3 ≤ k) v4 ys) (hb : Below (w0.heap.size + 3) W w5) :
    (w5.cell? ⟨w0.heap.size, 0, none⟩ = some v ∧ w5.frozen? ⟨w0.heap.size, 0, none⟩ = false) ∧ Aside0 (RI w0 (w5.setCell ⟨w0.heap.size, 0, none⟩ v4) L ys v4) := by
  have f1 := (hb.block w0.heap.size (by omega)).trans h.px.res
  have f2 := (hb.block (w0.heap.size + 1) (by omega)).trans h.px.err
  have hbb : Below w0.heap.size w0 w5 := ⟨hb.os.trans h.px.below.os, hb.tape.trans h.px.below.tape, hb.output.trans h.px.below.output, Nat.le_trans h.px.below.size hb.size, fun k hk => (hb.block k (by omega)).trans (h.px.below.block k hk)⟩
  refine ⟨⟨(blk_cell f1 0).trans rfl, blk_frozen f1 0⟩, ⟨?_, h.ok, ⟨?_, blk_put f1 0 v4 rfl, ?_⟩, Kd.R_far hr (fun k hk => by show k ≠ w0.heap.size; omega) _⟩⟩
  · obtain ⟨A, c, k1, k2, k3, k4, k5⟩ := h.rdr
    exact ⟨A, c, (Below.heap_setCell w5 _ v4 _ (by show w0.heap.size + 2 ≠ w0.heap.size; omega)).trans ((hb.block _ (by omega)).trans k1), k2, k3, k4, Below.setCell hbb (Nat.le_refl _) _⟩
  · exact Below.setCell hbb (Nat.le_refl _) _
  · exact (Below.heap_setCell w5 _ v4 _ (by show w0.heap.size + 1 ≠ w0.heap.size; omega)).trans f2
theorem RI.lt {w0 W : World} {L : List Nat} {xs : List S101} {v : Value} (h : RI w0 W L xs v) : w0.heap.size + 3 ≤ W.heap.size := by have := h.rdr.below; omega
set_option maxHeartbeats 8000000 in
set_option maxRecDepth 100000 in
theorem cells_c {w : World} {A : Option Addr} {c : Nat} {L : List Nat} (hC : Kd.C (Kd.int .u8) w A (Ma.up L).length (Ma.up L)) (hc : (Ma.up L).length ≤ c) (hO : OkB L) :
   Calls Try.prog 68 #[.slice A (Ma.up L).length c] w fun e w' => (∃ xs v, readCellsS L = some xs ∧ e = .returned (.tuple #[v, .int .i64 0]) ∧ k101.R 101 w' w.heap.size (fun _ => True) v xs ∧ Below w.heap.size w w') ∨ (readCellsS L = none ∧ e = .returned (.tuple #[.slice none 0 0, .int .i64 8]) ∧ Below w.heap.size w w') := by
  have HI := Aside0.mk (RI.init hC hc hO)
  have hmf : ∀ (fn : Fn) (first cap : Array Value) (w : World), (Instr.makeFunc fn first cap).run Try.prog w = .ok (.func fn first cap) w := fun _ _ _ _ => rfl
  clear hC hc hO
  generalize hl : Ma.up L = l at *
  clear hl
  go_enter_defers Try.func68, Try.ntmps68
  go_wp2_with (fail)
  with_reducible refine (num_ri HI.out).mono ?_
  rintro e w1 (⟨n, L1, hs1, rfl, HI1⟩ | ⟨hs1, rfl, hx⟩)
  rotate_left
  · go_wp2_with (fail)
    exact bad_end hx.out (fun W hb => .inr ⟨by simp [readCellsS, hs1.out], rfl, hb⟩) rfl rfl
  · have hn := Aside0.mk (numS_lt HI.out.ok hs1.out)
    have hl1 := Aside0.mk (show L1.length ≤ 1000000 from HI1.out.ok.2)
    clear HI
    go_wp2_with (fail)
    go_loopg [5] n (fun kq v5 w' => v5 = .int .u64 (kq : Int) ∧ ∃ Lc xs v, Aside0 (RI w w' Lc xs v) ∧ Aside0 (readS n L1 = (readS kq Lc).map fun p => (xs ++ p.1, p.2)) ∧ Aside0 (kq < 18446744073709551616) ∧ Aside0 (xs.length + Lc.length ≤ 1000000))
    case atStart => exact ⟨rfl, L1, [], _, HI1, ⟨by cases readS n L1 <;> rfl⟩, hn, ⟨by simpa using hl1.out⟩⟩
    case round =>
      obtain ⟨rfl, Lc, xs, v, HR, HE, HB, HX⟩ := hrel
      obtain ⟨A5, c5, rfl⟩ := Kd.R_slice HR.out.row
      cases gk with
      | zero =>
        have c1 : decide ((0 : Int) < ((0 : Nat) : Int)) = false := rfl
        have hr0 := HR.out.rdr.cell
        obtain ⟨A1, c3, hc1, _, _⟩ := hr0
        replace hc1 : World.cell? _ ⟨w.heap.size + 1 + 1, 0, none⟩ = some (Value.slice A1 (Ma.up Lc).length c3) := hc1
        have hul := Ma.up_length Lc
        by_cases hLc : Lc = []
        · have c4 : decide ((0 : Int) < ((Ma.up Lc).length : Int)) = false := decide_eq_false (by rw [hul, hLc]; decide)
          have c5 : decide (0 < (Ma.up Lc).length) = false := decide_eq_false (by rw [hul, hLc]; decide)
          have k1 := HR.out.cell.1
          have k2 := HR.out.cell.2
          have HF := HR.out.px.fin (y := .int .i64 0)
          have k3 := HF.2.1
          have k4 := HF.2.2
          replace HF := Aside0.mk HF.1
          replace hLc := Aside0.mk hLc
          clear hul
          generalize (Ma.up Lc).length = ll at *
          go_wp2_with (fail)
          refine good_end HF.out (.inl ⟨xs, _, ?_, rfl, ?_, HF.out.below⟩) rfl rfl
          · have he := HE.out
            simp only [readS, Option.map_some, List.append_nil] at he
            simp [readCellsS, hs1.out, he, hLc.out]
          · exact Kd.R_mono (Kd.R_far (Kd.R_far HR.out.row (fun k hk => by show k ≠ w.heap.size; omega) _) (fun k hk => by show k ≠ w.heap.size + 1; omega) _) (fun _ _ => trivial) |> fun h => Kd.R_lower h (by omega)
        · have c4 : decide ((0 : Int) < ((Ma.up Lc).length : Int)) = true := decide_eq_true (by rw [hul]; have := List.length_pos_iff.mpr hLc; omega)
          have c5 : decide (0 < (Ma.up Lc).length) = true := decide_eq_true (by rw [hul]; exact List.length_pos_iff.mpr hLc)
          replace hLc := Aside0.mk hLc
          clear hul
          generalize (Ma.up Lc).length = ll at *
          go_wp2_with (fail)
          refine bad_end HR.out.px (fun W hb => .inr ⟨?_, rfl, hb⟩) rfl rfl
          have he := HE.out
          simp only [readS, Option.map_some, List.append_nil] at he
          simp [readCellsS, hs1.out, he, hLc.out]
      | succ m =>
        have c1 : decide ((0 : Int) < ((m + 1 : Nat) : Int)) = true := decide_eq_true (by omega)
        have c2 : IntKind.u64.wrap (((m + 1 : Nat) : Int) - 1) = (m : Int) := by rw [IntKind.wrap_u64]; have := HB.out; omega
        have c3 : IntKind.u64.wrap ((m : Int) + 1 - 1) = (m : Int) := by rw [IntKind.wrap_u64]; have := HB.out; omega
        have c4 : IntKind.u64.wrap (m : Int) = (m : Int) := by rw [IntKind.wrap_u64]; have := HB.out; omega
        have hrd : readS (m + 1) Lc = (cellS Lc).bind fun p => (readS m p.2).bind fun q => some (p.1 :: q.1, q.2) := rfl
        rw [hrd] at HE
        clear hrd
        cases hcs : cellS Lc with
        | none =>
          rw [hcs] at HE
          have HC := Aside0.mk (cell_ri_none HR.out.drew hcs)
          have k1 := HR.out.drew.cell.1
          have k2 := HR.out.drew.cell.2
          have hno : Aside0 (readCellsS L = none) := ⟨by have he := HE.out; simp only [Option.bind_none, Option.map_none] at he; simp [readCellsS, hs1.out, he]⟩
          clear hcs
          go_upto_region 6 with (fail)
          refine wp_region_held_drew (S := fun _ => True) (by kernel_rfl) trivial (fun _ => ?_)
          refine wpAnyH_ready (rs := [0, 1]) (by kernel_rfl) (by simp) ?_
          refine AllReadyH.cons rfl (fun K hK => ?_) (AllReadyH.cons rfl (fun K hK => ?_) AllReadyH.nil)
          · go_simp
            refine hK.out _ _ trivial (fun _ => ?_)
            clear hK K
            try simp only [Act.put, List.setIfInBounds_toArray, List.set_cons_zero, List.set_cons_succ]
            refine wpAnyH_ready (rs := [1]) (by kernel_rfl) (by simp) ?_
            refine AllReadyH.cons rfl (fun K hK => ?_) AllReadyH.nil
            go_simp
            refine hK.out _ _ trivial (fun _ => ?_)
            clear hK K
            try simp only [Act.put, List.setIfInBounds_toArray, List.set_cons_zero, List.set_cons_succ]
            refine wpAnyH_ready (rs := [2]) (by kernel_rfl) (by simp) ?_
            refine AllReadyH.cons rfl (fun K hK => ?_) AllReadyH.nil
            go_simp
            refine HC.out.mono ?_
            rintro e w2 ⟨rfl, hx⟩
            exact bad_end hx.out (fun W hb => .inr ⟨hno.out, rfl, hb⟩) rfl rfl
          · go_simp
            refine hK.out _ _ trivial (fun _ => ?_)
            clear hK K
            try simp only [Act.put, List.setIfInBounds_toArray, List.set_cons_zero, List.set_cons_succ]
            refine wpAnyH_ready (rs := [0, 2]) (by kernel_rfl) (by simp) ?_
            refine AllReadyH.cons rfl (fun K hK => ?_) (AllReadyH.cons rfl (fun K hK => ?_) AllReadyH.nil)
            · go_simp
              refine hK.out _ _ trivial (fun _ => ?_)
              clear hK K
              try simp only [Act.put, List.setIfInBounds_toArray, List.set_cons_zero, List.set_cons_succ]
              refine wpAnyH_ready (rs := [2]) (by kernel_rfl) (by simp) ?_
              refine AllReadyH.cons rfl (fun K hK => ?_) AllReadyH.nil
              go_simp
              refine HC.out.mono ?_
              rintro e w2 ⟨rfl, hx⟩
              exact bad_end hx.out (fun W hb => .inr ⟨hno.out, rfl, hb⟩) rfl rfl
            · go_simp
              refine HC.out.mono ?_
              rintro e w2 ⟨rfl, hx⟩
              exact bad_end hx.out (fun W hb => .inr ⟨hno.out, rfl, hb⟩) rfl rfl
        | some p =>
          obtain ⟨c, L2⟩ := p
          rw [hcs] at HE
          have hp := cellS_prop hcs HR.out.ok
          have HC := Aside0.mk (cell_ri_some HR.out.drew hcs)
          have hS := HR.out.drew.cell
          have hX2 : Aside0 ((xs ++ [c]).length + L2.length ≤ 1000000) := ⟨by have := HX.out; have := hp.2; rw [List.length_append, List.length_singleton]; omega⟩
          have hE2 : Aside0 (readS n L1 = (readS m L2).map fun p => ((xs ++ [c]) ++ p.1, p.2)) := ⟨by rw [HE.out]; simp only [Option.bind_some]; cases readS m L2 <;> simp⟩
          have hlx : Aside0 ((xs.length + 1) * 112 ≤ 140737488355328) := ⟨by have := HX.out; have := hp.2; omega⟩
          clear hcs hp
          go_upto_region 6 with (fail)
          refine wp_region_noPanic ?_
          have hS0 := hS.1
          have hZ0 := hS.2
          clear hS
          go_region_law (first
            | (refine Kd.R_append_rows_step k101 (w0 := w2.alloc (.cells (cellsOf c).toArray 101)) (w.heap.size + 3) (by kernel_rfl) (.tmp 16) (.tmp 19) 85 101 (.agg Z10) 112 rfl Try.underlying85 info101z rfl (by decide) (by omega) _ xs [c] (some ⟨w2.heap.size, 0, none⟩) 1 1 (fun k => w.heap.size + 3 ≤ k) (fun _ => False) rfl rfl hA.out.row hO.out (fun x cs h => by obtain rfl := k101_open h; exact k101_mkM _ _ _ _) (fun _ h => h.elim) (fun k hk => Nat.le_trans hA.out.lt hk) (Below.refl _ _) hA.out.lt hlx.out ?_; intro v4 w5 hR4 hb4 _ _; obtain ⟨A4, c4, rfl⟩ := Kd.R_slice hR4; rw [List.length_append, List.length_singleton] at hR4; have hS3 := (hA.out.app hR4 hb4).1.1; have hZ3 := (hA.out.app hR4 hb4).1.2; have hR5 := (hA.out.app hR4 hb4).2; clear hR4 hb4)
            | (go_simp; go_at_call 94; with_reducible refine HC.out.mono ?_; rintro e w2 ⟨rfl, hR2⟩; have hS1 := hR2.out.cell.1; have hZ1 := hR2.out.cell.2; have hS2 := (hR2.out.alloc (.cells (cellsOf c).toArray 101)).cell.1; have hZ2 := (hR2.out.alloc (.cells (cellsOf c).toArray 101)).cell.2; have hA := Aside0.mk (hR2.out.alloc (.cells (cellsOf c).toArray 101)); have hO := Aside0.mk (C_one (c := c) (blk_new w2 (.cells (cellsOf c).toArray 101))); simp only [cellsOf] at hS2 hZ2 hA hO ⊢))
          all_goals refine NoPanic.normal ?_
          all_goals go_wp2_with (fail)
          all_goals go_roundg m
          all_goals first
            | (have := HB.out; omega)
            | (refine ⟨rfl, L2, xs ++ [c], _, hR5, hE2, ⟨by have := HB.out; omega⟩, hX2⟩)
end Go.Proofs.Ytcopbkdlpfcjpaa.K
namespace Go.Proofs.Ytcopbkdlpfcjpaa.K
open Go.RowKit Go.Proofs.YtcopbkdlpfcjpaaW.PrintWords Go.Proofs.YtcopbkdlpfcjpaaW.PrintLast Go.Proofs.YtcopbkdlpfcjpaaW.PrintMore Go.Proofs.Ytcopbkdlpfcjpaa.B Go.Proofs.Ytcopbkdlpfcjpaa.G
attribute [local go_sem] max2_int min2_int max_two min_two max_three min_three max_four min_four
set_option linter.unusedVariables false
set_option linter.unusedSimpArgs false
open Go.Proofs.Ytcopbkdlpfcjpaa.Ma (getS digN Get_all refGet_all)
theorem OkB.nil : OkB [] := ⟨fun x h => by simp at h, by simp⟩
end Go.Proofs.Ytcopbkdlpfcjpaa.K
namespace Go.Proofs.Ytcopbkdlpfcjpaa.G
open Go.RowKit Go.Proofs.YtcopbkdlpfcjpaaW.PrintWords Go.Proofs.YtcopbkdlpfcjpaaW.PrintLast Go.Proofs.YtcopbkdlpfcjpaaW.PrintMore Go.Proofs.Ytcopbkdlpfcjpaa.B
set_option linter.unusedVariables false
theorem info101 : (Try.prog.info? 101).map (fun i => (i.zero, i.size, i.bytes)) = some (some (.agg #[(.string ⟨#[]⟩), (.string ⟨#[]⟩), (.int .i64 0), (.string ⟨#[]⟩), (.int .i64 0), (.bool false), (.int .i64 0), (.int .i64 0), (.int .i64 0), (.string ⟨#[]⟩)]), 10, 112) := by kernel_rfl
/-- The bytes of a row of numbers. -/
def dn (l : List Int) : List Nat := l.map Int.toNat
theorem dn_up (L : List Nat) : dn (Ma.up L) = L := by
  unfold dn Ma.up
  rw [List.map_map]
  conv => rhs; rw [← List.map_id L]
  exact List.map_congr_left fun a _ => rfl
theorem up_dn {l : List Int} (h : ∀ x ∈ l, 0 ≤ x) : Ma.up (dn l) = l := by
  unfold dn Ma.up
  rw [List.map_map]
  conv => rhs; rw [← List.map_id l]
  exact List.map_congr_left fun a ha => by
    have := h a ha
    show ((a.toNat : Nat) : Int) = a
    omega
/-- What both texts answer: the cells and 0, or none and 8. -/
def readR (L : List Nat) : List S101 × Int := match K.readCellsS L with
  | some xs => (xs, 0)
  | none => ([], 8)
def okRow (l : List Int) : Bool := l.all (fun x => decide (0 ≤ x) && decide (x < 256)) && decide (l.length ≤ 1000000)
theorem okRow_up {l : List Int} (h : okRow l = true) : l = Ma.up (dn l) ∧ K.OkB (dn l) := by
  simp only [okRow, Bool.and_eq_true, List.all_eq_true, decide_eq_true_eq] at h
  obtain ⟨h1, h2⟩ := h
  refine ⟨(up_dn fun x hx => (h1 x hx).1).symm, fun x hx => ?_, by unfold dn; rw [List.length_map]; exact h2⟩
  obtain ⟨y, hy, rfl⟩ := List.mem_map.1 hx
  have := h1 y hy
  omega
theorem up_okRow {L : List Nat} (h : K.OkB L) : okRow (Ma.up L) = true := by
  simp only [okRow, Bool.and_eq_true, List.all_eq_true, decide_eq_true_eq]
  refine ⟨fun x hx => ?_, by rw [Ma.up_length]; exact h.2⟩
  obtain ⟨y, hy, rfl⟩ := List.mem_map.1 hx
  have := h.1 y hy
  show 0 ≤ (y : Int) ∧ (y : Int) < 256
  omega
def codec_ReadCells.f (l : List Int) : Option (List S101 × Int) := if okRow l = true then some (readR (dn l)) else none
theorem ReadCells_up {L : List Nat} (h : K.OkB L) : codec_ReadCells.f (Ma.up L) = some (readR L) := by
  unfold codec_ReadCells.f
  rw [if_pos (up_okRow h), dn_up]
theorem codec_ReadCells.calls (A0 : Option Addr) (c0 : Nat) (l0 : List Int) (r1 : List S101) (r2 : Int) (w : World) (hr0 : Kd.C (Kd.int .u8) w A0 l0.length l0) (hc0 : l0.length ≤ c0) (h : codec_ReadCells.f l0 = some (r1, r2)) :
    Calls Try.prog 68 #[.slice A0 l0.length c0] w fun e w' => ∃ v0_ : Value, e = .returned (.tuple #[v0_, .int .i64 r2]) ∧ Kd.R k101 101 w' w.heap.size (fun _ => True) v0_ r1 ∧ Below w.heap.size w w' := by
  unfold codec_ReadCells.f at h
  split at h
  · next hk =>
    obtain ⟨h1, h2⟩ := okRow_up hk
    generalize hL : dn l0 = L at h1 h2 h
    subst h1
    refine (K.cells_c hr0 hc0 h2).mono fun e w' k => ?_
    have h := Option.some.inj h
    unfold readR at h
    rcases k with ⟨xs, v, e1, rfl, hR, hB⟩ | ⟨e1, rfl, hB⟩
    · rw [e1] at h
      obtain ⟨rfl, rfl⟩ := Prod.mk.inj h
      exact ⟨v, rfl, hR, hB⟩
    · rw [e1] at h
      obtain ⟨rfl, rfl⟩ := Prod.mk.inj h
      exact ⟨_, rfl, Kd.R_nil _ _ _ _ _, hB⟩
  · cases h
end Go.Proofs.Ytcopbkdlpfcjpaa.G
namespace Go.Proofs.Ytcopbkdlpfcjpaa.G
open Go.RowKit Go.Proofs.YtcopbkdlpfcjpaaW.PrintWords Go.Proofs.YtcopbkdlpfcjpaaW.PrintLast Go.Proofs.YtcopbkdlpfcjpaaW.PrintMore Go.Proofs.Ytcopbkdlpfcjpaa.B
set_option linter.unusedVariables false
theorem box_fill {W : World} {g : Nat} {t : TypeId} {z0 z1 z2 z3 z4 z5 z6 z7 z8 z9 : Value} (h : W.heap[g]? = some (.cells #[z0, z1, z2, z3, z4, z5, z6, z7, z8, z9] t (0, 0))) (v0 v1 v2 v3 v4 v5 v6 v7 v8 v9 : Value) :
    ((((((((((W.setCell ⟨g, 0, none⟩ v0).setCell ⟨g, 1, none⟩ v1).setCell ⟨g, 2, none⟩ v2).setCell ⟨g, 3, none⟩ v3).setCell ⟨g, 4, none⟩ v4).setCell ⟨g, 5, none⟩ v5).setCell ⟨g, 6, none⟩ v6).setCell ⟨g, 7, none⟩ v7).setCell ⟨g, 8, none⟩ v8).setCell ⟨g, 9, none⟩ v9).heap[g]? = some (.cells #[v0, v1, v2, v3, v4, v5, v6, v7, v8, v9] t (0, 0)) := by
  refine blk_put (cs := #[v0, v1, v2, v3, v4, v5, v6, v7, v8, z9]) ?_ 9 _ rfl
  refine blk_put (cs := #[v0, v1, v2, v3, v4, v5, v6, v7, z8, z9]) ?_ 8 _ rfl
  refine blk_put (cs := #[v0, v1, v2, v3, v4, v5, v6, z7, z8, z9]) ?_ 7 _ rfl
  refine blk_put (cs := #[v0, v1, v2, v3, v4, v5, z6, z7, z8, z9]) ?_ 6 _ rfl
  refine blk_put (cs := #[v0, v1, v2, v3, v4, z5, z6, z7, z8, z9]) ?_ 5 _ rfl
  refine blk_put (cs := #[v0, v1, v2, v3, z4, z5, z6, z7, z8, z9]) ?_ 4 _ rfl
  refine blk_put (cs := #[v0, v1, v2, z3, z4, z5, z6, z7, z8, z9]) ?_ 3 _ rfl
  refine blk_put (cs := #[v0, v1, z2, z3, z4, z5, z6, z7, z8, z9]) ?_ 2 _ rfl
  refine blk_put (cs := #[v0, z1, z2, z3, z4, z5, z6, z7, z8, z9]) ?_ 1 _ rfl
  refine blk_put (cs := #[z0, z1, z2, z3, z4, z5, z6, z7, z8, z9]) ?_ 0 _ rfl
  exact h
theorem below_fill {w W : World} {g : Nat} (h : Below w.heap.size w W) (hg : w.heap.size ≤ g) (v0 v1 v2 v3 v4 v5 v6 v7 v8 v9 : Value) : Below w.heap.size w ((((((((((W.setCell ⟨g, 0, none⟩ v0).setCell ⟨g, 1, none⟩ v1).setCell ⟨g, 2, none⟩ v2).setCell ⟨g, 3, none⟩ v3).setCell ⟨g, 4, none⟩ v4).setCell ⟨g, 5, none⟩ v5).setCell ⟨g, 6, none⟩ v6).setCell ⟨g, 7, none⟩ v7).setCell ⟨g, 8, none⟩ v8).setCell ⟨g, 9, none⟩ v9) := below_set (below_set (below_set (below_set (below_set (below_set (below_set (below_set (below_set (below_set (h) hg) hg) hg) hg) hg) hg) hg) hg) hg) hg
theorem row_fill {α : Type} {K : Kd α} {n base : Nat} {W : World} {g : Nat} {v : Value} {xs : List α} (h : Kd.R K n W base (fun k => k ≠ g) v xs) (v0 v1 v2 v3 v4 v5 v6 v7 v8 v9 : Value) : Kd.R K n ((((((((((W.setCell ⟨g, 0, none⟩ v0).setCell ⟨g, 1, none⟩ v1).setCell ⟨g, 2, none⟩ v2).setCell ⟨g, 3, none⟩ v3).setCell ⟨g, 4, none⟩ v4).setCell ⟨g, 5, none⟩ v5).setCell ⟨g, 6, none⟩ v6).setCell ⟨g, 7, none⟩ v7).setCell ⟨g, 8, none⟩ v8).setCell ⟨g, 9, none⟩ v9) base (fun k => k ≠ g) v xs := Kd.R_far (p := ⟨g, 9, none⟩) (Kd.R_far (p := ⟨g, 8, none⟩) (Kd.R_far (p := ⟨g, 7, none⟩) (Kd.R_far (p := ⟨g, 6, none⟩) (Kd.R_far (p := ⟨g, 5, none⟩) (Kd.R_far (p := ⟨g, 4, none⟩) (Kd.R_far (p := ⟨g, 3, none⟩) (Kd.R_far (p := ⟨g, 2, none⟩) (Kd.R_far (p := ⟨g, 1, none⟩) (Kd.R_far (p := ⟨g, 0, none⟩) (h) (fun _ hk => hk) _) (fun _ hk => hk) _) (fun _ hk => hk) _) (fun _ hk => hk) _) (fun _ hk => hk) _) (fun _ hk => hk) _) (fun _ hk => hk) _) (fun _ hk => hk) _) (fun _ hk => hk) _) (fun _ hk => hk) _
theorem box_put3 {W : World} {g : Nat} {t : TypeId} {v0 v1 v2 v3 v4 v5 v6 v7 v8 v9 : Value} (h : W.heap[g]? = some (.cells #[v0, v1, v2, v3, v4, v5, v6, v7, v8, v9] t (0, 0))) :
    (((W.setCell ⟨g, 7, none⟩ (.int .i64 0)).setCell ⟨g, 8, none⟩ (.int .i64 0)).setCell ⟨g, 9, none⟩ (.string (⟨#[]⟩ : ByteArray))).heap[g]? = some (.cells #[v0, v1, v2, v3, v4, v5, v6, .int .i64 0, .int .i64 0, .string (⟨#[]⟩ : ByteArray)] t (0, 0)) := by
  refine blk_put (cs := #[v0, v1, v2, v3, v4, v5, v6, .int .i64 0, .int .i64 0, v9]) ?_ 9 _ rfl
  refine blk_put (cs := #[v0, v1, v2, v3, v4, v5, v6, .int .i64 0, v8, v9]) ?_ 8 _ rfl
  exact blk_put h 7 _ rfl
theorem below_put3 {w W : World} {g : Nat} (h : Below w.heap.size w W) (hg : w.heap.size ≤ g) : Below w.heap.size w (((W.setCell ⟨g, 7, none⟩ (.int .i64 0)).setCell ⟨g, 8, none⟩ (.int .i64 0)).setCell ⟨g, 9, none⟩ (.string (⟨#[]⟩ : ByteArray))) := below_set (below_set (below_set h hg) hg) hg
theorem row_put3 {α : Type} {K : Kd α} {n base : Nat} {W : World} {g : Nat} {v : Value} {xs : List α} (h : Kd.R K n W base (fun k => k ≠ g) v xs) : Kd.R K n (((W.setCell ⟨g, 7, none⟩ (.int .i64 0)).setCell ⟨g, 8, none⟩ (.int .i64 0)).setCell ⟨g, 9, none⟩ (.string (⟨#[]⟩ : ByteArray))) base (fun k => k ≠ g) v xs := Kd.R_far (p := ⟨g, 9, none⟩) (Kd.R_far (p := ⟨g, 8, none⟩) (Kd.R_far (p := ⟨g, 7, none⟩) (h) (fun _ hk => hk) _) (fun _ hk => hk) _) (fun _ hk => hk) _
theorem box_put1 {W : World} {g : Nat} {t : TypeId} {v0 v1 v2 v3 v4 v5 v6 v7 v8 v9 : Value} (h : W.heap[g]? = some (.cells #[v0, v1, v2, v3, v4, v5, v6, v7, v8, v9] t (0, 0))) :
    (W.setCell ⟨g, 6, none⟩ (.int .i64 0)).heap[g]? = some (.cells #[v0, v1, v2, v3, v4, v5, .int .i64 0, v7, v8, v9] t (0, 0)) := blk_put h 6 _ rfl
theorem below_put1 {w W : World} {g : Nat} (h : Below w.heap.size w W) (hg : w.heap.size ≤ g) : Below w.heap.size w (W.setCell ⟨g, 6, none⟩ (.int .i64 0)) := below_set h hg
theorem row_put1 {α : Type} {K : Kd α} {n base : Nat} {W : World} {g : Nat} {v : Value} {xs : List α} (h : Kd.R K n W base (fun k => k ≠ g) v xs) : Kd.R K n (W.setCell ⟨g, 6, none⟩ (.int .i64 0)) base (fun k => k ≠ g) v xs := Kd.R_far (p := ⟨g, 6, none⟩) h (fun _ hk => hk) _
end Go.Proofs.Ytcopbkdlpfcjpaa.G
