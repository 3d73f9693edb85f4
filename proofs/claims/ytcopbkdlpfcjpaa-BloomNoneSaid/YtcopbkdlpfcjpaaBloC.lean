/- The bloom layer by hand: Places. -/
import Derived.Test.YtcopbkdlpfcjpaaBloB
namespace Go.Proofs.Ytcopbkdlpfcjpaa.L
open Go.RowKit Go.Proofs.YtcopbkdlpfcjpaaW.PrintWords Go.Proofs.YtcopbkdlpfcjpaaW.PrintLast Go.Proofs.YtcopbkdlpfcjpaaW.PrintMore Go.Proofs.Ytcopbkdlpfcjpaa.B Go.Proofs.Ytcopbkdlpfcjpaa.M
attribute [local go_sem] max2_int min2_int max_two min_two max_three min_three max_four min_four
set_option linter.unusedVariables false
set_option linter.unusedSimpArgs false
/-- What is read below a mark stays. -/
theorem bcell {B : Nat} {w w1 : World} (hb : Below B w w1) {a : Addr} {v : Value} (h : w.cell? a = some v) (hlt : a.block < B) : w1.cell? a = some v := by
  have := hb.block a.block hlt
  simpa [World.cell?, this] using h
theorem cell_new (w : World) (v : Value) (t : TypeId) : (w.alloc (.cells #[v] t)).cell? ⟨w.heap.size, 0, none⟩ = some v := (blk_cell (heap_alloc_new w (.cells #[v] t)) 0).trans rfl
theorem size_alloc (w : World) (o : Obj) : (w.alloc o).heap.size = w.heap.size + 1 := by simp
theorem plN_set (h g : Int) (n i K : Nat) (hi : i < K) : (plN h g n i ++ List.replicate (K - i) 0).set i (plc h g n (i : Int)) = plN h g n (i + 1) ++ List.replicate (K - (i + 1)) 0 := by
  rw [List.set_append_right _ _ (by rw [plN_len]; omega), plN_len, Nat.sub_self, show K - i = (K - (i + 1)) + 1 by omega, List.replicate_succ, List.set_cons_zero, plN, List.append_assoc]
  rfl
set_option maxHeartbeats 8000000 in
set_option maxRecDepth 100000 in
theorem Places_c {w : World} {lo f : Nat} {k : Int} {bs : List Int} (hF : Fil 83 w lo f k bs) (A : Option Addr) (c : Nat) (key : List Int) (hC : Kd.C (Kd.int .u8) w A key.length key) (hc : key.length ≤ c) (hk0 : 0 < k) (hk : k ≤ 16) (hn0 : 0 < bs.length) (hn : bs.length ≤ 1000000) :
    Calls Try.prog 43 #[.pointer (some ⟨f, 0, none⟩), .slice A key.length c] w fun e w' => ∃ v, e = .returned v ∧ (Kd.int .i64).R 3 w' w.heap.size (fun _ => True) v (plS k bs.length key) ∧ Below w.heap.size w w' := by
  obtain ⟨K, rfl⟩ := Int.eq_ofNat_of_zero_le (show 0 ≤ k by omega)
  have hmf : ∀ (fn : Fn) (first cap : Array Value) (w : World), (Instr.makeFunc fn first cap).run Try.prog w = .ok (.func fn first cap) w := fun _ _ _ _ => rfl
  have hpl : plS (K : Int) bs.length key = plN (sumS key 0).1 (sumS key 0).2 bs.length K := rfl
  rw [hpl]
  clear hpl
  have hmade := made_c (hF.below (below_alloc (Below.refl _ _) (.cells #[.pointer (some ⟨f, 0, none⟩)] 41)))
  rw [decide_eq_true hk0] at hmade
  have hsum := sum_c A c key 0 _ (Kd.C_alloc hC (.cells #[.pointer (some ⟨f, 0, none⟩)] 41)) hc
  generalize sumS key 0 = p at *
  obtain ⟨h, g⟩ := p
  have HM := Aside0.mk hmade
  have HS := Aside0.mk hsum
  have HF := Aside0.mk hF
  have HN := Aside0.mk (And.intro hk0 (And.intro hk (And.intro hn0 hn)))
  clear hmade hsum hF hC hc hk hn0 hn hk0
  go_enter Try.func43, Try.ntmps43
  go_upto_region 4 with (first | (go_at_call 77; refine HM.out.mono ?_; rintro e w' ⟨rfl, rfl⟩) | (go_at_call 57; refine HS.out.mono ?_; rintro e w1 ⟨rfl, hb1⟩))
  clear HM HS
  obtain ⟨W, hW⟩ : ∃ W, W = (w1.alloc (Obj.cells #[Value.int IntKind.u64 h] 22)).alloc (Obj.cells #[Value.int IntKind.u64 g] 22) := ⟨_, rfl⟩
  have hs1 : w.heap.size + 1 ≤ w1.heap.size := by have := hb1.size; simpa using this
  have hc5 : W.cell? ⟨w1.heap.size, 0, none⟩ = some (.int .u64 h) := by rw [hW, World.cell?_alloc_lt _ _ _ (by simp)]; exact cell_new w1 _ _
  have hc6 : W.cell? ⟨w1.heap.size + 1, 0, none⟩ = some (.int .u64 g) := by rw [hW]; have := cell_new (w1.alloc (Obj.cells #[Value.int IntKind.u64 h] 22)) (Value.int IntKind.u64 g) 22; rw [size_alloc] at this; exact this
  have hb0 : Below w.heap.size w w1 := (below_alloc (Below.refl _ _) _).trans (hb1.mono (by simp))
  have hbW : Below w.heap.size w W := by rw [hW]; exact below_alloc (below_alloc hb0 _) _
  have hbW1 : Below w1.heap.size w1 W := by rw [hW]; exact below_alloc (below_alloc (Below.refl _ _) _) _
  have hc2 : W.cell? ⟨w.heap.size, 0, none⟩ = some (.pointer (some ⟨f, 0, none⟩)) := by
    refine bcell hbW1 (bcell hb1 ?_ (by simp)) hs1
    exact cell_new w _ _
  have hsW : w1.heap.size + 2 = W.heap.size := by rw [hW]; simp
  have hFW := HF.out.below hbW
  rw [← hW]
  clear hW hb1 hb0 hbW1 HF
  have hf0 := hFW.cell0
  obtain ⟨A1, c1, hf1⟩ := hFW.cell1
  have HB := Aside0.mk hbW
  have hlt := hFW.lt
  have HL := Aside0.mk (And.intro hs1 (And.intro hsW hlt))
  clear hbW hFW hs1 hsW hlt
  go_upto_region 6 with ((with_reducible refine gate_dst (N := 23) rfl ?_); refine Kd.R_make (Kd.int .i64) W.heap.size 3 rfl (N := 23) rfl 50 _ _ rfl (K : Int) rfl rfl Try.underlying50 (.int .i64 0) 8 info3 rfl (by decide) (by omega) 0 (ok := fun _ => True) (okp := fun _ => True) rfl (fun _ hk => hk) trivial (by omega) (by have := HN.out; omega) (Below.refl _ _) (Nat.le_refl _) ?_; intro v w2 hr hb hg hn; obtain ⟨b, cap, rfl, hr1⟩ := Kd.R_form hr (by rw [List.length_replicate]; have := HN.out; omega); replace hr := Aside0.mk hr; replace hb := Aside0.mk hb; clear hg hn)
  rw [List.length_replicate, Int.toNat_natCast] at hr
  have HR1 := Aside0.mk hr1
  clear hr1
  have HCW := Aside0.mk (And.intro hc2 (And.intro hc5 (And.intro hc6 (And.intro hf0 hf1))))
  have HKi : (K : Int) ≤ 16 := HN.out.2.1
  have hc2' := bcell hb.out hc2 (by have := HL.out; show w.heap.size < W.heap.size; omega)
  have hf0' := bcell hb.out hf0 (by have := HL.out; show f < W.heap.size; omega)
  clear hc2 hc5 hc6 hf0 hf1
  go_wp2_with (fail)
  clear hc2' hf0'
  go_loopg [28] K (fun kq v28 w' => ∃ (i : Nat), v28 = .int .i64 (i : Int) ∧ Aside0 (kq + i = K) ∧ Aside0 ((Kd.int .i64).R 3 w' W.heap.size (fun _ => True) (.slice (some ⟨b, 0, none⟩) K cap) (plN h g bs.length i ++ List.replicate (K - i) 0)) ∧ Aside0 (Below W.heap.size W w'))
  case atStart => exact ⟨0, rfl, ⟨by omega⟩, by simpa [plN] using hr, hb⟩
  case round =>
    obtain ⟨i, rfl, HK, HR, HB2⟩ := hrel
    by_cases hi : (i : Int) < (K : Int)
    · have cb : decide ((i : Int) < (K : Int)) = true := decide_eq_true hi
      have hW := HCW.out
      have hc2 := bcell HB2.out hW.1 (by have := HL.out; show w.heap.size < W.heap.size; omega)
      have hc5 := bcell HB2.out hW.2.1 (by have := HL.out; show w1.heap.size < W.heap.size; omega)
      have hc6 := bcell HB2.out hW.2.2.1 (by have := HL.out; show w1.heap.size + 1 < W.heap.size; omega)
      have hf1 := bcell HB2.out hW.2.2.2.2 (by have := HL.out; show f < W.heap.size; omega)
      have HP := Aside0.mk (place_c h g (i : Int) bs.length c1 f A1 _ _ _ _ hc5 hc6 hc2 hf1 HN.out.2.2.1 HN.out.2.2.2)
      have HI := Aside0.mk hi
      have hi0 : (0 : Int) ≤ (i : Int) := by omega
      have hit : (i : Int).toNat = i := Int.toNat_natCast i
      have hcell := Kd.R_celln (0 : Int) HR.out (i : Int) hi0 hi
      have hfr := hcell.2
      have hce := hcell.1
      rw [hit] at hfr hce
      have hwr : wrap64 ((i : Int) + 1) = ((i + 1 : Nat) : Int) := by unfold wrap64; omega
      clear hW hc2 hc5 hc6 hf1 hcell
      go_wp2_with (go_at_call 79; refine HP.out.mono ?_; rintro e w3 ⟨rfl, ⟨nd, rfl⟩⟩)
      go_roundg (gk - 1)
      case measure => have := HK.out; have := HI.out; omega
      case rel =>
        have hp := Kd.R_putg (Kd.R_drewN HR.out nd) (i : Int) (plc h g bs.length (i : Int))
        rw [hit, plN_set _ _ _ _ _ (by have := HI.out; omega)] at hp
        refine ⟨i + 1, (by first | rfl | simp), ⟨by have := HK.out; have := HI.out; omega⟩, ⟨hp.1⟩, ⟨?_⟩⟩
        exact Below.grown (pw_below_drewN HB2.out nd) hp.2 HB2.out.size (fun k hk => by obtain rfl := Option.some.inj hk; exact HR1.out.1)
    · have cb : decide ((i : Int) < (K : Int)) = false := decide_eq_false hi
      have hiK : i = K := by have := HK.out; omega
      subst hiK
      clear hi
      go_wp2_with (fail)
      go_ret
      refine ⟨_, rfl, ?_, HB.out.trans (HB2.out.mono (by have := HL.out; omega))⟩
      have := Kd.R_lower HR.out (base' := w.heap.size) (by have := HL.out; omega)
      rw [Nat.sub_self, List.replicate_zero, List.append_nil] at this
      exact this

/-- A key whose hash the document tells, too. -/
def OkKey (key : List Int) : Prop := ∃ k, skerryref02_Sum.f k key 0 = some (sumS key 0)
set_option maxHeartbeats 8000000 in
set_option maxRecDepth 100000 in
theorem PlacesR_c {w : World} {lo f : Nat} {k : Int} {bs : List Int} (hF : Fil 80 w lo f k bs) (A : Option Addr) (c : Nat) (key : List Int) (hC : Kd.C (Kd.int .u8) w A key.length key) (hc : key.length ≤ c) (hS : OkKey key) (hk0 : 0 < k) (hk : k ≤ 16) (hn0 : 0 < bs.length) (hn : bs.length ≤ 1000000) :
    Calls Try.prog 44 #[.pointer (some ⟨f, 0, none⟩), .slice A key.length c] w fun e w' => ∃ v, e = .returned v ∧ (Kd.int .i64).R 3 w' w.heap.size (fun _ => True) v (plS k bs.length key) ∧ Below w.heap.size w w' := by
  obtain ⟨K, rfl⟩ := Int.eq_ofNat_of_zero_le (show 0 ≤ k by omega)
  obtain ⟨q, hq⟩ := hS
  have hpl : plS (K : Int) bs.length key = plN (sumS key 0).1 (sumS key 0).2 bs.length K := rfl
  rw [hpl]
  clear hpl
  generalize sumS key 0 = p at *
  obtain ⟨h, g⟩ := p
  have HS := Aside0.mk (skerryref02_Sum.calls q A c key 0 h g w hC hc hq)
  have c0 := div_ne bs.length hn0 hn
  have HF := Aside0.mk hF
  have HN := Aside0.mk (And.intro hk0 (And.intro hk (And.intro hn0 hn)))
  have HKi : (K : Int) ≤ 16 := hk
  have hplc : ∀ i : Int, wrap64 (Int.tmod (IntKind.u64.wrap (h + IntKind.u64.wrap (IntKind.u64.wrap i * g))) (IntKind.u64.wrap (wrap64 (8 * (bs.length : Int))))) = plc h g bs.length i := fun _ => rfl
  have c1 := beq_eq_false_iff_ne.mp c0
  clear hF hC hc hq hk hn0 hn hk0
  generalize hD : IntKind.u64.wrap (wrap64 (8 * (bs.length : Int))) = D at *
  go_enter Try.func44, Try.ntmps44
  go_wp2_with (go_at_call 58; refine HS.out.mono ?_; rintro e w1 ⟨rfl, ⟨nd, rfl⟩⟩)
  go_loopg [7, 8] K (fun kq v7 v8 w' => ∃ (i : Nat), v8 = .int .i64 (i : Int) ∧ Aside0 (kq + i = K) ∧ Aside0 ((Kd.int .i64).R 3 w' w.heap.size (fun _ => True) v7 (plN h g bs.length i)) ∧ Aside0 (Below w.heap.size w w'))
  case atStart => exact ⟨0, rfl, ⟨by omega⟩, ⟨Kd.R_nil _ _ _ _ _⟩, ⟨pw_below_drewN (Below.refl _ _) nd⟩⟩
  case round =>
    obtain ⟨i, rfl, HK, HR, HB2⟩ := hrel
    have hFr := HF.out.below HB2.out
    have hf0 := hFr.cell0
    obtain ⟨A1, c1, hf1⟩ := hFr.cell1
    clear hFr
    by_cases hi : (i : Int) < (K : Int)
    · have cb : decide ((i : Int) < (K : Int)) = true := decide_eq_true hi
      have HI := Aside0.mk hi
      have hwr : wrap64 ((i : Int) + 1) = ((i + 1 : Nat) : Int) := by unfold wrap64; omega
      obtain ⟨pv, hpv⟩ : ∃ x, x = plc h g bs.length (i : Int) := ⟨_, rfl⟩
      have hpi := hplc (i : Int)
      rw [← hpv, show IntKind.u64.wrap (i : Int) = (i : Int) by rw [IntKind.wrap_u64]; omega] at hpi
      replace hpv := Aside0.mk hpv
      clear hplc
      go_wp2_with ((with_reducible refine gate_builtin (b := .append) (xs := #[.tmp 22, .tmp 38]) rfl ?_); at_builtin; refine Kd.R_append (Kd.int .i64) w.heap.size rfl (.tmp 22) (.tmp 38) 50 3 (.int .i64 0) 8 rfl Try.underlying50 info3 rfl (by decide) (by omega) u7 (plN h g bs.length i) pv [.int .i64 pv] (fun _ => True) (fun _ => False) rfl rfl ?aP (fun _ hk => hk.elim) ?aF ?aO (Below.refl _ _) ?aS ?aL ?_; (case aP => exact rfl); (case aF => exact (fun _ _ => trivial)); (case aO => exact HR.out); (case aS => exact HB2.out.size); (case aL => rw [plN_len]; omega); intro v1 w2 ho hb hg hat; replace ho := Aside0.mk ho; replace hb := Aside0.mk hb; clear hg hat)
      go_roundg (gk - 1)
      case measure => have := HK.out; have := HI.out; omega
      case rel =>
        refine ⟨i + 1, (by first | rfl | simp), ⟨by have := HK.out; have := HI.out; omega⟩, ⟨?_⟩, ⟨HB2.out.trans hb.out⟩⟩
        rw [plN, ← hpv.out]
        exact ho.out
    · have cb : decide ((i : Int) < (K : Int)) = false := decide_eq_false hi
      have hiK : i = K := by have := HK.out; omega
      subst hiK
      clear hi
      go_wp2_with (fail)
      go_ret
      exact ⟨_, rfl, HR.out, HB2.out⟩
end Go.Proofs.Ytcopbkdlpfcjpaa.L
