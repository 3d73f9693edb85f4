/- The bloom layer by hand: May, Size. -/
import Derived.Test.YtcopbkdlpfcjpaaBloC
namespace Go.Proofs.Ytcopbkdlpfcjpaa.L
open Go.RowKit Go.Proofs.YtcopbkdlpfcjpaaW.PrintWords Go.Proofs.YtcopbkdlpfcjpaaW.PrintLast Go.Proofs.YtcopbkdlpfcjpaaW.PrintMore Go.Proofs.Ytcopbkdlpfcjpaa.B Go.Proofs.Ytcopbkdlpfcjpaa.M
attribute [local go_sem] max2_int min2_int max_two min_two max_three min_three max_four min_four
set_option linter.unusedVariables false
set_option linter.unusedSimpArgs false
/-- A bit of a filter: is it not set? -/
def unset (bs : List Int) (p : Int) : Bool := (Go.bits .and .u8 (shr .u8 (rd bs (p / 8)) (p % 8)) 1) == 0
/-- A filter's row, where it has bits. -/
theorem Fil.row {T : TypeId} {w : World} {lo g : Nat} {k : Int} {bs : List Int} (h : Fil T w lo g k bs) (hn : 0 < bs.length) : ∃ b c, w.cell? ⟨g, 1, none⟩ = some (.slice (some ⟨b, 0, none⟩) bs.length c) ∧ lo ≤ b ∧ b < g ∧ (Kd.int .u8).R 5 w lo (fun j => j < g) (.slice (some ⟨b, 0, none⟩) bs.length c) bs := by
  obtain ⟨h1, v, h2, h3⟩ := h
  obtain ⟨b, c, rfl, h4, h5, cells, h6⟩ := Kd.R_form h3 hn
  exact ⟨b, c, (blk_cell h2 1).trans rfl, h4, h3.1 b rfl, h3⟩
set_option maxHeartbeats 8000000 in
set_option maxRecDepth 100000 in
theorem unset_c {w : World} {lo f : Nat} {k : Int} {bs : List Int} (hF : Fil 83 w lo f k bs) (p1 : Addr) (p : Int) (hc : w.cell? p1 = some (.pointer (some ⟨f, 0, none⟩))) (h0 : 0 ≤ p) (h1 : p < 8 * bs.length) (hn : bs.length ≤ 1000000) :
    Calls Try.prog 76 #[.int .i64 p, .pointer (some p1)] w fun e w' => e = .returned (.bool (unset bs p)) ∧ w' = w := by
  obtain ⟨b, c, hc1, _, _, hR⟩ := hF.row (by omega)
  have hr := (Kd.R_celln (0 : Int) hR (p / 8) (by omega) (by omega)).1
  have hq : Int.tdiv p 8 = p / 8 := Int.tdiv_eq_ediv_of_nonneg h0
  have hm : Int.tmod p 8 = p % 8 := Int.tmod_eq_emod_of_nonneg h0
  have hw : wrap64 (p / 8) = p / 8 := by unfold wrap64; omega
  have hx : rdOf 0 bs (p / 8) = rd bs (p / 8) := rfl
  have hu : unset bs p = ((Go.bits .and .u8 (shr .u8 (rd bs (p / 8)) (p % 8)) 1) == 0) := rfl
  rw [hx] at hr
  rw [hu]
  generalize rd bs (p / 8) = x at *
  have hs : shr .u8 x (p % 8) = x / 2 ^ (p % 8).toNat := (shr_small rfl (by have : IntKind.bits .u8 = 8 := rfl; omega)).symm
  rw [hs]
  have hq0 : 0 ≤ p / 8 := by omega
  have hq1 : p / 8 < (bs.length : Int) := by omega
  have hr0 : 0 ≤ p % 8 := by omega
  have hr1 : p % 8 < 8 := by omega
  generalize p / 8 = q at *
  generalize p % 8 = r at *
  have hqt : q.toNat < bs.length := by omega
  clear hF hR hx hs hu h0 h1
  go_enter Try.func76, Try.ntmps76
  go_wp2
  go_ret
  exact ⟨rfl, rfl⟩
theorem take_any (f : Int → Bool) (l : List Int) (i : Nat) (hi : i < l.length) : (l.take (i + 1)).any f = ((l.take i).any f || f (rd l (i : Int))) := by
  have e : rd l (i : Int) = l[i] := by
    unfold rd
    rw [Int.toNat_natCast, List.getD_eq_getElem?_getD, List.getElem?_eq_getElem hi]
    rfl
  rw [List.take_succ_eq_append_getElem hi, List.any_append, e]
  simp
theorem rd_mem (l : List Int) (i : Nat) (hi : i < l.length) : rd l (i : Int) ∈ l := by
  have e : rd l (i : Int) = l[i] := by
    unfold rd
    rw [Int.toNat_natCast, List.getD_eq_getElem?_getD, List.getElem?_eq_getElem hi]
    rfl
  rw [e]
  exact List.getElem_mem hi
set_option maxHeartbeats 8000000 in
set_option maxRecDepth 100000 in
theorem index_c {w : World} {lo f : Nat} {k : Int} {bs : List Int} (hF : Fil 83 w lo f k bs) (p1 : Addr) (hc : w.cell? p1 = some (.pointer (some ⟨f, 0, none⟩))) (hn : bs.length ≤ 1000000) (A : Option Addr) (c : Nat) (l : List Int) (hC : Kd.C (Kd.int .i64) w A l.length l) (hlc : l.length ≤ c) (hl : ∀ p ∈ l, 0 ≤ p ∧ p < 8 * bs.length) (hl2 : l.length ≤ 1000) :
    Calls Try.prog 97 #[.slice A l.length c, .func (.func 76) #[] #[.pointer (some p1)]] w fun e w' => ∃ i : Int, e = .returned (.int .i64 i) ∧ decide (0 ≤ i) = l.any (unset bs) ∧ w' = w := by
  have HF := Aside0.mk hF
  have HC := Aside0.mk hC
  have HL := Aside0.mk hl
  have HP := Aside0.mk hc
  have HLC := Aside0.mk hlc
  clear hF hC hl hc hlc
  go_enter Try.func97, Try.ntmps97
  go_wp2_with (fail)
  go_loopg [8] l.length (fun kq v8 w' => ∃ (i : Nat), v8 = .int .i64 (i : Int) ∧ Aside0 (kq + i = l.length) ∧ Aside0 ((l.take i).any (unset bs) = false) ∧ w' = w)
  case atStart => exact ⟨0, rfl, ⟨by omega⟩, ⟨by simp⟩, rfl⟩
  case round =>
    obtain ⟨i, rfl, HK, HA, rfl⟩ := hrel
    by_cases hi : (i : Int) < (l.length : Int)
    · have cb : decide ((i : Int) < (l.length : Int)) = true := decide_eq_true hi
      have cn : i < l.length := by omega
      obtain ⟨ad, rfl, hx⟩ := Kd.at_int HC.out (i : Int) (by omega) hi
      have hp := HL.out _ (rd_mem l i cn)
      have HU := Aside0.mk (unset_c HF.out p1 (rd l (i : Int)) HP.out hp.1 hp.2 hn)
      have hta := Aside0.mk (take_any (unset bs) l i cn)
      have hwr : wrap64 ((i : Int) + 1) = ((i + 1 : Nat) : Int) := by unfold wrap64; omega
      have HI := Aside0.mk hi
      rw [Int.toNat_natCast] at hx
      obtain ⟨x, hx0⟩ : ∃ x, rd l (i : Int) = x := ⟨_, rfl⟩
      rw [hx0] at hx HU hta
      clear hp hx0
      by_cases hu : unset bs x = true
      · rw [hu] at HU
        go_wp2_with (go_at_call 76; refine HU.out.mono ?_; rintro e w3 ⟨rfl, rfl⟩)
        go_ret
        refine ⟨_, rfl, ?_, rfl⟩
        rw [decide_eq_true (show (0 : Int) ≤ (i : Int) by omega)]
        have h1 := hta.out
        rw [hu, Bool.or_true] at h1
        symm
        rw [← List.take_append_drop (i + 1) l, List.any_append, h1, Bool.true_or]
      · have hu : unset bs x = false := by simpa using hu
        rw [hu] at HU
        go_wp2_with (go_at_call 76; refine HU.out.mono ?_; rintro e w3 ⟨rfl, rfl⟩)
        go_roundg (gk - 1)
        case measure => have := HK.out; have := HI.out; omega
        case rel =>
          refine ⟨i + 1, (by first | rfl | simp), ⟨by have := HK.out; have := HI.out; omega⟩, ⟨?_⟩, rfl⟩
          rw [hta.out, HA.out, hu]
          rfl
    · have cb : decide ((i : Int) < (l.length : Int)) = false := decide_eq_false hi
      have hiK : l.length ≤ i := by omega
      clear hi
      go_wp2_with (fail)
      go_ret
      refine ⟨_, rfl, ?_, rfl⟩
      have h1 := HA.out
      rw [List.take_of_length_le hiK] at h1
      rw [h1]
      rfl
set_option maxHeartbeats 8000000 in
set_option maxRecDepth 100000 in
theorem contains_c {w : World} {lo f : Nat} {k : Int} {bs : List Int} (hF : Fil 83 w lo f k bs) (p1 : Addr) (hc : w.cell? p1 = some (.pointer (some ⟨f, 0, none⟩))) (hn : bs.length ≤ 1000000) (A : Option Addr) (c : Nat) (l : List Int) (hC : Kd.C (Kd.int .i64) w A l.length l) (hlc : l.length ≤ c) (hl : ∀ p ∈ l, 0 ≤ p ∧ p < 8 * bs.length) (hl2 : l.length ≤ 1000) :
    Calls Try.prog 78 #[.slice A l.length c, .func (.func 76) #[] #[.pointer (some p1)]] w fun e w' => e = .returned (.bool (l.any (unset bs))) ∧ w' = w := by
  have HI := Aside0.mk (index_c hF p1 hc hn A c l hC hlc hl hl2)
  clear hF hC hl hc hlc
  go_enter Try.func78, Try.ntmps78
  go_wp2_with (go_at_call 97; refine HI.out.mono ?_; rintro e w3 ⟨i, rfl, hd, rfl⟩)
  go_ret
  exact ⟨by simp [hd], rfl⟩
theorem plc_in (h g : Int) (n : Nat) (i : Int) (h0 : 0 < n) (h1 : n ≤ 1000000) : 0 ≤ plc h g n i ∧ plc h g n i < 8 * (n : Int) := by
  unfold plc
  have e : wrap64 (8 * (n : Int)) = 8 * n := by unfold wrap64; omega
  have e2 : IntKind.u64.wrap (8 * (n : Int)) = 8 * n := by rw [IntKind.wrap_u64]; omega
  rw [e, e2]
  have hx : 0 ≤ IntKind.u64.wrap (h + IntKind.u64.wrap (IntKind.u64.wrap i * g)) := by rw [IntKind.wrap_u64]; omega
  generalize IntKind.u64.wrap (h + IntKind.u64.wrap (IntKind.u64.wrap i * g)) = x at *
  rw [Int.tmod_eq_emod_of_nonneg hx]
  have h2 := Int.emod_nonneg x (show (8 * (n : Int)) ≠ 0 by omega)
  have h3 := Int.emod_lt_of_pos x (show 0 < 8 * (n : Int) by omega)
  generalize x % (8 * (n : Int)) = y at *
  unfold wrap64
  omega
theorem plN_in (h g : Int) (n : Nat) (i : Nat) (h0 : 0 < n) (h1 : n ≤ 1000000) : ∀ p ∈ plN h g n i, 0 ≤ p ∧ p < 8 * (n : Int) := by
  induction i with
  | zero => intro p hp; cases hp
  | succ i ih =>
    intro p hp
    rw [plN, List.mem_append, List.mem_singleton] at hp
    rcases hp with hp | rfl
    · exact ih p hp
    · exact plc_in h g n _ h0 h1
theorem plS_in (k : Int) (n : Nat) (key : List Int) (h0 : 0 < n) (h1 : n ≤ 1000000) : ∀ p ∈ plS k n key, 0 ≤ p ∧ p < 8 * (n : Int) := plN_in _ _ n _ h0 h1
theorem plS_len (k : Int) (n : Nat) (key : List Int) : (plS k n key).length = k.toNat := plN_len _ _ _ _
/-- May a key be there? -/
def mayS (k : Int) (bs key : List Int) : Bool := !(plS k bs.length key).any (unset bs)
set_option maxHeartbeats 8000000 in
set_option maxRecDepth 100000 in
theorem May_c {w : World} {lo f : Nat} {k : Int} {bs : List Int} (hF : Fil 83 w lo f k bs) (A : Option Addr) (c : Nat) (key : List Int) (hC : Kd.C (Kd.int .u8) w A key.length key) (hc : key.length ≤ c) (hk0 : 0 < k) (hk : k ≤ 16) (hn0 : 0 < bs.length) (hn : bs.length ≤ 1000000) :
    Calls Try.prog 40 #[.pointer (some ⟨f, 0, none⟩), .slice A key.length c] w fun e w' => e = .returned (.bool (mayS k bs key)) ∧ Below w.heap.size w w' := by
  have hmf : ∀ (fn : Fn) (first cap : Array Value) (w : World), (Instr.makeFunc fn first cap).run Try.prog w = .ok (.func fn first cap) w := fun _ _ _ _ => rfl
  have hb0 := below_alloc (Below.refl w.heap.size w) (.cells #[.pointer (some ⟨f, 0, none⟩)] 41)
  have hF1 := hF.below hb0
  have hmade := made_c hF1
  rw [decide_eq_true hk0] at hmade
  have HM := Aside0.mk hmade
  have HP := Aside0.mk (Places_c hF1 A c key (Kd.C_alloc hC _) hc hk0 hk hn0 hn)
  have HF := Aside0.mk hF1
  have HX := Aside0.mk (cell_new w (.pointer (some ⟨f, 0, none⟩)) 41)
  have HB := Aside0.mk hb0
  have HS := Aside0.mk (size_alloc w (.cells #[.pointer (some ⟨f, 0, none⟩)] 41))
  have hlen := plS_len k bs.length key
  have hin := plS_in k bs.length key hn0 hn
  have hu : mayS k bs key = !(plS k bs.length key).any (unset bs) := rfl
  rw [hu]
  generalize plS k bs.length key = l at *
  have HL := Aside0.mk hin
  have HN := Aside0.mk (show l.length ≤ 1000 by omega)
  clear hmade hF1 hb0 hF hC hc hk0 hk hn0 hin hlen hu
  go_enter Try.func40, Try.ntmps40
  go_wp2_with (first | (go_at_call 77; refine HM.out.mono ?_; rintro e w' ⟨rfl, rfl⟩) | (go_at_call 43; refine HP.out.mono ?_; rintro e w1 ⟨v, rfl, hR, hb1⟩; obtain ⟨A1, c1, rfl⟩ := Kd.R_slice hR; replace hR := Aside0.mk hR; replace hb1 := Aside0.mk hb1) | (go_at_call 78; refine (contains_c (HF.out.below hb1.out) ⟨w.heap.size, 0, none⟩ (bcell hb1.out HX.out (by rw [HS.out]; show w.heap.size < _; omega)) hn A1 c1 l (Kd.R_reads' hR.out).2.2 (Kd.R_reads' hR.out).2.1 HL.out HN.out).mono ?_; rintro e w' ⟨rfl, rfl⟩))
  go_ret
  exact ⟨rfl, HB.out.trans (hb1.out.mono (by rw [HS.out]; omega))⟩
theorem May_nil (w : World) (v : Value) : Calls Try.prog 40 #[.pointer none, v] w fun e w' => e = .returned (.bool false) ∧ Below w.heap.size w w' := by
  have hmf : ∀ (fn : Fn) (first cap : Array Value) (w : World), (Instr.makeFunc fn first cap).run Try.prog w = .ok (.func fn first cap) w := fun _ _ _ _ => rfl
  go_enter Try.func40, Try.ntmps40
  go_wp2_with (go_at_call 77; refine (made_nil _).mono ?_; rintro e w' ⟨rfl, rfl⟩)
  go_ret
  exact ⟨rfl, below_alloc (Below.refl w.heap.size w) _⟩
/-- A filter with no places (none that a call made). -/
theorem May_zero {w : World} {lo f : Nat} {k : Int} {bs : List Int} (hF : Fil 83 w lo f k bs) (hk0 : ¬ 0 < k) (v : Value) : Calls Try.prog 40 #[.pointer (some ⟨f, 0, none⟩), v] w fun e w' => e = .returned (.bool false) ∧ Below w.heap.size w w' := by
  have hmf : ∀ (fn : Fn) (first cap : Array Value) (w : World), (Instr.makeFunc fn first cap).run Try.prog w = .ok (.func fn first cap) w := fun _ _ _ _ => rfl
  have hb0 := below_alloc (Below.refl w.heap.size w) (.cells #[.pointer (some ⟨f, 0, none⟩)] 41)
  have hmade := made_c (hF.below hb0)
  rw [decide_eq_false hk0] at hmade
  have HM := Aside0.mk hmade
  have HB := Aside0.mk hb0
  clear hmade hb0 hF hk0
  go_enter Try.func40, Try.ntmps40
  go_wp2_with (go_at_call 77; refine HM.out.mono ?_; rintro e w' ⟨rfl, rfl⟩)
  go_ret
  exact ⟨rfl, HB.out⟩
theorem Size_c {w : World} {lo f : Nat} {k : Int} {bs : List Int} (hF : Fil 83 w lo f k bs) (hk0 : 0 < k) (hn : bs.length ≤ 1000000) : Calls Try.prog 55 #[.pointer (some ⟨f, 0, none⟩)] w fun e w' => e = .returned (.int .i64 (8 * (bs.length : Int))) ∧ w' = w := by
  have hmade := made_c hF
  rw [decide_eq_true hk0] at hmade
  have HM := Aside0.mk hmade
  obtain ⟨A, c, hc1⟩ := hF.cell1
  have hw : wrap64 (8 * (bs.length : Int)) = 8 * (bs.length : Int) := by unfold wrap64; omega
  clear hmade hF hk0
  go_enter Try.func55, Try.ntmps55
  go_wp2_with (go_at_call 77; refine HM.out.mono ?_; rintro e w' ⟨rfl, rfl⟩)
  go_ret
  exact ⟨rfl, rfl⟩
theorem Size_nil (w : World) : Calls Try.prog 55 #[.pointer none] w fun e w' => e = .returned (.int .i64 0) ∧ w' = w := by
  go_enter Try.func55, Try.ntmps55
  go_wp2_with (go_at_call 77; refine (made_nil _).mono ?_; rintro e w' ⟨rfl, rfl⟩)
  go_ret
  exact ⟨rfl, rfl⟩
theorem Size_zero {w : World} {lo f : Nat} {k : Int} {bs : List Int} (hF : Fil 83 w lo f k bs) (hk0 : ¬ 0 < k) : Calls Try.prog 55 #[.pointer (some ⟨f, 0, none⟩)] w fun e w' => e = .returned (.int .i64 0) ∧ w' = w := by
  have hmade := made_c hF
  rw [decide_eq_false hk0] at hmade
  have HM := Aside0.mk hmade
  clear hmade hF hk0
  go_enter Try.func55, Try.ntmps55
  go_wp2_with (go_at_call 77; refine HM.out.mono ?_; rintro e w' ⟨rfl, rfl⟩)
  go_ret
  exact ⟨rfl, rfl⟩
end Go.Proofs.Ytcopbkdlpfcjpaa.L
