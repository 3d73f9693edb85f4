/- The bloom layer by hand: the document's May; Add of both. -/
import Derived.Test.YtcopbkdlpfcjpaaBloD
namespace Go.Proofs.Ytcopbkdlpfcjpaa.L
open Go.RowKit Go.Proofs.YtcopbkdlpfcjpaaW.PrintWords Go.Proofs.YtcopbkdlpfcjpaaW.PrintLast Go.Proofs.YtcopbkdlpfcjpaaW.PrintMore Go.Proofs.Ytcopbkdlpfcjpaa.B Go.Proofs.Ytcopbkdlpfcjpaa.M
attribute [local go_sem] max2_int min2_int max_two min_two max_three min_three max_four min_four
set_option linter.unusedVariables false
set_option linter.unusedSimpArgs false
theorem shr_r (x r : Int) (h0 : r < 8) : shr .u8 x r = x / 2 ^ r.toNat := (shr_small rfl (by have : IntKind.bits .u8 = 8 := rfl; omega)).symm
theorem shl_r (x r : Int) (h0 : r < 8) : shl .u8 x r = IntKind.u8.wrap (x * 2 ^ r.toNat) := (shl_small rfl (by have : IntKind.bits .u8 = 8 := rfl; omega)).symm
set_option maxHeartbeats 8000000 in
set_option maxRecDepth 100000 in
theorem MayR_c {w : World} {lo f : Nat} {k : Int} {bs : List Int} (hF : Fil 80 w lo f k bs) (A : Option Addr) (c : Nat) (key : List Int) (hC : Kd.C (Kd.int .u8) w A key.length key) (hc : key.length ≤ c) (hS : OkKey key) (hk0 : 0 < k) (hk : k ≤ 16) (hn0 : 0 < bs.length) (hn : bs.length ≤ 1000000) :
    Calls Try.prog 41 #[.pointer (some ⟨f, 0, none⟩), .slice A key.length c] w fun e w' => e = .returned (.bool (mayS k bs key)) ∧ Below w.heap.size w w' := by
  have HP := Aside0.mk (PlacesR_c hF A c key hC hc hS hk0 hk hn0 hn)
  have HF := Aside0.mk hF
  have hlen := plS_len k bs.length key
  have hin := plS_in k bs.length key hn0 hn
  have hu : mayS k bs key = !(plS k bs.length key).any (unset bs) := rfl
  rw [hu]
  generalize plS k bs.length key = l at *
  have HL := Aside0.mk hin
  have HN := Aside0.mk (And.intro hn0 (show l.length ≤ 1000 by omega))
  clear hF hC hc hk hk0 hin hlen hu hn0
  go_enter Try.func41, Try.ntmps41
  go_wp2_with (go_at_call 44; refine HP.out.mono ?_; rintro e w1 ⟨v, rfl, hR, hb1⟩; obtain ⟨A1, c1, rfl⟩ := Kd.R_slice hR; replace hR := Aside0.mk hR; replace hb1 := Aside0.mk hb1)
  go_loopg [11] l.length (fun kq v11 w' => ∃ (i : Nat), v11 = .int .i64 (i : Int) ∧ Aside0 (kq + i = l.length) ∧ Aside0 ((l.take i).any (unset bs) = false) ∧ w' = w1)
  case atStart => exact ⟨0, rfl, ⟨by omega⟩, ⟨by simp⟩, rfl⟩
  case round =>
    obtain ⟨i, rfl, HK, HA, rfl⟩ := hrel
    by_cases hi : (i : Int) < (l.length : Int)
    · have cb : decide ((i : Int) < (l.length : Int)) = true := decide_eq_true hi
      have cn : i < l.length := by omega
      obtain ⟨ad, rfl, hx⟩ := Kd.at_int (Kd.R_reads' hR.out).2.2 (i : Int) (by omega) hi
      have hp := HL.out _ (rd_mem l i cn)
      have hta := Aside0.mk (take_any (unset bs) l i cn)
      have hwr : wrap64 ((i : Int) + 1) = ((i + 1 : Nat) : Int) := by have := HN.out.2; unfold wrap64; omega
      have HI := Aside0.mk hi
      have hFw := HF.out.below hb1.out
      obtain ⟨b, cc, hc1, hlb, hbf, hRb⟩ := hFw.row HN.out.1
      rw [Int.toNat_natCast] at hx
      obtain ⟨x, hx0⟩ : ∃ x, rd l (i : Int) = x := ⟨_, rfl⟩
      rw [hx0] at hx hp hta
      have hr := (Kd.R_celln (0 : Int) hRb (x / 8) (by omega) (by omega)).1
      have hq : Int.tdiv x 8 = x / 8 := Int.tdiv_eq_ediv_of_nonneg hp.1
      have hm : Int.tmod x 8 = x % 8 := Int.tmod_eq_emod_of_nonneg hp.1
      have hw : wrap64 (x / 8) = x / 8 := by unfold wrap64; omega
      have hrx : rdOf 0 bs (x / 8) = rd bs (x / 8) := rfl
      have hu : unset bs x = ((Go.bits .and .u8 (shr .u8 (rd bs (x / 8)) (x % 8)) 1) == 0) := rfl
      rw [hrx] at hr
      have hq0 : 0 ≤ x / 8 := by omega
      have hq1 : x / 8 < (bs.length : Int) := by omega
      have hr0 : 0 ≤ x % 8 := by omega
      have hr1 : x % 8 < 8 := by omega
      rw [shr_r _ _ hr1] at hu
      have huw : IntKind.u64.wrap (x % 8) = x % 8 := by rw [IntKind.wrap_u64]; omega
      have hqt : (x / 8).toNat < bs.length := by omega
      generalize rd bs (x / 8) = y at *
      generalize x / 8 = q at *
      generalize x % 8 = r at *
      clear hp hrx hlb hbf hRb hFw hx0
      by_cases hut : unset bs x = true
      · rw [hut] at hu; replace hu := hu.symm
        go_wp2_with (fail)
        go_ret
        refine ⟨?_, hb1.out⟩
        have h1 := hta.out
        rw [hut, Bool.or_true] at h1
        rw [← List.take_append_drop (i + 1) l, List.any_append, h1, Bool.true_or]
        rfl
      · have hut : unset bs x = false := by simpa using hut
        rw [hut] at hu; replace hu := hu.symm
        go_wp2_with (fail)
        go_roundg (gk - 1)
        case measure => have := HK.out; have := HI.out; omega
        case rel =>
          refine ⟨i + 1, (by first | rfl | (simp; done) | rw [hwr]), ⟨by have := HK.out; have := HI.out; omega⟩, ⟨?_⟩, rfl⟩
          rw [hta.out, HA.out, hut]
          rfl
    · have cb : decide ((i : Int) < (l.length : Int)) = false := decide_eq_false hi
      have hiK : l.length ≤ i := by omega
      clear hi
      go_wp2_with (fail)
      go_ret
      refine ⟨?_, hb1.out⟩
      have h1 := HA.out
      rw [List.take_of_length_le hiK] at h1
      rw [h1]
      rfl
theorem Kp.drew {lo hi : Nat} {w w' : World} (h : Kp lo hi w w') : Kp lo hi w w'.drew := ⟨h.os, h.tape, h.output, h.size, h.block⟩
/-- A bit set. -/
def setS (bs : List Int) (p : Int) : List Int := bs.set (p / 8).toNat (Go.bits .or .u8 (rd bs (p / 8)) (shl .u8 1 (p % 8)))
theorem setS_len (bs : List Int) (p : Int) : (setS bs p).length = bs.length := by unfold setS; rw [List.length_set]
theorem fold_len (l : List Int) : ∀ bs : List Int, (l.foldl setS bs).length = bs.length := by
  induction l with
  | nil => intro bs; rfl
  | cons p l ih => intro bs; rw [List.foldl_cons, ih, setS_len]
theorem take_fold (l : List Int) (bs : List Int) (i : Nat) (hi : i < l.length) : (l.take (i + 1)).foldl setS bs = setS ((l.take i).foldl setS bs) (rd l (i : Int)) := by
  have e : rd l (i : Int) = l[i] := by
    unfold rd
    rw [Int.toNat_natCast, List.getD_eq_getElem?_getD, List.getElem?_eq_getElem hi]
    rfl
  rw [List.take_succ_eq_append_getElem hi, List.foldl_append, e]
  rfl
/-- A key added. -/
def addS (k : Int) (bs key : List Int) : List Int := (plS k bs.length key).foldl setS bs
theorem R_kp {d : Kd Int} {e base lo hi : Nat} {w w1 : World} {v : Value} {xs : List Int} (h : d.R e w base (fun _ => True) v xs) (hk : Kp lo hi w w1) (hb : hi < base) : d.R e w1 base (fun _ => True) v xs :=
  Kd.R_mono (Kd.R_step (Kd.R_bound h) (fun j hj hlt => hk.block j hlt (.inr (by have := hj.2.1; omega)))) (fun _ _ => trivial)
theorem Fil.put {T : TypeId} {w : World} {lo g b c : Nat} {k : Int} {bs : List Int} (h : Fil T w lo g k bs) (hc : w.cell? ⟨g, 1, none⟩ = some (.slice (some ⟨b, 0, none⟩) bs.length c)) (hlb : lo ≤ b) (hbg : b < g) (i x : Int) :
    Fil T (w.setCell ⟨b, i.toNat, none⟩ (.int .u8 x)) lo g k (bs.set i.toNat x) ∧ Kp lo g w (w.setCell ⟨b, i.toNat, none⟩ (.int .u8 x)) := by
  obtain ⟨h1, v, h2, h3⟩ := h
  have h4 : w.cell? ⟨g, 1, none⟩ = some v := (blk_cell h2 1).trans rfl
  rw [hc] at h4
  obtain rfl := Option.some.inj h4
  have hp := Kd.R_putg h3 i x
  refine ⟨⟨h1, .slice (some ⟨b, 0, none⟩) bs.length c, blk_grown h2 hp.2 (by simp; omega), hp.1⟩, ?_⟩
  exact Kp.of_grown hp.2 (fun k hk => by obtain rfl := Option.some.inj hk; omega)
set_option maxHeartbeats 8000000 in
set_option maxRecDepth 100000 in
theorem Add_c {w : World} {lo f : Nat} {k : Int} {bs : List Int} (hF : Fil 83 w lo f k bs) (A : Option Addr) (c : Nat) (key : List Int) (hC : Kd.C (Kd.int .u8) w A key.length key) (hc : key.length ≤ c) (hk0 : 0 < k) (hk : k ≤ 16) (hn0 : 0 < bs.length) (hn : bs.length ≤ 1000000) :
    Calls Try.prog 46 #[.pointer (some ⟨f, 0, none⟩), .slice A key.length c] w fun e w' => e = .returned (.tuple #[]) ∧ Fil 83 w' lo f k (addS k bs key) ∧ Kp lo f w w' := by
  have HP := Aside0.mk (Places_c hF A c key hC hc hk0 hk hn0 hn)
  have HF := Aside0.mk hF
  have hlen := plS_len k bs.length key
  have hin := plS_in k bs.length key hn0 hn
  have hu : addS k bs key = (plS k bs.length key).foldl setS bs := rfl
  rw [hu]
  generalize plS k bs.length key = l at *
  have HL := Aside0.mk hin
  have HN := Aside0.mk (And.intro hn0 (And.intro (show l.length ≤ 1000 by omega) hn))
  have hlt := Aside0.mk hF.lt
  clear hF hC hc hk hk0 hin hlen hu hn0 hn
  go_enter Try.func46, Try.ntmps46
  go_wp2_with (go_at_call 43; refine HP.out.mono ?_; rintro e w1 ⟨v, rfl, hR, hb1⟩; obtain ⟨A1, c1, rfl⟩ := Kd.R_slice hR; replace hR := Aside0.mk hR; replace hb1 := Aside0.mk hb1)
  go_loopg [10] l.length (fun kq v10 w' => ∃ (i : Nat), v10 = .int .i64 (i : Int) ∧ Aside0 (kq + i = l.length) ∧ Aside0 (Fil 83 w' lo f k ((l.take i).foldl setS bs)) ∧ Aside0 (Kp lo f w w') ∧ Aside0 ((Kd.int .i64).R 3 w' w.heap.size (fun _ => True) (.slice A1 l.length c1) l))
  case atStart => exact ⟨0, rfl, ⟨by omega⟩, ⟨by simpa using HF.out.below hb1.out⟩, ⟨Kp.of_below hb1.out⟩, hR⟩
  case round =>
    obtain ⟨i, rfl, HK, HFr, HKp, HR⟩ := hrel
    by_cases hi : (i : Int) < (l.length : Int)
    · have cb : decide ((i : Int) < (l.length : Int)) = true := decide_eq_true hi
      have cn : i < l.length := by omega
      obtain ⟨ad, rfl, hx⟩ := Kd.at_int (Kd.R_reads' HR.out).2.2 (i : Int) (by omega) hi
      have hp := HL.out _ (rd_mem l i cn)
      have hta := Aside0.mk (take_fold l bs i cn)
      have hwr : wrap64 ((i : Int) + 1) = ((i + 1 : Nat) : Int) := by have := HN.out.2.1; unfold wrap64; omega
      have HI := Aside0.mk hi
      have hfl := fold_len (l.take i) bs
      generalize (l.take i).foldl setS bs = ys at *
      obtain ⟨b, cc, hc1, hlb, hbf, hRb⟩ := HFr.out.row (by rw [hfl]; exact HN.out.1)
      rw [Int.toNat_natCast] at hx
      obtain ⟨x, hx0⟩ : ∃ x, rd l (i : Int) = x := ⟨_, rfl⟩
      rw [hx0] at hx hp hta
      have hcf := Kd.R_celln (0 : Int) hRb (x / 8) (by omega) (by rw [hfl]; omega)
      have hr := hcf.1
      have hfr := hcf.2
      have hq : Int.tdiv x 8 = x / 8 := Int.tdiv_eq_ediv_of_nonneg hp.1
      have hm : Int.tmod x 8 = x % 8 := Int.tmod_eq_emod_of_nonneg hp.1
      have hw : wrap64 (x / 8) = x / 8 := by have := HN.out.2.2; unfold wrap64; omega
      have hrx : rdOf 0 ys (x / 8) = rd ys (x / 8) := rfl
      have hu : setS ys x = ys.set (x / 8).toNat (Go.bits .or .u8 (rd ys (x / 8)) (shl .u8 1 (x % 8))) := rfl
      rw [hrx] at hr
      have hq0 : 0 ≤ x / 8 := by omega
      have hq1 : x / 8 < (ys.length : Int) := by rw [hfl]; omega
      have hr0 : 0 ≤ x % 8 := by omega
      have hr1 : x % 8 < 8 := by omega
      rw [shl_r _ _ hr1, IntKind.wrap_u8, Int.one_mul] at hu
      have hqt : (x / 8).toNat < ys.length := by rw [hfl]; omega
      generalize rd ys (x / 8) = y at *
      generalize x / 8 = q at *
      generalize x % 8 = r at *
      have HU := Aside0.mk hu
      have HC1 := Aside0.mk (And.intro hc1 (And.intro hlb hbf))
      clear hp hrx hlb hbf hRb hx0 hcf hu hfl
      go_wp2_with (fail)
      go_region
      go_wp2_with (fail)
      go_roundg (gk - 1)
      case measure => have := HK.out; have := HI.out; omega
      case rel =>
        have hp := HFr.out.put HC1.out.1 HC1.out.2.1 HC1.out.2.2 q (Go.bits .or .u8 y (2 ^ r.toNat % 256))
        rw [← HU.out, ← hta.out] at hp
        refine ⟨i + 1, (by first | rfl | (simp; done) | rw [hwr]), ⟨by have := HK.out; have := HI.out; omega⟩, ⟨hp.1⟩, ⟨HKp.out.trans hp.2.drew⟩, ⟨R_kp HR.out hp.2.drew hlt.out⟩⟩
    · have cb : decide ((i : Int) < (l.length : Int)) = false := decide_eq_false hi
      have hiK : l.length ≤ i := by omega
      clear hi
      go_wp2_with (fail)
      first | go_end0 | go_ret2 | go_ret
      have h1 := HFr.out
      rw [List.take_of_length_le hiK] at h1
      exact ⟨rfl, h1, HKp.out⟩
set_option maxHeartbeats 8000000 in
set_option maxRecDepth 100000 in
theorem AddR_c {w : World} {lo f : Nat} {k : Int} {bs : List Int} (hF : Fil 80 w lo f k bs) (A : Option Addr) (c : Nat) (key : List Int) (hC : Kd.C (Kd.int .u8) w A key.length key) (hc : key.length ≤ c) (hS : OkKey key) (hk0 : 0 < k) (hk : k ≤ 16) (hn0 : 0 < bs.length) (hn : bs.length ≤ 1000000) :
    Calls Try.prog 65 #[.pointer (some ⟨f, 0, none⟩), .slice A key.length c] w fun e w' => e = .returned (.tuple #[]) ∧ Fil 80 w' lo f k (addS k bs key) ∧ Kp lo f w w' := by
  have HP := Aside0.mk (PlacesR_c hF A c key hC hc hS hk0 hk hn0 hn)
  have HF := Aside0.mk hF
  have hlen := plS_len k bs.length key
  have hin := plS_in k bs.length key hn0 hn
  have hu : addS k bs key = (plS k bs.length key).foldl setS bs := rfl
  rw [hu]
  generalize plS k bs.length key = l at *
  have HL := Aside0.mk hin
  have HN := Aside0.mk (And.intro hn0 (And.intro (show l.length ≤ 1000 by omega) hn))
  have hlt := Aside0.mk hF.lt
  clear hF hC hc hk hk0 hin hlen hu hn0 hn
  go_enter Try.func65, Try.ntmps65
  go_wp2_with (go_at_call 44; refine HP.out.mono ?_; rintro e w1 ⟨v, rfl, hR, hb1⟩; obtain ⟨A1, c1, rfl⟩ := Kd.R_slice hR; replace hR := Aside0.mk hR; replace hb1 := Aside0.mk hb1)
  go_loopg [10] l.length (fun kq v10 w' => ∃ (i : Nat), v10 = .int .i64 (i : Int) ∧ Aside0 (kq + i = l.length) ∧ Aside0 (Fil 80 w' lo f k ((l.take i).foldl setS bs)) ∧ Aside0 (Kp lo f w w') ∧ Aside0 ((Kd.int .i64).R 3 w' w.heap.size (fun _ => True) (.slice A1 l.length c1) l))
  case atStart => exact ⟨0, rfl, ⟨by omega⟩, ⟨by simpa using HF.out.below hb1.out⟩, ⟨Kp.of_below hb1.out⟩, hR⟩
  case round =>
    obtain ⟨i, rfl, HK, HFr, HKp, HR⟩ := hrel
    by_cases hi : (i : Int) < (l.length : Int)
    · have cb : decide ((i : Int) < (l.length : Int)) = true := decide_eq_true hi
      have cn : i < l.length := by omega
      obtain ⟨ad, rfl, hx⟩ := Kd.at_int (Kd.R_reads' HR.out).2.2 (i : Int) (by omega) hi
      have hp := HL.out _ (rd_mem l i cn)
      have hta := Aside0.mk (take_fold l bs i cn)
      have hwr : wrap64 ((i : Int) + 1) = ((i + 1 : Nat) : Int) := by have := HN.out.2.1; unfold wrap64; omega
      have HI := Aside0.mk hi
      have hfl := fold_len (l.take i) bs
      generalize (l.take i).foldl setS bs = ys at *
      obtain ⟨b, cc, hc1, hlb, hbf, hRb⟩ := HFr.out.row (by rw [hfl]; exact HN.out.1)
      rw [Int.toNat_natCast] at hx
      obtain ⟨x, hx0⟩ : ∃ x, rd l (i : Int) = x := ⟨_, rfl⟩
      rw [hx0] at hx hp hta
      have hcf := Kd.R_celln (0 : Int) hRb (x / 8) (by omega) (by rw [hfl]; omega)
      have hr := hcf.1
      have hfr := hcf.2
      have hq : Int.tdiv x 8 = x / 8 := Int.tdiv_eq_ediv_of_nonneg hp.1
      have hm : Int.tmod x 8 = x % 8 := Int.tmod_eq_emod_of_nonneg hp.1
      have hw : wrap64 (x / 8) = x / 8 := by have := HN.out.2.2; unfold wrap64; omega
      have hrx : rdOf 0 ys (x / 8) = rd ys (x / 8) := rfl
      have hu : setS ys x = ys.set (x / 8).toNat (Go.bits .or .u8 (rd ys (x / 8)) (shl .u8 1 (x % 8))) := rfl
      rw [hrx] at hr
      have hq0 : 0 ≤ x / 8 := by omega
      have hq1 : x / 8 < (ys.length : Int) := by rw [hfl]; omega
      have hr0 : 0 ≤ x % 8 := by omega
      have hr1 : x % 8 < 8 := by omega
      have huw : IntKind.u64.wrap (x % 8) = x % 8 := by rw [IntKind.wrap_u64]; omega
      rw [shl_r _ _ hr1, IntKind.wrap_u8, Int.one_mul] at hu
      have hqt : (x / 8).toNat < ys.length := by rw [hfl]; omega
      generalize rd ys (x / 8) = y at *
      generalize x / 8 = q at *
      generalize x % 8 = r at *
      have HU := Aside0.mk hu
      have HC1 := Aside0.mk (And.intro hc1 (And.intro hlb hbf))
      clear hp hrx hlb hbf hRb hx0 hcf hu hfl
      go_wp2_with (fail)
      go_roundg (gk - 1)
      case measure => have := HK.out; have := HI.out; omega
      case rel =>
        have hp := HFr.out.put HC1.out.1 HC1.out.2.1 HC1.out.2.2 q (Go.bits .or .u8 y (2 ^ r.toNat % 256))
        rw [← HU.out, ← hta.out] at hp
        refine ⟨i + 1, (by first | rfl | (simp; done) | rw [hwr]), ⟨by have := HK.out; have := HI.out; omega⟩, ⟨hp.1⟩, ⟨HKp.out.trans hp.2⟩, ⟨R_kp HR.out hp.2 hlt.out⟩⟩
    · have cb : decide ((i : Int) < (l.length : Int)) = false := decide_eq_false hi
      have hiK : l.length ≤ i := by omega
      clear hi
      go_wp2_with (fail)
      first | go_end0 | go_ret2 | go_ret
      have h1 := HFr.out
      rw [List.take_of_length_le hiK] at h1
      exact ⟨rfl, h1, HKp.out⟩
end Go.Proofs.Ytcopbkdlpfcjpaa.L
