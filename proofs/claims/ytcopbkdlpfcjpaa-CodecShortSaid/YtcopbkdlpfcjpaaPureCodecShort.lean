/- CodecShort answers true for every unsigned number: it has one byte for each seven bits, and a longer one, or one that ends too early, is never read. No condition beyond the kind's own range. -/
import Derived.Test.YtcopbkdlpfcjpaaCx2
import Derived.Test.YtcopbkdlpfcjpaaMd
namespace Go.Proofs.Ytcopbkdlpfcjpaa.Pure
open Go.RowKit Go.Proofs.Ytcopbkdlpfcjpaa.C Go.Proofs.YtcopbkdlpfcjpaaW.PrintWords Go.Proofs.Ytcopbkdlpfcjpaa.B Go.Proofs.Ytcopbkdlpfcjpaa.H Go.Proofs.Ytcopbkdlpfcjpaa.Ma

def cnt (v : Nat) : Nat := if v = 0 then 0 else (digN v).length
theorem cnt_dig (u : Nat) : (digN u).length = 1 + cnt (u / 128) := by
  unfold cnt
  by_cases h : u < 128
  · rw [digN_lo h, if_pos (by omega)]
    rfl
  · rw [digN_hi h, if_neg (by omega), List.length_cons, Nat.add_comm]
theorem short_loop (u : Int) (b : List Int) (r : Bool) (v : Nat) : ∀ c : Nat, c + cnt v ≤ 1000 → Ev (fun k => skerrylaw01_CodecShort.l0 k u b ((c + cnt v : Nat) : Int) 0) r → Ev (fun k => skerrylaw01_CodecShort.l0 k u b (c : Int) (v : Int)) r := by
  induction v using Nat.strongRecOn with
  | ind v ih =>
    intro c hc h
    by_cases h0 : v = 0
    · subst h0
      exact h
    · have hv : cnt v = 1 + cnt (v / 128) := by rw [← cnt_dig]; unfold cnt; rw [if_neg h0]
      refine Ev.step (f := fun k => skerrylaw01_CodecShort.l0 k u b ((c + 1 : Nat) : Int) ((v / 128 : Nat) : Int)) (fun k => ?_) ?_
      · have e : wrap64 ((c : Int) + 1) = ((c + 1 : Nat) : Int) := by rw [wrap_in (by omega)]; omega
        have e2 : (v : Int) / 128 = ((v / 128 : Nat) : Int) := by omega
        rw [skerrylaw01_CodecShort.l0, if_pos (by omega), e, e2]
      · refine ih (v / 128) (by omega) (c + 1) (by omega) ?_
        rw [show c + 1 + cnt (v / 128) = c + cnt v from by omega]
        exact h
theorem digN_split (u : Nat) : ∃ I x, digN u = I ++ [x] ∧ (∀ y ∈ I, 128 ≤ y) ∧ x < 128 := by
  induction u using Nat.strongRecOn with
  | ind u ih =>
    by_cases h : u < 128
    · exact ⟨[], u, by rw [digN_lo h]; rfl, by simp, h⟩
    · obtain ⟨I, x, e, h1, h2⟩ := ih (u / 128) (by omega)
      refine ⟨(u % 128 + 128) :: I, x, by rw [digN_hi h, e]; rfl, fun y hy => ?_, h2⟩
      rcases List.mem_cons.1 hy with rfl | hy
      · omega
      · exact h1 y hy
theorem Get_pair (L : List Nat) (hL : ∀ x ∈ L, x < 256) (hlen : L.length ≤ 1000000000) (p : Nat × Nat) (h : getS L 0 0 = p) : Ev (fun k => codec_Get.f k (up L)) (pr p) := by
  rw [← h]
  exact Get_all L hL hlen
theorem CodecShort : skerrylaw01_CodecShort.Pure := by
  intro a ha
  have ba := u64_of ha
  obtain ⟨u, rfl⟩ := Int.eq_ofNat_of_zero_le ba.1
  obtain ⟨I, x, eD, hI, hx⟩ := digN_split u
  have hb := digN_byte u
  have hn := digN_len64 u (by omega)
  have hcnt := cnt_dig u
  have hlen : (digN u).length = I.length + 1 := by rw [eD]; simp
  refine Ev.rounds ?_
  unfold skerrylaw01_CodecShort.f
  refine Ev.bind (Put_ev [] u (by omega) (by simp)) ?_
  have e0 : (u : Int) / 128 = ((u / 128 : Nat) : Int) := by omega
  rw [e0]
  refine short_loop (u : Int) _ true (u / 128) 1 (by omega) ?_
  rw [show 1 + cnt (u / 128) = I.length + 1 from by omega]
  have eU : up ([] : List Nat) ++ up (digN u) = up (digN u) := rfl
  rw [eU]
  have hul : (up (digN u)).length = I.length + 1 := by rw [up_length, hlen]
  -- the number behind other bytes
  have g1 : Ev (fun k => codec_Get.f k (up (digN u) ++ [255, 1])) (pr (u, I.length + 1)) := by
    have e1 : up (digN u) ++ [255, 1] = up (digN u ++ [255, 1]) := by rw [up_append]; rfl
    rw [e1]
    refine Get_pair _ (fun y hy => ?_) (by simp; omega) _ ?_
    · rcases List.mem_append.1 hy with h | h
      · exact hb y h
      · simp at h; omega
    · rw [getS_dig u 0 0 [255, 1] (by simpa using (show u < 18446744073709551616 by omega)) (by omega) (by omega)]
      simp
      omega
  have g2 : Ev (fun k => codec_Get.f k (up I)) (pr (0, 0)) :=
    Get_pair I (fun y hy => hb y (by rw [eD]; exact List.mem_append_left _ hy)) (by omega) _ (getS_high I hI 0 0)
  have g3 : Ev (fun k => codec_Get.f k (up (I ++ [x + 128]) ++ [0])) (pr (0, 0)) := by
    have e1 : up (I ++ [x + 128]) ++ [0] = up ((I ++ [x + 128]) ++ [0]) := by rw [up_append (I ++ [x + 128])]; rfl
    rw [e1]
    refine Get_pair _ (fun y hy => ?_) (by simp; omega) _ (getS_high0 _ (fun y hy => ?_) 0 0 (.inr (by simp)))
    · rcases List.mem_append.1 hy with h | h
      · rcases List.mem_append.1 h with h | h
        · exact hb y (by rw [eD]; exact List.mem_append_left _ h)
        · simp at h; omega
      · simp at h; omega
    · rcases List.mem_append.1 hy with h | h
      · exact hI y h
      · simp at h; omega
  have ex4 : ((I.length + 1 : Nat) : Int) - 1 = (I.length : Int) := by omega
  have etake : (up (digN u)).take I.length = up I := by rw [up_take, eD, List.take_left]
  have erd : rd (up (digN u)) (I.length : Int) = (x : Int) := by
    rw [rd_up, eD, List.getD_eq_getElem?_getD, List.getElem?_append_right (Nat.le_refl _)]
    simp
  have eor : bits .or .u8 (x : Int) 128 = ((x + 128 : Nat) : Int) := by
    rw [show (128 : Int) = ((128 : Nat) : Int) from rfl, u8_or_nat _ _ (by omega) (by omega), or128 _ (by omega)]
    congr 1
    omega
  have eset : (up (digN u)).set I.length ((x + 128 : Nat) : Int) = up (I ++ [x + 128]) := by
    rw [eD, up_append, up_append, List.set_append_right _ _ (by rw [up_length]; omega), up_length, Nat.sub_self]
    rfl
  have gj : Ev (fun k => skerrylaw01_CodecShort.j1 k (up (digN u)) ((I.length + 1 : Nat) : Int) false) true := by
    refine Ev.step (f := fun k => (codec_Get.f k (up I)).bind fun p => (codec_Get.f k (up (I ++ [x + 128]) ++ [0])).bind fun q => if p.2 = 0 then (if q.2 = 0 then skerrylaw01_lives.f.bind fun t => some t else some false) else some false) (fun k => ?_) ?_
    · rw [skerrylaw01_CodecShort.j1, if_neg (by simp), wrap_in (by omega), ex4, if_pos (by omega), if_pos (by omega), Int.toNat_natCast, etake, erd, eor, eset]
      congr 1
      funext p
      rw [if_pos (by omega)]
      simp only [Option.bind_some]
      rw [if_pos (by rw [up_length]; simp; omega)]
    · refine Ev.bind g2 ?_
      refine Ev.bind g3 ?_
      exact Ev.now _
  refine Ev.step (f := fun k => (codec_Get.f k (up (digN u) ++ [255, 1])).bind fun p => if p.1 = (u : Int) then skerrylaw01_CodecShort.j1 k (up (digN u)) ((I.length + 1 : Nat) : Int) (p.2 != ((I.length + 1 : Nat) : Int)) else skerrylaw01_CodecShort.j1 k (up (digN u)) ((I.length + 1 : Nat) : Int) true) (fun k => ?_) ?_
  · rw [skerrylaw01_CodecShort.l0, if_neg (by omega)]
    simp only [Option.bind_some, List.nil_append]
    rw [if_pos (by rw [hul]; simp; omega), if_pos (by rw [hul]; simp; omega)]
    congr 1
    funext p
    rw [if_pos (by rw [hul])]
  · refine Ev.bind g1 ?_
    have eb : ((pr (u, I.length + 1)).2 != ((I.length + 1 : Nat) : Int)) = false := by
      rw [bne_eq_false_iff_eq]
      rfl
    rw [eb]
    refine Ev.congr (fun k => ?_) gj
    exact if_pos rfl

end Go.Proofs.Ytcopbkdlpfcjpaa.Pure
