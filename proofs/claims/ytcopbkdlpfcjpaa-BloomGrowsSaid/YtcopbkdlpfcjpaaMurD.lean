/- The murmur layer by hand: the tokens of the program and of the document. -/
import Derived.Test.YtcopbkdlpfcjpaaMurC
import Derived.Test.YtcopbkdlpfcjpaaBx12
namespace Go.Proofs.Ytcopbkdlpfcjpaa.M
open Go.RowKit Go.Proofs.YtcopbkdlpfcjpaaW.PrintWords Go.Proofs.YtcopbkdlpfcjpaaW.PrintLast Go.Proofs.YtcopbkdlpfcjpaaW.PrintMore Go.Proofs.Ytcopbkdlpfcjpaa.B
attribute [local go_sem] max2_int min2_int max_two min_two max_three min_three max_four min_four
set_option linter.unusedVariables false
set_option linter.unusedSimpArgs false

theorem C_bytes (W : World) (e : TypeId) (s : ByteArray) (hs : s.size ≤ 9223372036854775807) : Kd.C (Kd.int .u8) (Lib.bytesWorld W e s) (some ⟨W.heap.size, 0, none⟩) (bytesOf s).length (bytesOf s) := by
  have hr := bytes_reads W e s hs
  obtain ⟨h1, h2, h3⟩ := hr
  refine ⟨rfl, by rw [bytesOf_length]; exact hs, fun hp => ⟨_, rfl, fun j p hj => ⟨[.int .u8 p], rfl, rfl, fun i u hu => ?_⟩⟩⟩
  cases i with
  | succ i => simp at hu
  | zero =>
    simp only [List.getElem?_cons_zero, Option.some.injEq] at hu
    subst hu
    have hj2 : j < s.size := by
      have := (List.getElem?_eq_some_iff.1 hj).1
      rw [bytesOf_length] at this
      exact this
    obtain ⟨ad, e1, hc⟩ := h3 (by omega)
    obtain rfl := Option.some.inj e1
    have := hc j hj2
    rw [show (j * (Kd.int .u8).sz + 0) = j from by show j * 1 + 0 = j; omega, this, List.getD_eq_getElem?_getD, hj]
    rfl

def murmur_Token.f (a0 : ByteArray) : Option Int := if a0.size ≤ 140737488351232 then (murmur_Sum.f (bytesOf a0) 0).bind fun t => some (wrap64 t.1) else none
set_option maxHeartbeats 8000000 in
set_option maxRecDepth 100000 in
theorem murmur_Token.calls (a0 : ByteArray) (r : Int) (w : World) (h : murmur_Token.f a0 = some r) :
    Calls Try.prog 61 #[.string a0] w fun e w' => e = .returned (.int .i64 r) ∧ Below w.heap.size w w' := by
  unfold murmur_Token.f at h
  by_cases hs : a0.size ≤ 140737488351232
  · rw [if_pos hs] at h
    obtain ⟨p, hp, h⟩ := Option.bind_eq_some_iff.1 h
    obtain rfl := Option.some.inj h
    have hb := bytes_below (Below.refl w.heap.size w) (Nat.le_refl _) 5 a0
    have hC := C_bytes w 5 a0 (by omega)
    have hle : (bytesOf a0).length ≤ grownCap w a0.size 0 5 := by rw [bytesOf_length]; exact grownCap_ge _ _ _ _
    have HS := Aside0.mk (murmur_Sum.calls (some ⟨w.heap.size, 0, none⟩) (grownCap w a0.size 0 5) (bytesOf a0) 0 p.1 p.2 _ hC hle hp)
    have kb := fun W => print_bytes (P := Try.prog) 9 27 5 Try.underlying9 Try.underlying27 Try.underlying5 a0 W
    clear hC hle h
    go_enter Try.func61, Try.ntmps61
    go_wp2_with (go_at_call 57; (have hs2 := HS.out; rw [bytesOf_length] at hs2; refine hs2.mono ?_); rintro e w2 ⟨rfl, hb2⟩)
    go_ret
    refine ⟨by simp [i64_w], ?_⟩
    exact hb.trans (hb2.mono (by rw [Lib.bytesWorld_size]; omega))
  · rw [if_neg hs] at h
    cases h

def skerryref02_Token.f (k : Nat) (a0 : ByteArray) : Option Int := if a0.size ≤ 140737488351232 then (skerryref02_Sum.f k (bytesOf a0) 0).bind fun t => some (wrap64 t.1) else none
theorem skerryref02_Token.mono : ∀ a0 k, LeO (skerryref02_Token.f k a0) (skerryref02_Token.f (k + 1) a0) := by
  intro a0 k
  unfold skerryref02_Token.f
  exact LeO.ite (LeO.bind (skerryref02_Sum.mono _ _ _) (fun _ => LeO.refl _)) (LeO.refl _)
set_option maxHeartbeats 8000000 in
set_option maxRecDepth 100000 in
theorem skerryref02_Token.calls (k : Nat) (a0 : ByteArray) (r : Int) (w : World) (h : skerryref02_Token.f k a0 = some r) :
    Calls Try.prog 62 #[.string a0] w fun e w' => e = .returned (.int .i64 r) ∧ Below w.heap.size w w' := by
  unfold skerryref02_Token.f at h
  by_cases hs : a0.size ≤ 140737488351232
  · rw [if_pos hs] at h
    obtain ⟨p, hp, h⟩ := Option.bind_eq_some_iff.1 h
    obtain rfl := Option.some.inj h
    have hb := bytes_below (Below.refl w.heap.size w) (Nat.le_refl _) 5 a0
    have hC := C_bytes w 5 a0 (by omega)
    have hle : (bytesOf a0).length ≤ grownCap w a0.size 0 5 := by rw [bytesOf_length]; exact grownCap_ge _ _ _ _
    have HS := Aside0.mk (skerryref02_Sum.calls k (some ⟨w.heap.size, 0, none⟩) (grownCap w a0.size 0 5) (bytesOf a0) 0 p.1 p.2 _ hC hle hp)
    have kb := fun W => print_bytes (P := Try.prog) 9 27 5 Try.underlying9 Try.underlying27 Try.underlying5 a0 W
    clear hC hle h
    go_enter Try.func62, Try.ntmps62
    go_wp2_with (go_at_call 58; (have hs2 := HS.out; rw [bytesOf_length] at hs2; refine hs2.mono ?_); rintro e w2 ⟨rfl, ⟨nd, rfl⟩⟩)
    go_ret
    refine ⟨by simp [i64_w], ?_⟩
    exact pw_below_drewN hb _
  · rw [if_neg hs] at h
    cases h
end Go.Proofs.Ytcopbkdlpfcjpaa.M
