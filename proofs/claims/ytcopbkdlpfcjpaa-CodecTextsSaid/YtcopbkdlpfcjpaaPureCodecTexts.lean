/- CodecTexts answers true for any bytes and any text: PutText and GetText answer as the references do, and the bytes that were lent stay as they were. No condition beyond the reach that every row has. -/
import Derived.Test.YtcopbkdlpfcjpaaCx4
import Derived.Test.YtcopbkdlpfcjpaaMd
namespace Go.Proofs.Ytcopbkdlpfcjpaa.Pure
open Go.RowKit Go.Proofs.Ytcopbkdlpfcjpaa.C Go.Proofs.YtcopbkdlpfcjpaaW.PrintWords Go.Proofs.Ytcopbkdlpfcjpaa.B Go.Proofs.Ytcopbkdlpfcjpaa.H Go.Proofs.Ytcopbkdlpfcjpaa.Ma

/-- What both texts' readers answer. -/
def getT (l : List Int) (p : Int × Int) : Option (ByteArray × Int) := if p.2 = 0 then some ((⟨#[]⟩ : ByteArray), 0) else if p.1 > (IntKind.u64.wrap (wrap64 ((l.length : Int) - p.2))) then some ((⟨#[]⟩ : ByteArray), 0) else if 0 ≤ p.2 then (if p.2 ≤ (wrap64 (p.2 + (wrap64 (p.1)))) then (if (wrap64 (p.2 + (wrap64 (p.1)))) ≤ (l.length : Int) then (some (strOfNums ((l.take ((wrap64 (p.2 + (wrap64 (p.1)))) : Int).toNat).drop (p.2 : Int).toNat), wrap64 (p.2 + (wrap64 (p.1))))) else none) else none) else none
theorem getS_le (L : List Nat) : ∀ i u, (getS L i u).2 ≤ i + L.length := by
  induction L with
  | nil => intro i u; simp [getS]
  | cons x r ih =>
    intro i u
    rw [getS]
    split
    · simp
    · split
      · simp
      · have := ih (i + 1) (u + 2 ^ (7 * i) * (x % 128))
        simp only [List.length_cons]
        omega
theorem getT_some (l : List Int) (hl : l.length ≤ 1000000) (a b : Nat) (hb : b ≤ l.length) : ∃ r, getT l ((a : Int), (b : Int)) = some r := by
  unfold getT
  simp only
  split
  · exact ⟨_, rfl⟩
  · rw [wrap_in (n := (l.length : Int) - (b : Int)) (by omega), IntKind.wrap_u64]
    have e : ((l.length : Int) - (b : Int)) % 18446744073709551616 = (l.length : Int) - (b : Int) := by omega
    rw [e]
    split
    · exact ⟨_, rfl⟩
    · rw [wrap_in (n := (a : Int)) (by omega), wrap_in (n := (b : Int) + (a : Int)) (by omega), if_pos (by omega), if_pos (by omega), if_pos (by omega)]
      exact ⟨_, rfl⟩
theorem GetText_eq (k : Nat) (l : List Int) : codec_GetText.f k l = (codec_Get.f k l).bind (getT l) := by
  unfold codec_GetText.f getT
  rfl
theorem refGetText_eq (k : Nat) (l : List Int) : skerryref01_GetText.f k l = (skerryref01_Get.f k l).bind (getT l) := by
  unfold skerryref01_GetText.f getT
  rfl
theorem GetText_ev (L : List Nat) (hL : ∀ x ∈ L, x < 256) (hlen : L.length ≤ 1000000) (r : ByteArray × Int) (hr : getT (up L) (pr (getS L 0 0)) = some r) : Ev (fun k => codec_GetText.f k (up L)) r :=
  Ev.congr (fun k => GetText_eq k (up L)) (Ev.bind (f := fun _ p => getT (up L) p) (Get_all L hL (by omega)) (Ev.congr (fun _ => hr) (Ev.now _)))
theorem refGetText_ev (L : List Nat) (hL : ∀ x ∈ L, x < 256) (hlen : L.length ≤ 1000000) (r : ByteArray × Int) (hr : getT (up L) (pr (getS L 0 0)) = some r) : Ev (fun k => skerryref01_GetText.f k (up L)) r :=
  Ev.congr (fun k => refGetText_eq k (up L)) (Ev.bind (f := fun _ p => getT (up L) p) (refGet_all L hL (by omega)) (Ev.congr (fun _ => hr) (Ev.now _)))
/-- What both texts' writers answer behind the count. -/
def putT (s : ByteArray) (t : List Int) : Option (List Int) := if t.length + s.size < 140737488355328 then some (t ++ bytesOf s) else none
theorem putT_some (s : ByteArray) (t : List Int) (h : t.length + s.size < 140737488355328) : putT s t = some (t ++ bytesOf s) := if_pos h
theorem text_eq (k : Nat) (l : List Int) (s : ByteArray) : codec_text.f k l s = (codec_put.f k l (IntKind.u64.wrap (s.size : Int))).bind (putT s) := by
  unfold codec_text.f putT
  rfl
theorem PutText_eq (k : Nat) (l : List Int) (s : ByteArray) (h : l.length < 140737488355328) : codec_PutText.f k l s = codec_text.f k l s := by
  unfold codec_PutText.f
  rw [if_pos (by simpa using h), List.nil_append]
  cases codec_text.f k l s <;> rfl
theorem refPutText_eq (k : Nat) (l : List Int) (s : ByteArray) : skerryref01_PutText.f k l s = (skerryref01_Put.f k l (IntKind.u64.wrap (s.size : Int))).bind (putT s) := by
  unfold skerryref01_PutText.f putT
  rfl
theorem wsize (s : ByteArray) (h : s.size ≤ 1000000000000) : IntKind.u64.wrap (s.size : Int) = (s.size : Int) := by rw [IntKind.wrap_u64]; omega
theorem text_ev (L : List Int) (s : ByteArray) (hlen : L.length ≤ 1000000000) (hs : s.size ≤ 1000000000) : Ev (fun k => codec_text.f k L s) (L ++ up (digN s.size) ++ bytesOf s) := by
  have hd := digN_len64 s.size (by omega)
  refine Ev.congr (fun k => text_eq k L s) ?_
  rw [wsize s (by omega)]
  refine Ev.bind (f := fun _ t => putT s t) (put_ev s.size L (by omega) (by omega)) ?_
  exact Ev.congr (fun _ => putT_some s _ (by rw [List.length_append, up_length]; omega)) (Ev.now _)
theorem PutText_ev (L : List Int) (s : ByteArray) (hlen : L.length ≤ 1000000000) (hs : s.size ≤ 1000000000) : Ev (fun k => codec_PutText.f k L s) (L ++ up (digN s.size) ++ bytesOf s) :=
  Ev.congr (fun k => PutText_eq k L s (by omega)) (text_ev L s hlen hs)
theorem refPutText_ev (L : List Nat) (s : ByteArray) (hlen : L.length ≤ 1000000000) (hs : s.size ≤ 1000000000) : Ev (fun k => skerryref01_PutText.f k (up L) s) (up L ++ up (digN s.size) ++ bytesOf s) := by
  have hd := digN_len64 s.size (by omega)
  refine Ev.congr (fun k => refPutText_eq k (up L) s) ?_
  rw [wsize s (by omega)]
  refine Ev.bind (f := fun _ t => putT s t) (refPut_ev L s.size (by omega) hlen) ?_
  exact Ev.congr (fun _ => putT_some s _ (by rw [List.length_append, up_length, up_length]; omega)) (Ev.now _)
theorem CodecTexts : skerrylaw01_CodecTexts.Pure := by
  intro l s _ hl2 hl hs
  unfold skerrylaw01_CodecTexts.f
  rw [wrap_in (n := (l.length : Int) + (s.size : Int)) (by omega)]
  by_cases h : (l.length : Int) + (s.size : Int) > 10000
  · exact ⟨0, by rw [if_pos h]; rfl⟩
  · obtain ⟨L, hL, rfl⟩ := up_of l hl
    rw [up_length] at h
    have hlen : L.length ≤ 10000 := by omega
    have hsz : s.size ≤ 10000 := by omega
    obtain ⟨r, hr⟩ := getT_some (up L) (by rw [up_length]; omega) (getS L 0 0).1 (getS L 0 0).2 (by rw [up_length]; have := getS_le L 0 0; omega)
    refine Ev.rounds ?_
    simp only [up_length, if_neg h]
    refine Ev.bind (Lend_ev (up L) (by rw [up_length]; omega)) ?_
    refine Ev.bind (GetText_ev L hL (by omega) r hr) ?_
    refine Ev.bind (refGetText_ev L hL (by omega) r hr) ?_
    refine Ev.bind (PutText_ev (up L) s (by rw [up_length]; omega) (by omega)) ?_
    refine Ev.bind (refPutText_ev L s (by omega) (by omega)) ?_
    refine Ev.congr (f := fun _ => some true) (fun k => ?_) (Ev.now _)
    rw [Same_self, Option.bind_some, if_pos rfl, if_pos rfl, if_pos rfl, Kept_eq (up L) (by rw [up_length]; omega), Option.bind_some, if_pos rfl]
    rfl

end Go.Proofs.Ytcopbkdlpfcjpaa.Pure
