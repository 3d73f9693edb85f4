/- The plain law of MurmurHalves: Token is the first half of the hash, and nothing else is looked at. -/
import Derived.Test.YtcopbkdlpfcjpaaEx2
import Derived.Test.YtcopbkdlpfcjpaaMe
import Derived.Test.YtcopbkdlpfcjpaaMf
namespace Go.Proofs.Ytcopbkdlpfcjpaa.Pure
open Go.RowKit Go.Proofs.YtcopbkdlpfcjpaaW.PrintWords Go.Proofs.YtcopbkdlpfcjpaaW.PrintLast Go.Proofs.Ytcopbkdlpfcjpaa.B Go.Proofs.Ytcopbkdlpfcjpaa.E Go.Proofs.Ytcopbkdlpfcjpaa.D Go.Proofs.Ytcopbkdlpfcjpaa.M Go.Proofs.Ytcopbkdlpfcjpaa.Ma
theorem bytesOf_strOfNums (l : List Int) (h : ∀ x ∈ l, (Lit.int .u8 x).wf = true) : bytesOf (strOfNums l) = l := by
  unfold bytesOf
  rw [strOfNums_data, List.map_map]
  conv => rhs; rw [← List.map_id l]
  apply List.map_congr_left
  intro a ha
  have := u8_of (h a ha)
  simp only [Function.comp_apply, id_eq, UInt8.toNat_ofNat']
  omega
theorem halves_abs (S : List Int → Option (Int × Int)) (T : ByteArray → Option Int) (L : Option Bool) (l0 : List Int) (p : Int × Int) (hl : l0.length ≤ 100000) (hS : S l0 = some p) (hT : T (strOfNums l0) = some (wrap64 p.1)) (hL : L = some true) :
    ((some (([9] : List Int) : List Int)).bind fun y108 => (if y108.length + l0.length < 140737488355328 then ((some (y108 ++ l0 : List Int)).bind fun y111 => (if y111.length < 140737488355328 then ((some (y111 ++ [9] : List Int)).bind fun y114 => (if 1 ≤ (wrap64 ((y114.length : Int) - 1)) then (if (wrap64 ((y114.length : Int) - 1)) ≤ (y114.length : Int) then ((S ((y114.take ((wrap64 ((y114.length : Int) - 1)) : Int).toNat).drop 1)).bind fun bt121 => ((S l0).bind fun bt123 => (if bt121.1 = bt123.1 then ((T (strOfNums l0)).bind fun t125 => (if t125 = (wrap64 (bt121.1)) then (if 0 < (y114.length : Int) then (if (rd y114 0) = 9 then (if 0 ≤ (wrap64 ((y114.length : Int) - 1)) then (if (wrap64 ((y114.length : Int) - 1)) < (y114.length : Int) then (if (rd y114 (wrap64 ((y114.length : Int) - 1))) = 9 then (L.bind fun t128 => (some t128)) else (some false)) else (none)) else (none)) else (some false)) else (none)) else (some false))) else (some false)))) else (none)) else (none))) else (none))) else (none))) = some true := by
  simp only [Option.bind_some]
  rw [if_pos (by simp; omega), if_pos (by simp; omega)]
  have hlen : ([9] ++ l0 ++ [9] : List Int).length = l0.length + 2 := by simp
  rw [hlen]
  have hw : wrap64 (((l0.length + 2 : Nat) : Int) - 1) = ((l0.length + 1 : Nat) : Int) := by rw [wrap_in (by omega)]; omega
  rw [hw, if_pos (by omega), if_pos (by omega), Int.toNat_natCast]
  have hcut : (([9] ++ l0 ++ [9] : List Int).take (l0.length + 1)).drop 1 = l0 := by
    rw [List.take_append_of_le_length (by simp), List.take_of_length_le (by simp)]
    rfl
  have h0 : rd ([9] ++ l0 ++ [9] : List Int) 0 = 9 := rfl
  have h1 : rd ([9] ++ l0 ++ [9] : List Int) ((l0.length + 1 : Nat) : Int) = 9 := by
    unfold rd
    rw [Int.toNat_natCast, List.getD_eq_getElem?_getD, List.getElem?_append_right (by simp)]
    simp
  rw [hcut, hS, Option.bind_some, Option.bind_some, if_pos rfl, hT, Option.bind_some, if_pos rfl, if_pos (by omega), h0, if_pos rfl, if_pos (by omega), if_pos (by omega), h1, if_pos rfl, hL]
  rfl
theorem token_eq (s : ByteArray) (h : s.size ≤ 140737488351232) (p : Int × Int) (S : Option (Int × Int)) (hS : S = some p) : (if s.size ≤ 140737488351232 then S.bind fun t => some (wrap64 t.1) else none) = some (wrap64 p.1) := by
  rw [if_pos h, hS]
  rfl
theorem MurmurHalves : skerrylaw02_MurmurHalves.Pure := by
  intro l0 _ _ hw
  by_cases h : (l0.length : Int) > 100000
  · unfold skerrylaw02_MurmurHalves.f
    rw [if_pos h, lives2]
    rfl
  · unfold skerrylaw02_MurmurHalves.f
    rw [if_neg h]
    refine halves_abs (fun l => murmur_Sum.f l 0) murmur_Token.f _ l0 (sumS l0 0) (by omega) rfl ?_ lives2
    exact token_eq (strOfNums l0) (by rw [strOfNums_size]; omega) (sumS l0 0) _ (by rw [bytesOf_strOfNums l0 hw]; rfl)
end Go.Proofs.Ytcopbkdlpfcjpaa.Pure
