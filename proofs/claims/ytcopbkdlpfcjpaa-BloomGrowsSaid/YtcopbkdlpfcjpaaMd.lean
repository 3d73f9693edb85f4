/- Plain laws of the references' Lend and Kept: what was handed out is as it was. -/
import Derived.Test.YtcopbkdlpfcjpaaMb
import Derived.Test.YtcopbkdlpfcjpaaGiven
namespace Go.Proofs.Ytcopbkdlpfcjpaa.Ma
open Go.RowKit Go.Proofs.YtcopbkdlpfcjpaaW.PrintWords Go.Proofs.YtcopbkdlpfcjpaaW.PrintLast Go.Proofs.YtcopbkdlpfcjpaaW.PrintMore Go.Proofs.Ytcopbkdlpfcjpaa.B

theorem lend_loop (L : List Int) (hn : L.length ≤ 1000000) (d : Nat) : ∀ i : Nat, i + d = L.length →
    Ev (fun k => skerryref01_Lend.l0 k L (165 :: (L.take i ++ (List.replicate d 0 ++ [90]))) L (L.length : Int) (i : Int)) (165 :: (L ++ [90]), L) := by
  induction d with
  | zero =>
    intro i hi
    have hi' : i = L.length := by omega
    subst hi'
    refine Ev.step (f := fun _ => some (165 :: (L ++ [90]), L)) (fun k => ?_) (Ev.now _)
    simp only [skerryref01_Lend.l0]
    rw [if_neg (by omega), wrap_in (by omega), if_pos (by omega), if_pos (by simp; omega)]
    have e1 : ((L.length : Int) + 1).toNat = L.length + 1 := by omega
    rw [e1]
    simp
  | succ d ih =>
    intro i hi
    have hlt : i < L.length := by omega
    refine Ev.step (fun k => ?_) (ih (i + 1) (by omega))
    simp only [skerryref01_Lend.l0]
    rw [if_pos (by omega), if_pos (by omega), if_pos (by omega), wrap_in (by omega), if_pos (by omega), if_pos (by simp; omega)]
    have e1 : ((i : Int) + 1).toNat = i + 1 := by omega
    have e2 : rd L (i : Int) = L[i] := by
      unfold rd
      rw [Int.toNat_natCast, List.getD_eq_getElem?_getD, List.getElem?_eq_getElem hlt]
      rfl
    have e3 : (165 :: (L.take i ++ (List.replicate (d + 1) 0 ++ [90]))).set (i + 1) L[i] = (165 :: (L.take (i + 1) ++ (List.replicate d 0 ++ [90])) : List Int) := by
      rw [List.set_cons_succ, List.set_append_right _ _ (by rw [List.length_take]; omega), List.length_take]
      have : i - min i L.length = 0 := by omega
      rw [this, List.replicate_succ, List.cons_append, List.set_cons_zero, List.take_succ_eq_append_getElem hlt, List.append_assoc]
      rfl
    rw [e1, e2, e3]
    rfl
theorem Lend_ev (L : List Int) (hn : L.length ≤ 1000000) : Ev (fun k => skerryref01_Lend.f k L) (165 :: (L ++ [90]), L) := by
  refine Ev.congr (fun k => ?_) (lend_loop L hn L.length 0 (by omega))
  unfold skerryref01_Lend.f
  rw [wrap_in (n := (L.length : Int) + 2) (by omega), wrap_in (n := (L.length : Int) + 1) (by omega)]
  rw [if_pos (by omega), if_pos (by omega)]
  simp only [Option.bind_some]
  have e1 : ((L.length : Int) + 2).toNat = L.length + 2 := by omega
  have e2 : ((L.length : Int) + 1).toNat = L.length + 1 := by omega
  rw [e1, e2, if_pos (by simp; omega), if_pos (by omega), if_pos (by simp)]
  congr 1
  have e4 : (0 : Int).toNat = 0 := rfl
  rw [e4, List.replicate_succ, List.set_cons_zero, List.set_cons_succ, List.take_zero, List.nil_append, List.replicate_succ']
  rw [List.set_append_right _ _ (by simp)]
  simp
theorem Kept_eq (L : List Int) (hn : L.length ≤ 1000000) : skerryref01_Kept.f (165 :: (L ++ [90])) L = some true := by
  unfold skerryref01_Kept.f
  rw [wrap_in (n := (L.length : Int) + 2) (by omega), wrap_in (n := (L.length : Int) + 1) (by omega)]
  have e2 : ((L.length : Int) + 1).toNat = L.length + 1 := by omega
  have e0 : rd (165 :: (L ++ [90])) 0 = 165 := rfl
  have e9 : rd (165 :: (L ++ [90])) ((L.length : Int) + 1) = 90 := by
    unfold rd
    rw [e2, List.getD_eq_getElem?_getD, List.getElem?_cons_succ, List.getElem?_append_right (Nat.le_refl _)]
    simp
  have el : ((165 :: (L ++ [90])).length : Int) = (L.length : Int) + 2 := by simp; omega
  rw [el, if_pos rfl, if_pos (by omega), e0, if_pos rfl, if_pos (by omega), if_pos (by omega), e9, if_pos rfl, if_pos (by omega), if_pos (by omega), e2]
  have ec : (List.take (L.length + 1) (165 :: (L ++ [90]))).drop 1 = L := by simp
  rw [ec, beq_self_eq_true]
theorem Same_self (L : List Int) : skerryref01_Same.f L L = some true := by
  unfold skerryref01_Same.f
  rw [beq_self_eq_true]
end Go.Proofs.Ytcopbkdlpfcjpaa.Ma
