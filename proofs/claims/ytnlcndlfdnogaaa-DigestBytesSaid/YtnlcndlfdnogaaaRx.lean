/- RIPEMD-160 of the reference: the words of a piece byte by byte, the tables, the frames; in plain Lean. -/
import Derived.Test.YtnlcndlfdnogaaaLn
import Derived.Test.YtnlcndlfdnogaaaSr
import Derived.Test.YtnlcndlfdnogaaaKr
set_option linter.unusedVariables false
set_option linter.unusedSimpArgs false
namespace Go.Proofs.Ytnlcndlfdnogaaa.Rx
open Go.RowKit
open D0 M D2 D3 Rg K1 C1 S0 S1 S2 Z R0 Ln
/-- A table's numbers. -/
def tn (l : List Byte) : List Nat := l.map BitVec.toNat
theorem tn_gt (l : List Byte) (j : Nat) : gt (tn l) 0 j = (gt l 0#8 j).toNat := by
  simp only [gt, tn, List.getD, List.getElem?_map]
  cases l[j]? <;> rfl
theorem tn_len (l : List Byte) : (tn l).length = l.length := by simp [tn]
theorem runN_eq (l s : List Byte) (k x v : V) (back : Nat) : Ln.runN (tn l) (tn s) k x back v = runF l s k x back v := by
  unfold Ln.runN runF
  congr 1
  funext j v
  unfold lnN lnS
  rw [tn_gt, tn_gt]
/-- A byte put into a piece's words. -/
def xB (p : List Byte) (at_ i : Nat) (x : V) : V := x.set (i / 4) (gt x 0#32 (i / 4) ||| ((gt p 0#8 (at_ + i)).setWidth 32 <<< (8 * (i % 4))))
theorem xB_len (p : List Byte) (at_ n : Nat) (a : V) : (it (xB p at_) n a).length = a.length := P.it_len (fun _ _ => List.length_set) _ _
theorem fold_bit (bs : List Byte) (k : Nat) : k ≤ 4 → ∀ j, j < 32 → (it (fun q y => y ||| ((gt bs 0#8 q).setWidth 32 <<< (8 * q))) k 0#32).getLsbD j = (decide (j < 8 * k) && (gt bs 0#8 (j / 8)).getLsbD (j % 8)) := by
  induction k with
  | zero => intro _ j hj; simp [it]
  | succ k ih =>
    intro hk j hj
    rw [it_succ, BitVec.getLsbD_or, ih (by omega) j hj, BitVec.getLsbD_shiftLeft, BitVec.getLsbD_setWidth]
    by_cases h1 : j < 8 * k
    · simp [h1, hj, show j < 8 * (k + 1) by omega]
    · by_cases h2 : j < 8 * (k + 1)
      · have e1 : j / 8 = k := by omega
        have e2 : j - 8 * k = j % 8 := by omega
        rw [e1, e2]
        simp [h1, h2, hj, show j % 8 < 32 by omega]
      · rw [Kr.byte_hi _ (j - 8 * k) (by omega)]
        simp [h1, h2, hj]
theorem fold4 (bs : List Byte) : it (fun q y => y ||| ((gt bs 0#8 q).setWidth 32 <<< (8 * q))) 4 0#32 = (wordF bs 4 0).setWidth 32 := by
  apply BitVec.eq_of_getLsbD_eq
  intro j hj
  rw [fold_bit bs 4 (by omega) j hj, BitVec.getLsbD_setWidth]
  unfold wordF
  rw [Kr.word_bit bs 4 (by omega) 4 (by omega) j (by omega)]
  simp [hj]
theorem x_part (p : List Byte) (at_ j : Nat) (a : V) (hj : j < a.length) (k : Nat) : k ≤ 4 → it (fun q b => xB p at_ (4 * j + q) b) k a = a.set j (it (fun q y => y ||| ((gt (p.drop (at_ + 4 * j)) 0#8 q).setWidth 32 <<< (8 * q))) k (gt a 0#32 j)) := by
  induction k with
  | zero =>
    intro _
    show a = a.set j (gt a 0#32 j)
    have e : gt a 0#32 j = a[j] := by simp [gt, List.getD, List.getElem?_eq_getElem hj]
    rw [e, List.set_getElem_self]
  | succ k ih =>
    intro hk
    rw [it_succ, it_succ, ih (by omega)]
    unfold xB
    rw [show (4 * j + k) / 4 = j by omega, show (4 * j + k) % 4 = k by omega, List.set_set]
    congr 1
    rw [Kr.gt_drop, show at_ + (4 * j + k) = at_ + 4 * j + k by omega]
    congr 1
    simp [gt, List.getD, List.getElem?_set_self hj]
theorem xS_rest (p : List Byte) (j : Nat) : ∀ i, j ≤ i → gt (it (xS p) j (List.replicate 16 0#32)) 0#32 i = 0#32 := by
  induction j with
  | zero =>
    intro i _
    show gt (List.replicate 16 0#32) 0#32 i = 0#32
    simp only [gt, List.getD, List.getElem?_replicate]
    split <;> rfl
  | succ j ih =>
    intro i hi
    rw [it_succ]
    unfold xS
    have := ih i (by omega)
    simp only [gt, List.getD] at this ⊢
    rw [List.getElem?_set_ne (by omega)]
    exact this
theorem xS_len (p : List Byte) (n : Nat) (a : V) : (it (xS p) n a).length = a.length := P.it_len (fun _ _ => List.length_set) _ _
theorem x_all (p : List Byte) (at_ : Nat) (j : Nat) : j ≤ 16 → it (xB p at_) (4 * j) (List.replicate 16 0#32) = it (xS (p.drop at_)) j (List.replicate 16 0#32) := by
  induction j with
  | zero => intro _; rfl
  | succ j ih =>
    intro hj
    rw [show 4 * (j + 1) = 4 * j + 4 by omega, Kr.it_add (xB p at_) (4 * j) 4, ih (by omega), it_succ (xS (p.drop at_)) j]
    have h0 := xS_rest (p.drop at_) j j (Nat.le_refl _)
    have hl : (it (xS (p.drop at_)) j (List.replicate 16 0#32)).length = 16 := (xS_len _ _ _).trans (List.length_replicate)
    generalize it (xS (p.drop at_)) j (List.replicate 16 0#32) = b at *
    rw [x_part p at_ j b (by omega) 4 (by omega), h0, fold4]
    unfold xS
    rw [List.drop_drop]
theorem xF_eq (p : List Byte) (at_ : Nat) : it (xB p at_) 64 (List.replicate 16 0#32) = xF (p.drop at_) := x_all p at_ 16 (Nat.le_refl _)
/-- The answer's bytes, one by one. -/
def outR (h : V) (i : Nat) (o : List Byte) : List Byte := o.set i ((gt h 0#32 (i / 4) >>> (8 * (i % 4))).setWidth 8)
theorem outR_len (a : V) (n : Nat) (h : List Byte) : (it (outR a) n h).length = h.length := P.it_len (fun _ _ => List.length_set) _ _
theorem out_all (h : V) : it (outR h) 20 (List.replicate 20 0#8) = it (ripO h) 5 (List.replicate 20 0#8) := by kernel_rfl
end Go.Proofs.Ytnlcndlfdnogaaa.Rx
