/- Keccak as a function. -/
import Derived.Test.YtnlcndlfdnogaaaD5
set_option linter.unusedVariables false
set_option linter.unusedSimpArgs false
namespace Go.Proofs.Ytnlcndlfdnogaaa.K0
open D0 M D2 D3 D4 P
def padZ (n : Nat) : Nat := 135 - n % 136
/-- The bytes, one, noughts; the highest bit of the last. -/
def preF (bs : List Byte) : List Byte := bs ++ [1#8] ++ List.replicate (padZ bs.length) 0#8
def padF (bs : List Byte) : List Byte := (preF bs).set ((preF bs).length - 1) (gt (preF bs) 0#8 ((preF bs).length - 1) ||| 128#8)
def absS (p : List Byte) (i : Nat) (a : L) : L := a.set i (gt a 0#64 i ^^^ wordF (p.drop (8 * i)) 8 0)
def spgS (p : List Byte) (k : Nat) (a : L) : L := permF (it (absS (p.drop (136 * k))) 17 a)
def spgF (p : List Byte) : L := it (spgS p) (p.length / 136) (List.replicate 25 0#64)
def outS (a : L) (i : Nat) (h : List Byte) : List Byte := layF (8 * i) 8 (gt a 0#64 i) 0 h
def keccF (bs : List Byte) : List Byte := it (outS (spgF (padF bs))) 4 (List.replicate 32 0#8)
theorem pre_len (bs : List Byte) : (preF bs).length = bs.length + 1 + padZ bs.length := by simp [preF]; omega
theorem pre_mod (bs : List Byte) : (preF bs).length % 136 = 0 := by rw [pre_len]; unfold padZ; omega
theorem pad_len (bs : List Byte) : (padF bs).length = (preF bs).length := by unfold padF; rw [List.length_set]
theorem abs_len (p : List Byte) (n : Nat) (a : L) : (it (absS p) n a).length = a.length := it_len (fun _ _ => List.length_set) _ _
theorem perm_len {a : L} (h : a.length = 25) : (permF a).length = 25 := (per_len h 24).1
theorem spg_len (p : List Byte) (n : Nat) {a : L} (h : a.length = 25) : (it (spgS p) n a).length = 25 := by
  induction n with
  | zero => rw [it_zero]; exact h
  | succ n ih =>
    rw [it_succ]
    unfold spgS
    exact perm_len ((abs_len _ _ _).trans ih)
theorem out_len (a : L) (n : Nat) (h : List Byte) : (it (outS a) n h).length = h.length := it_len (fun _ _ => layIt_len _ _ _ _ _ _) _ _
end Go.Proofs.Ytnlcndlfdnogaaa.K0
