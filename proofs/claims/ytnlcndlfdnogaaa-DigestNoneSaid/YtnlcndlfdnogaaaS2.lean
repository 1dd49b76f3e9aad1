/- The padding of SHA-256 and RIPEMD-160, SHA-256 as a function. -/
import Derived.Test.YtnlcndlfdnogaaaS1
set_option linter.unusedVariables false
set_option linter.unusedSimpArgs false
namespace Go.Proofs.Ytnlcndlfdnogaaa.S2
open D0 M D2 D3 C1 S0 S1 P
def padW (n : Nat) : Nat := (119 - n % 64) % 64
def preG (bs : List Byte) : List Byte := bs ++ [128#8] ++ List.replicate (padW bs.length) 0#8 ++ List.replicate 8 0#8
/-- The padding; high: the count's highest byte ahead. -/
def padM (bs : List Byte) (high : Nat) : List Byte := layF ((preG bs).length - 8) 8 (BitVec.ofNat 64 bs.length <<< 3) high (preG bs)
theorem preG_len (bs : List Byte) : (preG bs).length = bs.length + 1 + padW bs.length + 8 := by simp [preG]; omega
theorem preG_mod (bs : List Byte) : (preG bs).length % 64 = 0 := by rw [preG_len]; unfold padW; omega
theorem padM_len (bs : List Byte) (high : Nat) : (padM bs high).length = (preG bs).length := layIt_len _ _ _ _ _ _
abbrev V := List (BitVec 32)
def rr (x : BitVec 32) (k : Nat) : BitVec 32 := rl x (32 - k)
/-- The words of a piece. -/
def wS (p : List Byte) (t : Nat) (w : V) : V :=
  if t < 16 then w.set t ((wordF (p.drop (4 * t)) 4 1).setWidth 32)
  else w.set t ((((rr (gt w 0#32 (t - 2)) 17 ^^^ rr (gt w 0#32 (t - 2)) 19 ^^^ gt w 0#32 (t - 2) >>> 10) + gt w 0#32 (t - 7)) + (rr (gt w 0#32 (t - 15)) 7 ^^^ rr (gt w 0#32 (t - 15)) 18 ^^^ gt w 0#32 (t - 15) >>> 3)) + gt w 0#32 (t - 16))
def wF (p : List Byte) : V := it (wS p) 64 (List.replicate 64 0#32)
/-- A round. -/
def t1F (k w v : V) (t : Nat) : BitVec 32 :=
  gt v 0#32 7 + (rr (gt v 0#32 4) 6 ^^^ rr (gt v 0#32 4) 11 ^^^ rr (gt v 0#32 4) 25) + (gt v 0#32 4 &&& gt v 0#32 5 ^^^ ~~~ gt v 0#32 4 &&& gt v 0#32 6) + gt k 0#32 t + gt w 0#32 t
def t2F (v : V) : BitVec 32 :=
  (rr (gt v 0#32 0) 2 ^^^ rr (gt v 0#32 0) 13 ^^^ rr (gt v 0#32 0) 22) + (gt v 0#32 0 &&& gt v 0#32 1 ^^^ gt v 0#32 0 &&& gt v 0#32 2 ^^^ gt v 0#32 1 &&& gt v 0#32 2)
def rndS (k w : V) (t : Nat) (v : V) : V := [t1F k w v t + t2F v, gt v 0#32 0, gt v 0#32 1, gt v 0#32 2, gt v 0#32 3 + t1F k w v t, gt v 0#32 4, gt v 0#32 5, gt v 0#32 6]
def sumS (v : V) (i : Nat) (h : V) : V := h.set i (gt h 0#32 i + gt v 0#32 i)
def pieceF (k h : V) (p : List Byte) : V := it (sumS (it (rndS k (wF p)) 64 h)) 8 h
def shaS (p : List Byte) (i : Nat) (h : V) : V := pieceF keysF h (p.drop (64 * i))
def shaO (h : V) (i : Nat) (o : List Byte) : List Byte := layF (4 * i) 4 ((gt h 0#32 i).setWidth 64) 1 o
/-- SHA-256. -/
def shaF (bs : List Byte) : List Byte := it (shaO (it (shaS (padM bs 1)) ((padM bs 1).length / 64) shaStartF)) 8 (List.replicate 32 0#8)
end Go.Proofs.Ytnlcndlfdnogaaa.S2
