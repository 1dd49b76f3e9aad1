/- RIPEMD-160 as a function. -/
import Derived.Test.YtnlcndlfdnogaaaS5
set_option linter.unusedVariables false
set_option linter.unusedSimpArgs false
namespace Go.Proofs.Ytnlcndlfdnogaaa.R0
open D0 M D2 D3 S2
def l1F : List Byte := [0#8, 1#8, 2#8, 3#8, 4#8, 5#8, 6#8, 7#8, 8#8, 9#8, 10#8, 11#8, 12#8, 13#8, 14#8, 15#8, 7#8, 4#8, 13#8, 1#8, 10#8, 6#8, 15#8, 3#8, 12#8, 0#8, 9#8, 5#8, 2#8, 14#8, 11#8, 8#8, 3#8, 10#8, 14#8, 4#8, 9#8, 15#8, 8#8, 1#8, 2#8, 7#8, 0#8, 6#8, 13#8, 11#8, 5#8, 12#8, 1#8, 9#8, 11#8, 10#8, 0#8, 8#8, 12#8, 4#8, 13#8, 3#8, 7#8, 15#8, 14#8, 5#8, 6#8, 2#8, 4#8, 0#8, 5#8, 9#8, 7#8, 12#8, 2#8, 10#8, 14#8, 1#8, 3#8, 8#8, 11#8, 6#8, 15#8, 13#8]
def s1F : List Byte := [11#8, 14#8, 15#8, 12#8, 5#8, 8#8, 7#8, 9#8, 11#8, 13#8, 14#8, 15#8, 6#8, 7#8, 9#8, 8#8, 7#8, 6#8, 8#8, 13#8, 11#8, 9#8, 7#8, 15#8, 7#8, 12#8, 15#8, 9#8, 11#8, 7#8, 13#8, 12#8, 11#8, 13#8, 6#8, 7#8, 14#8, 9#8, 13#8, 15#8, 14#8, 8#8, 13#8, 6#8, 5#8, 12#8, 7#8, 5#8, 11#8, 12#8, 14#8, 15#8, 14#8, 15#8, 9#8, 8#8, 9#8, 14#8, 5#8, 6#8, 8#8, 6#8, 5#8, 12#8, 9#8, 15#8, 5#8, 11#8, 6#8, 8#8, 13#8, 12#8, 5#8, 12#8, 13#8, 14#8, 11#8, 8#8, 5#8, 6#8]
def k1F : V := [0#32, 0x5a827999#32, 0x6ed9eba1#32, 0x8f1bbcdc#32, 0xa953fd4e#32]
def l2F : List Byte := [5#8, 14#8, 7#8, 0#8, 9#8, 2#8, 11#8, 4#8, 13#8, 6#8, 15#8, 8#8, 1#8, 10#8, 3#8, 12#8, 6#8, 11#8, 3#8, 7#8, 0#8, 13#8, 5#8, 10#8, 14#8, 15#8, 8#8, 12#8, 4#8, 9#8, 1#8, 2#8, 15#8, 5#8, 1#8, 3#8, 7#8, 14#8, 6#8, 9#8, 11#8, 8#8, 12#8, 2#8, 10#8, 0#8, 4#8, 13#8, 8#8, 6#8, 4#8, 1#8, 3#8, 11#8, 15#8, 0#8, 5#8, 12#8, 2#8, 13#8, 9#8, 7#8, 10#8, 14#8, 12#8, 15#8, 10#8, 4#8, 1#8, 5#8, 8#8, 7#8, 6#8, 2#8, 13#8, 14#8, 0#8, 3#8, 9#8, 11#8]
def s2F : List Byte := [8#8, 9#8, 9#8, 11#8, 13#8, 15#8, 15#8, 5#8, 7#8, 7#8, 8#8, 11#8, 14#8, 14#8, 12#8, 6#8, 9#8, 13#8, 15#8, 7#8, 12#8, 8#8, 9#8, 11#8, 7#8, 7#8, 12#8, 7#8, 6#8, 15#8, 13#8, 11#8, 9#8, 7#8, 15#8, 11#8, 8#8, 6#8, 6#8, 14#8, 12#8, 13#8, 5#8, 14#8, 13#8, 13#8, 7#8, 5#8, 15#8, 5#8, 8#8, 11#8, 14#8, 14#8, 6#8, 14#8, 6#8, 9#8, 12#8, 9#8, 12#8, 5#8, 15#8, 8#8, 8#8, 5#8, 12#8, 9#8, 12#8, 5#8, 14#8, 6#8, 8#8, 13#8, 6#8, 5#8, 15#8, 13#8, 11#8, 11#8]
def k2F : V := [0x50a28be6#32, 0x5c4dd124#32, 0x6d703ef3#32, 0x7a6d76e9#32, 0#32]
/-- A step of a line. -/
def lnS (l s : List Byte) (k x : V) (back j : Nat) (v : V) : V :=
  [gt v 0#32 4, rl (gt v 0#32 0 + mixF (if back = 1 then 4 - j / 16 else j / 16) (gt v 0#32 1) (gt v 0#32 2) (gt v 0#32 3) + gt x 0#32 (gt l 0#8 j).toNat + gt k 0#32 (j / 16)) (gt s 0#8 j).toNat + gt v 0#32 4, gt v 0#32 1, rl (gt v 0#32 2) 10, gt v 0#32 3]
def runF (l s : List Byte) (k x : V) (back : Nat) (v : V) : V := it (lnS l s k x back) 80 v
def startR : V := [0x67452301#32, 0xefcdab89#32, 0x98badcfe#32, 0x10325476#32, 0xc3d2e1f0#32]
/-- The words of a piece. -/
def xS (p : List Byte) (i : Nat) (x : V) : V := x.set i ((wordF (p.drop (4 * i)) 4 0).setWidth 32)
def xF (p : List Byte) : V := it (xS p) 16 (List.replicate 16 0#32)
def joinR (h l r : V) : V := [gt h 0#32 1 + gt l 0#32 2 + gt r 0#32 3, gt h 0#32 2 + gt l 0#32 3 + gt r 0#32 4, gt h 0#32 3 + gt l 0#32 4 + gt r 0#32 0, gt h 0#32 4 + gt l 0#32 0 + gt r 0#32 1, gt h 0#32 0 + gt l 0#32 1 + gt r 0#32 2]
def ripS (p : List Byte) (i : Nat) (h : V) : V := joinR h (runF l1F s1F k1F (xF (p.drop (64 * i))) 0 h) (runF l2F s2F k2F (xF (p.drop (64 * i))) 1 h)
def ripO (h : V) (i : Nat) (o : List Byte) : List Byte := layF (4 * i) 4 ((gt h 0#32 i).setWidth 64) 0 o
/-- RIPEMD-160. -/
def ripF (bs : List Byte) : List Byte := it (ripO (it (ripS (padM bs 0)) ((padM bs 0).length / 64) startR)) 5 (List.replicate 20 0#8)
def LA : List Value := nums l1F ++ nums s1F ++ m32 k1F
def LB : List Value := nums l2F ++ nums s2F ++ m32 k2F
def LN : List Value := LA ++ LB
theorem small1 : (l1F.all fun x => decide (x.toNat < 16)) = true ∧ (s1F.all fun x => decide (x.toNat < 32)) = true ∧ (l2F.all fun x => decide (x.toNat < 16)) = true ∧ (s2F.all fun x => decide (x.toNat < 32)) = true := by decide +kernel
theorem small_get {l : List Byte} {n : Nat} (h : (l.all fun x => decide (x.toNat < n)) = true) (j : Nat) (hj : j < l.length) : (gt l 0#8 j).toNat < n := by
  have := List.all_eq_true.1 h _ (List.getElem_mem hj)
  have e : gt l 0#8 j = l[j] := by simp [gt, List.getD, List.getElem?_eq_getElem hj]
  rw [e]
  simpa using this
end Go.Proofs.Ytnlcndlfdnogaaa.R0
