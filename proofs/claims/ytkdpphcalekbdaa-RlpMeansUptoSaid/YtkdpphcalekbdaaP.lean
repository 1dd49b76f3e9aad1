/- RLP in plain Lean: heads, forms, decoding, pieces. No program in sight. -/
import Derived.Test.YtkdpphcalekbdaaN
set_option linter.unusedVariables false
namespace Go.Proofs.Ytkdpphcalekbdaa.M

/-- What stands ahead of a payload of n bytes. -/
def headF (base n : Nat) : List UInt8 := if n ≤ 55 then [UInt8.ofNat (base + n)] else UInt8.ofNat (base + 55 + (digits n).length) :: digits n

/-- A length of k bytes, and why there is none. -/
def longP (bs : List UInt8) (k : Nat) : Nat × Nat :=
  if bs.length < k then (0, 41) else if bs.headD 0 = 0 then (0, 42) else if ofDigits (bs.take k) ≤ 55 ∨ 1099511627776 < ofDigits (bs.take k) then (0, 42) else (ofDigits (bs.take k), 0)

/-- A piece that is a text (l = 0) or a list (l = 1), by what its first byte says beyond 128 or 192; r: the bytes behind it. -/
def hdBody (r : List UInt8) (l base : Nat) : Except Nat (Nat × Nat × Nat) :=
  if base ≤ 55 then
    if r.length < base then .error 41
    else if l = 0 ∧ base = 1 ∧ (r.headD 0).toNat < 128 then .error 42
    else .ok (l, 1, 1 + base)
  else if (longP r (base - 55)).2 ≠ 0 then .error (longP r (base - 55)).2
  else if r.length < base - 55 + (longP r (base - 55)).1 then .error 41
  else .ok (l, 1 + (base - 55), 1 + (base - 55) + (longP r (base - 55)).1)
/-- The first piece of bytes: list, from, to; or the error. -/
def hd : List UInt8 → Except Nat (Nat × Nat × Nat)
  | [] => .error 41
  | c :: r => if c.toNat < 128 then .ok (0, 0, 1) else if c.toNat < 192 then hdBody r 0 (c.toNat - 128) else hdBody r 1 (c.toNat - 192)
theorem hd_cons (c : UInt8) (r : List UInt8) : hd (c :: r) = if c.toNat < 128 then .ok (0, 0, 1) else if c.toNat < 192 then hdBody r 0 (c.toNat - 128) else hdBody r 1 (c.toNat - 192) := rfl
end Go.Proofs.Ytkdpphcalekbdaa.M
