/- Words as values: the model's arithmetic on them is BitVec's. (printed by gen_d0.py) -/
import Derived.Test.YtnlcndlfdnogaaaChecked
import Derived.Lib.Hide
import Derived.Deep.RegionLaw
import Derived.Deep.DeepCutAuto
import Derived.Deep.RegionHeld3
set_option linter.unusedVariables false
set_option linter.unusedSimpArgs false
namespace Go.Proofs.Ytnlcndlfdnogaaa.D0
open Go.RowKit
/-- Words and bytes as numbers (closed to simp). -/
def n64 (x : BitVec 64) : Int := (x.toNat : Int)
def n32 (x : BitVec 32) : Int := (x.toNat : Int)
def n8 (x : BitVec 8) : Int := (x.toNat : Int)
theorem wrap_u64 (n : Int) : IntKind.u64.wrap n = n % 18446744073709551616 := by simp [IntKind.wrap, IntKind.bits, IntKind.signed]
theorem wrap_u32 (n : Int) : IntKind.u32.wrap n = n % 4294967296 := by simp [IntKind.wrap, IntKind.bits, IntKind.signed]
theorem wrap_u8 (n : Int) : IntKind.u8.wrap n = n % 256 := by simp [IntKind.wrap, IntKind.bits, IntKind.signed]
theorem of64 (x : BitVec 64) : BitVec.ofInt 64 (x.toNat : Int) = x := by simp
theorem lt64 (x : BitVec 64) : 0 ≤ n64 x ∧ n64 x < 18446744073709551616 := by unfold n64; have := x.isLt; omega
theorem mod64 (x : BitVec 64) : (n64 x) % 18446744073709551616 = n64 x := by have := lt64 x; omega
theorem wrapn64 (x : BitVec 64) : IntKind.u64.wrap (n64 x) = n64 x := by rw [wrap_u64, mod64]
theorem inj64 {x y : BitVec 64} : n64 x = n64 y ↔ x = y := by
  unfold n64
  constructor
  · intro h; apply BitVec.eq_of_toNat_eq; omega
  · intro h; rw [h]
theorem beq64 (x y : BitVec 64) : (n64 x == n64 y) = (x == y) := by
  rw [Bool.eq_iff_iff, beq_iff_eq, beq_iff_eq, inj64]
theorem ofNat64 (n : Nat) (h : n < 18446744073709551616) : n64 (BitVec.ofNat 64 n) = (n : Int) := by
  unfold n64; rw [BitVec.toNat_ofNat, Nat.mod_eq_of_lt (by simpa using h)]
theorem xor64 (x y : BitVec 64) : bits .xor .u64 (n64 x) (n64 y) = n64 (x ^^^ y) := by
  show IntKind.u64.wrap (((BitVec.ofInt 64 (n64 x)) ^^^ (BitVec.ofInt 64 (n64 y))).toNat : Int) = _
  unfold n64
  rw [of64, of64]
  exact wrapn64 _
theorem and64 (x y : BitVec 64) : bits .and .u64 (n64 x) (n64 y) = n64 (x &&& y) := by
  show IntKind.u64.wrap (((BitVec.ofInt 64 (n64 x)) &&& (BitVec.ofInt 64 (n64 y))).toNat : Int) = _
  unfold n64
  rw [of64, of64]
  exact wrapn64 _
theorem or64 (x y : BitVec 64) : bits .or .u64 (n64 x) (n64 y) = n64 (x ||| y) := by
  show IntKind.u64.wrap (((BitVec.ofInt 64 (n64 x)) ||| (BitVec.ofInt 64 (n64 y))).toNat : Int) = _
  unfold n64
  rw [of64, of64]
  exact wrapn64 _
theorem andNot64 (x y : BitVec 64) : bits .andNot .u64 (n64 x) (n64 y) = n64 (x &&& ~~~y) := by
  show IntKind.u64.wrap (((BitVec.ofInt 64 (n64 x)) &&& ~~~(BitVec.ofInt 64 (n64 y))).toNat : Int) = _
  unfold n64
  rw [of64, of64]
  exact wrapn64 _
theorem add64 (x y : BitVec 64) : (n64 x + n64 y) % 18446744073709551616 = n64 (x + y) := by
  unfold n64; rw [BitVec.toNat_add]; omega
theorem shl64 (x : BitVec 64) (n : Nat) : IntKind.u64.wrap (n64 x * 2 ^ n) = n64 (x <<< n) := by
  unfold n64
  rw [wrap_u64, BitVec.toNat_shiftLeft, Nat.shiftLeft_eq, Int.natCast_emod, Int.natCast_mul, Int.natCast_pow]
  rfl
theorem shr64 (x : BitVec 64) (n : Nat) : n64 x / 2 ^ n = n64 (x >>> n) := by
  unfold n64
  rw [BitVec.toNat_ushiftRight, Nat.shiftRight_eq_div_pow, Int.natCast_ediv, Int.natCast_pow]
  rfl
theorem not64 (x : BitVec 64) : bits .xor .u64 IntKind.u64.max (n64 x) = n64 (~~~x) := by
  have h := xor64 (BitVec.allOnes 64) x
  have h2 : n64 (BitVec.allOnes 64) = IntKind.u64.max := by unfold n64; simp [IntKind.max, IntKind.bits, IntKind.signed]
  rw [h2, BitVec.allOnes_xor] at h
  exact h
theorem unary64 (x : BitVec 64) : Op.unary .xor (.int .u64 (n64 x)) = pure (.int .u64 (n64 (~~~x))) := by
  have h := xor64 (BitVec.allOnes 64) x
  have h2 : n64 (BitVec.allOnes 64) = 18446744073709551615 := by unfold n64; simp
  rw [h2, BitVec.allOnes_xor] at h
  show Op.intBits .xor .u64 (if IntKind.u64.signed then -1 else IntKind.u64.max) (n64 x) = _
  rw [intBits_xor, ← h]
  rfl
theorem shiftl64 (yk : IntKind) (x : BitVec 64) (n : Int) (h0 : 0 ≤ n) (h1 : n ≤ 64) : Op.shift .shl .u64 (n64 x) yk n = pure (.int .u64 (n64 (x <<< n.toNat))) := by
  rw [shift_shl .u64 yk _ n h0 h1, shl64]
theorem shiftr64 (yk : IntKind) (x : BitVec 64) (n : Int) (h0 : 0 ≤ n) (h1 : n ≤ 64) : Op.shift .shr .u64 (n64 x) yk n = pure (.int .u64 (n64 (x >>> n.toNat))) := by
  rw [shift_shr .u64 yk _ n h0 h1, shr64]
theorem of32 (x : BitVec 32) : BitVec.ofInt 32 (x.toNat : Int) = x := by simp
theorem lt32 (x : BitVec 32) : 0 ≤ n32 x ∧ n32 x < 4294967296 := by unfold n32; have := x.isLt; omega
theorem mod32 (x : BitVec 32) : (n32 x) % 4294967296 = n32 x := by have := lt32 x; omega
theorem wrapn32 (x : BitVec 32) : IntKind.u32.wrap (n32 x) = n32 x := by rw [wrap_u32, mod32]
theorem inj32 {x y : BitVec 32} : n32 x = n32 y ↔ x = y := by
  unfold n32
  constructor
  · intro h; apply BitVec.eq_of_toNat_eq; omega
  · intro h; rw [h]
theorem beq32 (x y : BitVec 32) : (n32 x == n32 y) = (x == y) := by
  rw [Bool.eq_iff_iff, beq_iff_eq, beq_iff_eq, inj32]
theorem ofNat32 (n : Nat) (h : n < 4294967296) : n32 (BitVec.ofNat 32 n) = (n : Int) := by
  unfold n32; rw [BitVec.toNat_ofNat, Nat.mod_eq_of_lt (by simpa using h)]
theorem xor32 (x y : BitVec 32) : bits .xor .u32 (n32 x) (n32 y) = n32 (x ^^^ y) := by
  show IntKind.u32.wrap (((BitVec.ofInt 32 (n32 x)) ^^^ (BitVec.ofInt 32 (n32 y))).toNat : Int) = _
  unfold n32
  rw [of32, of32]
  exact wrapn32 _
theorem and32 (x y : BitVec 32) : bits .and .u32 (n32 x) (n32 y) = n32 (x &&& y) := by
  show IntKind.u32.wrap (((BitVec.ofInt 32 (n32 x)) &&& (BitVec.ofInt 32 (n32 y))).toNat : Int) = _
  unfold n32
  rw [of32, of32]
  exact wrapn32 _
theorem or32 (x y : BitVec 32) : bits .or .u32 (n32 x) (n32 y) = n32 (x ||| y) := by
  show IntKind.u32.wrap (((BitVec.ofInt 32 (n32 x)) ||| (BitVec.ofInt 32 (n32 y))).toNat : Int) = _
  unfold n32
  rw [of32, of32]
  exact wrapn32 _
theorem andNot32 (x y : BitVec 32) : bits .andNot .u32 (n32 x) (n32 y) = n32 (x &&& ~~~y) := by
  show IntKind.u32.wrap (((BitVec.ofInt 32 (n32 x)) &&& ~~~(BitVec.ofInt 32 (n32 y))).toNat : Int) = _
  unfold n32
  rw [of32, of32]
  exact wrapn32 _
theorem add32 (x y : BitVec 32) : (n32 x + n32 y) % 4294967296 = n32 (x + y) := by
  unfold n32; rw [BitVec.toNat_add]; omega
theorem shl32 (x : BitVec 32) (n : Nat) : IntKind.u32.wrap (n32 x * 2 ^ n) = n32 (x <<< n) := by
  unfold n32
  rw [wrap_u32, BitVec.toNat_shiftLeft, Nat.shiftLeft_eq, Int.natCast_emod, Int.natCast_mul, Int.natCast_pow]
  rfl
theorem shr32 (x : BitVec 32) (n : Nat) : n32 x / 2 ^ n = n32 (x >>> n) := by
  unfold n32
  rw [BitVec.toNat_ushiftRight, Nat.shiftRight_eq_div_pow, Int.natCast_ediv, Int.natCast_pow]
  rfl
theorem not32 (x : BitVec 32) : bits .xor .u32 IntKind.u32.max (n32 x) = n32 (~~~x) := by
  have h := xor32 (BitVec.allOnes 32) x
  have h2 : n32 (BitVec.allOnes 32) = IntKind.u32.max := by unfold n32; simp [IntKind.max, IntKind.bits, IntKind.signed]
  rw [h2, BitVec.allOnes_xor] at h
  exact h
theorem unary32 (x : BitVec 32) : Op.unary .xor (.int .u32 (n32 x)) = pure (.int .u32 (n32 (~~~x))) := by
  have h := xor32 (BitVec.allOnes 32) x
  have h2 : n32 (BitVec.allOnes 32) = 4294967295 := by unfold n32; simp
  rw [h2, BitVec.allOnes_xor] at h
  show Op.intBits .xor .u32 (if IntKind.u32.signed then -1 else IntKind.u32.max) (n32 x) = _
  rw [intBits_xor, ← h]
  rfl
theorem shiftl32 (yk : IntKind) (x : BitVec 32) (n : Int) (h0 : 0 ≤ n) (h1 : n ≤ 32) : Op.shift .shl .u32 (n32 x) yk n = pure (.int .u32 (n32 (x <<< n.toNat))) := by
  rw [shift_shl .u32 yk _ n h0 h1, shl32]
theorem shiftr32 (yk : IntKind) (x : BitVec 32) (n : Int) (h0 : 0 ≤ n) (h1 : n ≤ 32) : Op.shift .shr .u32 (n32 x) yk n = pure (.int .u32 (n32 (x >>> n.toNat))) := by
  rw [shift_shr .u32 yk _ n h0 h1, shr32]
theorem of8 (x : BitVec 8) : BitVec.ofInt 8 (x.toNat : Int) = x := by simp
theorem lt8 (x : BitVec 8) : 0 ≤ n8 x ∧ n8 x < 256 := by unfold n8; have := x.isLt; omega
theorem mod8 (x : BitVec 8) : (n8 x) % 256 = n8 x := by have := lt8 x; omega
theorem wrapn8 (x : BitVec 8) : IntKind.u8.wrap (n8 x) = n8 x := by rw [wrap_u8, mod8]
theorem inj8 {x y : BitVec 8} : n8 x = n8 y ↔ x = y := by
  unfold n8
  constructor
  · intro h; apply BitVec.eq_of_toNat_eq; omega
  · intro h; rw [h]
theorem beq8 (x y : BitVec 8) : (n8 x == n8 y) = (x == y) := by
  rw [Bool.eq_iff_iff, beq_iff_eq, beq_iff_eq, inj8]
theorem ofNat8 (n : Nat) (h : n < 256) : n8 (BitVec.ofNat 8 n) = (n : Int) := by
  unfold n8; rw [BitVec.toNat_ofNat, Nat.mod_eq_of_lt (by simpa using h)]
theorem xor8 (x y : BitVec 8) : bits .xor .u8 (n8 x) (n8 y) = n8 (x ^^^ y) := by
  show IntKind.u8.wrap (((BitVec.ofInt 8 (n8 x)) ^^^ (BitVec.ofInt 8 (n8 y))).toNat : Int) = _
  unfold n8
  rw [of8, of8]
  exact wrapn8 _
theorem and8 (x y : BitVec 8) : bits .and .u8 (n8 x) (n8 y) = n8 (x &&& y) := by
  show IntKind.u8.wrap (((BitVec.ofInt 8 (n8 x)) &&& (BitVec.ofInt 8 (n8 y))).toNat : Int) = _
  unfold n8
  rw [of8, of8]
  exact wrapn8 _
theorem or8 (x y : BitVec 8) : bits .or .u8 (n8 x) (n8 y) = n8 (x ||| y) := by
  show IntKind.u8.wrap (((BitVec.ofInt 8 (n8 x)) ||| (BitVec.ofInt 8 (n8 y))).toNat : Int) = _
  unfold n8
  rw [of8, of8]
  exact wrapn8 _
theorem andNot8 (x y : BitVec 8) : bits .andNot .u8 (n8 x) (n8 y) = n8 (x &&& ~~~y) := by
  show IntKind.u8.wrap (((BitVec.ofInt 8 (n8 x)) &&& ~~~(BitVec.ofInt 8 (n8 y))).toNat : Int) = _
  unfold n8
  rw [of8, of8]
  exact wrapn8 _
theorem add8 (x y : BitVec 8) : (n8 x + n8 y) % 256 = n8 (x + y) := by
  unfold n8; rw [BitVec.toNat_add]; omega
theorem shl8 (x : BitVec 8) (n : Nat) : IntKind.u8.wrap (n8 x * 2 ^ n) = n8 (x <<< n) := by
  unfold n8
  rw [wrap_u8, BitVec.toNat_shiftLeft, Nat.shiftLeft_eq, Int.natCast_emod, Int.natCast_mul, Int.natCast_pow]
  rfl
theorem shr8 (x : BitVec 8) (n : Nat) : n8 x / 2 ^ n = n8 (x >>> n) := by
  unfold n8
  rw [BitVec.toNat_ushiftRight, Nat.shiftRight_eq_div_pow, Int.natCast_ediv, Int.natCast_pow]
  rfl
theorem not8 (x : BitVec 8) : bits .xor .u8 IntKind.u8.max (n8 x) = n8 (~~~x) := by
  have h := xor8 (BitVec.allOnes 8) x
  have h2 : n8 (BitVec.allOnes 8) = IntKind.u8.max := by unfold n8; simp [IntKind.max, IntKind.bits, IntKind.signed]
  rw [h2, BitVec.allOnes_xor] at h
  exact h
theorem unary8 (x : BitVec 8) : Op.unary .xor (.int .u8 (n8 x)) = pure (.int .u8 (n8 (~~~x))) := by
  have h := xor8 (BitVec.allOnes 8) x
  have h2 : n8 (BitVec.allOnes 8) = 255 := by unfold n8; simp
  rw [h2, BitVec.allOnes_xor] at h
  show Op.intBits .xor .u8 (if IntKind.u8.signed then -1 else IntKind.u8.max) (n8 x) = _
  rw [intBits_xor, ← h]
  rfl
theorem shiftl8 (yk : IntKind) (x : BitVec 8) (n : Int) (h0 : 0 ≤ n) (h1 : n ≤ 8) : Op.shift .shl .u8 (n8 x) yk n = pure (.int .u8 (n8 (x <<< n.toNat))) := by
  rw [shift_shl .u8 yk _ n h0 h1, shl8]
theorem shiftr8 (yk : IntKind) (x : BitVec 8) (n : Int) (h0 : 0 ≤ n) (h1 : n ≤ 8) : Op.shift .shr .u8 (n8 x) yk n = pure (.int .u8 (n8 (x >>> n.toNat))) := by
  rw [shift_shr .u8 yk _ n h0 h1, shr8]
end Go.Proofs.Ytnlcndlfdnogaaa.D0
