/- Turns of words, RIPEMD's mixing functions: the program's and the document's. -/
import Derived.Test.YtnlcndlfdnogaaaD1
set_option linter.unusedVariables false
set_option linter.unusedSimpArgs false
namespace Go.Proofs.Ytnlcndlfdnogaaa.D2
open Go.RowKit
open D0 M
attribute [local go_sem] xor64 and64 or64 xor32 and32 or32 andNot32 add64 add32 unary64 unary32 not64 not32 shl64 shr64 shl32 shr32
/-- Turned left. -/
def rl {w : Nat} (x : BitVec w) (s : Nat) : BitVec w := x <<< s ||| x >>> (w - s)
theorem rl_zero {w : Nat} (x : BitVec w) : rl x 0 = x := by
  have h : x >>> w = 0#w := by
    apply BitVec.eq_of_toNat_eq
    rw [BitVec.toNat_ushiftRight, Nat.shiftRight_eq_div_pow, Nat.div_eq_of_lt x.isLt]
    simp
  unfold rl
  rw [Nat.sub_zero, h]
  simp
theorem mask64 (k : Int) (s : Nat) (hs : k % 64 = s) : bits .and .u64 (IntKind.u64.wrap k) 63 = (s : Int) := by
  have h1 : IntKind.u64.wrap k = n64 (BitVec.ofInt 64 k) := by
    rw [wrap_u64]; unfold n64; rw [BitVec.toNat_ofInt]; omega
  have h2 : (63 : Int) = n64 63#64 := rfl
  rw [h1, h2, and64]
  unfold n64
  rw [BitVec.toNat_and, BitVec.toNat_ofInt, show (63#64).toNat = 2 ^ 6 - 1 from rfl, Nat.and_two_pow_sub_one_eq_mod]
  omega
theorem mask32 (k : Int) (s : Nat) (hs : k % 32 = s) : bits .and .u64 (IntKind.u64.wrap k) 31 = (s : Int) := by
  have h1 : IntKind.u64.wrap k = n64 (BitVec.ofInt 64 k) := by
    rw [wrap_u64]; unfold n64; rw [BitVec.toNat_ofInt]; omega
  have h2 : (31 : Int) = n64 31#64 := rfl
  rw [h1, h2, and64]
  unfold n64
  rw [BitVec.toNat_and, BitVec.toNat_ofInt, show (31#64).toNat = 2 ^ 5 - 1 from rfl, Nat.and_two_pow_sub_one_eq_mod]
  omega
theorem wsub64 (s : Nat) (h : s ≤ 64) : IntKind.u64.wrap (64 - (s : Int)) = ((64 - s : Nat) : Int) := by rw [wrap_u64]; omega
theorem wsub32 (s : Nat) (h : s ≤ 32) : IntKind.u64.wrap (32 - (s : Int)) = ((32 - s : Nat) : Int) := by rw [wrap_u64]; omega
set_option maxRecDepth 100000 in
set_option maxHeartbeats 1000000 in
theorem rot47 (x : BitVec 64) (k : Int) (s : Nat) (hs : k % 64 = s) (w : World) : Calls Try.prog 47 #[.int .u64 (n64 x), .int .i64 k] w fun e w' => e = .returned (.int .u64 (n64 (rl x s))) ∧ w' = w := by
  have hs1 : s < 64 := by omega
  have e1 := mask64 k s hs
  have e2 := wsub64 s (by omega)
  have h1 : (s : Int) ≤ 64 := by omega
  have h2 : ((64 - s : Nat) : Int) ≤ 64 := by omega
  have h3 : (0 : Int) ≤ (s : Int) := by omega
  have h4 : (0 : Int) ≤ ((64 - s : Nat) : Int) := by omega
  generalize hq : 64 - s = q at *
  have HQ := Lib.hid hq
  clear hq hs
  go_enter Try.func47, Try.ntmps47
  go_wp2
  go_ret
  unfold rl
  rw [HQ.out]
  exact ⟨rfl, rfl⟩
set_option maxRecDepth 100000 in
set_option maxHeartbeats 1000000 in
theorem rot52 (x : BitVec 32) (k : Int) (s : Nat) (hs : k % 32 = s) (w : World) : Calls Try.prog 52 #[.int .u32 (n32 x), .int .i64 k] w fun e w' => e = .returned (.int .u32 (n32 (rl x s))) ∧ w' = w := by
  have hs1 : s < 32 := by omega
  have e1 := mask32 k s hs
  have e2 := wsub32 s (by omega)
  have h1 : (s : Int) ≤ 32 := by omega
  have h2 : ((32 - s : Nat) : Int) ≤ 32 := by omega
  have h3 : (0 : Int) ≤ (s : Int) := by omega
  have h4 : (0 : Int) ≤ ((32 - s : Nat) : Int) := by omega
  generalize hq : 32 - s = q at *
  have HQ := Lib.hid hq
  clear hq hs
  go_enter Try.func52, Try.ntmps52
  go_wp2
  go_ret
  unfold rl
  rw [HQ.out]
  exact ⟨rfl, rfl⟩
set_option maxRecDepth 100000 in
set_option maxHeartbeats 1000000 in
theorem right49 (x : BitVec 32) (k : Nat) (hk : k ≤ 32) (hk0 : 0 < k) (w : World) : Calls Try.prog 49 #[.int .u32 (n32 x), .int .i64 (k : Int)] w fun e w' => e = .returned (.int .u32 (n32 (rl x (32 - k)))) ∧ w' = w := by
  have H := Lib.hid (fun W => rot52 x (-(k : Int)) (32 - k) (by omega) W)
  have e1 : wrap64 (-(k : Int)) = -(k : Int) := by unfold wrap64; omega
  clear hk hk0
  go_enter Try.func49, Try.ntmps49
  go_wp2_with (first | (go_at_call 52; refine (H.out _).mono ?_; rintro e w1 ⟨rfl, rfl⟩))
  go_ret
  exact ⟨rfl, rfl⟩
set_option maxRecDepth 100000 in
set_option maxHeartbeats 1000000 in
theorem left42 (x : BitVec 64) (k : Nat) (hk : k < 64) (w : World) : Calls Try.prog 42 #[.int .u64 (n64 x), .int .i64 (k : Int)] w fun e w' => e = .returned (.int .u64 (n64 (rl x k))) ∧ w' = w := by
  have e0 : (k : Int).tmod 64 = (k : Int) := by rw [Int.tmod_eq_emod_of_nonneg (by omega)]; omega
  by_cases h0 : k = 0
  · subst h0
    go_enter Try.func42, Try.ntmps42
    go_wp2
    go_ret
    rw [rl_zero]
    exact ⟨rfl, rfl⟩
  · have e1 : IntKind.u64.wrap (k : Int) = (k : Int) := by rw [wrap_u64]; omega
    have e2 : (64 : Int) - (k : Int) = ((64 - k : Nat) : Int) := by omega
    have e3 : IntKind.u64.wrap ((64 - k : Nat) : Int) = ((64 - k : Nat) : Int) := by rw [wrap_u64]; omega
    have h1 : (k : Int) ≤ 64 := by omega
    have h2 : ((64 - k : Nat) : Int) ≤ 64 := by omega
    have h3 : (0 : Int) ≤ (k : Int) := by omega
    have h4 : (0 : Int) ≤ ((64 - k : Nat) : Int) := by omega
    have h5 : ¬ (k : Int) = 0 := by omega
    generalize hq : 64 - k = q at *
    have HQ := Lib.hid hq
    clear hq hk
    go_enter Try.func42, Try.ntmps42
    go_wp2
    go_ret
    unfold rl
    rw [HQ.out]
    exact ⟨rfl, rfl⟩
set_option maxRecDepth 100000 in
set_option maxHeartbeats 1000000 in
theorem left51 (x : BitVec 32) (k : Nat) (hk : k ≤ 32) (w : World) : Calls Try.prog 51 #[.int .u32 (n32 x), .int .i64 (k : Int)] w fun e w' => e = .returned (.int .u32 (n32 (rl x k))) ∧ w' = w := by
  have e1 : IntKind.u64.wrap (k : Int) = (k : Int) := by rw [wrap_u64]; omega
  have e2 : (32 : Int) - (k : Int) = ((32 - k : Nat) : Int) := by omega
  have e3 : IntKind.u64.wrap ((32 - k : Nat) : Int) = ((32 - k : Nat) : Int) := by rw [wrap_u64]; omega
  have h1 : (k : Int) ≤ 32 := by omega
  have h2 : ((32 - k : Nat) : Int) ≤ 32 := by omega
  have h3 : (0 : Int) ≤ (k : Int) := by omega
  have h4 : (0 : Int) ≤ ((32 - k : Nat) : Int) := by omega
  generalize hq : 32 - k = q at *
  have HQ := Lib.hid hq
  clear hq hk
  go_enter Try.func51, Try.ntmps51
  go_wp2
  go_ret
  unfold rl
  rw [HQ.out]
  exact ⟨rfl, rfl⟩
set_option maxRecDepth 100000 in
set_option maxHeartbeats 1000000 in
theorem right36 (x : BitVec 32) (k : Nat) (hk : k ≤ 32) (w : World) : Calls Try.prog 36 #[.int .u32 (n32 x), .int .i64 (k : Int)] w fun e w' => e = .returned (.int .u32 (n32 (rl x (32 - k)))) ∧ w' = w := by
  have H := Lib.hid (fun W => left51 x (32 - k) (by omega) W)
  have e2 : (32 : Int) - (k : Int) = ((32 - k : Nat) : Int) := by omega
  generalize 32 - k = q at *
  clear hk
  go_enter Try.func36, Try.ntmps36
  go_wp2_with (first | (go_at_call 51; refine (H.out _).mono ?_; rintro e w1 ⟨rfl, rfl⟩))
  go_ret
  exact ⟨rfl, rfl⟩
/-- RIPEMD-160's functions. -/
def mixF (n : Nat) (x y z : BitVec 32) : BitVec 32 :=
  if n = 0 then x ^^^ y ^^^ z else if n = 1 then x &&& y ||| ~~~x &&& z else if n = 2 then (x ||| ~~~y) ^^^ z else if n = 3 then x &&& z ||| y &&& ~~~z else x ^^^ (y ||| ~~~z)
set_option maxRecDepth 100000 in
set_option maxHeartbeats 1000000 in
theorem mixed53 (n : Nat) (hn : n < 5) (x y z : BitVec 32) (w : World) : Calls Try.prog 53 #[.int .i64 (n : Int), .int .u32 (n32 x), .int .u32 (n32 y), .int .u32 (n32 z)] w fun e w' => e = .returned (.int .u32 (n32 (mixF n x y z))) ∧ w' = w := by
  rcases (show n = 0 ∨ n = 1 ∨ n = 2 ∨ n = 3 ∨ n = 4 by omega) with rfl | rfl | rfl | rfl | rfl
  all_goals
    go_enter Try.func53, Try.ntmps53
    go_wp2
    go_ret
    exact ⟨by simp [mixF], rfl⟩
set_option maxRecDepth 100000 in
set_option maxHeartbeats 1000000 in
theorem mix54 (n : Nat) (hn : n < 5) (x y z : BitVec 32) (w : World) : Calls Try.prog 54 #[.int .i64 (n : Int), .int .u32 (n32 x), .int .u32 (n32 y), .int .u32 (n32 z)] w fun e w' => e = .returned (.int .u32 (n32 (mixF n x y z))) ∧ w' = w := by
  rcases (show n = 0 ∨ n = 1 ∨ n = 2 ∨ n = 3 ∨ n = 4 by omega) with rfl | rfl | rfl | rfl | rfl
  all_goals
    go_enter Try.func54, Try.ntmps54
    go_wp2
    go_ret
    exact ⟨by simp [mixF], rfl⟩
end Go.Proofs.Ytnlcndlfdnogaaa.D2
