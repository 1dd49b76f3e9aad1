/- Cube roots: SHA-256's keys. -/
import Derived.Test.YtnlcndlfdnogaaaK1
import Derived.Lib.Mul64
import Derived.Laws.Bits64b
import Derived.Laws.Externs
set_option linter.unusedVariables false
set_option linter.unusedSimpArgs false
namespace Go.Proofs.Ytnlcndlfdnogaaa.C1
open Go.RowKit
open D0 M D2 D3 Rg
attribute [local go_sem] xor64 and64 or64 xor32 and32 or32 andNot32 add64 add32 unary64 unary32 not64 not32 shl64 shr64 shl32 shr32
theorem maskN (a : Nat) (ha : a < 18446744073709551616) : bits .and .u64 (a : Int) 4294967295 = ((a % 4294967296 : Nat) : Int) := by
  have h := bits_and_u64_nat a 4294967295 ha (by omega)
  have e : a &&& 4294967295 = a % 4294967296 := Nat.and_two_pow_sub_one_eq_mod a 32
  rw [e] at h
  exact h
theorem divN (a : Nat) : (a : Int) / 4294967296 = ((a / 4294967296 : Nat) : Int) := by omega
theorem mulN (a b : Nat) : (a : Int) * (b : Int) = ((a * b : Nat) : Int) := (Int.natCast_mul a b).symm
theorem addN (a b : Nat) : (a : Int) + (b : Int) = ((a + b : Nat) : Int) := (Int.natCast_add a b).symm
theorem wrapN (a : Nat) (ha : a < 18446744073709551616) : IntKind.u64.wrap (a : Int) = (a : Int) := by rw [IntKind.wrap_u64]; omega
theorem wrapM (a : Nat) : IntKind.u64.wrap (a : Int) = ((a % 18446744073709551616 : Nat) : Int) := by rw [IntKind.wrap_u64]; omega
set_option maxRecDepth 100000 in
set_option maxHeartbeats 1000000 in
theorem mul55n (x y : Nat) (hx : x < 18446744073709551616) (hy : y < 18446744073709551616) (w : World) :
    Calls Try.prog 55 #[.int .u64 x, .int .u64 y] w fun e w' => e = .returned (.tuple #[.int .u64 ((x * y / 18446744073709551616 : Nat) : Int), .int .u64 ((x * y % 18446744073709551616 : Nat) : Int)]) ∧ w' = w := by
  obtain ⟨bd, bt, bw, hhi⟩ := Lib.mul64_hi x y hx hy
  have ba := Lib.half_mul_le (a := x / 4294967296) (b := y / 4294967296) (by omega) (by omega)
  have bb := Lib.half_mul_le (a := x / 4294967296) (b := y % 4294967296) (by omega) (by omega)
  have bc := Lib.half_mul_le (a := x % 4294967296) (b := y / 4294967296) (by omega) (by omega)
  have ba' : x / 4294967296 * (y / 4294967296) < 18446744073709551616 := by omega
  have bb' : x / 4294967296 * (y % 4294967296) < 18446744073709551616 := by omega
  have bc' : x % 4294967296 * (y / 4294967296) < 18446744073709551616 := by omega
  have bh1 : x / 4294967296 * (y / 4294967296) + (x / 4294967296 * (y % 4294967296) + x % 4294967296 * (y % 4294967296) / 4294967296) / 4294967296 < 18446744073709551616 := by omega
  have bh : x / 4294967296 * (y / 4294967296) + (x / 4294967296 * (y % 4294967296) + x % 4294967296 * (y % 4294967296) / 4294967296) / 4294967296 + ((x / 4294967296 * (y % 4294967296) + x % 4294967296 * (y % 4294967296) / 4294967296) % 4294967296 + x % 4294967296 * (y / 4294967296)) / 4294967296 < 18446744073709551616 := by omega
  go_enter Try.func55, Try.ntmps55
  go_wp2
  simp only [maskN x hx, maskN y hy, divN, mulN, addN, wrapN _ bd, wrapN _ bb', wrapN _ bt, maskN _ bt, wrapN _ bc', wrapN _ bw, wrapN _ ba', wrapN _ bh1, wrapN _ bh, wrapM (x * y)]
  rw [hhi]
  go_ret2
  exact ⟨rfl, rfl⟩
/-- The high word of a product; the carry of a sum. -/
def hiF (x y : BitVec 64) : BitVec 64 := BitVec.ofNat 64 (x.toNat * y.toNat / 18446744073709551616)
def carF (x y : BitVec 64) : BitVec 64 := BitVec.ofNat 64 ((x.toNat + y.toNat) / 18446744073709551616)
theorem mul55 (x y : BitVec 64) (w : World) : Calls Try.prog 55 #[.int .u64 (n64 x), .int .u64 (n64 y)] w fun e w' => e = .returned (.tuple #[.int .u64 (n64 (hiF x y)), .int .u64 (n64 (x * y))]) ∧ w' = w := by
  have h := mul55n x.toNat y.toNat x.isLt y.isLt w
  have hx := x.isLt
  have hy := y.isLt
  have hlt : x.toNat * y.toNat / 18446744073709551616 < 18446744073709551616 := by
    rw [Nat.div_lt_iff_lt_mul (by decide)]
    exact Nat.mul_lt_mul_of_lt_of_lt hx hy
  have e1 : n64 (hiF x y) = ((x.toNat * y.toNat / 18446744073709551616 : Nat) : Int) := ofNat64 _ hlt
  have e2 : n64 (x * y) = ((x.toNat * y.toNat % 18446744073709551616 : Nat) : Int) := by
    unfold n64; rw [BitVec.toNat_mul]
  rw [e1, e2]
  exact h
theorem add56 (x y : BitVec 64) (W : World) : (callFunc 56 #[.int .u64 (n64 x), .int .u64 (n64 y), .int .u64 0]).run Try.prog W = .ok (.value (.tuple #[.int .u64 (n64 (x + y)), .int .u64 (n64 (carF x y))])) W := by
  have hf : ∃ fn, Try.prog.funcs[56]? = some fn ∧ (fn.name == "runtime.NumGoroutine") = false ∧ fn.body.isNone = true ∧ Extern.findNext fn = none ∧ Extern.find fn = some (fun args => do
      let (x, y, c) ← Extern.MathBitsCarry.three "Add64" args
      pure (Extern.MathBitsCarry.pair ((x + y + c) % Extern.MathBitsCarry.m64) ((x + y + c) / Extern.MathBitsCarry.m64))) := by
    refine ⟨_, rfl, ?_, ?_, ?_, ?_⟩ <;> kernel_rfl
  obtain ⟨fn, h1, h2, h3, h4, h5⟩ := hf
  rw [run_callFunc_extern h1 h2 h3 h4 h5]
  have e1 : n64 (x + y) = (((x.toNat + y.toNat + 0) % Extern.MathBitsCarry.m64 : Nat) : Int) := by
    unfold n64; rw [BitVec.toNat_add]; rfl
  have e2 : n64 (carF x y) = (((x.toNat + y.toNat + 0) / Extern.MathBitsCarry.m64 : Nat) : Int) := by
    have hx := x.isLt
    have hy := y.isLt
    exact ofNat64 _ (by omega)
  rw [e1, e2]
  unfold n64
  rfl
def cubeT (k : Nat) (r : BitVec 64) : BitVec 64 := r ||| 1#64 <<< (35 - k)
def cubeS (n : BitVec 64) (k : Nat) (r : BitVec 64) : BitVec 64 :=
  let t := cubeT k r
  let a := hiF (t * t) t
  let c := hiF t t * t
  if carF a c = 0#64 then if n64 (a + c) < n64 (n <<< 32) then t else if a + c = n <<< 32 then if t * t * t = 0#64 then t else r else r else r
/-- The first bits behind the point of a cube root. -/
def cubeF (n : BitVec 64) : BitVec 32 := (it (cubeS n) 36 0#64).setWidth 32
theorem lo32 (x : BitVec 64) : IntKind.u32.wrap (n64 x) = n32 (x.setWidth 32) := by
  rw [wrap_u32]; unfold n64 n32; rw [BitVec.toNat_setWidth]; rfl
theorem ne64 {x y : BitVec 64} (h : x ≠ y) : ¬ n64 x = n64 y := fun e => h (inj64.1 e)
set_option maxRecDepth 100000 in
set_option maxHeartbeats 2000000 in
theorem cube48 (n : BitVec 64) (w : World) : Calls Try.prog 48 #[.int .u64 (n64 n)] w fun e w' => e = .returned (.int .u32 (n32 (cubeF n))) ∧ w' = w := by
  have hadd := add56
  have hs32 : ∀ x : BitVec 64, IntKind.u64.wrap (n64 x * 4294967296) = n64 (x <<< 32) := fun x => shl64 x 32
  have hlo := lo32
  go_enter Try.func48, Try.ntmps48
  go_wp2_with fail
  go_loopw [3, 4] (fun r i wr => ∃ k : Nat, k ≤ 36 ∧ i = .int .i64 (35 - (k : Int)) ∧ r = .int .u64 (n64 (it (cubeS n) k 0#64)) ∧ wr = w) (fun _ i _ => (intOf i + 1).toNat)
  case atStart => exact ⟨0, by omega, rfl, rfl, rfl⟩
  obtain ⟨k, hk, rfl, rfl, rfl⟩ := hrel
  have HST := Lib.hid (it_succ (cubeS n) k 0#64)
  have HRF : Hid (cubeF n = (it (cubeS n) 36 0#64).setWidth 32) := rfl
  generalize hit : it (cubeS n) k 0#64 = r at *
  have HIT := Lib.hid hit
  clear hit
  rcases Nat.lt_or_ge k 36 with hlt | hge
  rotate_left
  · obtain rfl : k = 36 := by omega
    rw [show (35 : Int) - ((36 : Nat) : Int) = -1 from rfl]
    go_wp2_with fail
    go_ret
    rw [HRF.out, HIT.out]
    exact ⟨rfl, rfl⟩
  obtain ⟨p, hp⟩ : ∃ p, p = 35 - k := ⟨_, rfl⟩
  have e0 : (35 : Int) - (k : Int) = (p : Int) := by omega
  have HA : Hid (k + 1 ≤ 36 ∧ (35 : Int) - ((k + 1 : Nat) : Int) = (p : Int) - 1 ∧ ((p : Int) - 1 + 1).toNat < ((p : Int) + 1).toNat) := by
    refine ⟨?_, ?_, ?_⟩ <;> omega
  rw [e0]
  have e10 : IntKind.u64.wrap (2 ^ p) = n64 (1#64 <<< p) := by
    have h := shl64 1#64 p
    rwa [show n64 1#64 = 1 from rfl, Int.one_mul] at h
  have e11 : min p 64 = p := by omega
  have hcs : cubeS n k r = (let t := r ||| 1#64 <<< p
      if carF (hiF (t * t) t) (hiF t t * t) = 0#64 then if n64 (hiF (t * t) t + hiF t t * t) < n64 (n <<< 32) then t else if hiF (t * t) t + hiF t t * t = n <<< 32 then if t * t * t = 0#64 then t else r else r else r) := by rw [hp]; rfl
  generalize ht : r ||| 1#64 <<< p = t at *
  have HT := Lib.hid ht
  simp only at hcs
  generalize hca : carF (hiF (t * t) t) (hiF t t * t) = ca at *
  generalize htop : hiF (t * t) t + hiF t t * t = top at *
  generalize hb : t * t * t = b at *
  generalize hn3 : n <<< 32 = n3 at *
  have HCS := Lib.hid hcs
  have HP := Lib.hid hp
  clear hcs hp HT
  have hlt2 : (p : Int) < 36 := by omega
  by_cases h1 : ca = 0#64
  rotate_left
  · have n1 : ¬ n64 ca = 0 := ne64 h1
    have H1 := Lib.hid h1
    clear h1
    have HF : Hid (cubeS n k r = r) := HCS.out.trans (if_neg H1.out)
    go_wp2_with (first
      | (go_at_call 55; refine (mul55 _ _ _).mono ?_
         rintro e w1 ⟨rfl, rfl⟩))
    go_roundw
    case rel => exact ⟨k + 1, HA.out.1, by rw [HA.out.2.1], by rw [HST.out, HF.out], by first | trivial | rfl⟩
    case measure => exact HA.out.2.2
  have n1 : n64 ca = 0 := by rw [h1]; rfl
  have H1 := Lib.hid h1
  clear h1
  by_cases h2 : n64 top < n64 n3
  · have n2 : n64 top < n64 n3 := h2
    have H2 := Lib.hid h2
    clear h2
    have HF : Hid (cubeS n k r = t) := HCS.out.trans ((if_pos H1.out).trans (if_pos H2.out))
    go_wp2_with (first
      | (go_at_call 55; refine (mul55 _ _ _).mono ?_
         rintro e w1 ⟨rfl, rfl⟩))
    go_roundw
    case rel => exact ⟨k + 1, HA.out.1, by rw [HA.out.2.1], by rw [HST.out, HF.out], by first | trivial | rfl⟩
    case measure => exact HA.out.2.2
  have n2 : ¬ n64 top < n64 n3 := h2
  have H2 := Lib.hid h2
  clear h2
  by_cases h3 : top = n3
  rotate_left
  · have n3' : ¬ n64 top = n64 n3 := ne64 h3
    have H3 := Lib.hid h3
    have b2 : decide (n64 top < n64 n3) = false := decide_eq_false n2
    have b3 : decide (n64 top = n64 n3) = false := decide_eq_false n3'
    have b4 : (n64 top == n64 n3) = false := by simpa using n3'
    clear h3 n2 n3'
    have HF : Hid (cubeS n k r = r) := HCS.out.trans ((if_pos H1.out).trans ((if_neg H2.out).trans (if_neg H3.out)))
    go_wp2_with (first
      | (go_at_call 55; refine (mul55 _ _ _).mono ?_
         rintro e w1 ⟨rfl, rfl⟩))
    go_roundw
    case rel => exact ⟨k + 1, HA.out.1, by rw [HA.out.2.1], by rw [HST.out, HF.out], by first | trivial | rfl⟩
    case measure => exact HA.out.2.2
  have H3 := Lib.hid h3
  have n3' : n64 top = n64 n3 := by rw [h3]
  have n4 : ¬ n64 n3 < n64 n3 := Int.lt_irrefl _
  clear h3 n2
  by_cases h4 : b = 0#64
  · have n5 : n64 b = 0 := by rw [h4]; rfl
    have H4 := Lib.hid h4
    clear h4
    have HF : Hid (cubeS n k r = t) := HCS.out.trans ((if_pos H1.out).trans ((if_neg H2.out).trans ((if_pos H3.out).trans (if_pos H4.out))))
    go_wp2_with (first
      | (go_at_call 55; refine (mul55 _ _ _).mono ?_
         rintro e w1 ⟨rfl, rfl⟩))
    go_roundw
    case rel => exact ⟨k + 1, HA.out.1, by rw [HA.out.2.1], by rw [HST.out, HF.out], by first | trivial | rfl⟩
    case measure => exact HA.out.2.2
  have n5 : ¬ n64 b = 0 := ne64 h4
  have H4 := Lib.hid h4
  have b5 : decide (n64 b = 0) = false := decide_eq_false n5
  have b6 : (n64 b == 0) = false := by simpa using n5
  clear h4 n5
  have HF : Hid (cubeS n k r = r) := HCS.out.trans ((if_pos H1.out).trans ((if_neg H2.out).trans ((if_pos H3.out).trans (if_neg H4.out))))
  go_wp2_with (first
    | (go_at_call 55; refine (mul55 _ _ _).mono ?_
       rintro e w1 ⟨rfl, rfl⟩))
  go_roundw
  case rel => exact ⟨k + 1, HA.out.1, by rw [HA.out.2.1], by rw [HST.out, HF.out], by first | trivial | rfl⟩
  case measure => exact HA.out.2.2
end Go.Proofs.Ytnlcndlfdnogaaa.C1
