/- The reference's reading of bytes as a word. -/
import Derived.Test.YtkdpphcalekbdaaW2
set_option linter.unusedVariables false
set_option linter.unusedSimpArgs false
namespace Go.Proofs.Ytkdpphcalekbdaa.W1
open Go.ChangeShapes Go.WideShapes Go.ChangeAt Go.RowKit
open M
theorem limb_add2 (m U b k i : Nat) (hm : m = 2 ^ 64) (hb : b < 256) (hk : k < 32) :
    (U * 256 ^ (k + 1) + b * 256 ^ k) / m ^ i % m = if i = k / 8 then (U * 256 ^ (k + 1) / m ^ i % m) + b * 2 ^ (8 * (k % 8)) else U * 256 ^ (k + 1) / m ^ i % m := by
  have hp : 256 ^ k = m ^ (k / 8) * 2 ^ (8 * (k % 8)) := pow_256 m k hm
  have hr : k % 8 < 8 := by omega
  have hm0 : 0 < m := by rw [hm]; exact Nat.pow_pos (by omega)
  have hpos : ∀ j, 0 < m ^ j := fun j => Nat.pow_pos hm0
  obtain ⟨t, ht⟩ : ∃ t, m = 2 ^ (8 * (k % 8)) * 256 * t := ⟨2 ^ (56 - 8 * (k % 8)), by rw [hm, show 256 = 2 ^ 8 from rfl, ← Nat.pow_add, ← Nat.pow_add]; congr 1; omega⟩
  have h80 : 0 < 2 ^ (8 * (k % 8)) := Nat.pow_pos (by omega)
  rw [Nat.pow_succ, hp]
  generalize 2 ^ (8 * (k % 8)) = s at *
  have ht0 : 0 < t := by rcases Nat.eq_zero_or_pos t with h | h; rw [h] at ht; omega; exact h
  by_cases e : i = k / 8
  · subst e
    rw [if_pos rfl]
    have e1 : U * (m ^ (k / 8) * s * 256) + b * (m ^ (k / 8) * s) = m ^ (k / 8) * (s * 256 * U + b * s) := by
      rw [Nat.mul_add]; congr 1 <;> simp only [Nat.mul_assoc, Nat.mul_left_comm, Nat.mul_comm]
    have e2 : U * (m ^ (k / 8) * s * 256) = m ^ (k / 8) * (s * 256 * U) := by simp only [Nat.mul_assoc, Nat.mul_left_comm, Nat.mul_comm]
    rw [e1, e2, Nat.mul_div_cancel_left _ (hpos _), Nat.mul_div_cancel_left _ (hpos _)]
    have e3 : s * 256 * U % m = s * 256 * (U % t) := by rw [ht, Nat.mul_mod_mul_left]
    have h1 : s * 256 * (U % t) + s * 256 ≤ m := by
      have : s * 256 * (U % t + 1) ≤ s * 256 * t := Nat.mul_le_mul_left _ (Nat.mod_lt _ ht0)
      rw [Nat.mul_add, Nat.mul_one, ← ht] at this
      exact this
    have h2 : b * s < s * 256 := by rw [Nat.mul_comm s]; exact Nat.mul_lt_mul_of_pos_right hb h80
    rw [Nat.add_mod, e3, Nat.mod_eq_of_lt (show b * s < m by omega), Nat.mod_eq_of_lt (by omega)]
  · rw [if_neg e]
    rcases Nat.lt_or_ge i (k / 8) with h | h
    · have e2 : m ^ (k / 8) = m ^ i * (m * m ^ (k / 8 - i - 1)) := by
        rw [← Nat.pow_succ', ← Nat.pow_add]; congr 1; omega
      have e1 : U * (m ^ (k / 8) * s * 256) + b * (m ^ (k / 8) * s) = U * (m ^ (k / 8) * s * 256) + m ^ i * (m * (m ^ (k / 8 - i - 1) * (b * s))) := by
        congr 1
        rw [e2]; simp only [Nat.mul_assoc, Nat.mul_left_comm, Nat.mul_comm]
      rw [e1, Nat.add_mul_div_left _ _ (hpos _), Nat.add_mul_mod_self_left]
    · have e2 : m ^ i = (m ^ (k / 8) * s * 256) * (t * m ^ (i - k / 8 - 1)) := by
        have : m ^ i = m ^ (k / 8) * m * m ^ (i - k / 8 - 1) := by rw [← Nat.pow_succ, ← Nat.pow_add]; congr 1; omega
        rw [this]
        conv => lhs; rw [show m ^ (k / 8) * m = m ^ (k / 8) * (s * 256 * t) from by rw [← ht]]
        simp only [Nat.mul_assoc, Nat.mul_left_comm, Nat.mul_comm]
      have hA : 0 < m ^ (k / 8) * s * 256 := Nat.mul_pos (Nat.mul_pos (hpos _) h80) (by omega)
      have hc : b * (m ^ (k / 8) * s) < m ^ (k / 8) * s * 256 := by
        rw [Nat.mul_comm _ 256]; exact Nat.mul_lt_mul_of_pos_right hb (Nat.mul_pos (hpos _) h80)
      rw [e2]
      clear e2 ht hp hr e h hm
      generalize m ^ (k / 8) * s * 256 = A at *
      generalize t * m ^ (i - k / 8 - 1) = B
      generalize b * (m ^ (k / 8) * s) = C at *
      clear h80
      rw [← Nat.div_div_eq_div_mul, ← Nat.div_div_eq_div_mul, Nat.mul_comm U A, Nat.mul_add_div hA, Nat.mul_div_cancel_left _ hA, Nat.div_eq_of_lt hc, Nat.add_zero]
theorem arrL_add2 (U b k : Nat) (hb : b < 256) (hk : k < 32) :
    (arrL (U * 256 ^ (k + 1))).setIfInBounds (k / 8) (.int .u64 ((limbN (U * 256 ^ (k + 1)) (k / 8) + b * 2 ^ (8 * (k % 8)) : Nat) : Int)) = arrL (U * 256 ^ (k + 1) + b * 256 ^ k) := by
  have h := fun i => limb_add2 18446744073709551616 U b k i (by decide) hb hk
  have hl : ∀ i, limbN (U * 256 ^ (k + 1) + b * 256 ^ k) i = if i = k / 8 then limbN (U * 256 ^ (k + 1)) i + b * 2 ^ (8 * (k % 8)) else limbN (U * 256 ^ (k + 1)) i := h
  have hq : k / 8 < 4 := by omega
  unfold arrL
  rw [hl 0, hl 1, hl 2, hl 3]
  generalize k / 8 = q at *
  match q, hq with
  | 0, _ => rfl
  | 1, _ => rfl
  | 2, _ => rfl
  | 3, _ => rfl
/-- 'o[n/8] = o[n/8] + uint64(b) << (8 * (n % 8))' -/
theorem arrL_sum (U b k : Nat) (hb : b < 256) (hk : k < 32) :
    (arrL (U * 256 ^ (k + 1))).setIfInBounds (k / 8) (.int .u64 (IntKind.u64.wrap ((limbN (U * 256 ^ (k + 1)) (k / 8) : Nat) + IntKind.u64.wrap ((b : Int) * 2 ^ (8 * (k % 8)))))) = arrL (U * 256 ^ (k + 1) + b * 256 ^ k) := by
  have h1 := shl_lt b (k % 8) hb (by omega)
  have e : ((b : Int) * 2 ^ (8 * (k % 8))) = ((b * 2 ^ (8 * (k % 8)) : Nat) : Int) := by rw [Int.natCast_mul, Int.natCast_pow]; rfl
  have h2 : limbN (U * 256 ^ (k + 1) + b * 256 ^ k) (k / 8) = limbN (U * 256 ^ (k + 1)) (k / 8) + b * 2 ^ (8 * (k % 8)) := by
    have := limb_add2 18446744073709551616 U b k (k / 8) (by decide) hb hk
    rw [if_pos rfl] at this; exact this
  have h3 := limbN_lt (U * 256 ^ (k + 1) + b * 256 ^ k) (k / 8)
  rw [e, IntKind.wrap_u64, IntKind.wrap_u64, Int.emod_eq_of_lt (by omega) (by omega), Int.emod_eq_of_lt (by omega) (by omega), ← arrL_add2 U b k hb hk]
  rfl
theorem ofDigits_take (bs : List UInt8) (i : Nat) (hi : i < bs.length) :
    ofDigits (bs.take (i + 1)) * 256 ^ (bs.length - (i + 1)) = ofDigits (bs.take i) * 256 ^ (bs.length - i) + (bs[i]'hi).toNat * 256 ^ (bs.length - 1 - i) := by
  rw [List.take_succ_eq_append_getElem hi, ofDigits_snoc, Nat.add_mul, show bs.length - i = (bs.length - (i + 1)) + 1 from by omega, Nat.pow_succ, show bs.length - 1 - i = bs.length - (i + 1) from by omega]
  congr 1
  simp only [Nat.mul_assoc, Nat.mul_left_comm, Nat.mul_comm]
set_option maxRecDepth 100000 in
set_option maxHeartbeats 1000000 in
theorem refRead_any (lo hi : Nat) (v : Value) (bs : List UInt8) (w : World) (hb : Bs w lo hi v bs) (hl : bs.length ≤ 32) (hhi : hi ≤ w.heap.size) :
    Calls Try.prog 61 #[v] w fun e w' => e = .returned (.agg #[.int .u64 (limbN (ofDigits bs) 0 : Nat), .int .u64 (limbN (ofDigits bs) 1 : Nat), .int .u64 (limbN (ofDigits bs) 2 : Nat), .int .u64 (limbN (ofDigits bs) 3 : Nat)]) ∧ Below w.heap.size w w' := by
  obtain ⟨A, c, rfl, h1, h2, hR⟩ := hb
  have HR := Lib.hid hR
  clear hR
  go_enter Try.func61, Try.ntmps61
  go_wp2_with fail
  go_loopw [4] (fun i wr => ∃ k n : Nat, k ≤ bs.length ∧ i = .int .i64 k ∧ wr = ((w.alloc (.cells (arrL 0) 56)).alloc (.cells (arrL (ofDigits (bs.take k) * 256 ^ (bs.length - k))) 56)).drewN n) (fun i _ => bs.length - (intOf i).toNat)
  case atStart => exact ⟨0, 0, by omega, rfl, by simp [ofDigits]; rfl⟩
  case round =>
    obtain ⟨k, n, hk, rfl, rfl⟩ := hrel
    by_cases hlt : k < bs.length
    · obtain ⟨g, off, rfl, hg1, hg2, hcell0⟩ := HR.out.at_ hlt
      have hcell : w.cell? ⟨g, off + k, none⟩ = some (.int .u8 ((bs[k]'(by omega)).toNat : Int)) := by simpa [nums] using hcell0
      clear hcell0
      have hgw : g < w.heap.size := by omega
      have hst := arrL_sum (ofDigits (bs.take k)) (bs[k]'hlt).toNat (bs.length - 1 - k) (by have := (bs[k]'hlt).toNat_lt; omega) (by omega)
      rw [show bs.length - 1 - k + 1 = bs.length - k from by omega] at hst
      have Hst := Lib.hid hst
      clear hst
      have Hdr := Lib.hid (ofDigits_take bs k hlt)
      have hl' := arrL_get (ofDigits (bs.take k) * 256 ^ (bs.length - k)) ((bs.length - 1 - k) / 8) (by omega)
      have hlv := limbN_lt (ofDigits (bs.take k) * 256 ^ (bs.length - k)) ((bs.length - 1 - k) / 8)
      have hby := (bs[k]'hlt).toNat_lt
      have e1 : ((bs.length : Int) - 1 - k) = ((bs.length - 1 - k : Nat) : Int) := by omega
      generalize (bs[k]'hlt).toNat = by_ at *
      generalize ofDigits (bs.take k) * 256 ^ (bs.length - k) = V at *
      have hq : bs.length - 1 - k < 32 := by omega
      generalize bs.length - 1 - k = q at *
      go_wp2_with fail
      refine wp_region_seq 18 (by kernel_rfl) (by kernel_rfl) rfl ?_
      simp only [List.take_succ_cons, List.take_zero, List.drop_succ_cons, List.drop_zero]
      repeat (refine wpS_plain rfl (fun K hK => ?_); go_wp2)
      refine wpS_nil ?_
      go_wp2
      go_roundw
      case rel => exact ⟨k + 1, n + 1, by omega, by go_num, by rw [Hdr.out, ← Hst.out]⟩
      case measure => simp [intOf]; omega
    · obtain rfl : k = bs.length := by omega
      have e0 : ofDigits (bs.take bs.length) * 256 ^ (bs.length - bs.length) = ofDigits bs := by simp
      rw [e0]
      have ea : arrL (ofDigits bs) = #[.int .u64 (limbN (ofDigits bs) 0 : Nat), .int .u64 (limbN (ofDigits bs) 1 : Nat), .int .u64 (limbN (ofDigits bs) 2 : Nat), .int .u64 (limbN (ofDigits bs) 3 : Nat)] := rfl
      have eb : arrL 0 = #[.int .u64 0, .int .u64 0, .int .u64 0, .int .u64 0] := rfl
      rw [ea, eb]
      clear ea eb e0
      go_wp2
      go_returns
      refine ⟨rfl, ?_⟩
      go_grown
      refine below_drewN ?_ _
      go_grown
end Go.Proofs.Ytkdpphcalekbdaa.W1
