/- word.Read: bytes as a word. -/
import Derived.Test.YtkdpphcalekbdaaW1
import Derived.Test.YtkdpphcalekbdaaR
set_option linter.unusedVariables false
set_option linter.unusedSimpArgs false
namespace Go.Proofs.Ytkdpphcalekbdaa.W1
open Go.ChangeShapes Go.WideShapes Go.ChangeAt Go.RowKit
open M
theorem setCell_drewN (W : World) (n : Nat) (a : Addr) (v : Value) : (W.drewN n).setCell a v = (W.setCell a v).drewN n := rfl
theorem below_drewN {B : Nat} {w W : World} (h : Below B w W) (n : Nat) : Below B w (W.drewN n) := ⟨h.os, h.tape, h.output, h.size, h.block⟩
def limbN (V i : Nat) : Nat := V / 18446744073709551616 ^ i % 18446744073709551616
theorem limbN_lt (V i : Nat) : limbN V i < 18446744073709551616 := Nat.mod_lt _ (by omega)
def arrL (V : Nat) : Array Value := #[.int .u64 (limbN V 0 : Nat), .int .u64 (limbN V 1 : Nat), .int .u64 (limbN V 2 : Nat), .int .u64 (limbN V 3 : Nat)]
theorem arrL_get (V i : Nat) (h : i < 4) : (arrL V)[i]? = some (.int .u64 (limbN V i : Nat)) := by
  match i, h with
  | 0, _ => rfl
  | 1, _ => rfl
  | 2, _ => rfl
  | 3, _ => rfl
theorem limb_add (m V b k i : Nat) (hm : m = 2 ^ 64) (hV : V < 256 ^ k) (hb : b < 256) (hk : k < 32) :
    (V + b * 256 ^ k) / m ^ i % m = if i = k / 8 then (V / m ^ i % m) + b * 2 ^ (8 * (k % 8)) else V / m ^ i % m := by
  have hp : 256 ^ k = m ^ (k / 8) * 2 ^ (8 * (k % 8)) := pow_256 m k hm
  have hr : k % 8 < 8 := by omega
  have hm0 : 0 < m := by rw [hm]; exact Nat.pow_pos (by omega)
  have hpos : ∀ j, 0 < m ^ j := fun j => Nat.pow_pos hm0
  have h8 : 2 ^ (8 * (k % 8)) * 256 ≤ m := by
    rw [hm, show 256 = 2 ^ 8 from rfl, ← Nat.pow_add]
    exact Nat.pow_le_pow_right (by omega) (by omega)
  have h80 : 0 < 2 ^ (8 * (k % 8)) := Nat.pow_pos (by omega)
  rw [hp] at hV ⊢
  generalize 2 ^ (8 * (k % 8)) = s at *
  by_cases e : i = k / 8
  · subst e
    rw [if_pos rfl]
    have h1 : V / m ^ (k / 8) < s := (Nat.div_lt_iff_lt_mul (hpos _)).2 (by rw [Nat.mul_comm]; exact hV)
    have e1 : V + b * (m ^ (k / 8) * s) = V + m ^ (k / 8) * (b * s) := by rw [Nat.mul_left_comm]
    rw [e1, Nat.add_mul_div_left _ _ (hpos _)]
    have h2 : b * s ≤ 255 * s := Nat.mul_le_mul_right _ (by omega)
    rw [Nat.mod_eq_of_lt (by omega), Nat.mod_eq_of_lt (by omega)]
  · rw [if_neg e]
    rcases Nat.lt_or_ge i (k / 8) with h | h
    · have e2 : m ^ (k / 8) = m ^ i * (m * m ^ (k / 8 - i - 1)) := by
        rw [← Nat.pow_succ', ← Nat.pow_add]; congr 1; omega
      have e1 : V + b * (m ^ (k / 8) * s) = V + m ^ i * (m * (m ^ (k / 8 - i - 1) * (b * s))) := by
        rw [e2]; simp only [Nat.mul_assoc, Nat.mul_left_comm, Nat.mul_comm]
      rw [e1, Nat.add_mul_div_left _ _ (hpos _), Nat.add_mul_mod_self_left]
    · have hle : m ^ (k / 8 + 1) ≤ m ^ i := Nat.pow_le_pow_right hm0 (by omega)
      rw [Nat.pow_succ] at hle
      have h2 : b * (m ^ (k / 8) * s) ≤ 255 * (m ^ (k / 8) * s) := Nat.mul_le_mul_right _ (by omega)
      have h3 : m ^ (k / 8) * (s * 256) ≤ m ^ (k / 8) * m := Nat.mul_le_mul_left _ h8
      rw [← Nat.mul_assoc] at h3
      rw [Nat.div_eq_of_lt (by omega), Nat.div_eq_of_lt (by omega)]
theorem limb_small (m V k : Nat) (hm : m = 2 ^ 64) (hV : V < 256 ^ k) : V / m ^ (k / 8) % m < 2 ^ (8 * (k % 8)) := by
  have hp : 256 ^ k = m ^ (k / 8) * 2 ^ (8 * (k % 8)) := pow_256 m k hm
  have hm0 : 0 < m := by rw [hm]; exact Nat.pow_pos (by omega)
  have h1 : V / m ^ (k / 8) < 2 ^ (8 * (k % 8)) := (Nat.div_lt_iff_lt_mul (Nat.pow_pos hm0)).2 (by rw [Nat.mul_comm, ← hp]; exact hV)
  exact Nat.lt_of_le_of_lt (Nat.mod_le _ _) h1
theorem or_add (x b r : Nat) (hx : x < 2 ^ r) : x ||| b * 2 ^ r = x + b * 2 ^ r := by
  rw [Nat.or_comm, Nat.mul_comm b, ← Nat.two_pow_add_eq_or_of_lt hx, Nat.add_comm]
theorem shl_lt (b r : Nat) (hb : b < 256) (hr : r < 8) : b * 2 ^ (8 * r) < 18446744073709551616 := by
  have : b * 2 ^ (8 * r) ≤ 255 * 2 ^ (8 * r) := Nat.mul_le_mul_right _ (by omega)
  have h2 : 2 ^ (8 * r) ≤ 2 ^ 56 := Nat.pow_le_pow_right (by omega) (by omega)
  have h3 : (2 : Nat) ^ 56 = 72057594037927936 := by decide
  omega
theorem arrL_add (V b k : Nat) (hV : V < 256 ^ k) (hb : b < 256) (hk : k < 32) :
    (arrL V).setIfInBounds (k / 8) (.int .u64 ((limbN V (k / 8) + b * 2 ^ (8 * (k % 8)) : Nat) : Int)) = arrL (V + b * 256 ^ k) := by
  have h := fun i => limb_add 18446744073709551616 V b k i (by decide) hV hb hk
  have hl : ∀ i, limbN (V + b * 256 ^ k) i = if i = k / 8 then limbN V i + b * 2 ^ (8 * (k % 8)) else limbN V i := h
  have hq : k / 8 < 4 := by omega
  unfold arrL
  rw [hl 0, hl 1, hl 2, hl 3]
  generalize k / 8 = q at *
  match q, hq with
  | 0, _ => rfl
  | 1, _ => rfl
  | 2, _ => rfl
  | 3, _ => rfl
/-- 'x[i/8] |= uint64(b) << (8 * (i % 8))' -/
theorem arrL_or (V b k : Nat) (hV : V < 256 ^ k) (hb : b < 256) (hk : k < 32) :
    (arrL V).setIfInBounds (k / 8) (.int .u64 (bits .or .u64 (limbN V (k / 8) : Nat) (IntKind.u64.wrap ((b : Int) * 2 ^ (8 * (k % 8)))))) = arrL (V + b * 256 ^ k) := by
  have h1 := shl_lt b (k % 8) hb (by omega)
  have e : ((b : Int) * 2 ^ (8 * (k % 8))) = ((b * 2 ^ (8 * (k % 8)) : Nat) : Int) := by rw [Int.natCast_mul, Int.natCast_pow]; rfl
  rw [e, IntKind.wrap_u64, Int.emod_eq_of_lt (by omega) (by omega), bits_or_u64_nat _ _ (limbN_lt _ _) h1, or_add (limbN V (k / 8)) b (8 * (k % 8)) (limb_small 18446744073709551616 V k (by decide) hV), arrL_add V b k hV hb hk]
theorem arrL_plus (V b k : Nat) (hV : V < 256 ^ k) (hb : b < 256) (hk : k < 32) (s : Int) (hs : s = ((limbN V (k / 8) + b * 2 ^ (8 * (k % 8)) : Nat) : Int)) :
    (arrL V).setIfInBounds (k / 8) (.int .u64 s) = arrL (V + b * 256 ^ k) := by rw [hs]; exact arrL_add V b k hV hb hk
theorem ofDigits_cons (b : UInt8) (l : List UInt8) : ofDigits (b :: l) = ofDigits l + b.toNat * 256 ^ l.length := by
  induction l using snoc_ind with
  | nil => simp [ofDigits]
  | snoc l c ih =>
    rw [← List.cons_append, ofDigits_snoc, ofDigits_snoc, ih, List.length_append, List.length_singleton, Nat.pow_succ, Nat.add_mul]
    rw [Nat.mul_assoc]; omega
theorem drop_last (bs : List UInt8) (k : Nat) (hk : k < bs.length) : bs.drop (bs.length - (k + 1)) = bs[bs.length - 1 - k] :: bs.drop (bs.length - k) := by
  rw [show bs.length - (k + 1) = bs.length - 1 - k from by omega, List.drop_eq_getElem_cons (by omega)]
  congr 2; omega
theorem ofDigits_drop (bs : List UInt8) (k : Nat) (hk : k < bs.length) : ofDigits (bs.drop (bs.length - (k + 1))) = ofDigits (bs.drop (bs.length - k)) + (bs[bs.length - 1 - k]'(by omega)).toNat * 256 ^ k := by
  rw [drop_last bs k hk, ofDigits_cons, List.length_drop, show bs.length - (bs.length - k) = k from by omega]
theorem ofDigits_drop_lt (bs : List UInt8) (k : Nat) (hk : k ≤ bs.length) : ofDigits (bs.drop (bs.length - k)) < 256 ^ k := by
  have := ofDigits_lt (bs.drop (bs.length - k))
  rwa [List.length_drop, show bs.length - (bs.length - k) = k from by omega] at this
set_option maxRecDepth 100000 in
set_option maxHeartbeats 1000000 in
theorem read_any (lo hi : Nat) (v : Value) (bs : List UInt8) (w : World) (hb : Bs w lo hi v bs) (hl : bs.length ≤ 32) (hhi : hi ≤ w.heap.size) :
    Calls Try.prog 56 #[v] w fun e w' => e = .returned (.tuple #[.agg #[.int .u64 (limbN (ofDigits bs) 0 : Nat), .int .u64 (limbN (ofDigits bs) 1 : Nat), .int .u64 (limbN (ofDigits bs) 2 : Nat), .int .u64 (limbN (ofDigits bs) 3 : Nat)], .int .i64 0]) ∧ Below w.heap.size w w' := by
  obtain ⟨A, c, rfl, h1, h2, hR⟩ := hb
  have HR := Lib.hid hR
  clear hR
  go_enter Try.func56, Try.ntmps56
  go_wp2_with fail
  go_loopw [12] (fun i wr => ∃ k n : Nat, k ≤ bs.length ∧ i = .int .i64 k ∧ wr = ((w.alloc (.cells (arrL 0) 57)).alloc (.cells (arrL (ofDigits (bs.drop (bs.length - k)))) 57)).drewN n) (fun i _ => bs.length - (intOf i).toNat)
  case atStart => exact ⟨0, 0, by omega, rfl, by simp; rfl⟩
  case round =>
    obtain ⟨k, n, hk, rfl, rfl⟩ := hrel
    by_cases hlt : k < bs.length
    · obtain ⟨g, off, rfl, hg1, hg2, hcell0⟩ := HR.out.at_ (show bs.length - 1 - k < bs.length from by omega)
      have hcell : w.cell? ⟨g, off + (bs.length - 1 - k), none⟩ = some (.int .u8 ((bs[bs.length - 1 - k]'(by omega)).toNat : Int)) := by simpa [nums] using hcell0
      clear hcell0
      have hgw : g < w.heap.size := by omega
      have hst := arrL_or (ofDigits (bs.drop (bs.length - k))) (bs[bs.length - 1 - k]'(by omega)).toNat k (ofDigits_drop_lt bs k hk) (by have := (bs[bs.length - 1 - k]'(by omega)).toNat_lt; omega) (by omega)
      have Hst := Lib.hid hst
      clear hst
      have Hdr := Lib.hid (ofDigits_drop bs k hlt)
      have hl' := arrL_get (ofDigits (bs.drop (bs.length - k))) (k / 8) (by omega)
      have hlv := limbN_lt (ofDigits (bs.drop (bs.length - k))) (k / 8)
      have hby := (bs[bs.length - 1 - k]'(by omega)).toNat_lt
      generalize (bs[bs.length - 1 - k]'(by omega)).toNat = by_ at *
      generalize ofDigits (bs.drop (bs.length - k)) = V at *
      go_wp2_with fail
      refine wp_region_seq 19 (by kernel_rfl) (by kernel_rfl) rfl ?_
      simp only [List.take_succ_cons, List.take_zero, List.drop_succ_cons, List.drop_zero]
      repeat (refine wpS_plain rfl (fun K hK => ?_); go_wp2)
      refine wpS_nil ?_
      go_wp2
      go_roundw
      case rel => exact ⟨k + 1, n + 1, by omega, by go_num, by rw [Hdr.out, ← Hst.out]⟩
      case measure => simp [intOf]; omega
    · obtain rfl : k = bs.length := by omega
      have e0 : bs.drop (bs.length - bs.length) = bs := by simp
      rw [e0]
      have ea : arrL (ofDigits bs) = #[.int .u64 (limbN (ofDigits bs) 0 : Nat), .int .u64 (limbN (ofDigits bs) 1 : Nat), .int .u64 (limbN (ofDigits bs) 2 : Nat), .int .u64 (limbN (ofDigits bs) 3 : Nat)] := rfl
      have eb : arrL 0 = #[.int .u64 0, .int .u64 0, .int .u64 0, .int .u64 0] := rfl
      rw [ea, eb]
      clear ea eb e0
      go_wp2
      go_returns
      refine ⟨rfl, ?_⟩
      go_grown
      refine below_drewN ?_ _
      go_grown
end Go.Proofs.Ytkdpphcalekbdaa.W1
