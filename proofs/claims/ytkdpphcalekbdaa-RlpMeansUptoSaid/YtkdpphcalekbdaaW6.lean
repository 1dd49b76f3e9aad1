/- long, Head: what stands ahead of bytes. -/
import Derived.Test.YtkdpphcalekbdaaW2
import Derived.Test.YtkdpphcalekbdaaW4
import Derived.Test.YtkdpphcalekbdaaP
set_option linter.unusedVariables false
set_option linter.unusedSimpArgs false
namespace Go.Proofs.Ytkdpphcalekbdaa.W1
open Go.ChangeShapes Go.WideShapes Go.ChangeAt Go.RowKit
open M
theorem limbN_zero {V i : Nat} (h : V < 18446744073709551616) (hi : 1 ≤ i) : limbN V i = 0 := by
  unfold limbN
  have : 18446744073709551616 ^ 1 ≤ 18446744073709551616 ^ i := Nat.pow_le_pow_right (by omega) hi
  rw [Nat.div_eq_of_lt (by omega)]
theorem limbN_self {V : Nat} (h : V < 18446744073709551616) : limbN V 0 = V := by unfold limbN; rw [Nat.pow_zero, Nat.div_one, Nat.mod_eq_of_lt h]
theorem u8_eq_zero (b : UInt8) : ((b.toNat : Int) == 0) = (b == 0) := by
  by_cases h : b = 0
  · subst h; rfl
  · have : (b == 0) = false := by simpa using h
    rw [this, beq_eq_false_iff_ne]
    intro e
    apply h
    apply UInt8.toNat_inj.1
    have h0 : (0 : UInt8).toNat = 0 := rfl
    omega
theorem Bs.take_ {w : World} {lo hi : Nat} {A : Option Addr} {c : Nat} {bs : List UInt8} (h1 : bs.length ≤ c) (h2 : c ≤ 9223372036854775807) (hR : Rd w lo hi 1 A bs.length (nums bs)) (k : Nat) (hk : k ≤ bs.length) : Bs w lo hi (.slice A k c) (bs.take k) := by
  have hl : (bs.take k).length = k := by rw [List.length_take]; omega
  refine ⟨A, c, by rw [hl], by omega, h2, by simp [hl], fun hn => ?_⟩
  rw [hl] at hn
  obtain ⟨g, off, e, a1, a2, hc⟩ := hR.2 (by omega)
  refine ⟨g, off, e, a1, a2, fun j u hu => hc j u ?_⟩
  simp only [nums, List.map_take, List.getElem?_take] at hu
  split at hu
  · exact hu
  · cases hu
set_option maxRecDepth 100000 in
set_option maxHeartbeats 1000000 in
theorem long_any (lo hi : Nat) (v : Value) (bs : List UInt8) (w : World) (hb : Bs w lo hi v bs) (hhi : hi ≤ w.heap.size) (k : Nat) (hk1 : 1 ≤ k) (hk : k ≤ 8) :
    Calls Try.prog 54 #[v, .int .i64 (k : Int)] w fun e w' => e = .returned (.tuple #[.int .i64 ((longP bs k).1 : Nat), .int .i64 ((longP bs k).2 : Nat)]) ∧ Below w.heap.size w w' := by
  obtain ⟨A, c, rfl, h1, h2, hR⟩ := hb
  have HR := Lib.hid hR
  clear hR
  by_cases hlt : bs.length < k
  · have Hp := Lib.hid (show longP bs k = (0, 41) from by unfold longP; rw [if_pos hlt])
    go_enter Try.func54, Try.ntmps54
    go_wp2
    go_returns
    exact ⟨by rw [Hp.out]; rfl, Below.refl _ _⟩
  · obtain ⟨b, r, hbr⟩ : ∃ b r, bs = b :: r := by
      cases bs with
      | nil => simp at hlt; omega
      | cons b r => exact ⟨b, r, rfl⟩
    obtain ⟨g, off, rfl, hg1, hg2, hcell0⟩ := HR.out.at_ (show 0 < bs.length from by omega)
    have hcell : w.cell? ⟨g, off, none⟩ = some (.int .u8 (b.toNat : Int)) := by subst hbr; simpa [nums] using hcell0
    clear hcell0
    have Hh := Lib.hid (show bs.headD 0 = b from by subst hbr; rfl)
    clear hbr
    by_cases hz : b = 0
    · have Hp := Lib.hid (show longP bs k = (0, 42) from by unfold longP; rw [if_neg hlt, Hh.out, if_pos hz])
      subst hz
      have e0 : ((((0 : UInt8).toNat : Nat) : Int)) = 0 := rfl
      rw [e0] at hcell
      go_enter Try.func54, Try.ntmps54
      go_wp2
      go_returns
      exact ⟨by rw [Hp.out]; rfl, Below.refl _ _⟩
    · have hne : ((b.toNat : Int) == 0) = false := by rw [u8_eq_zero]; simpa using hz
      have hV : ofDigits (bs.take k) < 18446744073709551616 := by
        have := ofDigits_lt (bs.take k)
        have h8 : 256 ^ (bs.take k).length ≤ 256 ^ 8 := Nat.pow_le_pow_right (by omega) (by rw [List.length_take]; omega)
        omega
      have Hp := Lib.hid (show longP bs k = if ofDigits (bs.take k) ≤ 55 ∨ 1099511627776 < ofDigits (bs.take k) then (0, 42) else (ofDigits (bs.take k), 0) from by unfold longP; rw [if_neg hlt, Hh.out, if_neg hz])
      have Hl1 := Lib.hid (limbN_zero hV (Nat.le_refl 1))
      have Hl2 := Lib.hid (limbN_zero hV (show 1 ≤ 2 from by omega))
      have Hl3 := Lib.hid (limbN_zero hV (show 1 ≤ 3 from by omega))
      have Hl0 := Lib.hid (limbN_self hV)
      have Hbs := Lib.hid (Bs.take_ h1 h2 HR.out k (by omega))
      have hread := read_any lo hi _ _ w Hbs.out (by rw [List.length_take]; omega) hhi
      rw [Hl0.out, Hl1.out, Hl2.out, Hl3.out] at hread
      have Hread := Lib.hid hread
      clear hread
      generalize ofDigits (bs.take k) = V at *
      have Hcase : Hid (V ≤ 55 ∨ (55 < V ∧ V ≤ 1099511627776) ∨ (55 < V ∧ 1099511627776 < V)) := Lib.hid (by omega)
      go_enter Try.func54, Try.ntmps54
      go_wp2_with fail
      refine (Hread.out).mono ?_
      rintro e w1 ⟨rfl, hb1⟩
      have Hz1 := Lib.hid hb1.size
      go_wp2_with fail
      refine (small_any _ _ _ _ rfl rfl rfl _).mono ?_
      rintro e w2 ⟨rfl, hb2⟩
      have hB := (hb1.alloc Hz1.out _).trans (hb2.mono (by have := Hz1.out; simp; omega))
      clear hb1 hb2
      rcases Hcase.out with h | ⟨h, h'⟩ | ⟨h, h'⟩
      · go_wp2
        go_returns
        exact ⟨by rw [Hp.out, if_pos (.inl h)]; rfl, hB⟩
      · go_wp2
        go_returns
        exact ⟨by rw [Hp.out, if_neg (by omega)]; rfl, hB⟩
      · go_wp2
        go_returns
        exact ⟨by rw [Hp.out, if_pos (.inr h')]; rfl, hB⟩
end Go.Proofs.Ytkdpphcalekbdaa.W1
