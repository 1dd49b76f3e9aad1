/- Heads: number, head, long. -/
import Derived.Test.YtkdpphcalekbdaaW2
import Derived.Test.YtkdpphcalekbdaaW3
import Derived.Test.YtkdpphcalekbdaaP
set_option linter.unusedVariables false
set_option linter.unusedSimpArgs false
namespace Go.Proofs.Ytkdpphcalekbdaa.W1
open Go.ChangeShapes Go.WideShapes Go.ChangeAt Go.RowKit
open M
theorem u64_nat {n : Nat} (h : n < 18446744073709551616) : U64 (n : Int) := ⟨by omega, by omega⟩
theorem u64_zero : U64 0 := ⟨by omega, by omega⟩
theorem val_zero (n : Nat) : val (n : Int) 0 0 0 = n := by unfold val; omega
set_option maxHeartbeats 1000000 in
theorem number_any (n : Nat) (hn : n < 18446744073709551616) (w : World) :
    Calls Try.prog 55 #[.int .u64 (n : Int)] w fun e w' => ∃ v, e = .returned v ∧ Own w' w.heap.size v (digits n) ∧ Below w.heap.size w w' := by
  have Hu := Lib.hid (u64_nat hn)
  clear hn
  go_enter Try.func55, Try.ntmps55
  go_wp2_with fail
  refine (of_any _ _).mono ?_
  rintro e w1 ⟨rfl, hb1⟩
  go_wp2_with fail
  refine (least_any _ _ _ _ Hu.out u64_zero u64_zero u64_zero _).mono ?_
  rintro e w2 ⟨v, rfl, ho, hb2⟩
  rw [val_zero] at ho
  go_wp2
  go_ret
  exact ⟨_, rfl, own_low ho hb1.size, hb1.trans (hb2.mono hb1.size)⟩
theorem own_one (W : World) (base : Nat) (x : UInt8) (y : Int) (hy : y = (x.toNat : Int)) (hb : base ≤ W.heap.size) : Own (W.alloc (.cells #[.int .u8 y] 5)) base (.slice (some ⟨W.heap.size, 0, none⟩) 1 1) [x] := by
  subst hy
  have := World.ownsRow_lit (base := base) (e := 5) (size := 1) W #[.int .u8 (x.toNat : Int)] 1 hb (by decide) (by simp)
  exact this
theorem ofNat_sum (a b : Nat) : ((a : Int) + b) % 256 = ((UInt8.ofNat (a + b)).toNat : Int) := by rw [toNat_ofNat_mod]; omega
theorem ofNat_sum3 (a b : Nat) : ((a : Int) + 55 + b) % 256 = ((UInt8.ofNat (a + 55 + b)).toNat : Int) := by rw [toNat_ofNat_mod]; omega
set_option maxHeartbeats 1000000 in
theorem head_any (base n : Nat) (hn : n < 1099511627776) (hbase : base < 256) (w : World) :
    Calls Try.prog 66 #[.int .u8 (base : Int), .int .i64 (n : Int)] w fun e w' => ∃ v, e = .returned v ∧ Own w' w.heap.size v (headF base n) ∧ Below w.heap.size w w' := by
  by_cases hs : n ≤ 55
  · have Ho := Lib.hid (own_one w w.heap.size (UInt8.ofNat (base + n)) _ (ofNat_sum base n) (Nat.le_refl _))
    go_enter Try.func66, Try.ntmps66
    go_wp2
    go_ret
    exact ⟨_, rfl, by unfold headF; rw [if_pos hs]; exact Ho.out, (Below.refl _ _).alloc (Nat.le_refl _) _⟩
  · go_enter Try.func66, Try.ntmps66
    go_wp2_with fail
    refine (number_any n (by omega) _).mono ?_
    rintro e w1 ⟨v, rfl, ho, hb1⟩
    have Ho := Lib.hid ho
    obtain ⟨A, c, rfl, h1, h2, hR⟩ := ho.bs
    have HR := Lib.hid hR
    clear ho hR
    have hlen : (digits n).length ≤ 8 := digits_length_le (by omega)
    have Hone := Lib.hid (own_one w1 w.heap.size (UInt8.ofNat (base + 55 + (digits n).length)) _ (ofNat_sum3 base (digits n).length) hb1.size)
    have HR1 := Lib.hid (HR.out.keep (w' := w1.alloc (.cells #[.int .u8 (((base : Int) + 55 + (digits n).length) % 256)] 5)) (fun k h1 h2 => Below.heap_alloc _ _ _ h2))
    have Hsz := Lib.hid hb1.size
    go_wp2_with (first | (at_builtin; refine wp_append rfl (.tmp 22) (.tmp 23) 23 5 (.int .u8 0) 1 1 rfl Try.underlying23 info5 rfl (by omega) w.heap.size w.heap.size w1.heap.size _ 1 _ A (digits n).length c (nums (digits n)) rfl rfl Hone.out HR1.out (nums_one _) (by simp only [maxLen]; omega) (by omega) (by have := Hsz.out; simp; omega) ?_; intro v' w' hown hgrow _))
    go_ret
    refine ⟨_, rfl, ?_, (hb1.alloc Hsz.out _).grown hgrow (by have := Hsz.out; simp; omega) (by intro k hk; cases hk; exact Hsz.out)⟩
    unfold headF
    rw [if_neg hs]
    have : (UInt8.ofNat (base + 55 + (digits n).length) :: digits n).length = 1 + (digits n).length := by simp; omega
    unfold Own
    rw [this]
    exact hown
set_option maxHeartbeats 1000000 in
theorem refHead0_any (base n : Nat) (hn : n < 1099511627776) (hbase : base < 256) (w : World) :
    Calls Try.prog 67 #[.int .u8 (base : Int), .int .i64 (n : Int)] w fun e w' => ∃ v, e = .returned v ∧ Own w' w.heap.size v (headF base n) ∧ Below w.heap.size w w' := by
  by_cases hs : n ≤ 55
  · have Ho := Lib.hid (own_one w w.heap.size (UInt8.ofNat (base + n)) _ (ofNat_sum base n) (Nat.le_refl _))
    go_enter Try.func67, Try.ntmps67
    go_wp2
    go_ret
    exact ⟨_, rfl, by unfold headF; rw [if_pos hs]; exact Ho.out, (Below.refl _ _).alloc (Nat.le_refl _) _⟩
  · go_enter Try.func67, Try.ntmps67
    go_wp2_with fail
    refine (refOf_any _ _).mono ?_
    rintro e w0 ⟨rfl, hb0⟩
    go_wp2_with fail
    refine (refLeast_any _ _ _ _ (u64_nat (by omega)) u64_zero u64_zero u64_zero _).mono ?_
    rintro e w1 ⟨v, rfl, ho0, hb10⟩
    rw [val_zero] at ho0
    have ho := own_low ho0 hb0.size
    have hb1 := hb0.trans (hb10.mono hb0.size)
    clear ho0 hb10
    obtain ⟨A, c, rfl, h1, h2, hR⟩ := Own.bs ho
    have HR := Lib.hid hR
    clear ho hR hb0
    have hlen : (digits n).length ≤ 8 := digits_length_le (by omega)
    have Hone := Lib.hid (own_one w1 w.heap.size (UInt8.ofNat (base + 55 + (digits n).length)) _ (ofNat_sum3 base (digits n).length) hb1.size)
    have HR1 := Lib.hid (HR.out.keep (w' := w1.alloc (.cells #[.int .u8 (((base : Int) + 55 + (digits n).length) % 256)] 5)) (fun k h1 h2 => Below.heap_alloc _ _ _ h2))
    have Hsz := Lib.hid hb1.size
    go_wp2_with (first | (at_builtin; refine wp_append rfl (.tmp 23) (.tmp 24) 23 5 (.int .u8 0) 1 1 rfl Try.underlying23 info5 rfl (by omega) w.heap.size w.heap.size w1.heap.size _ 1 _ A (digits n).length c (nums (digits n)) rfl rfl Hone.out HR1.out (nums_one _) (by simp only [maxLen]; omega) (by omega) (by have := Hsz.out; simp; omega) ?_; intro v' w' hown hgrow _))
    go_ret
    refine ⟨_, rfl, ?_, (hb1.alloc Hsz.out _).grown hgrow (by have := Hsz.out; simp; omega) (by intro k hk; cases hk; exact Hsz.out)⟩
    unfold headF
    rw [if_neg hs]
    have : (UInt8.ofNat (base + 55 + (digits n).length) :: digits n).length = 1 + (digits n).length := by simp; omega
    unfold Own
    rw [this]
    exact hown
end Go.Proofs.Ytkdpphcalekbdaa.W1
