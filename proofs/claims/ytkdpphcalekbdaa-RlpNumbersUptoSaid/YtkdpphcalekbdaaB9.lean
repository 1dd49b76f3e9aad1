/- RlpNumbers, walked. -/
import Derived.Test.YtkdpphcalekbdaaT3
set_option linter.unusedVariables false
set_option linter.unusedSimpArgs false
namespace Go.Proofs.Ytkdpphcalekbdaa.B9
open Go.ChangeShapes Go.WideShapes Go.ChangeAt Go.RowKit
open M W1 L1 T3
section
variable (S : Nat → Prop) (n a b c d : Int) (v2 : Value) (l : List Nd) (w : World)
set_option maxRecDepth 100000 in
set_option maxHeartbeats 1000000 in
theorem numbers_ok (hn : U64 n) (ha : U64 a) (hb : U64 b) (hc : U64 c) (hd : U64 d) (hv : Nds w S v2 l) (hS : ∀ b, S b → b < w.heap.size) (hl : nbulk l ≤ 1048576) (m : Nat) (hm : numF (itemF 200 l).1 = (m, 0)) :
    Calls Try.prog 9 #[.int .u64 n, .agg #[.int .u64 a, .int .u64 b, .int .u64 c, .int .u64 d], v2] w fun e w' => e = .returned (.bool true) ∧ Below w.heap.size w w' := by
  have hxb := item_bulk l
  have C12 := Lib.hid A1.awake12
  have C13 := Lib.hid (c13 hv hS (by omega))
  have C15 := Lib.hid (c15 (itemF 200 l).1 (by omega))
  have C25 := Lib.hid (number25 n hn)
  have C27 := Lib.hid (whole27 a b c d ha hb hc hd)
  have hn8 : n.toNat < 256 ^ 8 := by
    have e : (256 : Nat) ^ 8 = 18446744073709551616 := by decide
    have := hn.2
    have := hn.1
    omega
  have hw24 : numF (.mk 0 (digits n.toNat) []) = (n.toNat, 0) := whole_digits _ _ hn8
  have C24 : Hid (∀ W S c0 c1 c2, ItemR W S (.mk 0 (digits n.toNat) []) [c0, c1, c2] → (∀ b, S b → b < W.heap.size) → Calls Try.prog 24 #[.agg #[c0, c1, c2]] W fun e w' => e = .returned (.tuple #[.int .u64 n, .int .i64 0]) ∧ Below W.heap.size W w') := fun W S c0 c1 c2 hi hS => by
    have h := asNumber24 _ S c0 c1 c2 W hi hS
    rw [hw24] at h
    rwa [show ((n.toNat : Nat) : Int) = n from by have := hn.1; omega] at h
  have hw26 : wholeF (.mk 0 (digits (val a b c d)) []) 32 = (val a b c d, 0) := whole_digits _ _ (val_lt a b c d ha hb hc hd)
  have C26 : Hid (∀ W S c0 c1 c2, ItemR W S (.mk 0 (digits (val a b c d)) []) [c0, c1, c2] → (∀ b, S b → b < W.heap.size) → Calls Try.prog 26 #[.agg #[c0, c1, c2]] W fun e w' => e = .returned (.tuple #[.agg #[.int .u64 a, .int .u64 b, .int .u64 c, .int .u64 d], .int .i64 0]) ∧ Below W.heap.size W w') := fun W S c0 c1 c2 hi hS => by
    have h := asWhole26 _ S c0 c1 c2 W hi hS
    rw [hw26] at h
    obtain ⟨e0, e1, e2, e3⟩ := limbN_val a b c d ha hb hc hd
    simp only [wordV, e0, e1, e2, e3] at h
    exact h
  have hcs : wholeF (itemF 200 l).1 32 = (m, 0) ∧ m < 18446744073709551616 := by
    rcases numF_cases (itemF 200 l).1 with ⟨_, e⟩ | ⟨_, e, hlt⟩
    · rw [hm] at e; cases e
    · rw [hm] at e; rw [← e] at hlt ⊢; exact ⟨rfl, hlt⟩
  have D24 : Hid (∀ W S c0 c1 c2, ItemR W S (itemF 200 l).1 [c0, c1, c2] → (∀ b, S b → b < W.heap.size) → Calls Try.prog 24 #[.agg #[c0, c1, c2]] W fun e w' => e = .returned (.tuple #[.int .u64 (m : Int), .int .i64 0]) ∧ Below W.heap.size W w') := fun W S c0 c1 c2 hi hS => by
    have h := asNumber24 _ S c0 c1 c2 W hi hS
    rwa [hm] at h
  have D26 : Hid (∀ W S c0 c1 c2, ItemR W S (itemF 200 l).1 [c0, c1, c2] → (∀ b, S b → b < W.heap.size) → Calls Try.prog 26 #[.agg #[c0, c1, c2]] W fun e w' => e = .returned (.tuple #[.agg #[.int .u64 (m : Int), .int .u64 0, .int .u64 0, .int .u64 0], .int .i64 0]) ∧ Below W.heap.size W w') := fun W S c0 c1 c2 hi hS => by
    have h := asWhole26 _ S c0 c1 c2 W hi hS
    rw [hcs.1] at h
    simp only [wordV, limbN_self hcs.2, limbN_zero hcs.2 (Nat.le_refl 1), limbN_zero hcs.2 (show 1 ≤ 2 by omega), limbN_zero hcs.2 (show 1 ≤ 3 by omega)] at h
    exact h
  obtain ⟨vA, vn, vc, rfl⟩ : ∃ A n c, v2 = .slice A n c := by obtain ⟨A, c, inner, rfl, _⟩ := hv; exact ⟨_, _, _, rfl⟩
  generalize (itemF 200 l).1 = x at *
  generalize It.mk 0 (digits n.toNat) [] = y at *
  generalize It.mk 0 (digits (val a b c d)) [] = z at *
  clear hn8 hv hS hl hxb hn ha hb hc hd hm hw24 hw26 hcs
  have k1 := equalIn_same a b c d
  have k2 := equalIn_same (m : Int) 0 0 0
  go_enter Try.func9, Try.ntmps9
  go_wp2_with (first
    | (go_at_call 12; refine (C12.out _).mono ?_
       rintro e w1 ⟨rfl, hb1⟩
       have hx1 := block_later hb1 (block_new w _) (by rw [size_alloc]; omega)
       have HB1 : Hid (Below w.heap.size w w1) := (below_new _ _).trans (hb1.mono (by rw [size_alloc]; omega))
       have HX1 := Lib.hid hx1
       clear hb1 hx1)
    | (go_at_call 25; refine (C25.out _).mono ?_
       rintro e w2 ⟨A2, n2, c2, rfl, hi2, hb2⟩
       have HI2 := Lib.hid hi2
       have HB2 : Hid (Below w1.heap.size w1 w2) := hb2
       clear hi2 hb2)
    | (go_at_call 24; refine (C24.out _ _ _ _ _ HI2.out (fun b hb => hb.2)).mono ?_
       rintro e w3 ⟨rfl, hb3⟩
       have HB3 : Hid (Below w1.heap.size w1 w3) := HB2.out.trans (hb3.mono HB2.out.size)
       have hx3 := block_later HB3.out HX1.out (Array.getElem?_eq_some_iff.1 HX1.out).1
       have y0 : w3.cell? ⟨w.heap.size, 0, none⟩ = some (.int .u64 a) := by simp [World.cell?, hx3]
       have y1 : w3.cell? ⟨w.heap.size, 1, none⟩ = some (.int .u64 b) := by simp [World.cell?, hx3]
       have y2 : w3.cell? ⟨w.heap.size, 2, none⟩ = some (.int .u64 c) := by simp [World.cell?, hx3]
       have y3 : w3.cell? ⟨w.heap.size, 3, none⟩ = some (.int .u64 d) := by simp [World.cell?, hx3]
       have HX3 := Lib.hid hx3
       clear hb3 hx3 C24)
    | (go_at_call 27; refine (C27.out _).mono ?_
       rintro e w4 ⟨A4, n4, c4, rfl, hi4, hb4⟩
       have HI4 := Lib.hid hi4
       have HB4 : Hid (Below w3.heap.size w3 w4) := hb4
       clear hi4 hb4)
    | (go_at_call 26; refine (C26.out _ _ _ _ _ HI4.out (fun b hb => hb.2)).mono ?_
       rintro e w5 ⟨rfl, hb5⟩
       have HB5 : Hid (Below w3.heap.size w3 w5) := HB4.out.trans (hb5.mono HB4.out.size)
       have hx5 := block_later HB5.out HX3.out (Array.getElem?_eq_some_iff.1 HX3.out).1
       have z0 : w5.cell? ⟨w.heap.size, 0, none⟩ = some (.int .u64 a) := by simp [World.cell?, hx5]
       have z1 : w5.cell? ⟨w.heap.size, 1, none⟩ = some (.int .u64 b) := by simp [World.cell?, hx5]
       have z2 : w5.cell? ⟨w.heap.size, 2, none⟩ = some (.int .u64 c) := by simp [World.cell?, hx5]
       have z3 : w5.cell? ⟨w.heap.size, 3, none⟩ = some (.int .u64 d) := by simp [World.cell?, hx5]
       have hz5 := (Array.getElem?_eq_some_iff.1 hx5).1
       have HB15 : Hid (Below w.heap.size w w5) := HB1.out.trans ((HB3.out.trans (HB5.out.mono HB3.out.size)).mono HB1.out.size)
       clear hb5 hx5 C26)
    | (go_at_call 13; refine (C13.out _ (HB15.out.alloc HB15.out.size _)).mono ?_
       rintro e w6 ⟨l6, A6, n6, c6, B6, m6, d6, rfl, hi6, hb6⟩
       have HI6 := Lib.hid hi6
       have HB6 : Hid (Below w.heap.size w w6) := (HB15.out.alloc HB15.out.size _).trans (hb6.mono (HB15.out.alloc HB15.out.size _).size)
       clear hi6 hb6)
    | (go_at_call 15; refine (C15.out _ _ _ _ _ (item_later HI6.out (fun b hb => hb.2) (below_new _ _)) (fun b hb => by have := hb.2; rw [size_alloc]; omega)).mono ?_
       rintro e w7 ⟨l7, A7, n7, c7, B7, m7, d7, rfl, hi7, hb7⟩
       have HX7 := Lib.hid (block_later hb7 (block_new w6 _) (by rw [size_alloc]; omega))
       have HB7 : Hid (Below w6.heap.size w6 w7) := (below_new _ _).trans (hb7.mono (by rw [size_alloc]; omega))
       have HI7 := Lib.hid hi7
       clear hi7 hb7)
    | (go_at_call 24; refine (D24.out _ _ _ _ _ HI7.out (fun b hb => hb.2)).mono ?_
       rintro e w8 ⟨rfl, hb8⟩
       have HB8 : Hid (Below w6.heap.size w6 w8) := HB7.out.trans (hb8.mono HB7.out.size)
       have hx8 := block_later hb8 HX7.out (Array.getElem?_eq_some_iff.1 HX7.out).1
       obtain ⟨x0, x1, x2, x3⟩ := block_cells hx8
       clear hb8 hx8 D24)
    | (go_at_call 15; refine (C15.out _ _ _ _ _ (item_later HI6.out (fun b hb => hb.2) HB8.out) (fun b hb => Nat.lt_of_lt_of_le hb.2 HB8.out.size)).mono ?_
       rintro e w9 ⟨l9, A9, n9, c9, B9, m9, d9, rfl, hi9, hb9⟩
       have HB9 : Hid (Below w6.heap.size w6 w9) := HB8.out.trans (hb9.mono HB8.out.size)
       have HI9 := Lib.hid hi9
       clear hi9 hb9)
    | (go_at_call 26; refine (D26.out _ _ _ _ _ HI9.out (fun b hb => hb.2)).mono ?_
       rintro e w10 ⟨rfl, hb10⟩
       have HB10 : Hid (Below w6.heap.size w6 w10) := HB9.out.trans (hb10.mono HB9.out.size)
       clear hb10 D26))
  go_ret
  exact ⟨rfl, (HB6.out.trans (HB10.out.mono HB6.out.size)).alloc (HB6.out.trans (HB10.out.mono HB6.out.size)).size _⟩
set_option maxRecDepth 100000 in
set_option maxHeartbeats 1000000 in
theorem numbers_err (hn : U64 n) (ha : U64 a) (hb : U64 b) (hc : U64 c) (hd : U64 d) (hv : Nds w S v2 l) (hS : ∀ b, S b → b < w.heap.size) (hl : nbulk l ≤ 1048576) (m er : Nat) (hm : numF (itemF 200 l).1 = (m, er)) (her : er ≠ 0) :
    Calls Try.prog 9 #[.int .u64 n, .agg #[.int .u64 a, .int .u64 b, .int .u64 c, .int .u64 d], v2] w fun e w' => e = .returned (.bool true) ∧ Below w.heap.size w w' := by
  have hxb := item_bulk l
  have C12 := Lib.hid A1.awake12
  have C13 := Lib.hid (c13 hv hS (by omega))
  have C15 := Lib.hid (c15 (itemF 200 l).1 (by omega))
  have C25 := Lib.hid (number25 n hn)
  have C27 := Lib.hid (whole27 a b c d ha hb hc hd)
  have hn8 : n.toNat < 256 ^ 8 := by
    have e : (256 : Nat) ^ 8 = 18446744073709551616 := by decide
    have := hn.2
    have := hn.1
    omega
  have hw24 : numF (.mk 0 (digits n.toNat) []) = (n.toNat, 0) := whole_digits _ _ hn8
  have C24 : Hid (∀ W S c0 c1 c2, ItemR W S (.mk 0 (digits n.toNat) []) [c0, c1, c2] → (∀ b, S b → b < W.heap.size) → Calls Try.prog 24 #[.agg #[c0, c1, c2]] W fun e w' => e = .returned (.tuple #[.int .u64 n, .int .i64 0]) ∧ Below W.heap.size W w') := fun W S c0 c1 c2 hi hS => by
    have h := asNumber24 _ S c0 c1 c2 W hi hS
    rw [hw24] at h
    rwa [show ((n.toNat : Nat) : Int) = n from by have := hn.1; omega] at h
  have hw26 : wholeF (.mk 0 (digits (val a b c d)) []) 32 = (val a b c d, 0) := whole_digits _ _ (val_lt a b c d ha hb hc hd)
  have C26 : Hid (∀ W S c0 c1 c2, ItemR W S (.mk 0 (digits (val a b c d)) []) [c0, c1, c2] → (∀ b, S b → b < W.heap.size) → Calls Try.prog 26 #[.agg #[c0, c1, c2]] W fun e w' => e = .returned (.tuple #[.agg #[.int .u64 a, .int .u64 b, .int .u64 c, .int .u64 d], .int .i64 0]) ∧ Below W.heap.size W w') := fun W S c0 c1 c2 hi hS => by
    have h := asWhole26 _ S c0 c1 c2 W hi hS
    rw [hw26] at h
    obtain ⟨e0, e1, e2, e3⟩ := limbN_val a b c d ha hb hc hd
    simp only [wordV, e0, e1, e2, e3] at h
    exact h
  have D24 : Hid (∀ W S c0 c1 c2, ItemR W S (itemF 200 l).1 [c0, c1, c2] → (∀ b, S b → b < W.heap.size) → Calls Try.prog 24 #[.agg #[c0, c1, c2]] W fun e w' => e = .returned (.tuple #[.int .u64 (m : Int), .int .i64 (er : Int)]) ∧ Below W.heap.size W w') := fun W S c0 c1 c2 hi hS => by
    have h := asNumber24 _ S c0 c1 c2 W hi hS
    rwa [hm] at h
  have heri : ¬ (er : Int) = 0 := by omega
  obtain ⟨vA, vn, vc, rfl⟩ : ∃ A n c, v2 = .slice A n c := by obtain ⟨A, c, inner, rfl, _⟩ := hv; exact ⟨_, _, _, rfl⟩
  generalize (itemF 200 l).1 = x at *
  generalize It.mk 0 (digits n.toNat) [] = y at *
  generalize It.mk 0 (digits (val a b c d)) [] = z at *
  clear hn8 hv hS hl hxb hn ha hb hc hd hm hw24 hw26 her
  have k1 := equalIn_same a b c d
  go_enter Try.func9, Try.ntmps9
  go_wp2_with (first
    | (go_at_call 12; refine (C12.out _).mono ?_
       rintro e w1 ⟨rfl, hb1⟩
       have hx1 := block_later hb1 (block_new w _) (by rw [size_alloc]; omega)
       have HB1 : Hid (Below w.heap.size w w1) := (below_new _ _).trans (hb1.mono (by rw [size_alloc]; omega))
       have HX1 := Lib.hid hx1
       clear hb1 hx1)
    | (go_at_call 25; refine (C25.out _).mono ?_
       rintro e w2 ⟨A2, n2, c2, rfl, hi2, hb2⟩
       have HI2 := Lib.hid hi2
       have HB2 : Hid (Below w1.heap.size w1 w2) := hb2
       clear hi2 hb2)
    | (go_at_call 24; refine (C24.out _ _ _ _ _ HI2.out (fun b hb => hb.2)).mono ?_
       rintro e w3 ⟨rfl, hb3⟩
       have HB3 : Hid (Below w1.heap.size w1 w3) := HB2.out.trans (hb3.mono HB2.out.size)
       have hx3 := block_later HB3.out HX1.out (Array.getElem?_eq_some_iff.1 HX1.out).1
       have y0 : w3.cell? ⟨w.heap.size, 0, none⟩ = some (.int .u64 a) := by simp [World.cell?, hx3]
       have y1 : w3.cell? ⟨w.heap.size, 1, none⟩ = some (.int .u64 b) := by simp [World.cell?, hx3]
       have y2 : w3.cell? ⟨w.heap.size, 2, none⟩ = some (.int .u64 c) := by simp [World.cell?, hx3]
       have y3 : w3.cell? ⟨w.heap.size, 3, none⟩ = some (.int .u64 d) := by simp [World.cell?, hx3]
       have HX3 := Lib.hid hx3
       clear hb3 hx3 C24)
    | (go_at_call 27; refine (C27.out _).mono ?_
       rintro e w4 ⟨A4, n4, c4, rfl, hi4, hb4⟩
       have HI4 := Lib.hid hi4
       have HB4 : Hid (Below w3.heap.size w3 w4) := hb4
       clear hi4 hb4)
    | (go_at_call 26; refine (C26.out _ _ _ _ _ HI4.out (fun b hb => hb.2)).mono ?_
       rintro e w5 ⟨rfl, hb5⟩
       have HB5 : Hid (Below w3.heap.size w3 w5) := HB4.out.trans (hb5.mono HB4.out.size)
       have hx5 := block_later HB5.out HX3.out (Array.getElem?_eq_some_iff.1 HX3.out).1
       have z0 : w5.cell? ⟨w.heap.size, 0, none⟩ = some (.int .u64 a) := by simp [World.cell?, hx5]
       have z1 : w5.cell? ⟨w.heap.size, 1, none⟩ = some (.int .u64 b) := by simp [World.cell?, hx5]
       have z2 : w5.cell? ⟨w.heap.size, 2, none⟩ = some (.int .u64 c) := by simp [World.cell?, hx5]
       have z3 : w5.cell? ⟨w.heap.size, 3, none⟩ = some (.int .u64 d) := by simp [World.cell?, hx5]
       have hz5 := (Array.getElem?_eq_some_iff.1 hx5).1
       have HB15 : Hid (Below w.heap.size w w5) := HB1.out.trans ((HB3.out.trans (HB5.out.mono HB3.out.size)).mono HB1.out.size)
       clear hb5 hx5 C26)
    | (go_at_call 13; refine (C13.out _ (HB15.out.alloc HB15.out.size _)).mono ?_
       rintro e w6 ⟨l6, A6, n6, c6, B6, m6, d6, rfl, hi6, hb6⟩
       have HI6 := Lib.hid hi6
       have HB6 : Hid (Below w.heap.size w w6) := (HB15.out.alloc HB15.out.size _).trans (hb6.mono (HB15.out.alloc HB15.out.size _).size)
       clear hi6 hb6)
    | (go_at_call 15; refine (C15.out _ _ _ _ _ (item_later HI6.out (fun b hb => hb.2) (below_new _ _)) (fun b hb => by have := hb.2; rw [size_alloc]; omega)).mono ?_
       rintro e w7 ⟨l7, A7, n7, c7, B7, m7, d7, rfl, hi7, hb7⟩
       have HX7 := Lib.hid (block_later hb7 (block_new w6 _) (by rw [size_alloc]; omega))
       have HB7 : Hid (Below w6.heap.size w6 w7) := (below_new _ _).trans (hb7.mono (by rw [size_alloc]; omega))
       have HI7 := Lib.hid hi7
       clear hi7 hb7)
    | (go_at_call 24; refine (D24.out _ _ _ _ _ HI7.out (fun b hb => hb.2)).mono ?_
       rintro e w8 ⟨rfl, hb8⟩
       have HB8 : Hid (Below w6.heap.size w6 w8) := HB7.out.trans (hb8.mono HB7.out.size)
       clear hb8 D24))
  go_ret
  exact ⟨rfl, HB6.out.trans (HB8.out.mono HB6.out.size)⟩
/-- RlpNumbers is true of whatever number, word and nodes. -/
theorem numbers9 (hn : U64 n) (ha : U64 a) (hb : U64 b) (hc : U64 c) (hd : U64 d) (hv : Nds w S v2 l) (hS : ∀ b, S b → b < w.heap.size) (hl : nbulk l ≤ 1048576) :
    Calls Try.prog 9 #[.int .u64 n, .agg #[.int .u64 a, .int .u64 b, .int .u64 c, .int .u64 d], v2] w fun e w' => e = .returned (.bool true) ∧ Below w.heap.size w w' := by
  obtain ⟨m, er, hm⟩ : ∃ m er, numF (itemF 200 l).1 = (m, er) := ⟨_, _, rfl⟩
  by_cases her : er = 0
  · subst her; exact numbers_ok S n a b c d v2 l w hn ha hb hc hd hv hS hl m hm
  · exact numbers_err S n a b c d v2 l w hn ha hb hc hd hv hS hl m er hm her
end
end Go.Proofs.Ytkdpphcalekbdaa.B9
