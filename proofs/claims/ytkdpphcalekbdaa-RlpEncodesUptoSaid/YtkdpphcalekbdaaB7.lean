/- RlpEncodes, walked. -/
import Derived.Test.YtkdpphcalekbdaaT2
set_option linter.unusedVariables false
set_option linter.unusedSimpArgs false
namespace Go.Proofs.Ytkdpphcalekbdaa.B7
open Go.ChangeShapes Go.WideShapes Go.ChangeAt Go.RowKit
open M G1 G4 G5 G8 E4 H2 A1 L1 T1 T2
section
variable (S : Nat → Prop) (v0 : Value) (l : List Nd) (w : World)
set_option maxRecDepth 100000 in
set_option maxHeartbeats 1000000 in
theorem encodes_ok (hv : Nds w S v0 l) (hS : ∀ b, S b → b < w.heap.size) (hn : nbulk l ≤ 1048576) (hx : checkF 0 (itemF 200 l).1 = 0) :
    Calls Try.prog 6 #[v0] w fun e w' => e = .returned (.bool true) ∧ Below w.heap.size w w' := by
  have hxb := item_bulk l
  have C12 := Lib.hid A1.awake12
  have C13 := Lib.hid (c13 hv hS (by omega))
  have C15 := Lib.hid (c15 (itemF 200 l).1 (by omega))
  have C14 := Lib.hid (c14 (itemF 200 l).1 (by omega) hx)
  have C19 := Lib.hid (fun W S c0 c1 c2 hi hS => size19_ok (itemF 200 l).1 S c0 c1 c2 W hi hS (by omega) hx)
  have C20 := Lib.hid (fun W S c0 c1 c2 hi hS => rencode20_ok (itemF 200 l).1 S c0 c1 c2 W hi hS (by omega) hx)
  have C17 := Lib.hid (c17 (itemF 200 l).1)
  obtain ⟨vA, vn, vc, rfl⟩ : ∃ A n c, v0 = .slice A n c := by obtain ⟨A, c, inner, rfl, _⟩ := hv; exact ⟨_, _, _, rfl⟩
  generalize (itemF 200 l).1 = x at *
  generalize formF x = fx at *
  clear hv hS hn hx hxb
  go_enter Try.func6, Try.ntmps6
  go_wp2_with (first
    | (go_at_call 13; refine (C13.out _ (Below.refl _ _)).mono ?_
       rintro e w2 ⟨l0, A0, n0, c0, B0, m0, d0, rfl, hi2, hb2⟩
       have HI2 := Lib.hid hi2
       have HB2 := Lib.hid hb2
       clear hi2 hb2 C13)
    | (go_at_call 15; refine (C15.out _ _ _ _ _ (item_later HI2.out (fun b hb => hb.2) (below_new _ _)) (fun b hb => by have := hb.2; rw [size_alloc]; omega)).mono ?_
       rintro e w3 ⟨l3, A3, n3, c3, B3, m3, d3, rfl, hi3, hb3⟩
       have HX3 := Lib.hid (block_later hb3 (block_new w2 _) (by rw [size_alloc]; omega))
       have HB3 : Hid (Below w2.heap.size w2 w3) := (below_new _ _).trans (hb3.mono (by rw [size_alloc]; omega))
       have HI3 := Lib.hid hi3
       have tok := trivial
       clear hi3 hb3)
    | (go_at_call 14; refine (C14.out _ _ _ _ _ (item_later HI3.out (fun b hb => hb.2) (below_new _ _)) (fun b hb => by have := hb.2; rw [size_alloc]; omega)).mono ?_
       rintro e w4 ⟨A4, c4, rfl, hs4, hb4⟩
       have HT4 := Lib.hid (block_later hb4 (block_new w3 _) (by rw [size_alloc]; omega))
       have HB4 : Hid (Below w3.heap.size w3 w4) := (below_new _ _).trans (hb4.mono (by rw [size_alloc]; omega))
       have hx4 := block_later HB4.out HX3.out (Array.getElem?_eq_some_iff.1 HX3.out).1
       obtain ⟨y0, y1, y2, y3⟩ := block_cells hx4
       have HX4 := Lib.hid hx4
       have HS4 := Lib.hid hs4
       have HB24 : Hid (Below w2.heap.size w2 w4) := HB3.out.trans (HB4.out.mono HB3.out.size)
       clear hs4 hb4 C14 hx4)
    | (go_at_call 15; refine (C15.out _ _ _ _ _ (item_later HI2.out (fun b hb => hb.2) HB24.out) (fun b hb => Nat.lt_of_lt_of_le hb.2 HB24.out.size)).mono ?_
       rintro e w5 ⟨l5, A5, n5, c5, B5, m5, d5, rfl, hi5, hb5⟩
       have HI5 := Lib.hid hi5
       have HB5 : Hid (Below w4.heap.size w4 w5) := hb5
       clear hi5 hb5)
    | (go_at_call 19; refine (C19.out _ _ _ _ _ HI5.out (fun b hb => hb.2)).mono ?_
       rintro e w6 ⟨rfl, hb6⟩
       have HB6 : Hid (Below w4.heap.size w4 w6) := HB5.out.trans (hb6.mono HB5.out.size)
       have hx6 := block_later HB6.out HX4.out (Array.getElem?_eq_some_iff.1 HX4.out).1
       obtain ⟨z0, z1, z2, z3⟩ := block_cells hx6
       have HX6 := Lib.hid hx6
       have HB26 : Hid (Below w2.heap.size w2 w6) := HB24.out.trans (HB6.out.mono HB24.out.size)
       clear hb6 hx6 C19)
    | (go_at_call 20; refine (C20.out _ _ _ _ _ (item_later HI2.out (fun b hb => hb.2) HB26.out) (fun b hb => Nat.lt_of_lt_of_le hb.2 HB26.out.size)).mono ?_
       rintro e w7 ⟨A7, c7, rfl, hs7, hb7⟩
       have HB47 : Hid (Below w4.heap.size w4 w7) := HB6.out.trans (hb7.mono HB6.out.size)
       have HB27 : Hid (Below w2.heap.size w2 w7) := HB26.out.trans (hb7.mono HB26.out.size)
       have HB37 : Hid (Below w3.heap.size w3 w7) := HB4.out.trans (HB47.out.mono HB4.out.size)
       have hx7 := block_later hb7 HX6.out (Array.getElem?_eq_some_iff.1 HX6.out).1
       obtain ⟨u0, u1, u2, u3⟩ := block_cells hx7
       have ht7 := block_later HB47.out HT4.out (Array.getElem?_eq_some_iff.1 HT4.out).1
       obtain ⟨t0, t1, t2, t3⟩ := block_cells ht7
       have HS7 := Lib.hid hs7
       clear hs7 hb7 hx7 ht7 C20)
    | (go_at_call 17; refine (C17.out _ _ _ _ _ _ _ _ _ (item_later HI3.out (fun b hb => hb.2) HB37.out) (item_later HI2.out (fun b hb => hb.2) HB27.out) (fun b hb => Nat.lt_of_lt_of_le hb.2 HB37.out.size) (fun b hb => Nat.lt_of_lt_of_le hb.2 HB27.out.size)).mono ?_
       rintro e w8 ⟨rfl, hb8⟩
       have k1 := str_bs (HS4.out.keep (Same.of_below (HB47.out.trans (hb8.mono HB47.out.size)) (Nat.le_refl _)))
       have k2 := str_bs (HS7.out.keep (Same.of_below hb8 (Nat.le_refl _)))
       have HB8 : Hid (Below w.heap.size w w8) := HB2.out.trans ((HB27.out.trans (hb8.mono HB27.out.size)).mono HB2.out.size)
       clear hb8)
    | (go_at_call 12; refine (C12.out _).mono ?_
       rintro e w9 ⟨rfl, hb9⟩
       have HB9 : Hid (Below w.heap.size w w9) := HB8.out.trans (hb9.mono HB8.out.size)
       clear hb9))
  go_ret
  exact ⟨rfl, HB9.out⟩
set_option maxRecDepth 100000 in
set_option maxHeartbeats 1000000 in
theorem encodes_err (hv : Nds w S v0 l) (hS : ∀ b, S b → b < w.heap.size) (hn : nbulk l ≤ 1048576) (hx : checkF 0 (itemF 200 l).1 ≠ 0) :
    Calls Try.prog 6 #[v0] w fun e w' => e = .returned (.bool true) ∧ Below w.heap.size w w' := by
  have hxb := item_bulk l
  have C12 := Lib.hid A1.awake12
  have C13 := Lib.hid (c13 hv hS (by omega))
  have C15 := Lib.hid (c15 (itemF 200 l).1 (by omega))
  have C14 := Lib.hid (c14e (itemF 200 l).1 (by omega) hx)
  have C19 := Lib.hid (fun W S c0 c1 c2 hi hS => size19_err (itemF 200 l).1 S c0 c1 c2 W hi hS (by omega) hx)
  have C20 := Lib.hid (fun W S c0 c1 c2 hi hS => rencode20_err (itemF 200 l).1 S c0 c1 c2 W hi hS (by omega) hx)
  have C17 := Lib.hid (c17 (itemF 200 l).1)
  obtain ⟨vA, vn, vc, rfl⟩ : ∃ A n c, v0 = .slice A n c := by obtain ⟨A, c, inner, rfl, _⟩ := hv; exact ⟨_, _, _, rfl⟩
  generalize (itemF 200 l).1 = x at *
  generalize checkF 0 x = cx at *
  clear hv hS hn hx hxb
  go_enter Try.func6, Try.ntmps6
  go_wp2_with (first
    | (go_at_call 13; refine (C13.out _ (Below.refl _ _)).mono ?_
       rintro e w2 ⟨l0, A0, n0, c0, B0, m0, d0, rfl, hi2, hb2⟩
       have HI2 := Lib.hid hi2
       have HB2 := Lib.hid hb2
       clear hi2 hb2 C13)
    | (go_at_call 15; refine (C15.out _ _ _ _ _ (item_later HI2.out (fun b hb => hb.2) (below_new _ _)) (fun b hb => by have := hb.2; rw [size_alloc]; omega)).mono ?_
       rintro e w3 ⟨l3, A3, n3, c3, B3, m3, d3, rfl, hi3, hb3⟩
       have HX3 := Lib.hid (block_later hb3 (block_new w2 _) (by rw [size_alloc]; omega))
       have HB3 : Hid (Below w2.heap.size w2 w3) := (below_new _ _).trans (hb3.mono (by rw [size_alloc]; omega))
       have HI3 := Lib.hid hi3
       have tok := trivial
       clear hi3 hb3)
    | (go_at_call 14; refine (C14.out _ _ _ _ _ (item_later HI3.out (fun b hb => hb.2) (below_new _ _)) (fun b hb => by have := hb.2; rw [size_alloc]; omega)).mono ?_
       rintro e w4 ⟨rfl, hb4⟩
       have HT4 := Lib.hid (block_later hb4 (block_new w3 _) (by rw [size_alloc]; omega))
       have HB4 : Hid (Below w3.heap.size w3 w4) := (below_new _ _).trans (hb4.mono (by rw [size_alloc]; omega))
       have hx4 := block_later HB4.out HX3.out (Array.getElem?_eq_some_iff.1 HX3.out).1
       obtain ⟨y0, y1, y2, y3⟩ := block_cells hx4
       have HX4 := Lib.hid hx4
       have HB24 : Hid (Below w2.heap.size w2 w4) := HB3.out.trans (HB4.out.mono HB3.out.size)
       clear hb4 C14 hx4)
    | (go_at_call 15; refine (C15.out _ _ _ _ _ (item_later HI2.out (fun b hb => hb.2) HB24.out) (fun b hb => Nat.lt_of_lt_of_le hb.2 HB24.out.size)).mono ?_
       rintro e w5 ⟨l5, A5, n5, c5, B5, m5, d5, rfl, hi5, hb5⟩
       have HI5 := Lib.hid hi5
       have HB5 : Hid (Below w4.heap.size w4 w5) := hb5
       clear hi5 hb5)
    | (go_at_call 19; refine (C19.out _ _ _ _ _ HI5.out (fun b hb => hb.2)).mono ?_
       rintro e w6 ⟨rfl, hb6⟩
       have HB6 : Hid (Below w4.heap.size w4 w6) := HB5.out.trans (hb6.mono HB5.out.size)
       have hx6 := block_later HB6.out HX4.out (Array.getElem?_eq_some_iff.1 HX4.out).1
       obtain ⟨z0, z1, z2, z3⟩ := block_cells hx6
       have HX6 := Lib.hid hx6
       have HB26 : Hid (Below w2.heap.size w2 w6) := HB24.out.trans (HB6.out.mono HB24.out.size)
       clear hb6 hx6 C19)
    | (go_at_call 20; refine (C20.out _ _ _ _ _ (item_later HI2.out (fun b hb => hb.2) HB26.out) (fun b hb => Nat.lt_of_lt_of_le hb.2 HB26.out.size)).mono ?_
       rintro e w7 ⟨rfl, hb7⟩
       have HB47 : Hid (Below w4.heap.size w4 w7) := HB6.out.trans (hb7.mono HB6.out.size)
       have HB27 : Hid (Below w2.heap.size w2 w7) := HB26.out.trans (hb7.mono HB26.out.size)
       have HB37 : Hid (Below w3.heap.size w3 w7) := HB4.out.trans (HB47.out.mono HB4.out.size)
       have hx7 := block_later hb7 HX6.out (Array.getElem?_eq_some_iff.1 HX6.out).1
       obtain ⟨u0, u1, u2, u3⟩ := block_cells hx7
       have ht7 := block_later HB47.out HT4.out (Array.getElem?_eq_some_iff.1 HT4.out).1
       obtain ⟨t0, t1, t2, t3⟩ := block_cells ht7
       clear hb7 hx7 ht7 C20)
    | (go_at_call 17; refine (C17.out _ _ _ _ _ _ _ _ _ (item_later HI3.out (fun b hb => hb.2) HB37.out) (item_later HI2.out (fun b hb => hb.2) HB27.out) (fun b hb => Nat.lt_of_lt_of_le hb.2 HB37.out.size) (fun b hb => Nat.lt_of_lt_of_le hb.2 HB27.out.size)).mono ?_
       rintro e w8 ⟨rfl, hb8⟩
       have k1 := str_of (w := w8) (lo := 0) (hi := 0) (A := none) (n := 0) (c := 0) (bs := []) rfl (Rd.nil _ _ _ _ _)
       have HB8 : Hid (Below w.heap.size w w8) := HB2.out.trans ((HB27.out.trans (hb8.mono HB27.out.size)).mono HB2.out.size)
       clear hb8)
    | (go_at_call 12; refine (C12.out _).mono ?_
       rintro e w9 ⟨rfl, hb9⟩
       have HB9 : Hid (Below w.heap.size w w9) := HB8.out.trans (hb9.mono HB8.out.size)
       clear hb9))
  go_ret
  exact ⟨rfl, HB9.out⟩
/-- RlpEncodes is true of whatever nodes. -/
theorem encodes6 (hv : Nds w S v0 l) (hS : ∀ b, S b → b < w.heap.size) (hn : nbulk l ≤ 1048576) :
    Calls Try.prog 6 #[v0] w fun e w' => e = .returned (.bool true) ∧ Below w.heap.size w w' := by
  by_cases hx : checkF 0 (itemF 200 l).1 = 0
  · exact encodes_ok S v0 l w hv hS hn hx
  · exact encodes_err S v0 l w hv hS hn hx
end
end Go.Proofs.Ytkdpphcalekbdaa.B7
