/- RlpBack, walked. -/
import Derived.Test.YtkdpphcalekbdaaL1
set_option linter.unusedVariables false
set_option linter.unusedSimpArgs false
namespace Go.Proofs.Ytkdpphcalekbdaa.B1
open Go.ChangeShapes Go.WideShapes Go.ChangeAt Go.RowKit
open M G1 G4 G5 G8 E4 H2 A1 L1
set_option maxRecDepth 100000 in
set_option maxHeartbeats 1000000 in
theorem back_oo (S : Nat → Prop) (v0 v1 : Value) (l : List Nd) (b : List UInt8) (hi : Nat) (w : World) (hv : Nds w S v0 l) (hS : ∀ b, S b → b < w.heap.size) (hn : nbulk l ≤ 1048576) (hb : Bs w 0 hi v1 b) (hhi : hi ≤ w.heap.size) (hbl : b.length ≤ 1048576)
    (hx : checkF 0 (itemF 200 l).1 = 0) (y : It) (hy : decodeF b = .ok y) : Calls Try.prog 3 #[v0, v1] w fun e w' => e = .returned (.bool true) ∧ Below w.heap.size w w' := by
  have hxb := item_bulk l
  have hfl := formF_le (itemF 200 l).1 (by omega)
  have hdx := dec_form0 hx (by omega)
  obtain ⟨hcy, hfy, hby⟩ := decode_inv hy
  have C12 := Lib.hid A1.awake12
  have C13 := Lib.hid (c13 hv hS (by omega))
  have C15 := Lib.hid (c15 (itemF 200 l).1 (by omega))
  have C14 := Lib.hid (c14 (itemF 200 l).1 (by omega) hx)
  have C16 := Lib.hid (c16 hdx (by omega))
  have C17 := Lib.hid (c17 (itemF 200 l).1)
  have C18 := Lib.hid (c18 hb hhi (by omega))
  have D16 := Lib.hid (c16 hy (by omega))
  have D14 := Lib.hid (c14 y (by omega) hcy)
  rw [hfy] at D14
  have HBB : Hid (∀ W, Below w.heap.size w W → Bs W 0 hi v1 b) := fun W hW => hb.keep (Same.of_below hW hhi)
  obtain ⟨vA, vn, vc, rfl⟩ : ∃ A n c, v0 = .slice A n c := by obtain ⟨A, c, inner, rfl, _⟩ := hv; exact ⟨_, _, _, rfl⟩
  obtain ⟨uA, uc, rfl⟩ : ∃ A c, v1 = .slice A b.length c := by obtain ⟨A, c, rfl, _⟩ := hb; exact ⟨_, _, rfl⟩
  generalize (itemF 200 l).1 = x at *
  generalize formF x = fx at *
  clear hv hS hn hb hhi hbl hx hy hxb hfl hdx hcy hfy hby
  go_enter Try.func3, Try.ntmps3
  go_wp2_with (first
    | (go_at_call 12; refine (C12.out _).mono ?_
       rintro e w1 ⟨rfl, hb1⟩
       have HB1 := Lib.hid hb1
       clear hb1)
    | (go_at_call 13; refine (C13.out _ HB1.out).mono ?_
       rintro e w2 ⟨l0, A0, n0, c0, B0, m0, d0, rfl, hi2, hb2⟩
       have HI2 := Lib.hid hi2
       have HB2 : Hid (Below w.heap.size w w2) := HB1.out.trans (hb2.mono HB1.out.size)
       clear hi2 hb2)
    | (go_at_call 15; refine (C15.out _ _ _ _ _ (item_later HI2.out (fun b hb => hb.2) (below_new _ _)) (fun b hb => by have := hb.2; rw [size_alloc]; omega)).mono ?_
       rintro e w3 ⟨l3, A3, n3, c3, B3, m3, d3, rfl, hi3, hb3⟩
       have HX3 := Lib.hid (block_later hb3 (block_new w2 _) (by rw [size_alloc]; omega))
       have HB3 : Hid (Below w2.heap.size w2 w3) := (below_new _ _).trans (hb3.mono (by rw [size_alloc]; omega))
       have HI3 := Lib.hid hi3
       clear hi3 hb3)
    | (go_at_call 14; refine (C14.out _ _ _ _ _ HI3.out (fun b hb => hb.2)).mono ?_
       rintro e w4 ⟨A4, c4, rfl, hs4, hb4⟩
       have HX4 := Lib.hid (block_later hb4 HX3.out (Array.getElem?_eq_some_iff.1 HX3.out).1)
       have HB4 : Hid (Below w2.heap.size w2 w4) := HB3.out.trans (hb4.mono HB3.out.size)
       have HS4 := Lib.hid hs4
       clear hs4 hb4 C14)
    | (go_at_call 16; refine (C16.out _ _ _ _ HS4.out (Nat.le_refl _)).mono ?_
       rintro e w5 ⟨l5, A5, n5, c5, B5, m5, d5, rfl, hi5, hb5⟩
       have hx5 := block_later hb5 HX4.out (Array.getElem?_eq_some_iff.1 HX4.out).1
       obtain ⟨y0, y1, y2, y3⟩ := block_cells hx5
       have hz5 := (Array.getElem?_eq_some_iff.1 hx5).1
       have HB5 : Hid (Below w2.heap.size w2 w5) := HB4.out.trans (hb5.mono HB4.out.size)
       have HI5 := Lib.hid hi5
       clear hi5 hb5 hx5 C16)
    | (go_at_call 17; refine (C17.out _ _ _ _ _ _ _ _ _ (item_later HI2.out (fun b hb => hb.2) (HB5.out.alloc HB5.out.size _)) (item_later HI5.out (fun b hb => hb.2) (below_new _ _)) (fun b hb => by have := hb.2; rw [size_alloc]; omega) (fun b hb => by have := hb.2; rw [size_alloc]; omega)).mono ?_
       rintro e w6 ⟨rfl, hb6⟩
       have HB6 : Hid (Below w.heap.size w w6) := HB2.out.trans ((HB5.out.trans (((below_new _ _).trans (hb6.mono (by rw [size_alloc]; omega))).mono HB5.out.size)).mono HB2.out.size)
       clear hb6 C17)
    | (go_at_call 18; refine (C18.out _ HB6.out).mono ?_
       rintro e w7 ⟨A7, c7, rfl, hs7, hb7⟩
       have HB7 : Hid (Below w.heap.size w w7) := HB6.out.trans (hb7.mono HB6.out.size)
       have HS7 := Lib.hid hs7
       clear hs7 hb7 C18)
    | (go_at_call 16; refine (D16.out _ _ _ _ HS7.out (Nat.le_refl _)).mono ?_
       rintro e w8 ⟨l8, A8, n8, c8, B8, m8, d8, rfl, hi8, hb8⟩
       have HB8 : Hid (Below w.heap.size w w8) := HB7.out.trans (hb8.mono HB7.out.size)
       have HI8 := Lib.hid hi8
       clear hi8 hb8 D16)
    | (go_at_call 14; refine (D14.out _ _ _ _ _ (item_later HI8.out (fun b hb => hb.2) (below_new _ _)) (fun b hb => by have := hb.2; rw [size_alloc]; omega)).mono ?_
       rintro e w9 ⟨A9, c9, rfl, hs9, hb9⟩
       have hB9 : Below w.heap.size w w9 := HB8.out.trans (((below_new _ _).trans (hb9.mono (by rw [size_alloc]; omega))).mono HB8.out.size)
       have k1 := str_bs hs9
       have k2 := str_bs (HBB.out _ hB9)
       have HB9 := Lib.hid hB9
       clear hs9 hb9 hB9 D14))
  go_ret
  exact ⟨rfl, HB9.out⟩
set_option maxRecDepth 100000 in
set_option maxHeartbeats 1000000 in
theorem back_oe (S : Nat → Prop) (v0 v1 : Value) (l : List Nd) (b : List UInt8) (hi : Nat) (w : World) (hv : Nds w S v0 l) (hS : ∀ b, S b → b < w.heap.size) (hn : nbulk l ≤ 1048576) (hb : Bs w 0 hi v1 b) (hhi : hi ≤ w.heap.size) (hbl : b.length ≤ 1048576)
    (hx : checkF 0 (itemF 200 l).1 = 0) (er : Nat) (hy : decodeF b = .error er) : Calls Try.prog 3 #[v0, v1] w fun e w' => e = .returned (.bool true) ∧ Below w.heap.size w w' := by
  have hxb := item_bulk l
  have hfl := formF_le (itemF 200 l).1 (by omega)
  have hdx := dec_form0 hx (by omega)
  have C12 := Lib.hid A1.awake12
  have C13 := Lib.hid (c13 hv hS (by omega))
  have C15 := Lib.hid (c15 (itemF 200 l).1 (by omega))
  have C14 := Lib.hid (c14 (itemF 200 l).1 (by omega) hx)
  have C16 := Lib.hid (c16 hdx (by omega))
  have C17 := Lib.hid (c17 (itemF 200 l).1)
  have C18 := Lib.hid (c18 hb hhi (by omega))
  have D16 := Lib.hid (c16e hy (by omega))
  have D17 := Lib.hid (c17 (.mk 0 [] []))
  have HBB : Hid (∀ W, Below w.heap.size w W → Bs W 0 hi v1 b) := fun W hW => hb.keep (Same.of_below hW hhi)
  obtain ⟨vA, vn, vc, rfl⟩ : ∃ A n c, v0 = .slice A n c := by obtain ⟨A, c, inner, rfl, _⟩ := hv; exact ⟨_, _, _, rfl⟩
  obtain ⟨uA, uc, rfl⟩ : ∃ A c, v1 = .slice A b.length c := by obtain ⟨A, c, rfl, _⟩ := hb; exact ⟨_, _, rfl⟩
  generalize (itemF 200 l).1 = x at *
  generalize formF x = fx at *
  clear hv hS hn hb hhi hbl hx hy hxb hfl hdx
  go_enter Try.func3, Try.ntmps3
  go_wp2_with (first
    | (go_at_call 12; refine (C12.out _).mono ?_
       rintro e w1 ⟨rfl, hb1⟩
       have HB1 := Lib.hid hb1
       clear hb1)
    | (go_at_call 13; refine (C13.out _ HB1.out).mono ?_
       rintro e w2 ⟨l0, A0, n0, c0, B0, m0, d0, rfl, hi2, hb2⟩
       have HI2 := Lib.hid hi2
       have HB2 : Hid (Below w.heap.size w w2) := HB1.out.trans (hb2.mono HB1.out.size)
       clear hi2 hb2)
    | (go_at_call 15; refine (C15.out _ _ _ _ _ (item_later HI2.out (fun b hb => hb.2) (below_new _ _)) (fun b hb => by have := hb.2; rw [size_alloc]; omega)).mono ?_
       rintro e w3 ⟨l3, A3, n3, c3, B3, m3, d3, rfl, hi3, hb3⟩
       have HX3 := Lib.hid (block_later hb3 (block_new w2 _) (by rw [size_alloc]; omega))
       have HB3 : Hid (Below w2.heap.size w2 w3) := (below_new _ _).trans (hb3.mono (by rw [size_alloc]; omega))
       have HI3 := Lib.hid hi3
       clear hi3 hb3)
    | (go_at_call 14; refine (C14.out _ _ _ _ _ HI3.out (fun b hb => hb.2)).mono ?_
       rintro e w4 ⟨A4, c4, rfl, hs4, hb4⟩
       have HX4 := Lib.hid (block_later hb4 HX3.out (Array.getElem?_eq_some_iff.1 HX3.out).1)
       have HB4 : Hid (Below w2.heap.size w2 w4) := HB3.out.trans (hb4.mono HB3.out.size)
       have HS4 := Lib.hid hs4
       clear hs4 hb4 C14)
    | (go_at_call 16; refine (C16.out _ _ _ _ HS4.out (Nat.le_refl _)).mono ?_
       rintro e w5 ⟨l5, A5, n5, c5, B5, m5, d5, rfl, hi5, hb5⟩
       have hx5 := block_later hb5 HX4.out (Array.getElem?_eq_some_iff.1 HX4.out).1
       obtain ⟨y0, y1, y2, y3⟩ := block_cells hx5
       have hz5 := (Array.getElem?_eq_some_iff.1 hx5).1
       have HB5 : Hid (Below w2.heap.size w2 w5) := HB4.out.trans (hb5.mono HB4.out.size)
       have HI5 := Lib.hid hi5
       clear hi5 hb5 hx5 C16)
    | (go_at_call 17; refine (C17.out _ _ _ _ _ _ _ _ _ (item_later HI2.out (fun b hb => hb.2) (HB5.out.alloc HB5.out.size _)) (item_later HI5.out (fun b hb => hb.2) (below_new _ _)) (fun b hb => by have := hb.2; rw [size_alloc]; omega) (fun b hb => by have := hb.2; rw [size_alloc]; omega)).mono ?_
       rintro e w6 ⟨rfl, hb6⟩
       have HB6 : Hid (Below w.heap.size w w6) := HB2.out.trans ((HB5.out.trans (((below_new _ _).trans (hb6.mono (by rw [size_alloc]; omega))).mono HB5.out.size)).mono HB2.out.size)
       clear hb6 C17)
    | (go_at_call 18; refine (C18.out _ HB6.out).mono ?_
       rintro e w7 ⟨A7, c7, rfl, hs7, hb7⟩
       have HB7 : Hid (Below w.heap.size w w7) := HB6.out.trans (hb7.mono HB6.out.size)
       have HS7 := Lib.hid hs7
       clear hs7 hb7 C18)
    | (go_at_call 16; refine (D16.out _ _ _ _ HS7.out (Nat.le_refl _)).mono ?_
       rintro e w8 ⟨rfl, her, hb8⟩
       have heri : ¬ (er : Int) = 0 := by omega
       have HB8 : Hid (Below w.heap.size w w8) := HB7.out.trans (hb8.mono HB7.out.size)
       clear hb8 her D16)
    | (go_at_call 17; refine (D17.out _ (fun _ => False) (fun _ => False) _ _ _ _ _ _ (F2.zero_item _ _) (F2.zero_item _ _) (fun b hb => hb.elim) (fun b hb => hb.elim)).mono ?_
       rintro e w9 ⟨rfl, hb9⟩
       have HB9 : Hid (Below w.heap.size w w9) := HB8.out.trans (((below_new _ _).trans (hb9.mono (by rw [size_alloc]; omega))).mono HB8.out.size)
       clear hb9 D17))
  go_ret
  exact ⟨rfl, HB9.out⟩
set_option maxRecDepth 100000 in
set_option maxHeartbeats 1000000 in
theorem back_eo (S : Nat → Prop) (v0 v1 : Value) (l : List Nd) (b : List UInt8) (hi : Nat) (w : World) (hv : Nds w S v0 l) (hS : ∀ b, S b → b < w.heap.size) (hn : nbulk l ≤ 1048576) (hb : Bs w 0 hi v1 b) (hhi : hi ≤ w.heap.size) (hbl : b.length ≤ 1048576)
    (hx : checkF 0 (itemF 200 l).1 ≠ 0) (y : It) (hy : decodeF b = .ok y) : Calls Try.prog 3 #[v0, v1] w fun e w' => e = .returned (.bool true) ∧ Below w.heap.size w w' := by
  have hxb := item_bulk l
  obtain ⟨hcy, hfy, hby⟩ := decode_inv hy
  have C12 := Lib.hid A1.awake12
  have C13 := Lib.hid (c13 hv hS (by omega))
  have C15 := Lib.hid (c15 (itemF 200 l).1 (by omega))
  have C14 := Lib.hid (c14e (itemF 200 l).1 (by omega) hx)
  have hxi : ¬ ((checkF 0 (itemF 200 l).1 : Nat) : Int) = 0 := by omega
  have C18 := Lib.hid (c18 hb hhi (by omega))
  have D16 := Lib.hid (c16 hy (by omega))
  have D14 := Lib.hid (c14 y (by omega) hcy)
  rw [hfy] at D14
  have HBB : Hid (∀ W, Below w.heap.size w W → Bs W 0 hi v1 b) := fun W hW => hb.keep (Same.of_below hW hhi)
  obtain ⟨vA, vn, vc, rfl⟩ : ∃ A n c, v0 = .slice A n c := by obtain ⟨A, c, inner, rfl, _⟩ := hv; exact ⟨_, _, _, rfl⟩
  obtain ⟨uA, uc, rfl⟩ : ∃ A c, v1 = .slice A b.length c := by obtain ⟨A, c, rfl, _⟩ := hb; exact ⟨_, _, rfl⟩
  generalize (itemF 200 l).1 = x at *
  generalize checkF 0 x = cx at *
  clear hv hS hn hb hhi hbl hx hy hxb hcy hfy hby
  go_enter Try.func3, Try.ntmps3
  go_wp2_with (first
    | (go_at_call 12; refine (C12.out _).mono ?_
       rintro e w1 ⟨rfl, hb1⟩
       have HB1 := Lib.hid hb1
       clear hb1)
    | (go_at_call 13; refine (C13.out _ HB1.out).mono ?_
       rintro e w2 ⟨l0, A0, n0, c0, B0, m0, d0, rfl, hi2, hb2⟩
       have HI2 := Lib.hid hi2
       have HB2 : Hid (Below w.heap.size w w2) := HB1.out.trans (hb2.mono HB1.out.size)
       clear hi2 hb2)
    | (go_at_call 15; refine (C15.out _ _ _ _ _ (item_later HI2.out (fun b hb => hb.2) (below_new _ _)) (fun b hb => by have := hb.2; rw [size_alloc]; omega)).mono ?_
       rintro e w3 ⟨l3, A3, n3, c3, B3, m3, d3, rfl, hi3, hb3⟩
       have HX3 := Lib.hid (block_later hb3 (block_new w2 _) (by rw [size_alloc]; omega))
       have HB3 : Hid (Below w2.heap.size w2 w3) := (below_new _ _).trans (hb3.mono (by rw [size_alloc]; omega))
       have HI3 := Lib.hid hi3
       clear hi3 hb3)
    | (go_at_call 14; refine (C14.out _ _ _ _ _ HI3.out (fun b hb => hb.2)).mono ?_
       rintro e w4 ⟨rfl, hb4⟩
       have HB6 : Hid (Below w.heap.size w w4) := HB2.out.trans ((HB3.out.trans (hb4.mono HB3.out.size)).mono HB2.out.size)
       clear hb4 C14)
    | (go_at_call 18; refine (C18.out _ HB6.out).mono ?_
       rintro e w7 ⟨A7, c7, rfl, hs7, hb7⟩
       have HB7 : Hid (Below w.heap.size w w7) := HB6.out.trans (hb7.mono HB6.out.size)
       have HS7 := Lib.hid hs7
       clear hs7 hb7 C18)
    | (go_at_call 16; refine (D16.out _ _ _ _ HS7.out (Nat.le_refl _)).mono ?_
       rintro e w8 ⟨l8, A8, n8, c8, B8, m8, d8, rfl, hi8, hb8⟩
       have HB8 : Hid (Below w.heap.size w w8) := HB7.out.trans (hb8.mono HB7.out.size)
       have HI8 := Lib.hid hi8
       clear hi8 hb8 D16)
    | (go_at_call 14; refine (D14.out _ _ _ _ _ (item_later HI8.out (fun b hb => hb.2) (below_new _ _)) (fun b hb => by have := hb.2; rw [size_alloc]; omega)).mono ?_
       rintro e w9 ⟨A9, c9, rfl, hs9, hb9⟩
       have hB9 : Below w.heap.size w w9 := HB8.out.trans (((below_new _ _).trans (hb9.mono (by rw [size_alloc]; omega))).mono HB8.out.size)
       have k1 := str_bs hs9
       have k2 := str_bs (HBB.out _ hB9)
       have HB9 := Lib.hid hB9
       clear hs9 hb9 hB9 D14))
  go_ret
  exact ⟨rfl, HB9.out⟩
set_option maxRecDepth 100000 in
set_option maxHeartbeats 1000000 in
theorem back_ee (S : Nat → Prop) (v0 v1 : Value) (l : List Nd) (b : List UInt8) (hi : Nat) (w : World) (hv : Nds w S v0 l) (hS : ∀ b, S b → b < w.heap.size) (hn : nbulk l ≤ 1048576) (hb : Bs w 0 hi v1 b) (hhi : hi ≤ w.heap.size) (hbl : b.length ≤ 1048576)
    (hx : checkF 0 (itemF 200 l).1 ≠ 0) (er : Nat) (hy : decodeF b = .error er) : Calls Try.prog 3 #[v0, v1] w fun e w' => e = .returned (.bool true) ∧ Below w.heap.size w w' := by
  have hxb := item_bulk l
  have C12 := Lib.hid A1.awake12
  have C13 := Lib.hid (c13 hv hS (by omega))
  have C15 := Lib.hid (c15 (itemF 200 l).1 (by omega))
  have C14 := Lib.hid (c14e (itemF 200 l).1 (by omega) hx)
  have hxi : ¬ ((checkF 0 (itemF 200 l).1 : Nat) : Int) = 0 := by omega
  have C18 := Lib.hid (c18 hb hhi (by omega))
  have D16 := Lib.hid (c16e hy (by omega))
  have D17 := Lib.hid (c17 (.mk 0 [] []))
  have HBB : Hid (∀ W, Below w.heap.size w W → Bs W 0 hi v1 b) := fun W hW => hb.keep (Same.of_below hW hhi)
  obtain ⟨vA, vn, vc, rfl⟩ : ∃ A n c, v0 = .slice A n c := by obtain ⟨A, c, inner, rfl, _⟩ := hv; exact ⟨_, _, _, rfl⟩
  obtain ⟨uA, uc, rfl⟩ : ∃ A c, v1 = .slice A b.length c := by obtain ⟨A, c, rfl, _⟩ := hb; exact ⟨_, _, rfl⟩
  generalize (itemF 200 l).1 = x at *
  generalize checkF 0 x = cx at *
  clear hv hS hn hb hhi hbl hx hy hxb
  go_enter Try.func3, Try.ntmps3
  go_wp2_with (first
    | (go_at_call 12; refine (C12.out _).mono ?_
       rintro e w1 ⟨rfl, hb1⟩
       have HB1 := Lib.hid hb1
       clear hb1)
    | (go_at_call 13; refine (C13.out _ HB1.out).mono ?_
       rintro e w2 ⟨l0, A0, n0, c0, B0, m0, d0, rfl, hi2, hb2⟩
       have HI2 := Lib.hid hi2
       have HB2 : Hid (Below w.heap.size w w2) := HB1.out.trans (hb2.mono HB1.out.size)
       clear hi2 hb2)
    | (go_at_call 15; refine (C15.out _ _ _ _ _ (item_later HI2.out (fun b hb => hb.2) (below_new _ _)) (fun b hb => by have := hb.2; rw [size_alloc]; omega)).mono ?_
       rintro e w3 ⟨l3, A3, n3, c3, B3, m3, d3, rfl, hi3, hb3⟩
       have HX3 := Lib.hid (block_later hb3 (block_new w2 _) (by rw [size_alloc]; omega))
       have HB3 : Hid (Below w2.heap.size w2 w3) := (below_new _ _).trans (hb3.mono (by rw [size_alloc]; omega))
       have HI3 := Lib.hid hi3
       clear hi3 hb3)
    | (go_at_call 14; refine (C14.out _ _ _ _ _ HI3.out (fun b hb => hb.2)).mono ?_
       rintro e w4 ⟨rfl, hb4⟩
       have HB6 : Hid (Below w.heap.size w w4) := HB2.out.trans ((HB3.out.trans (hb4.mono HB3.out.size)).mono HB2.out.size)
       clear hb4 C14)
    | (go_at_call 18; refine (C18.out _ HB6.out).mono ?_
       rintro e w7 ⟨A7, c7, rfl, hs7, hb7⟩
       have HB7 : Hid (Below w.heap.size w w7) := HB6.out.trans (hb7.mono HB6.out.size)
       have HS7 := Lib.hid hs7
       clear hs7 hb7 C18)
    | (go_at_call 16; refine (D16.out _ _ _ _ HS7.out (Nat.le_refl _)).mono ?_
       rintro e w8 ⟨rfl, her, hb8⟩
       have heri : ¬ (er : Int) = 0 := by omega
       have HB8 : Hid (Below w.heap.size w w8) := HB7.out.trans (hb8.mono HB7.out.size)
       clear hb8 her D16)
    | (go_at_call 17; refine (D17.out _ (fun _ => False) (fun _ => False) _ _ _ _ _ _ (F2.zero_item _ _) (F2.zero_item _ _) (fun b hb => hb.elim) (fun b hb => hb.elim)).mono ?_
       rintro e w9 ⟨rfl, hb9⟩
       have HB9 : Hid (Below w.heap.size w w9) := HB8.out.trans (((below_new _ _).trans (hb9.mono (by rw [size_alloc]; omega))).mono HB8.out.size)
       clear hb9 D17))
  go_ret
  exact ⟨rfl, HB9.out⟩
/-- RlpBack is true of whatever nodes and bytes. -/
theorem back3 (S : Nat → Prop) (v0 v1 : Value) (l : List Nd) (b : List UInt8) (hi : Nat) (w : World) (hv : Nds w S v0 l) (hS : ∀ b, S b → b < w.heap.size) (hn : nbulk l ≤ 1048576) (hb : Bs w 0 hi v1 b) (hhi : hi ≤ w.heap.size) (hbl : b.length ≤ 1048576) :
    Calls Try.prog 3 #[v0, v1] w fun e w' => e = .returned (.bool true) ∧ Below w.heap.size w w' := by
  by_cases hx : checkF 0 (itemF 200 l).1 = 0
  · cases hy : decodeF b with
    | ok y => exact back_oo S v0 v1 l b hi w hv hS hn hb hhi hbl hx y hy
    | error er => exact back_oe S v0 v1 l b hi w hv hS hn hb hhi hbl hx er hy
  · cases hy : decodeF b with
    | ok y => exact back_eo S v0 v1 l b hi w hv hS hn hb hhi hbl hx y hy
    | error er => exact back_ee S v0 v1 l b hi w hv hS hn hb hhi hbl hx er hy
end Go.Proofs.Ytkdpphcalekbdaa.B1
