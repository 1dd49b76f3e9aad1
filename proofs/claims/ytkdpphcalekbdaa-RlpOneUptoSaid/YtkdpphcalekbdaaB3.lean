/- RlpOne, walked. -/
import Derived.Test.YtkdpphcalekbdaaL1
import Derived.Deep.RegionHeld3
set_option linter.unusedVariables false
set_option linter.unusedSimpArgs false
namespace Go.Proofs.Ytkdpphcalekbdaa.B3
open Go.ChangeShapes Go.WideShapes Go.ChangeAt Go.RowKit
open M G1 G4 G5 G8 E4 H2 A1 L1
/-- No form begins with another's. -/
theorem one_form {x y : It} (hx : checkF 0 x = 0) (hy : checkF 0 y = 0) (h40 : (formF x).length ≤ 1099511627776) (h41 : (formF y).length ≤ 1099511627776) (h : (formF y).take (formF x).length = formF x) : x = y := by
  have h1 := dec_form x 64 ((formF y).drop (formF x).length) (by omega) hx h40
  have h2 := dec_form y 64 [] (by omega) hy h41
  have e : formF x ++ (formF y).drop (formF x).length = formF y ++ [] := by
    rw [List.append_nil]
    conv => lhs; lhs; rw [← h]
    exact List.take_append_drop _ _
  rw [e, h2] at h1
  injection h1 with h1
  injection h1 with h1 _
  exact h1.symm
theorem c17n (x y : It) (hne : x ≠ y) (W : World) (S S' : Nat → Prop) (c0 c1 c2 e0 e1 e2 : Value) (hi : ItemR W S x [c0, c1, c2]) (hi' : ItemR W S' y [e0, e1, e2]) (hS : ∀ b, S b → b < W.heap.size) (hS' : ∀ b, S' b → b < W.heap.size) :
    Calls Try.prog 17 #[.agg #[c0, c1, c2], .agg #[e0, e1, e2]] W fun e w' => e = .returned (.bool false) ∧ Below W.heap.size W w' :=
  (same17 x y S S' c0 c1 c2 e0 e1 e2 W hi hi' hS hS').mono fun e w' ⟨b, h1, h2, h3⟩ => ⟨by rw [h1]; cases b; rfl; exact absurd (h2.1 rfl) hne, h3⟩
section
variable (S : Nat → Prop) (v0 v1 : Value) (l m : List Nd) (w : World)
set_option maxRecDepth 100000 in
set_option maxHeartbeats 1000000 in
theorem one_e1 (hv : Nds w S v0 l) (hu : Nds w S v1 m) (hS : ∀ b, S b → b < w.heap.size) (hn : nbulk l ≤ 1048576) (hm : nbulk m ≤ 1048576) (hx : checkF 0 (itemF 200 l).1 ≠ 0) :
    Calls Try.prog 4 #[v0, v1] w fun e w' => e = .returned (.bool true) ∧ Below w.heap.size w w' := by
  have hxb := item_bulk l
  have hyb := item_bulk m
  have C12 := Lib.hid A1.awake12
  have C13 := Lib.hid (c13 hv hS (by omega))
  have D13 := Lib.hid (c13 hu hS (by omega))
  have C14 := Lib.hid (c14e (itemF 200 l).1 (by omega) hx)
  have hxi : ¬ ((checkF 0 (itemF 200 l).1 : Nat) : Int) = 0 := by omega
  have D14 : Hid (∀ W S c0 c1 c2, ItemR W S (itemF 200 m).1 [c0, c1, c2] → (∀ b, S b → b < W.heap.size) → Calls Try.prog 14 #[.agg #[c0, c1, c2]] W fun e w' => ∃ A n c z, e = .returned (.tuple #[.slice A n c, .int .i64 z]) ∧ Below W.heap.size W w') := fun W S c0 c1 c2 hi hS => by
    by_cases hy : checkF 0 (itemF 200 m).1 = 0
    · exact (c14 _ (by omega) hy W S c0 c1 c2 hi hS).mono fun e w' ⟨A, c, h1, _, h2⟩ => ⟨A, _, c, 0, h1, h2⟩
    · exact (c14e _ (by omega) hy W S c0 c1 c2 hi hS).mono fun e w' ⟨h1, h2⟩ => ⟨none, 0, 0, _, h1, h2⟩
  obtain ⟨vA, vn, vc, rfl⟩ : ∃ A n c, v0 = .slice A n c := by obtain ⟨A, c, inner, rfl, _⟩ := hv; exact ⟨_, _, _, rfl⟩
  obtain ⟨uA, un, uc, rfl⟩ : ∃ A n c, v1 = .slice A n c := by obtain ⟨A, c, inner, rfl, _⟩ := hu; exact ⟨_, _, _, rfl⟩
  generalize (itemF 200 l).1 = x at *
  generalize (itemF 200 m).1 = y at *
  generalize checkF 0 x = cx at *
  clear hv hu hS hn hm hx hxb hyb
  go_enter Try.func4, Try.ntmps4
  go_wp2_with (first
    | (go_at_call 12; refine (C12.out _).mono ?_
       rintro e w1 ⟨rfl, hb1⟩
       have HB1 := Lib.hid hb1
       clear hb1)
    | (go_at_call 13; refine (C13.out _ HB1.out).mono ?_
       rintro e w2 ⟨l0, A0, n0, c0, B0, m0, d0, rfl, hi2, hb2⟩
       have HI2 := Lib.hid hi2
       have HB2 : Hid (Below w.heap.size w w2) := HB1.out.trans (hb2.mono HB1.out.size)
       clear hi2 hb2 C13)
    | (go_at_call 14; refine (C14.out _ _ _ _ _ HI2.out (fun b hb => hb.2)).mono ?_
       rintro e w3 ⟨rfl, hb3⟩
       have HB3 : Hid (Below w.heap.size w w3) := HB2.out.trans (hb3.mono HB2.out.size)
       clear hb3 C14)
    | (go_at_call 13; refine (D13.out _ HB3.out).mono ?_
       rintro e w4 ⟨l4, A4, n4, c4, B4, m4, d4, rfl, hi4, hb4⟩
       have HI4 := Lib.hid hi4
       have HB4 : Hid (Below w.heap.size w w4) := HB3.out.trans (hb4.mono HB3.out.size)
       clear hi4 hb4 D13)
    | (go_at_call 14; refine (D14.out _ _ _ _ _ HI4.out (fun b hb => hb.2)).mono ?_
       rintro e w5 ⟨A5, n5, c5, z5, rfl, hb5⟩
       have HB5 : Hid (Below w.heap.size w w5) := HB4.out.trans (hb5.mono HB4.out.size)
       clear hb5 D14))
  go_ret
  exact ⟨rfl, HB5.out⟩
set_option maxRecDepth 100000 in
set_option maxHeartbeats 1000000 in
theorem one_e2 (hv : Nds w S v0 l) (hu : Nds w S v1 m) (hS : ∀ b, S b → b < w.heap.size) (hn : nbulk l ≤ 1048576) (hm : nbulk m ≤ 1048576) (hx : checkF 0 (itemF 200 l).1 = 0) (hy : checkF 0 (itemF 200 m).1 ≠ 0) :
    Calls Try.prog 4 #[v0, v1] w fun e w' => e = .returned (.bool true) ∧ Below w.heap.size w w' := by
  have hxb := item_bulk l
  have hyb := item_bulk m
  have C12 := Lib.hid A1.awake12
  have C13 := Lib.hid (c13 hv hS (by omega))
  have D13 := Lib.hid (c13 hu hS (by omega))
  have C14 := Lib.hid (c14 (itemF 200 l).1 (by omega) hx)
  have hyi : ¬ ((checkF 0 (itemF 200 m).1 : Nat) : Int) = 0 := by omega
  have D14 := Lib.hid (c14e (itemF 200 m).1 (by omega) hy)
  obtain ⟨vA, vn, vc, rfl⟩ : ∃ A n c, v0 = .slice A n c := by obtain ⟨A, c, inner, rfl, _⟩ := hv; exact ⟨_, _, _, rfl⟩
  obtain ⟨uA, un, uc, rfl⟩ : ∃ A n c, v1 = .slice A n c := by obtain ⟨A, c, inner, rfl, _⟩ := hu; exact ⟨_, _, _, rfl⟩
  generalize (itemF 200 l).1 = x at *
  generalize (itemF 200 m).1 = y at *
  generalize checkF 0 y = cy at *
  clear hv hu hS hn hm hx hy hxb hyb
  go_enter Try.func4, Try.ntmps4
  go_wp2_with (first
    | (go_at_call 12; refine (C12.out _).mono ?_
       rintro e w1 ⟨rfl, hb1⟩
       have HB1 := Lib.hid hb1
       clear hb1)
    | (go_at_call 13; refine (C13.out _ HB1.out).mono ?_
       rintro e w2 ⟨l0, A0, n0, c0, B0, m0, d0, rfl, hi2, hb2⟩
       have HI2 := Lib.hid hi2
       have HB2 : Hid (Below w.heap.size w w2) := HB1.out.trans (hb2.mono HB1.out.size)
       clear hi2 hb2 C13)
    | (go_at_call 14; refine (C14.out _ _ _ _ _ HI2.out (fun b hb => hb.2)).mono ?_
       rintro e w3 ⟨A3, c3, rfl, hs3, hb3⟩
       have HB3 : Hid (Below w.heap.size w w3) := HB2.out.trans (hb3.mono HB2.out.size)
       clear hs3 hb3 C14)
    | (go_at_call 13; refine (D13.out _ HB3.out).mono ?_
       rintro e w4 ⟨l4, A4, n4, c4, B4, m4, d4, rfl, hi4, hb4⟩
       have HI4 := Lib.hid hi4
       have HB4 : Hid (Below w.heap.size w w4) := HB3.out.trans (hb4.mono HB3.out.size)
       clear hi4 hb4 D13)
    | (go_at_call 14; refine (D14.out _ _ _ _ _ HI4.out (fun b hb => hb.2)).mono ?_
       rintro e w5 ⟨rfl, hb5⟩
       have HB5 : Hid (Below w.heap.size w w5) := HB4.out.trans (hb5.mono HB4.out.size)
       clear hb5 D14))
  go_ret
  exact ⟨rfl, HB5.out⟩
set_option maxRecDepth 100000 in
set_option maxHeartbeats 1000000 in
theorem one_le (hv : Nds w S v0 l) (hu : Nds w S v1 m) (hS : ∀ b, S b → b < w.heap.size) (hn : nbulk l ≤ 1048576) (hm : nbulk m ≤ 1048576) (hx : checkF 0 (itemF 200 l).1 = 0) (hy : checkF 0 (itemF 200 m).1 = 0) (hlen : (formF (itemF 200 l).1).length ≤ (formF (itemF 200 m).1).length) (r : Bool) (hr : r = true ↔ (itemF 200 l).1 = (itemF 200 m).1) :
    Calls Try.prog 4 #[v0, v1] w fun e w' => e = .returned (.bool true) ∧ Below w.heap.size w w' := by
  have hxb := item_bulk l
  have hyb := item_bulk m
  have C12 := Lib.hid A1.awake12
  have C13 := Lib.hid (c13 hv hS (by omega))
  have D13 := Lib.hid (c13 hu hS (by omega))
  have C14 := Lib.hid (c14 (itemF 200 l).1 (by omega) hx)
  have D14 := Lib.hid (c14 (itemF 200 m).1 (by omega) hy)
  have hfx := formF_le (itemF 200 l).1 (by omega)
  have hfy := formF_le (itemF 200 m).1 (by omega)
  have E13 := Lib.hid (c13 hv hS (by omega))
  have G13 := Lib.hid (c13 hu hS (by omega))
  have hs : ((strOf ((formF (itemF 200 m).1).take (formF (itemF 200 l).1).length)).toList == (strOf (formF (itemF 200 l).1)).toList) = r := by
    cases r with
    | true =>
      have e := hr.1 rfl
      rw [← e, List.take_length]; exact beq_self_eq_true _
    | false =>
      rw [beq_eq_false_iff_ne]
      intro h
      exact absurd (hr.2 (one_form hx hy (by omega) (by omega) (by rwa [strOf_list, strOf_list] at h))) (by simp)
  have C17 : Hid (∀ (W : World) (S S' : Nat → Prop) (c0 c1 c2 e0 e1 e2 : Value) (hi : ItemR W S (itemF 200 l).1 [c0, c1, c2]) (hi' : ItemR W S' (itemF 200 m).1 [e0, e1, e2]) (hS : ∀ b, S b → b < W.heap.size) (hS' : ∀ b, S' b → b < W.heap.size),
    Calls Try.prog 17 #[.agg #[c0, c1, c2], .agg #[e0, e1, e2]] W fun e w' => e = .returned (.bool r) ∧ Below W.heap.size W w') := fun W S S' c0 c1 c2 e0 e1 e2 hi hi' hS hS' =>
    (same17 _ _ S S' c0 c1 c2 e0 e1 e2 W hi hi' hS hS').mono fun e w' ⟨b, h1, h2, h3⟩ => ⟨by rw [h1, Bool.eq_iff_iff.2 (h2.trans hr.symm)], h3⟩
  obtain ⟨vA, vn, vc, rfl⟩ : ∃ A n c, v0 = .slice A n c := by obtain ⟨A, c, inner, rfl, _⟩ := hv; exact ⟨_, _, _, rfl⟩
  obtain ⟨uA, un, uc, rfl⟩ : ∃ A n c, v1 = .slice A n c := by obtain ⟨A, c, inner, rfl, _⟩ := hu; exact ⟨_, _, _, rfl⟩
  generalize (itemF 200 l).1 = x at *
  generalize (itemF 200 m).1 = y at *
  generalize formF x = fx at *
  generalize formF y = fy at *
  clear hv hu hS hn hm hx hy hxb hyb hfx hfy hr
  go_enter Try.func4, Try.ntmps4
  go_wp2_with (first
    | (go_at_call 12; refine (C12.out _).mono ?_
       rintro e w1 ⟨rfl, hb1⟩
       have HB1 := Lib.hid hb1
       clear hb1)
    | (go_at_call 13; refine (C13.out _ HB1.out).mono ?_
       rintro e w2 ⟨l0, A0, n0, c0, B0, m0, d0, rfl, hi2, hb2⟩
       have HI2 := Lib.hid hi2
       have HB2 : Hid (Below w.heap.size w w2) := HB1.out.trans (hb2.mono HB1.out.size)
       clear hi2 hb2 C13)
    | (go_at_call 14; refine (C14.out _ _ _ _ _ HI2.out (fun b hb => hb.2)).mono ?_
       rintro e w3 ⟨A3, c3, rfl, hs3, hb3⟩
       have HB3 : Hid (Below w.heap.size w w3) := HB2.out.trans (hb3.mono HB2.out.size)
       have HS3 : Hid (∀ W, Below w3.heap.size w3 W → Bs W w2.heap.size w3.heap.size (.slice A3 fx.length c3) fx) := fun W hW => hs3.keep (Same.of_below hW (Nat.le_refl _))
       clear hs3 hb3 C14)
    | (go_at_call 13; refine (D13.out _ HB3.out).mono ?_
       rintro e w4 ⟨l4, A4, n4, c4, B4, m4, d4, rfl, hi4, hb4⟩
       have HI4 := Lib.hid hi4
       have HB34 := Lib.hid hb4
       have HB4 : Hid (Below w.heap.size w w4) := HB3.out.trans (hb4.mono HB3.out.size)
       clear hi4 hb4 D13)
    | (go_at_call 14; refine (D14.out _ _ _ _ _ HI4.out (fun b hb => hb.2)).mono ?_
       rintro e w5 ⟨A5, c5, rfl, hs5, hb5⟩
       have HB5 : Hid (Below w.heap.size w w5) := HB4.out.trans (hb5.mono HB4.out.size)
       have HS5 : Hid (∀ W, Below w5.heap.size w5 W → Bs W w4.heap.size w5.heap.size (.slice A5 fy.length c5) fy) := fun W hW => hs5.keep (Same.of_below hW (Nat.le_refl _))
       have HS3' : Hid (∀ W, Below w5.heap.size w5 W → Bs W w2.heap.size w3.heap.size (.slice A3 fx.length c3) fx) := fun W hW => (HS3.out _ (HB34.out.trans (hb5.mono HB34.out.size))).keep (Same.of_below (hW.mono (Nat.le_trans HB34.out.size hb5.size)) (Nat.le_refl _))
       have hcap : ((fx.length : Nat) : Int) ≤ (c5 : Int) := by
         obtain ⟨_, _, e, h1, _⟩ := hs5
         have := (Value.slice.injEq _ _ _ _ _ _).mp e
         omega
       have HK : Hid (∀ W, Below w5.heap.size w5 W → ((convert 23 9 (.slice A5 fx.length c5)).run Try.prog W = .ok (.string (strOf (fy.take fx.length))) W ∧ (convert 23 9 (.slice A3 fx.length c3)).run Try.prog W = .ok (.string (strOf fx)) W)) := fun W hW => ⟨str_bs (take_bs (HS5.out W hW) _ (by omega)), str_bs (HS3'.out W hW)⟩
       clear hs5 hb5 D14))
  generalize hq1 : strOf (fy.take fx.length) = q1 at HK hs
  generalize hq2 : strOf fx = q2 at HK hs
  have HSS := Lib.hid hs
  clear hq1 hq2 hs
  go_region_held3 (fun w' => (convert 23 9 (.slice A5 fx.length c5)).run Try.prog w' = .ok (.string q1) w' ∧ (convert 23 9 (.slice A3 fx.length c3)).run Try.prog w' = .ok (.string q2) w')
    ((refine HK.out _ ?_; first | exact (Below.refl _ _).drew | (with_reducible exact KB8.out) | (with_reducible exact KB7.out) | (with_reducible exact KB6.out)))
    (first
      | (go_at_call 17; (with_reducible refine (C17.out _ _ _ _ _ _ _ _ _ HIx.out HIy.out HSx.out HSy.out).mono ?_)
         rintro e w8 ⟨rfl, hb8⟩
         have KB8 : Hid (Below w5.heap.size w5 w8) := KB7.out.trans (hb8.mono KB7.out.size)
         clear hb8)
      | (go_at_call 13; (with_reducible refine (E13.out _ (HB5.out.trans (KM6.out.mono HB5.out.size))).mono ?_)
         rintro e w7 ⟨l7, A7, n7, c7, B7, m7, d7, rfl, hi7, hb7⟩
         have KB7 : Hid (Below w5.heap.size w5 w7) := KM6.out.trans (hb7.mono KM6.out.size)
         have HIx := Lib.hid hi7
         have HIy := Lib.hid (item_later HM6.out (fun b hb => hb.2) hb7)
         have HSx : Hid (∀ b, Btw w6.heap.size w7.heap.size b → b < w7.heap.size) := fun b hb => hb.2
         have HSy : Hid (∀ b, Btw w5.drew.heap.size w6.heap.size b → b < w7.heap.size) := fun b hb => Nat.lt_of_lt_of_le hb.2 hb7.size
         clear hi7 hb7)
      | (go_at_call 13; (with_reducible refine (G13.out _ (HB5.out.trans (KL6.out.mono HB5.out.size))).mono ?_)
         rintro e w7 ⟨l7, A7, n7, c7, B7, m7, d7, rfl, hi7, hb7⟩
         have KB7 : Hid (Below w5.heap.size w5 w7) := KL6.out.trans (hb7.mono KL6.out.size)
         have HIy := Lib.hid hi7
         have HIx := Lib.hid (item_later HL6.out (fun b hb => hb.2) hb7)
         have HSy : Hid (∀ b, Btw w6.heap.size w7.heap.size b → b < w7.heap.size) := fun b hb => hb.2
         have HSx : Hid (∀ b, Btw w5.drew.heap.size w6.heap.size b → b < w7.heap.size) := fun b hb => Nat.lt_of_lt_of_le hb.2 hb7.size
         clear hi7 hb7)
      | (go_at_call 13; (with_reducible refine (E13.out _ (HB5.out.trans (((Below.refl _ _).drew).mono HB5.out.size))).mono ?_)
         rintro e w6 ⟨l6, A6, n6, c6, B6, m6, d6, rfl, hi6, hb6⟩
         have KB6 : Hid (Below w5.heap.size w5 w6) := undrew hb6
         have KL6 := Lib.hid KB6.out
         have HL6 := Lib.hid hi6
         clear hi6 hb6)
      | (go_at_call 13; (with_reducible refine (G13.out _ (HB5.out.trans (((Below.refl _ _).drew).mono HB5.out.size))).mono ?_)
         rintro e w6 ⟨l6, A6, n6, c6, B6, m6, d6, rfl, hi6, hb6⟩
         have KB6 : Hid (Below w5.heap.size w5 w6) := undrew hb6
         have KM6 := Lib.hid KB6.out
         have HM6 := Lib.hid hi6
         clear hi6 hb6))
  all_goals go_wp2_with fail
  all_goals
    go_ret
    exact ⟨by rw [HSS.out]; cases r <;> rfl, KB8.out.mono HB5.out.size |> HB5.out.trans⟩
set_option maxRecDepth 100000 in
set_option maxHeartbeats 1000000 in
theorem one_gt (hv : Nds w S v0 l) (hu : Nds w S v1 m) (hS : ∀ b, S b → b < w.heap.size) (hn : nbulk l ≤ 1048576) (hm : nbulk m ≤ 1048576) (hx : checkF 0 (itemF 200 l).1 = 0) (hy : checkF 0 (itemF 200 m).1 = 0) (hlen : (formF (itemF 200 m).1).length < (formF (itemF 200 l).1).length) :
    Calls Try.prog 4 #[v0, v1] w fun e w' => e = .returned (.bool true) ∧ Below w.heap.size w w' := by
  have hxb := item_bulk l
  have hyb := item_bulk m
  have C12 := Lib.hid A1.awake12
  have C13 := Lib.hid (c13 hv hS (by omega))
  have D13 := Lib.hid (c13 hu hS (by omega))
  have C14 := Lib.hid (c14 (itemF 200 l).1 (by omega) hx)
  have D14 := Lib.hid (c14 (itemF 200 m).1 (by omega) hy)
  have hfx := formF_le (itemF 200 l).1 (by omega)
  have hfy := formF_le (itemF 200 m).1 (by omega)
  have E13 := Lib.hid (c13 hv hS (by omega))
  have G13 := Lib.hid (c13 hu hS (by omega))
  have hne : (itemF 200 l).1 ≠ (itemF 200 m).1 := fun e => by rw [e] at hlen; omega
  have hs : ((strOf ((formF (itemF 200 l).1).take (formF (itemF 200 m).1).length)).toList == (strOf (formF (itemF 200 m).1)).toList) = false := by
    rw [beq_eq_false_iff_ne]
    intro h
    exact hne (one_form hy hx (by omega) (by omega) (by rwa [strOf_list, strOf_list] at h)).symm
  have C17 := Lib.hid (c17n _ _ hne)
  obtain ⟨vA, vn, vc, rfl⟩ : ∃ A n c, v0 = .slice A n c := by obtain ⟨A, c, inner, rfl, _⟩ := hv; exact ⟨_, _, _, rfl⟩
  obtain ⟨uA, un, uc, rfl⟩ : ∃ A n c, v1 = .slice A n c := by obtain ⟨A, c, inner, rfl, _⟩ := hu; exact ⟨_, _, _, rfl⟩
  generalize (itemF 200 l).1 = x at *
  generalize (itemF 200 m).1 = y at *
  generalize formF x = fx at *
  generalize formF y = fy at *
  clear hv hu hS hn hm hx hy hxb hyb hfx hfy hne
  go_enter Try.func4, Try.ntmps4
  go_wp2_with (first
    | (go_at_call 12; refine (C12.out _).mono ?_
       rintro e w1 ⟨rfl, hb1⟩
       have HB1 := Lib.hid hb1
       clear hb1)
    | (go_at_call 13; refine (C13.out _ HB1.out).mono ?_
       rintro e w2 ⟨l0, A0, n0, c0, B0, m0, d0, rfl, hi2, hb2⟩
       have HI2 := Lib.hid hi2
       have HB2 : Hid (Below w.heap.size w w2) := HB1.out.trans (hb2.mono HB1.out.size)
       clear hi2 hb2 C13)
    | (go_at_call 14; refine (C14.out _ _ _ _ _ HI2.out (fun b hb => hb.2)).mono ?_
       rintro e w3 ⟨A3, c3, rfl, hs3, hb3⟩
       have HB3 : Hid (Below w.heap.size w w3) := HB2.out.trans (hb3.mono HB2.out.size)
       have HS3 : Hid (∀ W, Below w3.heap.size w3 W → Bs W w2.heap.size w3.heap.size (.slice A3 fx.length c3) fx) := fun W hW => hs3.keep (Same.of_below hW (Nat.le_refl _))
       clear hs3 hb3 C14)
    | (go_at_call 13; refine (D13.out _ HB3.out).mono ?_
       rintro e w4 ⟨l4, A4, n4, c4, B4, m4, d4, rfl, hi4, hb4⟩
       have HI4 := Lib.hid hi4
       have HB34 := Lib.hid hb4
       have HB4 : Hid (Below w.heap.size w w4) := HB3.out.trans (hb4.mono HB3.out.size)
       clear hi4 hb4 D13)
    | (go_at_call 14; refine (D14.out _ _ _ _ _ HI4.out (fun b hb => hb.2)).mono ?_
       rintro e w5 ⟨A5, c5, rfl, hs5, hb5⟩
       have HB5 : Hid (Below w.heap.size w w5) := HB4.out.trans (hb5.mono HB4.out.size)
       have HS5 : Hid (∀ W, Below w5.heap.size w5 W → Bs W w4.heap.size w5.heap.size (.slice A5 fy.length c5) fy) := fun W hW => hs5.keep (Same.of_below hW (Nat.le_refl _))
       have HS3' : Hid (∀ W, Below w5.heap.size w5 W → Bs W w2.heap.size w3.heap.size (.slice A3 fx.length c3) fx) := fun W hW => (HS3.out _ (HB34.out.trans (hb5.mono HB34.out.size))).keep (Same.of_below (hW.mono (Nat.le_trans HB34.out.size hb5.size)) (Nat.le_refl _))
       have hcap : ((fy.length : Nat) : Int) ≤ (c3 : Int) := by
         obtain ⟨_, _, e, h1, _⟩ := (HS3.out _ (Below.refl _ _))
         have := (Value.slice.injEq _ _ _ _ _ _).mp e
         omega
       have HK : Hid (∀ W, Below w5.heap.size w5 W → ((convert 23 9 (.slice A3 fy.length c3)).run Try.prog W = .ok (.string (strOf (fx.take fy.length))) W ∧ (convert 23 9 (.slice A5 fy.length c5)).run Try.prog W = .ok (.string (strOf fy)) W)) := fun W hW => ⟨str_bs (take_bs (HS3'.out W hW) _ (by omega)), str_bs (HS5.out W hW)⟩
       clear hs5 hb5 D14))
  generalize hq1 : strOf (fx.take fy.length) = q1 at HK hs
  generalize hq2 : strOf fy = q2 at HK hs
  have HSS := Lib.hid hs
  clear hq1 hq2 hs
  go_region_held3 (fun w' => (convert 23 9 (.slice A3 fy.length c3)).run Try.prog w' = .ok (.string q1) w' ∧ (convert 23 9 (.slice A5 fy.length c5)).run Try.prog w' = .ok (.string q2) w')
    ((refine HK.out _ ?_; first | exact (Below.refl _ _).drew | (with_reducible exact KB8.out) | (with_reducible exact KB7.out) | (with_reducible exact KB6.out)))
    (first
      | (go_at_call 17; (with_reducible refine (C17.out _ _ _ _ _ _ _ _ _ HIx.out HIy.out HSx.out HSy.out).mono ?_)
         rintro e w8 ⟨rfl, hb8⟩
         have KB8 : Hid (Below w5.heap.size w5 w8) := KB7.out.trans (hb8.mono KB7.out.size)
         clear hb8)
      | (go_at_call 13; (with_reducible refine (E13.out _ (HB5.out.trans (KM6.out.mono HB5.out.size))).mono ?_)
         rintro e w7 ⟨l7, A7, n7, c7, B7, m7, d7, rfl, hi7, hb7⟩
         have KB7 : Hid (Below w5.heap.size w5 w7) := KM6.out.trans (hb7.mono KM6.out.size)
         have HIx := Lib.hid hi7
         have HIy := Lib.hid (item_later HM6.out (fun b hb => hb.2) hb7)
         have HSx : Hid (∀ b, Btw w6.heap.size w7.heap.size b → b < w7.heap.size) := fun b hb => hb.2
         have HSy : Hid (∀ b, Btw w5.drew.heap.size w6.heap.size b → b < w7.heap.size) := fun b hb => Nat.lt_of_lt_of_le hb.2 hb7.size
         clear hi7 hb7)
      | (go_at_call 13; (with_reducible refine (G13.out _ (HB5.out.trans (KL6.out.mono HB5.out.size))).mono ?_)
         rintro e w7 ⟨l7, A7, n7, c7, B7, m7, d7, rfl, hi7, hb7⟩
         have KB7 : Hid (Below w5.heap.size w5 w7) := KL6.out.trans (hb7.mono KL6.out.size)
         have HIy := Lib.hid hi7
         have HIx := Lib.hid (item_later HL6.out (fun b hb => hb.2) hb7)
         have HSy : Hid (∀ b, Btw w6.heap.size w7.heap.size b → b < w7.heap.size) := fun b hb => hb.2
         have HSx : Hid (∀ b, Btw w5.drew.heap.size w6.heap.size b → b < w7.heap.size) := fun b hb => Nat.lt_of_lt_of_le hb.2 hb7.size
         clear hi7 hb7)
      | (go_at_call 13; (with_reducible refine (E13.out _ (HB5.out.trans (((Below.refl _ _).drew).mono HB5.out.size))).mono ?_)
         rintro e w6 ⟨l6, A6, n6, c6, B6, m6, d6, rfl, hi6, hb6⟩
         have KB6 : Hid (Below w5.heap.size w5 w6) := undrew hb6
         have KL6 := Lib.hid KB6.out
         have HL6 := Lib.hid hi6
         clear hi6 hb6)
      | (go_at_call 13; (with_reducible refine (G13.out _ (HB5.out.trans (((Below.refl _ _).drew).mono HB5.out.size))).mono ?_)
         rintro e w6 ⟨l6, A6, n6, c6, B6, m6, d6, rfl, hi6, hb6⟩
         have KB6 : Hid (Below w5.heap.size w5 w6) := undrew hb6
         have KM6 := Lib.hid KB6.out
         have HM6 := Lib.hid hi6
         clear hi6 hb6))
  all_goals go_wp2_with fail
  all_goals
    go_ret
    exact ⟨by rw [HSS.out]; rfl, KB8.out.mono HB5.out.size |> HB5.out.trans⟩
/-- RlpOne is true of whatever nodes. -/
theorem one4 (hv : Nds w S v0 l) (hu : Nds w S v1 m) (hS : ∀ b, S b → b < w.heap.size) (hn : nbulk l ≤ 1048576) (hm : nbulk m ≤ 1048576) :
    Calls Try.prog 4 #[v0, v1] w fun e w' => e = .returned (.bool true) ∧ Below w.heap.size w w' := by
  by_cases hx : checkF 0 (itemF 200 l).1 = 0
  · by_cases hy : checkF 0 (itemF 200 m).1 = 0
    · by_cases hlen : (formF (itemF 200 m).1).length < (formF (itemF 200 l).1).length
      · exact one_gt S v0 v1 l m w hv hu hS hn hm hx hy hlen
      · obtain ⟨r, hr⟩ : ∃ r : Bool, r = true ↔ (itemF 200 l).1 = (itemF 200 m).1 := by
          by_cases h : (itemF 200 l).1 = (itemF 200 m).1
          · exact ⟨true, by simp [h]⟩
          · exact ⟨false, by simp [h]⟩
        exact one_le S v0 v1 l m w hv hu hS hn hm hx hy (by omega) r hr
    · exact one_e2 S v0 v1 l m w hv hu hS hn hm hx hy
  · exact one_e1 S v0 v1 l m w hv hu hS hn hm hx
end
end Go.Proofs.Ytkdpphcalekbdaa.B3
