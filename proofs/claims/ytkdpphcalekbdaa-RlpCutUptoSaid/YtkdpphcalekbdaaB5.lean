/- RlpCut, walked. -/
import Derived.Test.YtkdpphcalekbdaaL1
set_option linter.unusedVariables false
set_option linter.unusedSimpArgs false
namespace Go.Proofs.Ytkdpphcalekbdaa.B5
open Go.ChangeShapes Go.WideShapes Go.ChangeAt Go.RowKit
open M G1 G4 G5 G8 E4 H2 A1 L1
theorem decode_cut {x : It} (hx : checkF 0 x = 0) (h40 : (formF x).length ≤ 1099511627776) (c : Nat) (hc : c < (formF x).length) : decodeF ((formF x).take c) = .error 41 := by
  obtain ⟨l, f, h, _⟩ := hd_of_form hx h40 []
  rw [List.append_nil] at h
  have h1 := hd_cut h hc
  rw [decodeF, decF, h1]
theorem decode_more {x : It} (hx : checkF 0 x = 0) (h40 : (formF x).length ≤ 1099511627776) (more : List UInt8) (hm : 0 < more.length) : decodeF (formF x ++ more) = .error 43 := by
  have h := dec_form x 64 more (by omega) hx h40
  rw [decodeF, h]
  simp only [List.length_append]
  rw [if_pos (by omega)]
/-- Go's remainder made one that is not below 0. -/
theorem cut_ok (n L : Int) (hL : 0 < L) : 0 ≤ (n.tmod L + L).tmod L ∧ (n.tmod L + L).tmod L < L := by
  have h1 := Int.lt_tmod_of_pos n hL
  exact ⟨Int.tmod_nonneg _ (by omega), Int.tmod_lt_of_pos _ hL⟩
theorem cut_nat (n : Int) (L : Nat) (h0 : 0 < L) (h1 : L ≤ 10000000) : ∃ k : Nat, (wrap64 (n.tmod (L : Int) + (L : Int))).tmod (L : Int) = (k : Int) ∧ k < L := by
  have h2 := Int.lt_tmod_of_pos n (show (0 : Int) < L by omega)
  have h3 := Int.tmod_lt_of_pos n (show (0 : Int) < L by omega)
  have e : wrap64 (n.tmod (L : Int) + (L : Int)) = n.tmod (L : Int) + (L : Int) := by
    generalize n.tmod (L : Int) = t at *
    unfold wrap64; omega
  rw [e]
  obtain ⟨h4, h5⟩ := cut_ok n L (by omega)
  exact ⟨((n.tmod (L : Int) + (L : Int)).tmod (L : Int)).toNat, by omega, by omega⟩
theorem b18 (W : World) (lo hi : Nat) (v : Value) (bs : List UInt8) (hb : Bs W lo hi v bs) (hhi : hi ≤ W.heap.size) (hn : bs.length ≤ 140737488355328) :
    Calls Try.prog 18 #[v] W fun e w' => ∃ A c, e = .returned (.slice A bs.length c) ∧ M.Own w' W.heap.size (.slice A bs.length c) bs ∧ Below W.heap.size W w' := by
  refine (F1.bytes18 lo hi v bs W hb hhi hn).mono ?_
  rintro e w' ⟨v', rfl, ho, hbl⟩
  obtain ⟨A, c, rfl, _⟩ := ho.bs
  exact ⟨A, c, rfl, ho, hbl⟩
section
variable (S : Nat → Prop) (v0 : Value) (l : List Nd) (n : Int) (v2 : Value) (more : List UInt8) (w : World)
set_option maxRecDepth 100000 in
set_option maxHeartbeats 1000000 in
theorem cut_1 (hv : Nds w S v0 l) (hS : ∀ b, S b → b < w.heap.size) (hn : nbulk l ≤ 1048576) (hn0 : -9223372036854775808 ≤ n) (hn1 : n ≤ 9223372036854775807) (hb : Bs w 0 w.heap.size v2 more) (hm : more.length ≤ 1048576) (hx : checkF 0 (itemF 200 l).1 = 0) (hm0 : 0 < more.length) :
    Calls Try.prog 5 #[v0, .int .i64 n, v2] w fun e w' => e = .returned (.bool true) ∧ Below w.heap.size w w' := by
  have hxb := item_bulk l
  have hfx := formF_le (itemF 200 l).1 (by omega)
  have hf1 := formF_pos (itemF 200 l).1
  have C12 := Lib.hid A1.awake12
  have C13 := Lib.hid (c13 hv hS (by omega))
  have C14 := Lib.hid (c14 (itemF 200 l).1 (by omega) hx)
  have D1 := fun c hc => decode_cut hx (by omega) c hc
  have D2 := decode_more hx (by omega) more hm0
  obtain ⟨vA, vn, vc, rfl⟩ : ∃ A n c, v0 = .slice A n c := by obtain ⟨A, c, inner, rfl, _⟩ := hv; exact ⟨_, _, _, rfl⟩
  have HBB : Hid (∀ W, Below w.heap.size w W → Bs W 0 w.heap.size v2 more) := fun W hW => hb.keep (Same.of_below hW (Nat.le_refl _))
  obtain ⟨uA, uc, rfl⟩ : ∃ A c, v2 = .slice A more.length c := by obtain ⟨A, c, rfl, _⟩ := hb; exact ⟨_, _, rfl⟩
  generalize (itemF 200 l).1 = x at *
  generalize formF x = fx at *
  have HD1 := Lib.hid D1
  have HD2 := Lib.hid D2
  have hL1 : (1 : Int) ≤ (fx.length : Int) := by omega
  have hL2 : (fx.length : Int) ≤ 10000000 := by omega
  have hmi : (0 : Int) < (more.length : Int) := by omega
  have hz0 : ((fx.length : Int) == 0) = false := by rw [beq_eq_false_iff_ne]; omega
  have hz1 : ((more.length : Int) == 0) = false := by rw [beq_eq_false_iff_ne]; omega
  obtain ⟨k, hk, hkl⟩ : ∃ k : Nat, (wrap64 (n.tmod (fx.length : Int) + (fx.length : Int))).tmod (fx.length : Int) = (k : Int) ∧ k < fx.length := cut_nat n fx.length (by omega) (by omega)
  obtain ⟨tk, Htk⟩ : ∃ tk, Hid (tk = fx.take k) := ⟨_, Lib.hid rfl⟩
  have HF18 : Hid (fx.length ≤ 140737488355328 ∧ tk.length ≤ 140737488355328 ∧ tk.length ≤ 1073741824 ∧ tk.length = k) := by
    have e : tk.length = k := by rw [Htk.out, List.length_take]; omega
    have h : fx.length ≤ 140737488355328 ∧ tk.length ≤ 140737488355328 ∧ tk.length ≤ 1073741824 ∧ tk.length = k := ⟨by omega, by omega, by omega, e⟩
    exact h
  have HA1 : Hid (fx.length + more.length ≤ maxLen ∧ (fx.length + more.length) * 1 ≤ 140737488355328 ∧ (fx ++ more).length ≤ 1073741824) := by
    have h : fx.length + more.length ≤ maxLen ∧ (fx.length + more.length) * 1 ≤ 140737488355328 ∧ (fx ++ more).length ≤ 1073741824 := ⟨by unfold maxLen; omega, by omega, by rw [List.length_append]; omega⟩
    exact h
  have HD1' : Hid (decodeF tk = .error 41) := (congrArg (fun z => decodeF z = .error 41) Htk.out).mpr (HD1.out k hkl)
  have HKL := Lib.hid hkl
  have hkL : (k : Int) < (fx.length : Int) := by omega
  have hfl : Hid (fx.length ≤ 10000000) := (show _ ≤ _ from by omega)
  clear hv hS hn hb hx hxb D1 D2 hfx
  go_enter Try.func5, Try.ntmps5
  go_wp2_with (first
    | (go_at_call 12; refine (C12.out _).mono ?_
       rintro e w1 ⟨rfl, hb1⟩
       have HB1 := Lib.hid hb1
       clear hb1)
    | (go_at_call 13; refine (C13.out _ HB1.out).mono ?_
       rintro e w2 ⟨l0, A0, n0, c0, B0, m0, d0, rfl, hi2, hb2⟩
       have HI2 := Lib.hid hi2
       have HB2 : Hid (Below w.heap.size w w2) := HB1.out.trans (hb2.mono HB1.out.size)
       clear hi2 hb2)
    | (go_at_call 14; refine (C14.out _ _ _ _ _ HI2.out (fun b hb => hb.2)).mono ?_
       rintro e w3 ⟨A3, c3, rfl, hs3, hb3⟩
       have HB3 : Hid (Below w.heap.size w w3) := HB2.out.trans (hb3.mono HB2.out.size)
       have hcap : (k : Int) ≤ (c3 : Int) := by
         obtain ⟨_, _, e, h1, _⟩ := hs3
         have := (Value.slice.injEq _ _ _ _ _ _).mp e
         have := HKL.out
         clear hk
         omega
       have HS3 : Hid (∀ W, Below w3.heap.size w3 W → Bs W w2.heap.size w3.heap.size (.slice A3 fx.length c3) fx) := fun W hW => hs3.keep (Same.of_below hW (Nat.le_refl _))
       have HT3 : Hid (Bs w3 w2.heap.size w3.heap.size (.slice A3 k c3) tk) := (congrArg (fun z => Bs w3 w2.heap.size w3.heap.size (.slice A3 k c3) z) Htk.out).mpr (take_bs hs3 k (Nat.le_of_lt HKL.out))
       clear hs3 hb3 C14)
    | (go_at_call 18; refine (b18 _ _ _ _ _ HT3.out (Nat.le_refl _) HF18.out.2.1).mono ?_
       rintro e w4 ⟨A4, c4, rfl, ho4, hb4⟩
       have HB4 : Hid (Below w3.heap.size w3 w4) := hb4
       have HS4 := Lib.hid ho4.bs
       clear ho4 hb4 HT3)
    | (go_at_call 16; refine (c16e HD1'.out HF18.out.2.2.1 _ _ _ _ HS4.out (Nat.le_refl _)).mono ?_
       rintro e w5 ⟨rfl, _, hb5⟩
       have HB5 : Hid (Below w3.heap.size w3 w5) := HB4.out.trans (hb5.mono HB4.out.size)
       clear hb5 HD1')
    | (go_at_call 18; refine (b18 _ _ _ _ _ (HS3.out _ (HB5.out.alloc HB5.out.size _)) (by rw [size_alloc]; exact Nat.le_trans HB5.out.size (Nat.le_succ _)) HF18.out.1).mono ?_
       rintro e w6 ⟨A6, c6, rfl, ho6, hb6⟩
       have HB6 : Hid (Below w3.heap.size w3 w6) := (HB5.out.alloc HB5.out.size _).trans (hb6.mono (by rw [size_alloc]; exact Nat.le_trans HB5.out.size (Nat.le_succ _)))
       have HO6 : Hid (w6.ownsRow 0 5 1 (.slice A6 fx.length c6) fx.length (nums fx)) := own_low ho6 (Nat.zero_le _)
       have HR6 : Hid (Rd w6 0 w.heap.size 1 uA more.length (nums more)) := by
         obtain ⟨A, c, e, h1, h2, h3⟩ := HBB.out w6 (HB3.out.trans (HB6.out.mono HB3.out.size))
         obtain ⟨rfl, _, _⟩ := (Value.slice.injEq _ _ _ _ _ _).mp e
         exact h3
       have HK6 : Hid (∀ b, (Value.slice A6 fx.length c6).ownBlock = some b → w.heap.size ≤ b) := fun b hb => Nat.le_trans HB3.out.size (Nat.le_trans (HB5.out.alloc HB5.out.size _).size (World.ownsRow.lt ho6 b hb).1)
       clear ho6 hb6)
    | (at_builtin; refine wp_append rfl (.tmp 49) (.tmp 50) 23 5 (.int .u8 0) 1 1 rfl Try.underlying23 M.info5 rfl (by omega) 0 0 w.heap.size _ fx.length (nums fx) uA more.length uc (nums more) rfl rfl HO6.out HR6.out (nums_one _) HA1.out.1 HA1.out.2.1 (Nat.zero_le _) ?_
       intro v7 w7 hown7 hgrow7 hat7
       have HB7 : Hid (Below w.heap.size w w7) := (HB3.out.trans (HB6.out.mono HB3.out.size)).grown hgrow7 (HB3.out.trans (HB6.out.mono HB3.out.size)).size HK6.out
       have HS7 : Hid (Bs w7 0 w7.heap.size v7 (fx ++ more)) := by
         have e : M.Own w7 0 v7 (fx ++ more) := by
           unfold M.Own
           rw [List.length_append, nums_append]
           exact hown7
         exact e.bs
       obtain ⟨A7, n7, c7, rfl⟩ : ∃ A n c, v7 = .slice A n c := by obtain ⟨A, c, rfl, _⟩ := HS7.out; exact ⟨_, _, _, rfl⟩
       clear hown7 hgrow7 hat7)
    | (go_at_call 16; refine (c16e HD2.out HA1.out.2.2 _ _ _ _ HS7.out (Nat.le_refl _)).mono ?_
       rintro e w8 ⟨rfl, _, hb8⟩
       have HB8 : Hid (Below w.heap.size w w8) := HB7.out.trans (hb8.mono HB7.out.size)
       clear hb8))
  go_ret
  exact ⟨rfl, HB8.out⟩
set_option maxRecDepth 100000 in
set_option maxHeartbeats 1000000 in
theorem cut_0 (hv : Nds w S v0 l) (hS : ∀ b, S b → b < w.heap.size) (hn : nbulk l ≤ 1048576) (hn0 : -9223372036854775808 ≤ n) (hn1 : n ≤ 9223372036854775807) (hb : Bs w 0 w.heap.size v2 more) (hm : more.length ≤ 1048576) (hx : checkF 0 (itemF 200 l).1 = 0) (hm0 : more.length = 0) :
    Calls Try.prog 5 #[v0, .int .i64 n, v2] w fun e w' => e = .returned (.bool true) ∧ Below w.heap.size w w' := by
  have hxb := item_bulk l
  have hfx := formF_le (itemF 200 l).1 (by omega)
  have hf1 := formF_pos (itemF 200 l).1
  have C12 := Lib.hid A1.awake12
  have C13 := Lib.hid (c13 hv hS (by omega))
  have C14 := Lib.hid (c14 (itemF 200 l).1 (by omega) hx)
  have D1 := fun c hc => decode_cut hx (by omega) c hc
  obtain ⟨vA, vn, vc, rfl⟩ : ∃ A n c, v0 = .slice A n c := by obtain ⟨A, c, inner, rfl, _⟩ := hv; exact ⟨_, _, _, rfl⟩
  have HBB : Hid (∀ W, Below w.heap.size w W → Bs W 0 w.heap.size v2 more) := fun W hW => hb.keep (Same.of_below hW (Nat.le_refl _))
  obtain ⟨uA, uc, rfl⟩ : ∃ A c, v2 = .slice A more.length c := by obtain ⟨A, c, rfl, _⟩ := hb; exact ⟨_, _, rfl⟩
  have HM0 := Lib.hid hm0
  generalize (itemF 200 l).1 = x at *
  generalize formF x = fx at *
  have HD1 := Lib.hid D1
  have hL1 : (1 : Int) ≤ (fx.length : Int) := by omega
  have hL2 : (fx.length : Int) ≤ 10000000 := by omega
  have hz0 : ((fx.length : Int) == 0) = false := by rw [beq_eq_false_iff_ne]; omega
  have hz1 : ((more.length : Int) == 0) = true := by rw [beq_iff_eq]; omega
  obtain ⟨k, hk, hkl⟩ : ∃ k : Nat, (wrap64 (n.tmod (fx.length : Int) + (fx.length : Int))).tmod (fx.length : Int) = (k : Int) ∧ k < fx.length := cut_nat n fx.length (by omega) (by omega)
  obtain ⟨tk, Htk⟩ : ∃ tk, Hid (tk = fx.take k) := ⟨_, Lib.hid rfl⟩
  have HF18 : Hid (fx.length ≤ 140737488355328 ∧ tk.length ≤ 140737488355328 ∧ tk.length ≤ 1073741824 ∧ tk.length = k) := by
    have e : tk.length = k := by rw [Htk.out, List.length_take]; omega
    have h : fx.length ≤ 140737488355328 ∧ tk.length ≤ 140737488355328 ∧ tk.length ≤ 1073741824 ∧ tk.length = k := ⟨by omega, by omega, by omega, e⟩
    exact h
  have HA1 : Hid (fx.length + more.length ≤ maxLen ∧ (fx.length + more.length) * 1 ≤ 140737488355328 ∧ (fx ++ more).length ≤ 1073741824) := by
    have h : fx.length + more.length ≤ maxLen ∧ (fx.length + more.length) * 1 ≤ 140737488355328 ∧ (fx ++ more).length ≤ 1073741824 := ⟨by unfold maxLen; omega, by omega, by rw [List.length_append]; omega⟩
    exact h
  have HD1' : Hid (decodeF tk = .error 41) := (congrArg (fun z => decodeF z = .error 41) Htk.out).mpr (HD1.out k hkl)
  have HKL := Lib.hid hkl
  have hkL : (k : Int) < (fx.length : Int) := by omega
  have hfl : Hid (fx.length ≤ 10000000) := (show _ ≤ _ from by omega)
  clear hv hS hn hb hx hxb D1 hfx
  go_enter Try.func5, Try.ntmps5
  go_wp2_with (first
    | (go_at_call 12; refine (C12.out _).mono ?_
       rintro e w1 ⟨rfl, hb1⟩
       have HB1 := Lib.hid hb1
       clear hb1)
    | (go_at_call 13; refine (C13.out _ HB1.out).mono ?_
       rintro e w2 ⟨l0, A0, n0, c0, B0, m0, d0, rfl, hi2, hb2⟩
       have HI2 := Lib.hid hi2
       have HB2 : Hid (Below w.heap.size w w2) := HB1.out.trans (hb2.mono HB1.out.size)
       clear hi2 hb2)
    | (go_at_call 14; refine (C14.out _ _ _ _ _ HI2.out (fun b hb => hb.2)).mono ?_
       rintro e w3 ⟨A3, c3, rfl, hs3, hb3⟩
       have HB3 : Hid (Below w.heap.size w w3) := HB2.out.trans (hb3.mono HB2.out.size)
       have hcap : (k : Int) ≤ (c3 : Int) := by
         obtain ⟨_, _, e, h1, _⟩ := hs3
         have := (Value.slice.injEq _ _ _ _ _ _).mp e
         have := HKL.out
         clear hk
         omega
       have HS3 : Hid (∀ W, Below w3.heap.size w3 W → Bs W w2.heap.size w3.heap.size (.slice A3 fx.length c3) fx) := fun W hW => hs3.keep (Same.of_below hW (Nat.le_refl _))
       have HT3 : Hid (Bs w3 w2.heap.size w3.heap.size (.slice A3 k c3) tk) := (congrArg (fun z => Bs w3 w2.heap.size w3.heap.size (.slice A3 k c3) z) Htk.out).mpr (take_bs hs3 k (Nat.le_of_lt HKL.out))
       clear hs3 hb3 C14)
    | (go_at_call 18; refine (b18 _ _ _ _ _ HT3.out (Nat.le_refl _) HF18.out.2.1).mono ?_
       rintro e w4 ⟨A4, c4, rfl, ho4, hb4⟩
       have HB4 : Hid (Below w3.heap.size w3 w4) := hb4
       have HS4 := Lib.hid ho4.bs
       clear ho4 hb4 HT3)
    | (go_at_call 16; refine (c16e HD1'.out HF18.out.2.2.1 _ _ _ _ HS4.out (Nat.le_refl _)).mono ?_
       rintro e w5 ⟨rfl, _, hb5⟩
       have HB5 : Hid (Below w3.heap.size w3 w5) := HB4.out.trans (hb5.mono HB4.out.size)
       clear hb5 HD1'))
  go_ret
  exact ⟨rfl, (HB3.out.trans (HB5.out.mono HB3.out.size)).alloc (HB3.out.trans (HB5.out.mono HB3.out.size)).size _⟩
set_option maxRecDepth 100000 in
set_option maxHeartbeats 1000000 in
theorem cut_e (hv : Nds w S v0 l) (hS : ∀ b, S b → b < w.heap.size) (hn : nbulk l ≤ 1048576) (hn0 : -9223372036854775808 ≤ n) (hn1 : n ≤ 9223372036854775807) (hb : Bs w 0 w.heap.size v2 more) (hm : more.length ≤ 1048576) (hx : checkF 0 (itemF 200 l).1 ≠ 0) :
    Calls Try.prog 5 #[v0, .int .i64 n, v2] w fun e w' => e = .returned (.bool true) ∧ Below w.heap.size w w' := by
  have hxb := item_bulk l
  have C12 := Lib.hid A1.awake12
  have C13 := Lib.hid (c13 hv hS (by omega))
  have C14 := Lib.hid (c14e (itemF 200 l).1 (by omega) hx)
  have hxi : ¬ ((checkF 0 (itemF 200 l).1 : Nat) : Int) = 0 := by omega
  obtain ⟨vA, vn, vc, rfl⟩ : ∃ A n c, v0 = .slice A n c := by obtain ⟨A, c, inner, rfl, _⟩ := hv; exact ⟨_, _, _, rfl⟩
  obtain ⟨uA, uc, rfl⟩ : ∃ A c, v2 = .slice A more.length c := by obtain ⟨A, c, rfl, _⟩ := hb; exact ⟨_, _, rfl⟩
  generalize (itemF 200 l).1 = x at *
  generalize checkF 0 x = cx at *
  clear hv hS hn hb hx hxb
  go_enter Try.func5, Try.ntmps5
  go_wp2_with (first
    | (go_at_call 12; refine (C12.out _).mono ?_
       rintro e w1 ⟨rfl, hb1⟩
       have HB1 := Lib.hid hb1
       clear hb1)
    | (go_at_call 13; refine (C13.out _ HB1.out).mono ?_
       rintro e w2 ⟨l0, A0, n0, c0, B0, m0, d0, rfl, hi2, hb2⟩
       have HI2 := Lib.hid hi2
       have HB2 : Hid (Below w.heap.size w w2) := HB1.out.trans (hb2.mono HB1.out.size)
       clear hi2 hb2)
    | (go_at_call 14; refine (C14.out _ _ _ _ _ HI2.out (fun b hb => hb.2)).mono ?_
       rintro e w3 ⟨rfl, hb3⟩
       have HB3 : Hid (Below w.heap.size w w3) := HB2.out.trans (hb3.mono HB2.out.size)
       clear hb3 C14))
  go_ret
  exact ⟨rfl, HB3.out⟩
/-- RlpCut is true of whatever nodes, cut and bytes. -/
theorem cut5 (hv : Nds w S v0 l) (hS : ∀ b, S b → b < w.heap.size) (hn : nbulk l ≤ 1048576) (hn0 : -9223372036854775808 ≤ n) (hn1 : n ≤ 9223372036854775807) (hb : Bs w 0 w.heap.size v2 more) (hm : more.length ≤ 1048576) :
    Calls Try.prog 5 #[v0, .int .i64 n, v2] w fun e w' => e = .returned (.bool true) ∧ Below w.heap.size w w' := by
  by_cases hx : checkF 0 (itemF 200 l).1 = 0
  · rcases Nat.eq_zero_or_pos more.length with h | h
    · exact cut_0 S v0 l n v2 more w hv hS hn hn0 hn1 hb hm hx h
    · exact cut_1 S v0 l n v2 more w hv hS hn hn0 hn1 hb hm hx h
  · exact cut_e S v0 l n v2 more w hv hS hn hn0 hn1 hb hm hx
end
end Go.Proofs.Ytkdpphcalekbdaa.B5
