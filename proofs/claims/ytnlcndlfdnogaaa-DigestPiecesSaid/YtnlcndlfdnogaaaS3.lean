/- pad, walked. -/
import Derived.Test.YtnlcndlfdnogaaaS2
import Derived.Test.YtnlcndlfdnogaaaZ
set_option linter.unusedVariables false
set_option linter.unusedSimpArgs false
namespace Go.Proofs.Ytnlcndlfdnogaaa.S3
open Go.RowKit
open D0 M D2 D3 Rg K1 C1 S0 S1 S2 Z
attribute [local go_sem] xor64 and64 or64 xor32 and32 or32 andNot32 add64 add32 unary64 unary32 not64 not32 shl64 shr64 shl32 shr32
/-- A row of the call's own while it is filled. -/
structure Kp (w W : World) (v : Value) (xs : List Byte) : Prop where
  O : W.ownsRow w.heap.size 5 1 v xs.length (nums xs)
  W : Below w.heap.size w W
section
variable {w W W' : World} {v v' : Value} {xs ys : List Byte} {n : Nat}
theorem Kp.app (h : Kp w W v xs) (hg : W.grownBy W' v.ownBlock) (hn : ys.length = n) (ho : W'.ownsRow w.heap.size 5 1 v' n (nums ys)) : Kp w W' v' ys := by
  subst hn
  exact ⟨ho, h.W.grown hg h.W.size fun k hk => (own_lt h.O k hk).1⟩
theorem Kp.lit (h : Kp w W v xs) (o : Obj) : Kp w (W.alloc o) v xs :=
  ⟨own_keep h.O fun k hk => Below.heap_alloc _ _ _ (own_lt h.O k hk).2, h.W.alloc h.W.size _⟩
theorem Kp.shape (h : Kp w W v xs) (hx : 0 < xs.length) : ∃ gp cp, v = .slice (some ⟨gp, 0, none⟩) xs.length cp ∧ w.heap.size ≤ gp ∧ gp < W.heap.size ∧ xs.length ≤ cp ∧ cp ≤ maxLen := by
  rcases h.O.2 with ⟨_, h0⟩ | ⟨gp, cp, cur, e, hb, hg, hn, hm, _⟩
  · omega
  · exact ⟨gp, cp, e, by omega, (Array.getElem?_eq_some_iff.1 hg).1, hn, hm⟩
theorem Kp.snoc (h : Kp w W v xs) (x : Byte) (i : Int) (hi : n8 x = i) (hg : (W.alloc (.cells #[.int .u8 i] 5)).grownBy W' v.ownBlock) (hm : n = xs.length + 1) (ho : W'.ownsRow w.heap.size 5 1 v' n (nums xs ++ [.int .u8 i])) :
    Kp w W' v' (xs ++ [x]) ∧ slen v' = n := by
  subst hm; subst hi
  have k : Kp w W' v' (xs ++ [x]) := by
    refine (h.lit _).app (n := xs.length + 1) hg (by simp) ?_
    rw [nums_append]; exact ho
  refine ⟨k, ?_⟩
  obtain ⟨gq, cq, rfl, _⟩ := k.shape (by simp)
  simp [slen]
end
theorem small64 (m : Nat) (h : m ≤ 1099511627776) : wrap64 (m : Int) = (m : Int) := by unfold wrap64; omega
theorem pad_lay (bs xs : List Byte) (m N : Nat) (hx : xs ++ List.replicate 8 0#8 = preG bs) (hml : xs.length = m) (hn : N = m + 8) (hg : Nat) (hgi : Int) (e : hgi = (hg : Int)) (hh : hg ≤ 1) (g8 c8 : Nat) (rest : List Value) (W : World) (h1 : N ≤ c8) (h2 : Arr W g8 5 (nums (preG bs) ++ rest)) :
    Calls Try.prog 28 #[.slice (some ⟨g8, m, none⟩) 8 (c8 - m), .int .u64 (n64 (BitVec.ofNat 64 bs.length <<< 3)), .int .i64 hgi] W fun e w' => (∃ v, e = .returned v) ∧ Only g8 W w' ∧ Arr w' g8 5 (nums (padM bs hg) ++ rest) := by
  subst e
  have hl : (preG bs).length = m + 8 := by rw [← hx]; simp [hml]
  have h5 := lay28r g8 m 8 (c8 - m) 5 (preG bs) rest (BitVec.ofNat 64 bs.length <<< 3) hg (by omega) (by omega) (by omega) hh W h2
  have h6 : m = (preG bs).length - 8 := by omega
  unfold padM
  rw [← h6]
  exact h5
set_option maxRecDepth 100000 in
set_option maxHeartbeats 4000000 in
theorem pad31 (w : World) (lo hi : Nat) (v : Value) (bs : List Byte) (b : Bool) (high : Nat) (hhb : b = true ∧ high = 1 ∨ b = false ∧ high = 0) (hb : Bs w lo hi v bs) (hl : bs.length ≤ 1073741824) (hhi : hi ≤ w.heap.size) : Calls Try.prog 31 #[v, .bool b] w fun e w' => ∃ v', e = .returned v' ∧ Own w' w.heap.size v' (padM bs high) ∧ Below w.heap.size w w' := by
  have HHB := Lib.hid hhb
  clear hhb
  have HBS : Hid (∀ W, Below w.heap.size w W → Bs W lo hi v bs) := fun W hW => hb.keep (Same.of_below hW hhi)
  obtain ⟨A, c, rfl, hc1, hc2, hR⟩ := hb
  have HL := Lib.hid hl
  clear hR hl hc1 hc2
  obtain ⟨i5, hi5, hz5, hs5, hb5⟩ := info_parts info5
  have hw1 : wrap64 ((bs.length : Int) + 128) = ((bs.length + 128 : Nat) : Int) := by have := HL.out; unfold wrap64; omega
  have HW2 := Lib.hid (show (bs.length : Int) + 128 = ((bs.length + 128 : Nat) : Int) by omega)
  have hm1 : i5.bytes * (bs.length + 128) ≤ 281474976710656 := by have := HL.out; rw [hb5]; omega
  have hm2 : bs.length + 128 ≤ maxLen := by have := HL.out; unfold maxLen; omega
  have hm3 : 0 + bs.length ≤ maxLen := by have := HL.out; unfold maxLen; omega
  have hm4 : (0 + bs.length) * 1 ≤ 140737488355328 := by have := HL.out; omega
  have hm5 : bs.length + 1 ≤ maxLen := by have := HL.out; unfold maxLen; omega
  have hm6 : (bs.length + 1) * 1 ≤ 140737488355328 := by have := HL.out; omega
  have HBR : Hid (∀ W, Below w.heap.size w W → Rd W lo hi 1 A bs.length (nums bs)) := fun W hW => by
    obtain ⟨A', c', e, _, _, h⟩ := HBS.out W hW
    cases e
    exact h
  have HK0 : Hid (Kp w w (.slice none 0 0) []) := ⟨World.ownsRow_nil _ _ _ _, Below.refl _ _⟩
  go_enter Try.func31, Try.ntmps31
  go_wp2_with (first
    | (at_make
       go_loud (
         refine wpList_make_own _ rfl (.const (.int .i64 0)) (.tmp 8) 22 rfl w.heap.size 5 i5 _ 1 Try.underlying22 hi5 hz5 hs5 _ _ _ (bs.length + 128) rfl rfl HW2.out hm1 hm2 (Nat.le_refl _) ?_
         intro w3 ho3 hg3
         have HK3 := Lib.hid (HK0.out.app (n := 0) (ys := []) hg3 rfl ho3)
         clear ho3 hg3))
    | (at_builtin; refine wp_append rfl (.tmp 9) (.tmp 10) 22 5 (.int .u8 0) 1 1 rfl Try.underlying22 info5 rfl (by omega) w.heap.size lo hi _ 0 [] A bs.length c (nums bs) rfl rfl HK3.out.O (HBR.out _ HK3.out.W) (nums_one _) hm3 hm4 HK3.out.W.size ?_
       intro v4 w4 ho4 hg4 hb4
       rw [Nat.zero_add, List.nil_append] at ho4
       have HK4 : Hid (Kp w w4 v4 bs) := HK3.out.app hg4 rfl ho4
       clear ho4 hg4 hb4)
    | (at_builtin; refine wp_append rfl (.tmp 11) (.tmp 12) 22 5 (.int .u8 0) 1 1 rfl Try.underlying22 info5 rfl (by omega) w.heap.size 0 (w4.heap.size + 1) v4 bs.length (nums bs) (some ⟨w4.heap.size, 0, none⟩) 1 1 [.int .u8 128] rfl rfl (HK4.out.lit _).O (rd_lit _ _) one_one hm5 hm6 (HK4.out.lit _).W.size ?_
       intro v5 w5 ho5 hg5 hb5
       have HK5 := Lib.hid (HK4.out.snoc 128#8 128 rfl hg5 rfl ho5)
       clear ho5 hg5 hb5))
  clear HK3 HK4 HK0
  have hz : padW bs.length = (119 - bs.length % 64) % 64 := rfl
  clear hw1 hm1 hm2 hm3 hm4 hm5 hm6 HW2 HBS HBR
  go_loopw [5] (fun v wr => ∃ k, k ≤ padW bs.length ∧ Kp w wr v (bs ++ [128#8] ++ List.replicate k 0#8)) (fun v _ => bs.length + 1 + padW bs.length - slen v)
  case atStart => exact ⟨0, by omega, by simpa using HK5.out.1⟩
  obtain ⟨k, hk, hkc⟩ := hrel
  clear HK5
  have hlen : (bs ++ [128#8] ++ List.replicate k 0#8).length = bs.length + 1 + k := by simp; omega
  obtain ⟨gp, cp, rfl, hgp1, hgp2, hn1, hn2⟩ := hkc.shape (by omega)
  have hpre : k = padW bs.length → bs ++ [128#8] ++ List.replicate k 0#8 ++ List.replicate 8 0#8 = preG bs := fun e => by rw [e]; rfl
  have hsuc : bs ++ [128#8] ++ List.replicate k 0#8 ++ [0#8] = bs ++ [128#8] ++ List.replicate (k + 1) 0#8 := by rw [List.append_assoc _ _ [0#8], ← List.replicate_succ']
  generalize bs ++ [128#8] ++ List.replicate k 0#8 = xs at *
  obtain ⟨r, hr⟩ : ∃ r, r = xs.length % 64 := ⟨_, rfl⟩
  have er : ((xs.length : Nat) : Int).tmod 64 = (r : Int) := by rw [Int.tmod_eq_emod_of_nonneg (by omega)]; omega
  have HPRE := Lib.hid hpre
  have HSUC := Lib.hid hsuc
  have HKC := Lib.hid hkc
  have hL := HL.out
  have hm3 : xs.length + 1 ≤ maxLen := by unfold maxLen; omega
  have hm4 : (xs.length + 1) * 1 ≤ 140737488355328 := by omega
  clear hpre hsuc hkc
  rcases Nat.lt_or_ge k (padW bs.length) with hlt | hge
  · have hr0 : ¬ (r : Int) = 56 := by omega
    have HLEN := Lib.hid hlen
    have HR := Lib.hid hr
    generalize hml : xs.length = m at *
    have HML := Lib.hid hml
    have HM1 := Lib.hid (show m + 1 = xs.length + 1 by rw [hml])
    have HO : Hid (∀ o, (wr.alloc o).ownsRow w.heap.size 5 1 (.slice (some ⟨gp, 0, none⟩) m cp) m (nums xs)) := fun o => by
      have := (HKC.out.lit o).O
      rwa [hml] at this
    clear hlen hr hml
    go_wp2_with (first
      | (at_builtin
         go_loud (
           refine wp_append rfl (.tmp 18) (.tmp 19) 22 5 (.int .u8 0) 1 1 rfl Try.underlying22 info5 rfl (by omega) w.heap.size 0 (wr.heap.size + 1) (.slice (some ⟨gp, 0, none⟩) m cp) m (nums xs) (some ⟨wr.heap.size, 0, none⟩) 1 1 [.int .u8 0] rfl rfl (HO.out _) (rd_lit _ _) one_one hm3 hm4 (HKC.out.lit _).W.size ?_
           intro v5 w5 ho5 hg5 hb5
           have HK5 := Lib.hid (HKC.out.snoc 0#8 0 rfl hg5 HM1.out ho5)
           clear ho5 hg5 hb5)))
    go_roundw
    case rel => exact ⟨k + 1, by omega, by rw [← HSUC.out]; exact HK5.out.1⟩
    case measure =>
      have := HLEN.out
      rw [HK5.out.2]
      show _ - _ < _ - m
      omega
  have hk2 : k = padW bs.length := by omega
  have hx := HPRE.out hk2
  have hN : xs.length = (preG bs).length - 8 := by rw [preG_len]; omega
  have HS3 := Lib.hid (show IntKind.u64.wrap (n64 (BitVec.ofNat 64 bs.length) * 8) = n64 (BitVec.ofNat 64 bs.length <<< 3) from shl64 _ 3)
  have hr56 : r = 56 := by omega
  subst hr56
  have hn0 : 0 < xs.length := by omega
  have HNL := Lib.hid (show xs.length ≤ 1099511627776 by omega)
  have HN := Lib.hid hN
  have hO := HKC.out.O
  generalize hml : xs.length = m at *
  have HML := Lib.hid hml
  have HO := Lib.hid hO
  have HX := Lib.hid hx
  have hu1 : IntKind.u64.wrap (bs.length : Int) = n64 (BitVec.ofNat 64 bs.length) := by
    rw [ofNat64 _ (by omega), wrap_u64]; omega
  have HU1 := Lib.hid hu1
  clear hu1
  clear hr hlen hml hN hO hx HPRE HSUC hk hge hz hm3 hm4
  obtain ⟨N, hNm⟩ : ∃ N, N = m + 8 := ⟨_, rfl⟩
  have HWM : Hid (wrap64 (m : Int) = (m : Int)) := small64 _ HNL.out
  have HMN := Lib.hid (show m ≤ N by omega)
  have HMN2 := Lib.hid (show m < N by omega)
  have HN8 := Lib.hid (show N - m = 8 by omega)
  have hs8 : (N : Int) - 8 = (m : Int) := by omega
  have HNM := Lib.hid hNm
  have HK2 := Lib.hid hk2
  clear hNm hk2 hL
  have hrow : ∀ (W : World) (vv : Value), W.ownsRow w.heap.size 5 1 vv (m + 8) (nums (xs ++ List.replicate 8 0#8)) → ∃ g c, ∃ rest : List Value, vv = .slice (some ⟨g, 0, none⟩) N c ∧ w.heap.size ≤ g ∧ N ≤ c ∧ c ≤ maxLen ∧ rest.length = c - N ∧ Arr W g 5 (nums (preG bs) ++ rest) := fun W vv h => by
    rw [← HX.out, HNM.out]
    exact own_arr h (Nat.succ_pos _)
  have HROW := Lib.hid hrow
  clear hrow
  have HLa : Hid (∀ (g8 c8 : Nat) (rest : List Value) (W : World), N ≤ c8 → Arr W g8 5 (nums (preG bs) ++ rest) → Calls Try.prog 28 #[.slice (some ⟨g8, m, none⟩) 8 (c8 - m), .int .u64 (n64 (BitVec.ofNat 64 bs.length <<< 3)), .int .i64 1] W fun e w' => (∃ v, e = .returned v) ∧ Only g8 W w' ∧ Arr w' g8 5 (nums (padM bs 1) ++ rest)) := pad_lay bs xs m N HX.out HML.out HNM.out 1 1 rfl (by decide)
  have HLb : Hid (∀ (g8 c8 : Nat) (rest : List Value) (W : World), N ≤ c8 → Arr W g8 5 (nums (preG bs) ++ rest) → Calls Try.prog 28 #[.slice (some ⟨g8, m, none⟩) 8 (c8 - m), .int .u64 (n64 (BitVec.ofNat 64 bs.length <<< 3)), .int .i64 0] W fun e w' => (∃ v, e = .returned v) ∧ Only g8 W w' ∧ Arr w' g8 5 (nums (padM bs 0) ++ rest)) := pad_lay bs xs m N HX.out HML.out HNM.out 0 0 rfl (by decide)
  rcases HHB.out with ⟨rfl, rfl⟩ | ⟨rfl, rfl⟩
  · clear HHB
    have hwm := HWM.out
    have hu1 := HU1.out
    go_wp2_with (first
      | (at_builtin
         go_loud (
           refine wp_append_zeros rfl (.tmp 21) (.const (.int .i64 8)) 22 3 5 .i64 rfl Try.underlying22 Try.underlying3 info5 w.heap.size _ m xs 8 rfl rfl (by decide) (by decide) hn0 HO.out HNL.out HKC.out.W.size ?_
           intro v8 w8 ho8 hg8
           obtain ⟨g8, c8, rest, rfl, hb8, hnc8, hcm8, hrl8, ha8⟩ := HROW.out _ _ ho8
           have hcut := cut_at (P := Try.prog) 22 5 Try.underlying22 info5s g8 N c8 m hn0 HMN.out (Nat.lt_of_lt_of_le HMN2.out hnc8)
           have HA8 := Lib.hid ha8
           have HC8 := Lib.hid hnc8
           have HK8 : Hid (Below w.heap.size w w8) := HKC.out.W.grown hg8 HKC.out.W.size fun k hk => (own_lt HO.out k hk).1
           clear ho8 hg8 ha8))
      | (go_at_call 28
         go_loud (
           rw [HS3.out, HN8.out]
           refine (HLa.out g8 c8 rest w8 HC8.out HA8.out).mono ?_
           rintro e w9 ⟨⟨v9, rfl⟩, ho9, ha9⟩
           have HO9 := Lib.hid ho9
           have HA9 := Lib.hid ha9
           clear ho9 ha9)))
    go_ret
    have hpl : (padM bs 1).length = N := by rw [padM_len, ← HX.out, List.length_append, HML.out, HNM.out]; simp
    exact ⟨_, rfl, by unfold Own; rw [hpl]; exact arr_own HA9.out hpl hb8 HC8.out hcm8 hrl8, HK8.out.trans (HO9.out.below hb8)⟩
  · clear HHB
    have hwm := HWM.out
    have hu1 := HU1.out
    go_wp2_with (first
      | (at_builtin
         go_loud (
           refine wp_append_zeros rfl (.tmp 21) (.const (.int .i64 8)) 22 3 5 .i64 rfl Try.underlying22 Try.underlying3 info5 w.heap.size _ m xs 8 rfl rfl (by decide) (by decide) hn0 HO.out HNL.out HKC.out.W.size ?_
           intro v8 w8 ho8 hg8
           obtain ⟨g8, c8, rest, rfl, hb8, hnc8, hcm8, hrl8, ha8⟩ := HROW.out _ _ ho8
           have hcut := cut_at (P := Try.prog) 22 5 Try.underlying22 info5s g8 N c8 m hn0 HMN.out (Nat.lt_of_lt_of_le HMN2.out hnc8)
           have HA8 := Lib.hid ha8
           have HC8 := Lib.hid hnc8
           have HK8 : Hid (Below w.heap.size w w8) := HKC.out.W.grown hg8 HKC.out.W.size fun k hk => (own_lt HO.out k hk).1
           clear ho8 hg8 ha8))
      | (go_at_call 28
         go_loud (
           rw [HS3.out, HN8.out]
           refine (HLb.out g8 c8 rest w8 HC8.out HA8.out).mono ?_
           rintro e w9 ⟨⟨v9, rfl⟩, ho9, ha9⟩
           have HO9 := Lib.hid ho9
           have HA9 := Lib.hid ha9
           clear ho9 ha9)))
    go_ret
    have hpl : (padM bs 0).length = N := by rw [padM_len, ← HX.out, List.length_append, HML.out, HNM.out]; simp
    exact ⟨_, rfl, by unfold Own; rw [hpl]; exact arr_own HA9.out hpl hb8 HC8.out hcm8 hrl8, HK8.out.trans (HO9.out.below hb8)⟩
end Go.Proofs.Ytnlcndlfdnogaaa.S3
