/- Keccak, walked. -/
import Derived.Test.YtnlcndlfdnogaaaK1
set_option linter.unusedVariables false
set_option linter.unusedSimpArgs false
namespace Go.Proofs.Ytnlcndlfdnogaaa.K2
open Go.RowKit
open D0 M D2 D3 D4 Rg P D5 K0 K1
attribute [local go_sem] xor64 and64 or64 xor32 and32 or32 andNot32 add64 add32 unary64 unary32 not64 not32 shl64 shr64 shl32 shr32
attribute [local irreducible] offF conF it gt
set_option maxRecDepth 100000 in
set_option maxHeartbeats 4000000 in
theorem kecc10 (w : World) (lo hi : Nat) (v : Value) (bs : List Byte) (hb : Bs w lo hi v bs) (hl : bs.length ≤ 1073741824) (hhi : hi ≤ w.heap.size) : Calls Try.prog 10 #[v] w fun e w' => e = .returned (.agg (nums (keccF bs)).toArray) ∧ Below w.heap.size w w' := by
  have HBS : Hid (∀ W, Below w.heap.size w W → Bs W lo hi v bs) := fun W hW => hb.keep (Same.of_below hW hhi)
  obtain ⟨A, c, rfl, hc1, hc2, hR⟩ := hb
  have HL := Lib.hid hl
  clear hR hl hc1 hc2
  obtain ⟨i5, hi5, hz5, hs5, hb5⟩ := info_parts info5
  have hw1 : wrap64 ((bs.length : Int) + 136) = ((bs.length + 136 : Nat) : Int) := by have := HL.out; unfold wrap64; omega
  have HW2 := Lib.hid (show (bs.length : Int) + 136 = ((bs.length + 136 : Nat) : Int) by omega)
  have hm1 : i5.bytes * (bs.length + 136) ≤ 281474976710656 := by have := HL.out; rw [hb5]; omega
  have hm2 : bs.length + 136 ≤ maxLen := by have := HL.out; unfold maxLen; omega
  have hm3 : 0 + bs.length ≤ maxLen := by have := HL.out; unfold maxLen; omega
  have hm4 : (0 + bs.length) * 1 ≤ 140737488355328 := by have := HL.out; omega
  have hm5 : bs.length + 1 ≤ maxLen := by have := HL.out; unfold maxLen; omega
  have hm6 : (bs.length + 1) * 1 ≤ 140737488355328 := by have := HL.out; omega
  have HBR : Hid (∀ W, Below w.heap.size w W → Rd W lo hi 1 A bs.length (nums bs)) := fun W hW => by
    obtain ⟨A', c', e, _, _, h⟩ := HBS.out W hW
    cases e
    exact h
  have HZ : Hid (∀ W : World, W.alloc (.cells #[.int .u8 0, .int .u8 0, .int .u8 0, .int .u8 0, .int .u8 0, .int .u8 0, .int .u8 0, .int .u8 0, .int .u8 0, .int .u8 0, .int .u8 0, .int .u8 0, .int .u8 0, .int .u8 0, .int .u8 0, .int .u8 0, .int .u8 0, .int .u8 0, .int .u8 0, .int .u8 0, .int .u8 0, .int .u8 0, .int .u8 0, .int .u8 0, .int .u8 0, .int .u8 0, .int .u8 0, .int .u8 0, .int .u8 0, .int .u8 0, .int .u8 0, .int .u8 0] 25) = W.alloc (.cells (nums (List.replicate 32 0#8)).toArray 25)) := fun _ => rfl
  go_enter Try.func10, Try.ntmps10
  go_wp2_with (first
    | (go_at_call 24; refine (offsets24 _).mono ?_
       rintro e w1 ⟨rfl, hb1⟩
       rw [HZ.out] at hb1
       have HB1 := Lib.hid hb1
       clear hb1)
    | (go_at_call 25; refine (constants25 _).mono ?_
       rintro e w2 ⟨rfl, hb2⟩
       have HB2 := Lib.hid hb2
       clear hb2)
    | (refine wp_build2 rfl 56 (.tmp 9) (.tmp 10) rfl (.agg (mi offF).toArray) (.agg (m64 conF).toArray) _ rfl rfl build56 ?_)
    | (at_make
       go_loud (
         refine wpList_make_own _ rfl (.const (.int .i64 0)) (.tmp 15) 22 rfl (w2.heap.size + 1) 5 i5 _ 1 Try.underlying22 hi5 hz5 hs5 _ _ _ (bs.length + 136) rfl rfl HW2.out hm1 hm2 (by rw [size_alloc]; exact Nat.le_refl _) ?_
         intro w3 ho3 hg3
         rw [size_alloc] at ho3
         have HK3 := Lib.hid (kc_start HB1.out HB2.out hg3 ho3)
         clear ho3 hg3))
    | (at_builtin; refine wp_append rfl (.tmp 16) (.tmp 17) 22 5 (.int .u8 0) 1 1 rfl Try.underlying22 info5 rfl (by omega) (w2.heap.size + 1) lo hi _ 0 [] A bs.length c (nums bs) rfl rfl HK3.out.O (HBR.out _ HK3.out.W) (nums_one _) hm3 hm4 HK3.out.G.lt ?_
       intro v4 w4 ho4 hg4 hb4
       rw [Nat.zero_add, List.nil_append] at ho4
       have HK4 : Hid (Kc w w4 w2.heap.size v4 bs) := HK3.out.app hg4 rfl ho4
       clear ho4 hg4 hb4)
    | (at_builtin; refine wp_append rfl (.tmp 18) (.tmp 19) 22 5 (.int .u8 0) 1 1 rfl Try.underlying22 info5 rfl (by omega) (w2.heap.size + 1) 0 (w4.heap.size + 1) v4 bs.length (nums bs) (some ⟨w4.heap.size, 0, none⟩) 1 1 [.int .u8 1] rfl rfl (HK4.out.lit _).O (rd_lit _ _) one_one hm5 hm6 (HK4.out.lit _).G.lt ?_
       intro v5 w5 ho5 hg5 hb5
       have HK5 : Hid (Kc w w5 w2.heap.size v5 (bs ++ [1#8])) := (HK4.out.lit _).app (n := bs.length + 1) hg5 (by simp) (by rw [nums_append]; exact ho5)
       clear ho5 hg5 hb5))
  clear HK3 HK4
  generalize w2.heap.size = g at *
  have hz : padZ bs.length = 135 - bs.length % 136 := rfl
  clear hw1 hm1 hm2 hm3 hm4 hm5 hm6 HW2 HB1 HB2 HBS HBR
  go_loopw [4] (fun v wr => ∃ k, k ≤ padZ bs.length ∧ Kc w wr g v (bs ++ [1#8] ++ List.replicate k 0#8)) (fun v _ => bs.length + 1 + padZ bs.length - slen v)
  case atStart => exact ⟨0, by omega, by simpa using HK5.out⟩
  obtain ⟨k, hk, hkc⟩ := hrel
  clear HK5
  have hlen : (bs ++ [1#8] ++ List.replicate k 0#8).length = bs.length + 1 + k := by simp; omega
  obtain ⟨gp, cp, rfl, hgp1, hgp2, hn1, hn2⟩ := hkc.shape (by omega)
  have hpre : k = padZ bs.length → bs ++ [1#8] ++ List.replicate k 0#8 = preF bs := fun e => by rw [e]; rfl
  have hsuc : bs ++ [1#8] ++ List.replicate k 0#8 ++ [0#8] = bs ++ [1#8] ++ List.replicate (k + 1) 0#8 := by rw [List.append_assoc _ _ [0#8], ← List.replicate_succ']
  generalize bs ++ [1#8] ++ List.replicate k 0#8 = xs at *
  obtain ⟨r, hr⟩ : ∃ r, r = xs.length % 136 := ⟨_, rfl⟩
  have er : ((xs.length : Nat) : Int).tmod 136 = (r : Int) := by rw [Int.tmod_eq_emod_of_nonneg (by omega)]; omega
  have HPRE := Lib.hid hpre
  have HSUC := Lib.hid hsuc
  have HKC := Lib.hid hkc
  have hL := HL.out
  have hm3 : xs.length + 1 ≤ maxLen := by unfold maxLen; omega
  have hm4 : (xs.length + 1) * 1 ≤ 140737488355328 := by omega
  clear hpre hsuc hkc
  rcases Nat.lt_or_ge k (padZ bs.length) with hlt | hge
  · have hr0 : ¬ (r : Int) = 0 := by omega
    have HLEN := Lib.hid hlen
    have HR := Lib.hid hr
    generalize hml : xs.length = m at *
    have HML := Lib.hid hml
    have HM1 := Lib.hid (show m + 1 = xs.length + 1 by rw [hml])
    have HO : Hid (∀ o, (wr.alloc o).ownsRow (g + 1) 5 1 (.slice (some ⟨gp, 0, none⟩) m cp) m (nums xs)) := fun o => by
      have := (HKC.out.lit o).O
      rwa [hml] at this
    clear hlen hr hml
    go_wp2_with (first
      | (at_builtin
         go_loud (
           refine wp_append rfl (.tmp 25) (.tmp 26) 22 5 (.int .u8 0) 1 1 rfl Try.underlying22 info5 rfl (by omega) (g + 1) 0 (wr.heap.size + 1) (.slice (some ⟨gp, 0, none⟩) m cp) m (nums xs) (some ⟨wr.heap.size, 0, none⟩) 1 1 [.int .u8 0] rfl rfl (HO.out _) (rd_lit _ _) one_one hm3 hm4 (HKC.out.lit _).G.lt ?_
           intro v5 w5 ho5 hg5 hb5
           have HK5 := Lib.hid (HKC.out.snoc 0#8 0 rfl hg5 HM1.out ho5)
           clear ho5 hg5 hb5)))
    go_roundw
    case rel => exact ⟨k + 1, by omega, by rw [← HSUC.out]; exact HK5.out.1⟩
    case measure =>
      have := HLEN.out
      rw [HK5.out.2]
      show _ - _ < _ - m
      omega
  have hk2 : k = padZ bs.length := by omega
  have hx := HPRE.out hk2
  subst hx
  have hpm := pre_mod bs
  have hpl := hlen
  have hp0 : 0 < (preF bs).length := by omega
  have hq : ((preF bs).length : Int) - 1 = (((preF bs).length - 1 : Nat) : Int) := by omega
  have c1 := HKC.out.cell ((preF bs).length - 1) (by omega)
  have f1 : wr.frozen? ⟨gp, (preF bs).length - 1, none⟩ = false := HKC.out.O.frozenAt _
  have hor : bits .or .u8 (n8 (gt (preF bs) 0#8 ((preF bs).length - 1))) 128 = n8 (gt (preF bs) 0#8 ((preF bs).length - 1) ||| 128#8) := or8 _ 128#8
  have HKE := Lib.hid (HKC.out.stored ((preF bs).length - 1) (gt (preF bs) 0#8 ((preF bs).length - 1) ||| 128#8))
  have hpad : (preF bs).set ((preF bs).length - 1) (gt (preF bs) 0#8 ((preF bs).length - 1) ||| 128#8) = padF bs := rfl
  rw [hpad] at HKE
  have hr0 : r = 0 := by omega
  subst hr0
  have hi1 : ¬ ((preF bs).length : Int) ≤ (((preF bs).length - 1 : Nat) : Int) := by omega
  generalize gt (preF bs) 0#8 ((preF bs).length - 1) = by0 at *
  generalize hq1 : (preF bs).length - 1 = q at *
  have HQ := Lib.hid hq1
  have HPM := Lib.hid hpm
  have HLEN := Lib.hid hlen
  have HP0 := Lib.hid hp0
  have HPL := Lib.hid (pad_len bs)
  generalize hM : (preF bs).length = M at *
  have HM := Lib.hid hM
  have hM9 : M ≤ 1073742000 := by omega
  have hq9 : q < 1073742000 := by omega
  clear hpad hpm hlen hpl hp0 hr hq1 hM hm3 hm4
  go_wp2_with fail
  have HD : Hid (Kd w ((wr.setCell ⟨gp, q, none⟩ (.int .u8 (n8 (by0 ||| 128#8)))).alloc (.cells #[.int .u64 0, .int .u64 0, .int .u64 0, .int .u64 0, .int .u64 0, .int .u64 0, .int .u64 0, .int .u64 0, .int .u64 0, .int .u64 0, .int .u64 0, .int .u64 0, .int .u64 0, .int .u64 0, .int .u64 0, .int .u64 0, .int .u64 0, .int .u64 0, .int .u64 0, .int .u64 0, .int .u64 0, .int .u64 0, .int .u64 0, .int .u64 0, .int .u64 0] 33)) g wr.heap.size (padF bs) (.slice (some ⟨gp, 0, none⟩) M cp) (List.replicate 25 0#64)) := by
    have h := Kd.start HKE.out
    rw [size_set] at h
    exact h
  generalize ((wr.setCell ⟨gp, q, none⟩ (.int .u8 (n8 (by0 ||| 128#8)))).alloc (.cells #[.int .u64 0, .int .u64 0, .int .u64 0, .int .u64 0, .int .u64 0, .int .u64 0, .int .u64 0, .int .u64 0, .int .u64 0, .int .u64 0, .int .u64 0, .int .u64 0, .int .u64 0, .int .u64 0, .int .u64 0, .int .u64 0, .int .u64 0, .int .u64 0, .int .u64 0, .int .u64 0, .int .u64 0, .int .u64 0, .int .u64 0, .int .u64 0, .int .u64 0] 33)) = wx at *
  clear c1 f1 hor hi1 HPRE HSUC HKC hgp2 HKE
  generalize hga : wr.heap.size = ga at *
  clear hga wr
  have HP : Hid ((padF bs).length = M) := HPL.out
  have hkf : keccF bs = it (outS (it (spgS (padF bs)) ((padF bs).length / 136) (List.replicate 25 0#64))) 4 (List.replicate 32 0#8) := rfl
  rw [HP.out] at hkf
  have HKF := Lib.hid hkf
  have HM0 := HPM.out
  clear hkf HPL HPM HM HLEN HP0
  generalize padF bs = p at *
  go_loopw [4] (fun v wr => ∃ k, 136 * k ≤ M ∧ Kd w wr g ga (p.drop (136 * k)) v (it (spgS p) k (List.replicate 25 0#64))) (fun v _ => slen v)
  case atStart => exact ⟨0, by omega, by rw [it_zero]; exact HD.out⟩
  obtain ⟨k, hk2, hkd⟩ := hrel
  clear HD
  have hSP := it_succ (spgS p) k (List.replicate 25 0#64)
  have hpk : (p.drop (136 * k)).length = M - 136 * k := by rw [List.length_drop, HP.out]
  have hpd : p.drop (136 * (k + 1)) = (p.drop (136 * k)).drop 136 := by rw [List.drop_drop]; rfl
  have hsS : ∀ a, spgS p k a = permF (it (absS (p.drop (136 * k))) 17 a) := fun _ => rfl
  obtain ⟨A4, c4, rfl, hc1, hc2, hcR⟩ := hkd.P
  generalize p.drop (136 * k) = pk at *
  generalize hak : it (spgS p) k (List.replicate 25 0#64) = ak at *
  have HAK := Lib.hid hak
  have HSP := Lib.hid hSP
  have HPD := Lib.hid hpd
  have HSS := Lib.hid hsS
  have HKD := Lib.hid hkd
  have HPK := Lib.hid hpk
  generalize hn : pk.length = n at *
  have HN := Lib.hid hn
  clear hak hSP hpd hsS hkd hcR hn
  rcases Nat.eq_zero_or_pos n with h0 | h0
  rotate_left
  · have hn0 : (0 : Int) < (n : Int) := by omega
    have hn136 : 136 ≤ n := by omega
    clear hpk
    go_wp2_with fail
    obtain ⟨wo, rfl⟩ : ∃ wo : World, wo = wr := ⟨_, rfl⟩
    go_loopw [39] (fun v wr => ∃ i : Nat, i ≤ 17 ∧ v = .int .i64 (i : Int) ∧ Kd w wr g ga pk (.slice A4 n c4) (it (absS pk) i ak)) (fun v _ => 17 - (intOf v).toNat)
    case atStart => exact ⟨0, by omega, rfl, by rw [it_zero]; exact HKD.out⟩
    obtain ⟨i, hi, rfl, hkd⟩ := hrel
    clear HKD
    rcases Nat.lt_or_ge i 17 with hlt | hge
    · obtain ⟨q8, hq8⟩ : ∃ q8, q8 = 8 * i := ⟨_, rfl⟩
      have e8 : (8 : Int) * (i : Int) = (q8 : Int) := by omega
      have hq8n : q8 + 8 ≤ n := by omega
      have i25 : ¬ (25 : Int) ≤ (i : Int) := by omega
      obtain ⟨A6, hcut, hrd⟩ := cut_slice (P := Try.prog) 22 5 1 Try.underlying22 info5s A4 n c4 q8 (q8 : Int) rfl (by omega)
      have hS3 := it_succ (absS pk) i ak
      have hs3 : ∀ a, absS pk i a = a.set i (gt a 0#64 i ^^^ wordF (pk.drop q8) 8 0) := fun a => by unfold absS; rw [hq8]
      generalize it (absS pk) i ak = ai at *
      have ci := hkd.cA i (by omega)
      have fi := hkd.A.frozen i
      have hw26 := fun W (h : Kd w W g ga pk (.slice A4 n c4) ai) => word26 (g + 1) ga (.slice A6 (n - q8) (c4 - q8)) (pk.drop q8) 8 0 (by rw [List.length_drop, HN.out]; omega) (by omega) (by omega) W (h.cut (by omega) hrd).P
      have HW := Lib.hid (hw26 wr.drew hkd.drew)
      have HS3 := Lib.hid hS3
      have Hs3 := Lib.hid hs3
      have HKD := Lib.hid hkd
      clear hkd hS3 hs3 hw26 hrd hq8
      go_wp2_with fail
      refine wp_region_c 10 (by kernel_rfl) (by kernel_rfl) ?_
      simp only [List.take_succ_cons, List.take_zero, List.drop_succ_cons, List.drop_zero]
      iterate 7 (refine wpC_run (by rfl) rfl (fun K hK => ?_); go_wp2)
      refine wpC_call 26 _ _ (by rfl) (by go_simp) HW.out ?_
      simp only [Act.put, List.setIfInBounds_toArray, List.set_cons_zero, List.set_cons_succ]
      iterate 2 (refine wpC_run (by rfl) rfl (fun K hK => ?_); go_wp2)
      refine wpC_nil ?_
      go_wp2
      go_roundw
      case rel =>
        refine ⟨i + 1, by omega, by go_num, ?_⟩
        rw [HS3.out, Hs3.out]
        exact (HKD.out.setA _ _).drew
      case measure => simp [intOf]; omega
    obtain rfl : i = 17 := by omega
    rw [show ((17 : Nat) : Int) = 17 from rfl]
    have hsk := HSP.out
    rw [HSS.out] at hsk
    generalize it (absS pk) 17 ak = a17 at *
    have HSK := Lib.hid hsk
    obtain ⟨A5, hcut, hrd⟩ := cut_slice (P := Try.prog) 22 5 1 Try.underlying22 info5s A4 n c4 136 136 rfl (by omega)
    have HRD := Lib.hid hrd
    have hs0 : (m64 a17).toArray.size = 25 := by simp [m64_len, hkd.la]
    have hpl : (permF a17).length = 25 := perm_len hkd.la
    have hs1 : (m64 (permF a17)).toArray.size = 25 := by simp [m64_len, hpl]
    have hi0 : (Try.prog.info? 33).map (·.size) = some (m64 a17).toArray.size := by rw [hs0]; exact info33
    have hi1 : (Try.prog.info? 33).map (·.size) = some (m64 (permF a17)).toArray.size := by rw [hs1]; exact info33
    have h1 : (m64 (permF a17)).toArray.all (·.oneCell') = true := by simp [m64, Value.oneCell']
    have hs2 : (m64 a17).toArray.size = (m64 (permF a17)).toArray.size := by rw [hs0, hs1]
    have HP27 := Lib.hid (permute27 wr g a17 hkd.la hkd.G)
    have HKD := Lib.hid hkd
    clear hkd hrd hsk
    go_wp2_with (first
      | (refine wpList_load_row rfl 33 (.tmp 5) rfl ga rfl 33 (m64 a17).toArray (0, 0) _ HKD.out.A Try.underlying33 rfl hi0 ?_)
      | (go_at_call 27; refine HP27.out.mono ?_
         rintro e w6 ⟨rfl, hb6⟩
         have HK6 := Lib.hid (HKD.out.later hb6)
         clear hb6)
      | (refine wpList_store_row rfl 33 (.tmp 5) (.tmp 55) rfl ga (m64 (permF a17)).toArray rfl rfl 33 (m64 a17).toArray HK6.out.A hi1 hs2 h1 ?_
         have HK7 := Lib.hid (HK6.out.setRow hpl)))
    go_roundw
    case rel =>
      refine ⟨k + 1, by have := HPK.out; omega, ?_⟩
      rw [HPD.out, HSK.out]
      exact HK7.out.cut hn136 HRD.out
    case measure => simp only [slen]; omega
  have hk3 : k = M / 136 := by have := HPK.out; omega
  have hkf := HKF.out
  rw [← hk3, HAK.out] at hkf
  have HKF := Lib.hid hkf
  subst h0
  clear hkf hk3 hpk
  go_wp2_with fail
  have HD : Hid (Kd w (wr.alloc (.cells #[.int .u8 0, .int .u8 0, .int .u8 0, .int .u8 0, .int .u8 0, .int .u8 0, .int .u8 0, .int .u8 0, .int .u8 0, .int .u8 0, .int .u8 0, .int .u8 0, .int .u8 0, .int .u8 0, .int .u8 0, .int .u8 0, .int .u8 0, .int .u8 0, .int .u8 0, .int .u8 0, .int .u8 0, .int .u8 0, .int .u8 0, .int .u8 0, .int .u8 0, .int .u8 0, .int .u8 0, .int .u8 0, .int .u8 0, .int .u8 0, .int .u8 0, .int .u8 0] 25)) g ga pk (.slice A4 0 c4) ak) := by
    obtain ⟨R, G, hg, ha, la, A, P, W⟩ := HKD.out
    exact ⟨R.alloc _, G.alloc _, hg, ha, la, A.alloc _, P.keep fun k _ hk => Below.heap_alloc _ _ _ (by have := A.lt; omega), W.alloc W.size _⟩
  have HH : Hid (Arr (wr.alloc (.cells #[.int .u8 0, .int .u8 0, .int .u8 0, .int .u8 0, .int .u8 0, .int .u8 0, .int .u8 0, .int .u8 0, .int .u8 0, .int .u8 0, .int .u8 0, .int .u8 0, .int .u8 0, .int .u8 0, .int .u8 0, .int .u8 0, .int .u8 0, .int .u8 0, .int .u8 0, .int .u8 0, .int .u8 0, .int .u8 0, .int .u8 0, .int .u8 0, .int .u8 0, .int .u8 0, .int .u8 0, .int .u8 0, .int .u8 0, .int .u8 0, .int .u8 0, .int .u8 0] 25)) wr.heap.size 25 (nums (List.replicate 32 0#8))) := Arr.new wr (nums (List.replicate 32 0#8)) 25
  have hgh : ga < wr.heap.size := HKD.out.A.lt
  generalize (wr.alloc (.cells #[.int .u8 0, .int .u8 0, .int .u8 0, .int .u8 0, .int .u8 0, .int .u8 0, .int .u8 0, .int .u8 0, .int .u8 0, .int .u8 0, .int .u8 0, .int .u8 0, .int .u8 0, .int .u8 0, .int .u8 0, .int .u8 0, .int .u8 0, .int .u8 0, .int .u8 0, .int .u8 0, .int .u8 0, .int .u8 0, .int .u8 0, .int .u8 0, .int .u8 0, .int .u8 0, .int .u8 0, .int .u8 0, .int .u8 0, .int .u8 0, .int .u8 0, .int .u8 0] 25)) = wy at *
  generalize wr.heap.size = gh at *
  clear HKD
  go_loopw [58] (fun v wr => ∃ i : Nat, i ≤ 4 ∧ v = .int .i64 (i : Int) ∧ Kd w wr g ga pk (.slice A4 0 c4) ak ∧ Arr wr gh 25 (nums (it (outS ak) i (List.replicate 32 0#8)))) (fun v _ => 4 - (intOf v).toNat)
  case atStart => exact ⟨0, by omega, rfl, HD.out, by rw [it_zero]; exact HH.out⟩
  obtain ⟨i, hi, rfl, hkd, hh⟩ := hrel
  clear HD HH
  have hhl : (it (outS ak) i (List.replicate 32 0#8)).length = 32 := by rw [out_len, List.length_replicate]
  have hS4 := it_succ (outS ak) i (List.replicate 32 0#8)
  generalize hhi : it (outS ak) i (List.replicate 32 0#8) = hb at *
  have HHI := Lib.hid hhi
  rcases Nat.lt_or_ge i 4 with hlt | hge
  · obtain ⟨q8, hq8⟩ : ∃ q8, q8 = 8 * i := ⟨_, rfl⟩
    obtain ⟨q16, hq16⟩ : ∃ q16, q16 = q8 + 8 := ⟨_, rfl⟩
    have e8 : (8 : Int) * (i : Int) = (q8 : Int) := by omega
    have e16 : (q8 : Int) + 8 = (q16 : Int) := by omega
    have hq8n : q16 ≤ 32 := by omega
    have i25 : ¬ (25 : Int) ≤ (i : Int) := by omega
    have hs4 : outS ak i hb = layF q8 8 (gt ak 0#64 i) 0 hb := by unfold outS; rw [hq8]
    rw [hs4] at hS4
    have ci := hkd.cA i (by omega)
    have HL28 := Lib.hid (lay28 gh q8 8 (32 - q8) 25 hb (gt ak 0#64 i) 0 (by rw [hhl]; omega) (by omega) (by omega) (by omega) wr.drew hh.drew)
    have hsl := slice25 gh q8 q16 (by omega) (by omega) (by omega)
    have h816 : q16 - q8 = 8 := by omega
    rw [h816] at hsl
    clear h816
    have HS4 := Lib.hid hS4
    have HKD := Lib.hid hkd
    have HH := Lib.hid hh
    have h8 : q8 ≤ 24 := by omega
    clear hkd hh hS4 hs4 hhi hhl hq8 hq16
    go_wp2_with fail
    refine wp_region_c 9 (by kernel_rfl) (by kernel_rfl) ?_
    simp only [List.take_succ_cons, List.take_zero, List.drop_succ_cons, List.drop_zero]
    iterate 6 (refine wpC_run (by rfl) rfl (fun K hK => ?_); go_wp2)
    iterate 3 (refine wpC_run (by rfl) rfl (fun K hK => ?_); go_wp2)
    refine wpC_nil ?_
    go_wp2_with (first
      | (go_at_call 28; refine HL28.out.mono ?_
         rintro e w8 ⟨⟨v8, rfl⟩, ho8, ha8⟩
         have HO8 := Lib.hid ho8
         have HA8 := Lib.hid ha8
         clear ho8 ha8))
    go_roundw
    case rel => exact ⟨i + 1, by omega, by go_num, HKD.out.drew.only HO8.out hgh, by rw [HS4.out]; exact HA8.out⟩
    case measure => simp [intOf]; omega
  obtain rfl : i = 4 := by omega
  have hkf := HKF.out
  rw [hhi] at hkf
  have HKF := Lib.hid hkf
  have hs : (nums hb).toArray.size = 32 := by simp [hhl]
  have hs0 : (nums (List.replicate 32 0#8)).toArray.size = 32 := by simp
  have hi0 : (Try.prog.info? 25).map (·.size) = some (nums hb).toArray.size := by rw [hs]; exact info25
  have h1 : (nums hb).toArray.all (·.oneCell') = true := by simp [nums, Value.oneCell']
  generalize hv : (nums hb).toArray = vr at *
  have HV := Lib.hid hv
  have HG : Hid (wr.heap[gh]? = some (.cells vr 25 (0, 0))) := (show _ = _ from by rw [← hv]; exact hh)
  have HKD := Lib.hid hkd
  clear hv hh hkd hkf hS4 hhi hhl
  go_wp2_with (first | (refine wpList_load_row rfl 25 (.tmp 7) rfl gh rfl 25 vr (0, 0) _ HG.out Try.underlying25 rfl hi0 ?_) | (refine wpList_store_row rfl 25 (.tmp 2) (.tmp 72) rfl w.heap.size vr rfl rfl 25 (nums (List.replicate 32 0#8)).toArray HKD.out.R hi0 (hs0.trans hs.symm) h1 ?_))
  refine bodyPost_ret (results_cell_row (P := Try.prog) rfl _ _ w.heap.size 25 vr (0, 0) _ rfl (setRow_heap wr _ _ _ _ _ HKD.out.R) Try.underlying25 rfl hi0) rfl ⟨?_, below_setRow HKD.out.W (Nat.le_refl _) _⟩
  rw [← HV.out, HKF.out]
end Go.Proofs.Ytnlcndlfdnogaaa.K2
