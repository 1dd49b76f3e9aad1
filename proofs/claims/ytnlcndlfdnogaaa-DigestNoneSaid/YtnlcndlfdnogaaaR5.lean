/- Ripemd, walked. (printed by gen_r5.py) -/
import Derived.Test.YtnlcndlfdnogaaaRw
set_option linter.unusedVariables false
set_option linter.unusedSimpArgs false
namespace Go.Proofs.Ytnlcndlfdnogaaa.R5
open Go.RowKit
open D0 M D2 D3 Rg K1 C1 S0 S1 S2 Z S3 S4 S5 R0 R1 R2 R3 R4 Rv Rw
attribute [local go_sem] xor64 and64 or64 xor32 and32 or32 andNot32 add64 add32 unary64 unary32 not64 not32
attribute [local go_sem high] shiftl64 shiftr64 shiftl32 shiftr32
attribute [local irreducible] it gt startR LN ZL runF
theorem info29 : (Try.prog.info? 29).map (·.size) = some 20 := by kernel_rfl
theorem look_eq (a : Act) (t : Nat) : Rv.look a t = a.tmps[t]?.getD undef := Array.getD_eq_getD_getElem? ..
theorem slice29 (g lo hi : Nat) (h1 : lo ≤ hi) (h2 : hi ≤ 20) (h3 : lo < 20) : ∀ W : World, (Instr.sliceAt 29 (.pointer (some ⟨g, 0, none⟩)) (some (.int .i64 (lo : Int))) (some (.int .i64 (hi : Int))) none).run Try.prog W = .ok (.slice (some ⟨g, lo, none⟩) (hi - lo) (20 - lo)) W := fun W => by
  have ha : Try.prog.arrayLen 29 = 20 := by kernel_rfl
  have ht : Try.prog.underlying 29 = some (.array (Try.prog.arrayLen 29) (Try.prog.elem 29)) := by kernel_rfl
  have hs : (sizeOf (Try.prog.elem 29)).run Try.prog W = .ok 1 W := by kernel_rfl
  rw [run_sliceAt_array_lh W 29 ⟨g, 0, none⟩ ht .i64 .i64 lo hi (by omega) (by omega) (by rw [ha]; omega), hs, ha]
  simp only [Result.andThen, slicedAt, Int.toNat_natCast]
  rw [if_neg (by omega)]
  by_cases h0 : lo = 0
  · subst h0; rfl
  · simp [Addr.add, h0]
set_option maxRecDepth 100000 in
set_option maxHeartbeats 4000000 in
theorem ripemd15 (w : World) (lo hi : Nat) (v : Value) (bs : List Byte) (hb : Bs w lo hi v bs) (hl : bs.length ≤ 1073741824) (hhi : hi ≤ w.heap.size) : Calls Try.prog 15 #[v] w fun e w' => e = .returned (.agg (nums (ripF bs)).toArray) ∧ Below w.heap.size w w' := by
  have HPAD : Hid (∀ W, Below w.heap.size w W → Calls Try.prog 31 #[v, .bool false] W fun e w' => ∃ v', e = .returned v' ∧ Own w' W.heap.size v' (padM bs 0) ∧ Below W.heap.size W w') := fun W hW => pad31 W lo hi v bs false 0 (.inr ⟨rfl, rfl⟩) (hb.keep (Same.of_below hW hhi)) hl (Nat.le_trans hhi hW.size)
  have HL := Lib.hid hl
  clear hb hl hhi
  have hz75 := zero75
  have HY1 : Hid ((m32 (List.replicate 5 0#32)).toArray.size = (m32 startR).toArray.size) := by unfold startR; exact rfl
  have HX1 : Hid ((Try.prog.info? 71).map (·.size) = some (m32 startR).toArray.size) := by unfold startR; exact info71
  have HE1 : Hid (Value.agg (m32 startR).toArray = .agg #[.int .u32 1732584193, .int .u32 4023233417, .int .u32 2562383102, .int .u32 271733878, .int .u32 3285377520]) := by unfold startR; exact rfl
  have h1 : (m32 startR).toArray.all (·.oneCell') = true := by simp [m32, Value.oneCell']
  have HS2 : Hid (ZL.toArray.size = LN.toArray.size) := by rw [List.size_toArray, List.size_toArray, ZL_len, LN_len]; exact rfl
  have HI2 : Hid ((Try.prog.info? 75).map (·.size) = some LN.toArray.size) := by rw [List.size_toArray, LN_len]; exact info75
  have HO2 : Hid (LN.toArray.all (·.oneCell') = true) := by rw [← LN_one]; exact List.all_toArray
  go_enter Try.func15, Try.ntmps15
  go_wp2_with (first
    | (refine wpList_store_row rfl 71 (.tmp 3) (.tmp 12) rfl (w.heap.size + 1) (m32 startR).toArray rfl (by rw [HE1.out]; rfl) 71 (m32 (List.replicate 5 0#32)).toArray (st_row w) HX1.out HY1.out h1 ?_)
    | (go_at_call 37; refine (lines37 _).mono ?_
       rintro e w2 ⟨rfl, hb2⟩
       have HB2 := Lib.hid hb2
       clear hb2)
    | (refine wpList_store_row rfl 75 (.tmp 4) (.tmp 13) rfl w2.heap.size LN.toArray rfl rfl 75 ZL.toArray (block_new _ _) HI2.out HS2.out HO2.out ?_)
    | (go_at_call 31
       go_loud (
         refine (HPAD.out _ (gf_below HB2.out)).mono ?_
         rintro e w5 ⟨v5, rfl, ho5, hb5⟩
         have HS5 := Lib.hid (gf_start HB2.out ho5 hb5)
         clear ho5 hb5)))
  obtain ⟨M, hM⟩ : ∃ M, M = (padM bs 0).length := ⟨_, rfl⟩
  have HM := Lib.hid hM
  have HM0 := Lib.hid (show M % 64 = 0 by rw [hM, padM_len]; exact preG_mod bs)
  have hkf : ripF bs = it (ripO (it (ripS (padM bs 0)) ((padM bs 0).length / 64) startR)) 5 (List.replicate 20 0#8) := rfl
  rw [← hM] at hkf
  have HKF := Lib.hid hkf
  clear hM hkf HB2 HX1 HY1 HE1 h1 HS2 HI2 HO2 HL HPAD hz75
  generalize padM bs 0 = pp at *
  generalize w2.heap.size = gL at *
  generalize w5.heap.size = ga at *
  generalize hgh : w.heap.size + 1 = gh at *
  clear hgh
  go_loopw [5] (fun v wr => ∃ k, 64 * k ≤ M ∧ Gf w wr gh gL ga (it (ripS pp) k startR) v (pp.drop (64 * k))) (fun v _ => slen v)
  case atStart => exact ⟨0, by omega, by rw [S4.it_zero]; exact HS5.out⟩
  obtain ⟨k, hk2, hf⟩ := hrel
  clear HS5
  have hS := it_succ (ripS pp) k startR
  have hpk : (pp.drop (64 * k)).length = M - 64 * k := by rw [List.length_drop, HM.out]
  have hpd : pp.drop (64 * (k + 1)) = (pp.drop (64 * k)).drop 64 := by rw [List.drop_drop]; rfl
  have hSS : ∀ h, ripS pp k h = joinR h (runF l1F s1F k1F (xF (pp.drop (64 * k))) 0 h) (runF l2F s2F k2F (xF (pp.drop (64 * k))) 1 h) := fun _ => rfl
  rw [hSS] at hS
  have hlh := rip_len pp k
  obtain ⟨A4, c4, rfl, hc1, hc2, hcR⟩ := hf.P
  generalize pp.drop (64 * k) = pk at *
  generalize hst : it (ripS pp) k startR = st at *
  have HST := Lib.hid hst
  have HS := Lib.hid hS
  have HPD := Lib.hid hpd
  have HF := Lib.hid hf
  have HPK := Lib.hid hpk
  have HLH := Lib.hid hlh
  generalize hn : pk.length = n at *
  have HN := Lib.hid hn
  clear hS hpd hSS hf hcR hn hst hlh
  rcases Nat.eq_zero_or_pos n with h0 | h0
  rotate_left
  · have hn0 : (0 : Int) < (n : Int) := by omega
    have hn64 : 64 ≤ n := by have := HM0.out; omega
    clear hpk
    go_wp2_with fail
    have HX0 : Hid (Gx w (wr.alloc (.cells #[.int .u32 0, .int .u32 0, .int .u32 0, .int .u32 0, .int .u32 0, .int .u32 0, .int .u32 0, .int .u32 0, .int .u32 0, .int .u32 0, .int .u32 0, .int .u32 0, .int .u32 0, .int .u32 0, .int .u32 0, .int .u32 0] 77)) gh gL ga wr.heap.size st (List.replicate 16 0#32) (.slice A4 n c4) pk) := Gx.start HF.out
    generalize (wr.alloc (.cells #[.int .u32 0, .int .u32 0, .int .u32 0, .int .u32 0, .int .u32 0, .int .u32 0, .int .u32 0, .int .u32 0, .int .u32 0, .int .u32 0, .int .u32 0, .int .u32 0, .int .u32 0, .int .u32 0, .int .u32 0, .int .u32 0] 77)) = wx at *
    generalize wr.heap.size = gx at *
    clear HF
    have hxF : it (xS pk) 16 (List.replicate 16 0#32) = xF pk := rfl
    have HXF := Lib.hid hxF
    clear hxF
    go_loopw [21] (fun v wr => ∃ i : Nat, i ≤ 16 ∧ v = .int .i64 (i : Int) ∧ Gx w wr gh gL ga gx st (it (xS pk) i (List.replicate 16 0#32)) (.slice A4 n c4) pk) (fun v _ => 16 - (intOf v).toNat)
    case atStart => exact ⟨0, by omega, rfl, by rw [S4.it_zero]; exact HX0.out⟩
    obtain ⟨i, hi, rfl, hf⟩ := hrel
    clear HX0
    have hS3 := it_succ (xS pk) i (List.replicate 16 0#32)
    generalize hxv : it (xS pk) i (List.replicate 16 0#32) = xv at *
    have HXV := Lib.hid hxv
    rcases Nat.lt_or_ge i 16 with hlt | hge
    · obtain ⟨q, hq⟩ : ∃ q, q = 4 * i := ⟨_, rfl⟩
      have hq4 : (4 : Int) * (i : Int) = (q : Int) := by omega
      have hqn : q + 4 ≤ n := by omega
      have hSS : xS pk i xv = xv.set i ((wordF (pk.drop q) 4 0).setWidth 32) := by unfold xS; rw [hq]
      rw [hSS] at hS3
      have i16 : ¬ (16 : Int) ≤ (i : Int) := by omega
      have fx := hf.X.frozen i
      have cx := hf.cX i (by omega)
      obtain ⟨A6, hcut, hrd⟩ := cut_slice (P := Try.prog) 22 5 1 Try.underlying22 info5s A4 n c4 q (q : Int) rfl (by omega)
      have hb := (hf.F.cut (m := q) (by omega) hrd).P
      have HW26 := Lib.hid (word26 (gL + 1) ga (.slice A6 (n - q) (c4 - q)) (pk.drop q) 4 0 (by rw [List.length_drop, HN.out]; omega) (by omega) (by omega) wr hb)
      have hwc := w32 (wordF (pk.drop q) 4 0)
      have HS3 := Lib.hid hS3
      have HF := Lib.hid hf
      clear hS3 hSS hf hb hrd hq hxv
      generalize wordF (pk.drop q) 4 0 = x at *
      go_wp2_with (first
        | (go_at_call 26; refine HW26.out.mono ?_; rintro e w1 ⟨rfl, rfl⟩))
      go_roundw
      case rel =>
        refine ⟨i + 1, by omega, by go_num, ?_⟩
        rw [HS3.out]
        exact HF.out.setX _ _
      case measure => simp [intOf]; omega
    obtain rfl : i = 16 := by omega
    rw [show ((16 : Nat) : Int) = 16 from rfl]
    have hxe : xv = xF pk := HXV.out.symm.trans HXF.out
    subst hxe
    clear hS3 hxv HXV HXF
    generalize xF pk = xf at *
    have HF := Lib.hid hf
    have HSZ := Lib.hid hf.X.lt
    have HK : Hid (∀ W, Below wr.heap.size wr W → Gx w W gh gL ga gx st xf (.slice A4 n c4) pk) := fun W hW => HF.out.later2 hW HF.out.X.lt
    clear hf
    go_wp2_with fail
    go_cut [8, 9] (fun s8 s9 W => ∃ g8 g9, s8 = .pointer (some ⟨g8, 0, none⟩) ∧ s9 = .pointer (some ⟨g9, 0, none⟩) ∧ gx < g8 ∧ gx < g9 ∧ g8 ≠ g9 ∧ Gx w W gh gL ga gx st xf (.slice A4 n c4) pk ∧ Arr W g8 71 (m32 (runF l1F s1F k1F xf 0 st)) ∧ Arr W g9 71 (m32 (runF l2F s2F k2F xf 1 st)))
    case first =>
      have hG : ∀ w1 w2, Gx w w1 gh gL ga gx st xf (.slice A4 n c4) pk → Below wr.heap.size w1 w2 → Gx w w2 gh gL ga gx st xf (.slice A4 n c4) pk := fun w1 w2 h hb => h.later2 hb HSZ.out
      have hs0 : (m32 st).toArray.size = 5 := by rw [List.size_toArray, m32_len, HLH.out]
      have hi0 : (Try.prog.info? 71).map (·.size) = some (m32 st).toArray.size := by rw [hs0]; exact info71
      have hl1 : (runF l1F s1F k1F xf 0 st).length = 5 := run_len HLH.out
      have hl2 : (runF l2F s2F k2F xf 1 st).length = 5 := run_len HLH.out
      refine wp_region_state2 (fun s0 => JR gL wr.heap.size st (runF l1F s1F k1F xf 0 st) (runF l2F s2F k2F xf 1 st) (fun W => Gx w W gh gL ga gx st xf (.slice A4 n c4) pk) s0) (by kernel_rfl) (by kernel_rfl) ?_ ⟨?_, ?_, ?_, ?_, ?_, ?_, ?_, ?_, ?_, ?_, trivial⟩ ?_
      · refine ⟨HK.out _ (Below.refl _ _).drew, Nat.le_refl _, fun _ _ => rfl, ?_, ?_, ?_, ?_, ?_, ?_, ?_, ?_, ?_, ?_, ?_, ?_, ?_⟩
        all_goals first | (intro h; cases h; done) | (intro h h'; cases h)
      · intro L a w1 f hL hF
        have e4 : a.tmps[4]?.getD undef = .pointer (some ⟨gL, 0, none⟩) := (look_eq a 4).symm.trans ((f.ho 4 (by decide)).trans rfl)
        refine ⟨wanted_none rfl, wp_val (v := ptr gL 0) (w' := w1) (by go_simp) ⟨_, rfl, f.o0⟩⟩
      · intro L a w1 f hL hF
        have e3 : a.eval (.tmp 3) = ptr gh 0 := (f.ho 3 (by decide)).trans rfl
        exact ⟨wanted_none rfl, wp_load_row 71 (.tmp 3) rfl gh e3 71 (m32 st).toArray (0, 0) _ f.g.F.H Try.underlying71 rfl hi0 ⟨_, rfl, f.o1⟩⟩
      · intro L a w1 f hL hF
        have e33 : a.tmps[33]?.getD undef = .pointer (some ⟨gL, 0, none⟩) := (look_eq a 33).symm.trans (f.h0 (hF 0 (by rfl)))
        have e34 : a.tmps[34]?.getD undef = .agg (m32 st).toArray := (look_eq a 34).symm.trans (f.h1 (hF 1 (by rfl)))
        have e6 : a.tmps[6]?.getD undef = .pointer (some ⟨gx, 0, none⟩) := (look_eq a 6).symm.trans ((f.ho 6 (by decide)).trans rfl)
        refine ⟨wanted_none rfl, wp_call (f := 38) (args := #[ptr gL 0, .agg (m32 st).toArray, ptr gx 0, .int .i64 0]) (w' := w1) (by go_simp) ?_⟩
        refine f.g.run1.mono ?_
        rintro e w2 ⟨rfl, hb⟩
        exact ⟨_, rfl, _, rfl, (f.later hG hb).o2⟩
      · intro L a w1 f hL hF
        have e4 : a.tmps[4]?.getD undef = .pointer (some ⟨gL, 0, none⟩) := (look_eq a 4).symm.trans ((f.ho 4 (by decide)).trans rfl)
        refine ⟨wanted_none rfl, wp_val (v := ptr gL 165) (w' := w1) (by go_simp) ⟨_, rfl, f.o3⟩⟩
      · intro L a w1 f hL hF
        have e3 : a.eval (.tmp 3) = ptr gh 0 := (f.ho 3 (by decide)).trans rfl
        exact ⟨wanted_none rfl, wp_load_row 71 (.tmp 3) rfl gh e3 71 (m32 st).toArray (0, 0) _ f.g.F.H Try.underlying71 rfl hi0 ⟨_, rfl, f.o4⟩⟩
      · intro L a w1 f hL hF
        have e36 : a.tmps[36]?.getD undef = .pointer (some ⟨gL, 165, none⟩) := (look_eq a 36).symm.trans (f.h3 (hF 3 (by rfl)))
        have e37 : a.tmps[37]?.getD undef = .agg (m32 st).toArray := (look_eq a 37).symm.trans (f.h4 (hF 4 (by rfl)))
        have e6 : a.tmps[6]?.getD undef = .pointer (some ⟨gx, 0, none⟩) := (look_eq a 6).symm.trans ((f.ho 6 (by decide)).trans rfl)
        refine ⟨wanted_none rfl, wp_call (f := 38) (args := #[ptr gL 165, .agg (m32 st).toArray, ptr gx 0, .int .i64 1]) (w' := w1) (by go_simp) ?_⟩
        refine f.g.run2.mono ?_
        rintro e w2 ⟨rfl, hb⟩
        exact ⟨_, rfl, _, rfl, (f.later hG hb).o5⟩
      · intro L a w1 f hL hF
        exact ⟨wanted_none rfl, wp_val (v := ptr w1.heap.size 0) (w' := w1.alloc (.cells (m32 z5).toArray 71)) (by go_simp; rfl) ⟨_, rfl, f.o6 hG hL⟩⟩
      · intro L a w1 f hL hF
        exact ⟨wanted_none rfl, wp_val (v := ptr w1.heap.size 0) (w' := w1.alloc (.cells (m32 z5).toArray 71)) (by go_simp; rfl) ⟨_, rfl, f.o7 hG hL⟩⟩
      · intro L a w1 f hL hF
        obtain ⟨g, c, a1, a2, a3, a4, a5⟩ := f.h6 (hF 6 (by rfl))
        have e35 : a.eval (.tmp 35) = .agg (m32 (runF l1F s1F k1F xf 0 st)).toArray := f.h2 (hF 2 (by rfl))
        have q1 : (m32 (runF l1F s1F k1F xf 0 st)).toArray.size = 5 := by rw [List.size_toArray, m32_len, hl1]
        have q2 : (m32 c).toArray.size = 5 := by rw [List.size_toArray, m32_len, a4]
        exact ⟨wanted_none rfl, wp_store_row 71 (.tmp 8) (.tmp 35) rfl g _ a1 e35 71 (m32 c).toArray a5 (by rw [q1]; exact info71) (q2.trans q1.symm) (by simp [m32, Value.oneCell']) ⟨undef, rfl, f.o8 hG hl1 (hF 7 (by rfl)) g a1 a2 a3 a5 _ (hF 6 (by rfl))⟩⟩
      · intro L a w1 f hL hF
        obtain ⟨g, c, a1, a2, a3, a4, a5⟩ := f.h7 (hF 7 (by rfl))
        have e38 : a.eval (.tmp 38) = .agg (m32 (runF l2F s2F k2F xf 1 st)).toArray := f.h5 (hF 5 (by rfl))
        have q1 : (m32 (runF l2F s2F k2F xf 1 st)).toArray.size = 5 := by rw [List.size_toArray, m32_len, hl2]
        have q2 : (m32 c).toArray.size = 5 := by rw [List.size_toArray, m32_len, a4]
        exact ⟨wanted_none rfl, wp_store_row 71 (.tmp 9) (.tmp 38) rfl g _ a1 e38 71 (m32 c).toArray a5 (by rw [q1]; exact info71) (q2.trans q1.symm) (by simp [m32, Value.oneCell']) ⟨undef, rfl, f.o9 hG hl2 (hF 6 (by rfl)) g a1 a2 a3 a5 _ (hF 7 (by rfl))⟩⟩
      · intro L a' w1 hz hd hall f
        obtain ⟨g8, c8, p1, p2, p3, p4, p5⟩ := f.h6 (hall 6 (by decide))
        obtain ⟨g9, c9, r1, r2, r3, r4, r5⟩ := f.h7 (hall 7 (by decide))
        obtain ⟨g8', p6, p7, p8⟩ := f.h8 (hall 8 (by decide))
        obtain ⟨g9', r6, r7, r8⟩ := f.h9 (hall 9 (by decide))
        have hne := f.h67 (hall 6 (by decide)) (hall 7 (by decide))
        obtain rfl : g8' = g8 := by rw [p1] at p6; cases p6; rfl
        obtain rfl : g9' = g9 := by rw [r1] at r6; cases r6; rfl
        have hne2 : g8' ≠ g9' := fun e => hne (by rw [p1, r1, e])
        have hgx := HSZ.out
        have e := act_of SL hz hd f.ho
        have HPOST : Hid (gx < g8' ∧ gx < g9' ∧ g8' ≠ g9' ∧ Gx w w1 gh gL ga gx st xf (.slice A4 n c4) pk ∧ Arr w1 g8' 71 (m32 (runF l1F s1F k1F xf 0 st)) ∧ Arr w1 g9' 71 (m32 (runF l2F s2F k2F xf 1 st))) := ⟨by omega, by omega, hne2, f.g, p8, r8⟩
        rw [e]
        simp only [SL, List.foldl_cons, List.foldl_nil, List.setIfInBounds_toArray, List.set_cons_zero, List.set_cons_succ, p1, r1]
        generalize Rv.look a' 33 = v33 at *
        generalize Rv.look a' 34 = v34 at *
        generalize Rv.look a' 35 = v35 at *
        generalize Rv.look a' 36 = v36 at *
        generalize Rv.look a' 37 = v37 at *
        generalize Rv.look a' 38 = v38 at *
        clear e f p5 r5 hz hd hall
        go_wp2
        go_meet
        exact ⟨g8', g9', rfl, rfl, HPOST.out⟩
    case rest =>
      obtain ⟨g8, g9, rfl, rfl, h8, h9, h89, hf, ha8, ha9⟩ := hcut
      have hl1 : (runF l1F s1F k1F xf 0 st).length = 5 := run_len HLH.out
      have hl2 : (runF l2F s2F k2F xf 1 st).length = 5 := run_len HLH.out
      have HS2 := HS.out
      clear HS
      generalize runF l1F s1F k1F xf 0 st = lv at *
      generalize runF l2F s2F k2F xf 1 st = rv at *
      have ch0 := hf.F.cH 0 (by omega)
      have ch1 := hf.F.cH 1 (by omega)
      have ch2 := hf.F.cH 2 (by omega)
      have ch3 := hf.F.cH 3 (by omega)
      have ch4 := hf.F.cH 4 (by omega)
      have cl0 : wc.cell? ⟨g8, 0, none⟩ = _ := ha8.cell (m32_get (i := 0) (by omega))
      have cr0 : wc.cell? ⟨g9, 0, none⟩ = _ := ha9.cell (m32_get (i := 0) (by omega))
      have cl1 : wc.cell? ⟨g8, 1, none⟩ = _ := ha8.cell (m32_get (i := 1) (by omega))
      have cr1 : wc.cell? ⟨g9, 1, none⟩ = _ := ha9.cell (m32_get (i := 1) (by omega))
      have cl2 : wc.cell? ⟨g8, 2, none⟩ = _ := ha8.cell (m32_get (i := 2) (by omega))
      have cr2 : wc.cell? ⟨g9, 2, none⟩ = _ := ha9.cell (m32_get (i := 2) (by omega))
      have cl3 : wc.cell? ⟨g8, 3, none⟩ = _ := ha8.cell (m32_get (i := 3) (by omega))
      have cr3 : wc.cell? ⟨g9, 3, none⟩ = _ := ha9.cell (m32_get (i := 3) (by omega))
      have cl4 : wc.cell? ⟨g8, 4, none⟩ = _ := ha8.cell (m32_get (i := 4) (by omega))
      have cr4 : wc.cell? ⟨g9, 4, none⟩ = _ := ha9.cell (m32_get (i := 4) (by omega))
      have HF := Lib.hid hf.F
      have HR : Hid (Arr wc gh 71 (m32 st)) := hf.F.H
      have HZ := Lib.hid (show (m32 st).toArray.size = 5 by rw [List.size_toArray, m32_len, HLH.out])
      have hjr : joinR st lv rv = [gt st 0#32 1 + gt lv 0#32 2 + gt rv 0#32 3, gt st 0#32 2 + gt lv 0#32 3 + gt rv 0#32 4, gt st 0#32 3 + gt lv 0#32 4 + gt rv 0#32 0, gt st 0#32 4 + gt lv 0#32 0 + gt rv 0#32 1, gt st 0#32 0 + gt lv 0#32 1 + gt rv 0#32 2] := rfl
      rw [hjr] at HS2
      have HS3 := Lib.hid HS2
      clear hjr HS2 hf ha8 ha9 h8 h9 h89 hl1 hl2 HK HSZ
      generalize gt st 0#32 0 = y0 at *
      generalize gt lv 0#32 0 = x0 at *
      generalize gt rv 0#32 0 = z0 at *
      generalize gt st 0#32 1 = y1 at *
      generalize gt lv 0#32 1 = x1 at *
      generalize gt rv 0#32 1 = z1 at *
      generalize gt st 0#32 2 = y2 at *
      generalize gt lv 0#32 2 = x2 at *
      generalize gt rv 0#32 2 = z2 at *
      generalize gt st 0#32 3 = y3 at *
      generalize gt lv 0#32 3 = x3 at *
      generalize gt rv 0#32 3 = z3 at *
      generalize gt st 0#32 4 = y4 at *
      generalize gt lv 0#32 4 = x4 at *
      generalize gt rv 0#32 4 = z4 at *
      obtain ⟨us, hus⟩ : ∃ us : V, us = [y1 + x2 + z3, y2 + x3 + z4, y3 + x4 + z0, y4 + x0 + z1, y0 + x1 + z2] := ⟨_, rfl⟩
      have HUE : Hid ((m32 us).toArray = #[.int .u32 (n32 (y1 + x2 + z3)), .int .u32 (n32 (y2 + x3 + z4)), .int .u32 (n32 (y3 + x4 + z0)), .int .u32 (n32 (y4 + x0 + z1)), .int .u32 (n32 (y0 + x1 + z2))]) := by rw [hus]; rfl
      have hul : us.length = 5 := by rw [hus]; rfl
      have HUL := Lib.hid hul
      have HU1 : Hid ((Try.prog.info? 71).map (·.size) = some (m32 us).toArray.size) := by rw [show (m32 us).toArray.size = 5 by simp [m32_len, hul]]; exact info71
      have HU2 : Hid ((m32 st).toArray.size = (m32 us).toArray.size) := HZ.out.trans (show (5 : Nat) = (m32 us).toArray.size by simp [m32_len, hul])
      have HU3 := Lib.hid (show (m32 us).toArray.all (·.oneCell') = true by simp [m32, Value.oneCell'])
      have HS4 : Hid (it (ripS pp) (k + 1) startR = us) := by rw [hus]; exact HS3.out
      clear hus hul HS3
      obtain ⟨A5, hcut, hrd⟩ := cut_slice (P := Try.prog) 22 5 1 Try.underlying22 info5s A4 n c4 64 64 rfl (by omega)
      have HRD := Lib.hid hrd
      clear hrd
      go_wp2_with (first
        | (refine wpList_store_row rfl 71 (.tmp 3) (.tmp 79) rfl gh (m32 us).toArray rfl (by rw [HUE.out]; rfl) 71 (m32 st).toArray HR.out HU1.out HU2.out HU3.out ?_))
      go_roundw
      case rel =>
        refine ⟨k + 1, by have := HPK.out; omega, ?_⟩
        rw [HPD.out, HS4.out]
        exact (HF.out.setH HUL.out).cut hn64 HRD.out
      case measure => simp only [slen]; omega
  have hk3 : k = M / 64 := by have := HPK.out; omega
  have hkf := HKF.out
  rw [← hk3, HST.out] at hkf
  have HKF := Lib.hid hkf
  subst h0
  clear hkf hk3 hpk
  go_wp2_with fail
  have HD : Hid (Gf w (wr.alloc (.cells #[.int .u8 0, .int .u8 0, .int .u8 0, .int .u8 0, .int .u8 0, .int .u8 0, .int .u8 0, .int .u8 0, .int .u8 0, .int .u8 0, .int .u8 0, .int .u8 0, .int .u8 0, .int .u8 0, .int .u8 0, .int .u8 0, .int .u8 0, .int .u8 0, .int .u8 0, .int .u8 0] 29)) gh gL ga st (.slice A4 0 c4) pk) := HF.out.later (below_new _ _)
  have HH : Hid (Arr (wr.alloc (.cells #[.int .u8 0, .int .u8 0, .int .u8 0, .int .u8 0, .int .u8 0, .int .u8 0, .int .u8 0, .int .u8 0, .int .u8 0, .int .u8 0, .int .u8 0, .int .u8 0, .int .u8 0, .int .u8 0, .int .u8 0, .int .u8 0, .int .u8 0, .int .u8 0, .int .u8 0, .int .u8 0] 29)) wr.heap.size 29 (nums (List.replicate 20 0#8))) := Arr.new wr (nums (List.replicate 20 0#8)) 29
  have hgo : ga ≤ wr.heap.size := HF.out.hW
  generalize (wr.alloc (.cells #[.int .u8 0, .int .u8 0, .int .u8 0, .int .u8 0, .int .u8 0, .int .u8 0, .int .u8 0, .int .u8 0, .int .u8 0, .int .u8 0, .int .u8 0, .int .u8 0, .int .u8 0, .int .u8 0, .int .u8 0, .int .u8 0, .int .u8 0, .int .u8 0, .int .u8 0, .int .u8 0] 29)) = wy at *
  generalize wr.heap.size = go at *
  clear HF
  go_loopw [80] (fun v wr => ∃ i : Nat, i ≤ 5 ∧ v = .int .i64 (i : Int) ∧ Gf w wr gh gL ga st (.slice A4 0 c4) pk ∧ Arr wr go 29 (nums (it (ripO st) i (List.replicate 20 0#8)))) (fun v _ => 5 - (intOf v).toNat)
  case atStart => exact ⟨0, by omega, rfl, HD.out, by rw [S4.it_zero]; exact HH.out⟩
  obtain ⟨i, hi, rfl, hkd, hh⟩ := hrel
  clear HD HH
  have hhl : (it (ripO st) i (List.replicate 20 0#8)).length = 20 := by rw [ripO_len, List.length_replicate]
  have hS4 := it_succ (ripO st) i (List.replicate 20 0#8)
  generalize hhi : it (ripO st) i (List.replicate 20 0#8) = hb at *
  have HHI := Lib.hid hhi
  rcases Nat.lt_or_ge i 5 with hlt | hge
  · obtain ⟨q8, hq8⟩ : ∃ q8, q8 = 4 * i := ⟨_, rfl⟩
    obtain ⟨q16, hq16⟩ : ∃ q16, q16 = q8 + 4 := ⟨_, rfl⟩
    have e8 : (4 : Int) * (i : Int) = (q8 : Int) := by omega
    have e16 : (q8 : Int) + 4 = (q16 : Int) := by omega
    have hq8n : q16 ≤ 20 := by omega
    have i5 : ¬ (5 : Int) ≤ (i : Int) := by omega
    have hs4 : ripO st i hb = layF q8 4 ((gt st 0#32 i).setWidth 64) 0 hb := by unfold ripO; rw [hq8]
    rw [hs4] at hS4
    have ci := hkd.cH i (by omega)
    have HL28 := Lib.hid (lay28 go q8 4 (20 - q8) 29 hb ((gt st 0#32 i).setWidth 64) 0 (by rw [hhl]; omega) (by omega) (by omega) (by omega) wr.drew hh.drew)
    have hsl := slice29 go q8 q16 (by omega) (by omega) (by omega)
    have h816 : q16 - q8 = 4 := by omega
    rw [h816] at hsl
    clear h816
    have HS4 := Lib.hid hS4
    have HKD := Lib.hid hkd
    have HH := Lib.hid hh
    have h8 : q8 ≤ 16 := by omega
    have hz := z3264 (gt st 0#32 i)
    clear hkd hh hS4 hs4 hhi hhl hq8 hq16
    generalize gt st 0#32 i = x at *
    go_wp2_with fail
    refine wp_region_c 10 (by kernel_rfl) (by kernel_rfl) ?_
    simp only [List.take_succ_cons, List.take_zero, List.drop_succ_cons, List.drop_zero]
    iterate 10 (refine wpC_run (by rfl) rfl (fun K hK => ?_); go_wp2)
    refine wpC_nil ?_
    go_wp2_with (first
      | (go_at_call 28; refine HL28.out.mono ?_
         rintro e w8 ⟨⟨v8, rfl⟩, ho8, ha8⟩
         have HO8 := Lib.hid ho8
         have HA8 := Lib.hid ha8
         clear ho8 ha8))
    go_roundw
    case rel => exact ⟨i + 1, by omega, by go_num, HKD.out.drew.only HO8.out hgo, by rw [HS4.out]; exact HA8.out⟩
    case measure => simp [intOf]; omega
  obtain rfl : i = 5 := by omega
  have hkf := HKF.out
  rw [hhi] at hkf
  have HKF := Lib.hid hkf
  have hs : (nums hb).toArray.size = 20 := by simp [hhl]
  have hs0 : (nums (List.replicate 20 0#8)).toArray.size = 20 := by simp
  have hi0 : (Try.prog.info? 29).map (·.size) = some (nums hb).toArray.size := by rw [hs]; exact info29
  have h1 : (nums hb).toArray.all (·.oneCell') = true := by simp [nums, Value.oneCell']
  generalize hv : (nums hb).toArray = vr at *
  have HV := Lib.hid hv
  have HG : Hid (wr.heap[go]? = some (.cells vr 29 (0, 0))) := (show _ = _ from by rw [← hv]; exact hh)
  have HKD := Lib.hid hkd
  clear hv hh hkd hkf hS4 hhi hhl
  go_wp2_with (first | (refine wpList_load_row rfl 29 (.tmp 10) rfl go rfl 29 vr (0, 0) _ HG.out Try.underlying29 rfl hi0 ?_) | (refine wpList_store_row rfl 29 (.tmp 2) (.tmp 95) rfl w.heap.size vr rfl rfl 29 (nums (List.replicate 20 0#8)).toArray HKD.out.R hi0 (hs0.trans hs.symm) h1 ?_))
  refine bodyPost_ret (results_cell_row (P := Try.prog) rfl _ _ w.heap.size 29 vr (0, 0) _ rfl (setRow_heap wr _ _ _ _ _ HKD.out.R) Try.underlying29 rfl hi0) rfl ⟨?_, below_setRow HKD.out.W (Nat.le_refl _) _⟩
  rw [← HV.out, HKF.out]
end Go.Proofs.Ytnlcndlfdnogaaa.R5
