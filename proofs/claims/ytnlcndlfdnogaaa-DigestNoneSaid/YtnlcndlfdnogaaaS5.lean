/- Sha, walked. -/
import Derived.Test.YtnlcndlfdnogaaaS4
set_option linter.unusedVariables false
set_option linter.unusedSimpArgs false
namespace Go.Proofs.Ytnlcndlfdnogaaa.S5
open Go.RowKit
open D0 M D2 D3 Rg K1 C1 S0 S1 S2 Z S3 S4
attribute [local go_sem] xor64 and64 or64 xor32 and32 or32 andNot32 add64 add32 unary64 unary32 not64 not32
attribute [local go_sem high] shiftl64 shiftr64 shiftl32 shiftr32
theorem piece_len {k h : V} {p : List Byte} (hh : h.length = 8) : (pieceF k h p).length = 8 := by
  have : ∀ (v : V) n (h : V), (it (sumS v) n h).length = h.length := fun v n h => by
    induction n with
    | zero => rfl
    | succ n ih => rw [it_succ]; unfold sumS; rw [List.length_set]; exact ih
  unfold pieceF
  rw [this, hh]
theorem shaO_len (h : V) : ∀ i o, (it (shaO h) i o).length = o.length
  | 0, _ => rfl
  | i + 1, o => by rw [it_succ]; unfold shaO layF; rw [layIt_len]; exact shaO_len h i o
theorem shaS_len (p : List Byte) : ∀ i, (it (shaS p) i shaStartF).length = 8
  | 0 => rfl
  | i + 1 => by rw [it_succ]; exact piece_len (shaS_len p i)
theorem z3264 (x : BitVec 32) : IntKind.u64.wrap (n32 x) = n64 (x.setWidth 64) := by
  rw [wrap_u64]
  unfold n32 n64
  rw [BitVec.toNat_setWidth]
  omega
theorem keys_len : keysF.length = 64 := (cnt_key 310).2
theorem start_len : shaStartF.length = 8 := rfl
attribute [local irreducible] it gt keysF shaStartF
/-- The frame. -/
structure Sf (w W : World) (gh gk ga : Nat) (h : V) (v : Value) (p : List Byte) : Prop where
  hg : w.heap.size < gh
  hk : gh < gk
  ha : gk < ga
  hW : ga ≤ W.heap.size
  lh : h.length = 8
  R : Arr W w.heap.size 25 (nums (List.replicate 32 0#8))
  H : Arr W gh 60 (m32 h)
  K : Arr W gk 62 (m32 keysF)
  P : Bs W (gk + 1) ga v p
  W : Below w.heap.size w W
section
variable {w W W' : World} {gh gk ga go : Nat} {h us : V} {v : Value} {p : List Byte}
theorem Sf.later (f : Sf w W gh gk ga h v p) (hb : Below W.heap.size W W') : Sf w W' gh gk ga h v p := by
  obtain ⟨hg, hk, ha, hW, lh, R, H, K, P, B⟩ := f
  exact ⟨hg, hk, ha, Nat.le_trans hW hb.size, lh, R.later hb R.lt, H.later hb H.lt, K.later hb K.lt, P.keep (Same.of_below hb hW), B.trans (hb.mono B.size)⟩
theorem Sf.only (f : Sf w W gh gk ga h v p) (ho : Only go W W') (hgo : ga ≤ go) : Sf w W' gh gk ga h v p := by
  obtain ⟨hg, hk, ha, hW, lh, R, H, K, P, B⟩ := f
  exact ⟨hg, hk, ha, by rw [ho.size]; exact hW, lh, R.keep (ho.block _ (by omega)), H.keep (ho.block _ (by omega)), K.keep (ho.block _ (by omega)), P.keep fun k _ hk => ho.block _ (by omega), B.trans (ho.below (by omega))⟩
theorem Sf.drew (f : Sf w W gh gk ga h v p) : Sf w W.drew gh gk ga h v p := ⟨f.hg, f.hk, f.ha, f.hW, f.lh, f.R, f.H, f.K, f.P.keep fun _ _ _ => rfl, f.W.drew⟩
theorem Sf.setH (f : Sf w W gh gk ga h v p) (hu : us.length = 8) : Sf w (W.setRow gh (m32 us).toArray) gh gk ga us v p := by
  obtain ⟨hg, hk, ha, hW, lh, R, H, K, P, B⟩ := f
  exact ⟨hg, hk, ha, by simpa [World.setRow] using hW, hu, R.keep (setRow_other _ _ _ _ (by omega)), setRow_heap _ _ _ _ _ _ H, K.keep (setRow_other _ _ _ _ (by omega)), P.keep fun k _ hk => setRow_other _ _ _ _ (by omega), below_setRow B (by omega) _⟩
theorem Sf.cut {A A' : Option Addr} {n c m : Nat} (f : Sf w W gh gk ga h (.slice A n c) p) (hm : m ≤ n) (hcut : ∀ (w : World) (lo hi : Nat) (xs : List Value), n ≤ c → Rd w lo hi 1 A n xs → Rd w lo hi 1 A' (n - m) (xs.drop (m * 1))) : Sf w W gh gk ga h (.slice A' (n - m) (c - m)) (p.drop m) := by
  obtain ⟨hg, hk, ha, hW, lh, R, H, K, ⟨A0, c0, e, h1, h2, hR⟩, B⟩ := f
  cases e
  refine ⟨hg, hk, ha, hW, lh, R, H, K, ⟨A', c - m, by rw [List.length_drop], by rw [List.length_drop]; omega, by omega, ?_⟩, B⟩
  have := hcut _ _ _ _ h1 hR
  rw [Nat.mul_one] at this
  rw [List.length_drop]
  unfold nums at this ⊢
  rwa [← List.map_drop] at this
theorem Sf.p0 (f : Sf w W gh gk ga h v p) : Bs W 0 W.heap.size v p := by
  obtain ⟨A, c, e, h1, h2, h3⟩ := f.P
  exact ⟨A, c, e, h1, h2, h3.wide (Nat.zero_le _) f.hW⟩
theorem Sf.cH (f : Sf w W gh gk ga h v p) (i : Nat) (hi : i < 8) : W.cell? ⟨gh, i, none⟩ = some (.int .u32 (n32 (gt h 0#32 i))) := f.H.cell (m32_get (by rw [f.lh]; exact hi))
theorem sf_below {w1 w2 : World} (hb1 : Below (w.alloc (.cells (nums (List.replicate 32 0#8)).toArray 25)).heap.size (w.alloc (.cells (nums (List.replicate 32 0#8)).toArray 25)) w1) (hb2 : Below w1.heap.size w1 w2) : Below w.heap.size w ((((w2.alloc (.cells (m32 (List.replicate 8 0#32)).toArray 60)).alloc (.cells (m32 (List.replicate 64 0#32)).toArray 62)).setRow w2.heap.size (m32 shaStartF).toArray).setRow (w2.heap.size + 1) (m32 keysF).toArray) := by
  have z1 := hb1.size
  rw [size_alloc] at z1
  have z2 := hb2.size
  have B2 : Below w.heap.size w w2 := (((Below.refl _ w).alloc (Nat.le_refl _) _).trans (hb1.mono (by rw [size_alloc]; omega))).trans (hb2.mono (by omega))
  have s1 := size_alloc w2 (.cells (m32 (List.replicate 8 0#32)).toArray 60)
  exact below_setRow (below_setRow ((B2.alloc (by omega) _).alloc (by omega) _) (by omega) _) (by omega) _
theorem sf_k (w2 : World) : Arr (((w2.alloc (.cells (m32 (List.replicate 8 0#32)).toArray 60)).alloc (.cells (m32 (List.replicate 64 0#32)).toArray 62)).setRow w2.heap.size (m32 shaStartF).toArray) (w2.heap.size + 1) 62 (m32 (List.replicate 64 0#32)) := by
  have kA := Arr.new (w2.alloc (.cells (m32 (List.replicate 8 0#32)).toArray 60)) (m32 (List.replicate 64 0#32)) 62
  rw [size_alloc] at kA
  exact kA.keep (setRow_other _ _ _ _ (by omega))
theorem sf_start {w1 w2 w5 : World} {v : Value} {p : List Byte} (hb1 : Below (w.alloc (.cells (nums (List.replicate 32 0#8)).toArray 25)).heap.size (w.alloc (.cells (nums (List.replicate 32 0#8)).toArray 25)) w1) (hb2 : Below w1.heap.size w1 w2)
    (ho : Own w5 ((((w2.alloc (.cells (m32 (List.replicate 8 0#32)).toArray 60)).alloc (.cells (m32 (List.replicate 64 0#32)).toArray 62)).setRow w2.heap.size (m32 shaStartF).toArray).setRow (w2.heap.size + 1) (m32 keysF).toArray).heap.size v p)
    (hb5 : Below ((((w2.alloc (.cells (m32 (List.replicate 8 0#32)).toArray 60)).alloc (.cells (m32 (List.replicate 64 0#32)).toArray 62)).setRow w2.heap.size (m32 shaStartF).toArray).setRow (w2.heap.size + 1) (m32 keysF).toArray).heap.size ((((w2.alloc (.cells (m32 (List.replicate 8 0#32)).toArray 60)).alloc (.cells (m32 (List.replicate 64 0#32)).toArray 62)).setRow w2.heap.size (m32 shaStartF).toArray).setRow (w2.heap.size + 1) (m32 keysF).toArray) w5) :
    Sf w w5 w2.heap.size (w2.heap.size + 1) w5.heap.size shaStartF v p := by
  have z1 := hb1.size
  rw [size_alloc] at z1
  have z2 := hb2.size
  have r0 := Arr.new w (nums (List.replicate 32 0#8)) 25
  have r2 := (r0.later hb1 (by rw [size_alloc]; omega)).later hb2 (by omega)
  have s1 := size_alloc w2 (.cells (m32 (List.replicate 8 0#32)).toArray 60)
  have B2 : Below w.heap.size w w2 := (((Below.refl _ w).alloc (Nat.le_refl _) _).trans (hb1.mono (by rw [size_alloc]; omega))).trans (hb2.mono (by omega))
  have hA : Arr ((w2.alloc (.cells (m32 (List.replicate 8 0#32)).toArray 60)).alloc (.cells (m32 (List.replicate 64 0#32)).toArray 62)) w2.heap.size 60 (m32 (List.replicate 8 0#32)) := (Arr.new w2 _ 60).alloc _
  have kA := Arr.new (w2.alloc (.cells (m32 (List.replicate 8 0#32)).toArray 60)) (m32 (List.replicate 64 0#32)) 62
  rw [s1] at kA
  have B4 : Below w.heap.size w ((w2.alloc (.cells (m32 (List.replicate 8 0#32)).toArray 60)).alloc (.cells (m32 (List.replicate 64 0#32)).toArray 62)) := (B2.alloc (by omega) _).alloc (by omega) _
  have r4 := (r2.alloc (.cells (m32 (List.replicate 8 0#32)).toArray 60)).alloc (.cells (m32 (List.replicate 64 0#32)).toArray 62)
  have s4 : ((((w2.alloc (.cells (m32 (List.replicate 8 0#32)).toArray 60)).alloc (.cells (m32 (List.replicate 64 0#32)).toArray 62)).setRow w2.heap.size (m32 shaStartF).toArray).setRow (w2.heap.size + 1) (m32 keysF).toArray).heap.size = w2.heap.size + 2 := by
    unfold World.setRow
    simp [size_alloc]
  generalize ((w2.alloc (.cells (m32 (List.replicate 8 0#32)).toArray 60)).alloc (.cells (m32 (List.replicate 64 0#32)).toArray 62)) = wx at *
  generalize w2.heap.size = gh at *
  have h5 : Arr ((wx.setRow gh (m32 shaStartF).toArray).setRow (gh + 1) (m32 keysF).toArray) gh 60 (m32 shaStartF) := Arr.keep (setRow_heap _ _ _ _ _ _ hA) (setRow_other _ _ _ _ (by omega))
  have k5 : Arr ((wx.setRow gh (m32 shaStartF).toArray).setRow (gh + 1) (m32 keysF).toArray) (gh + 1) 62 (m32 keysF) := setRow_heap _ _ _ _ _ _ (kA.keep (setRow_other _ _ _ _ (by omega)))
  have r5 := (r4.keep (setRow_other wx gh _ (m32 shaStartF).toArray (by omega))).keep (setRow_other (wx.setRow gh (m32 shaStartF).toArray) (gh + 1) _ (m32 keysF).toArray (by omega))
  have B5 := below_setRow (below_setRow B4 (show w.heap.size ≤ gh by omega) (m32 shaStartF).toArray) (show w.heap.size ≤ gh + 1 by omega) (m32 keysF).toArray
  generalize ((wx.setRow gh (m32 shaStartF).toArray).setRow (gh + 1) (m32 keysF).toArray) = wy at *
  have hz := hb5.size
  refine ⟨by omega, by omega, by omega, Nat.le_refl _, start_len, r5.later hb5 (by omega), h5.later hb5 (by omega), k5.later hb5 (by omega), ?_, B5.trans (hb5.mono (by omega))⟩
  obtain ⟨A, c, e, h1, h2, h3⟩ := ho.bs
  exact ⟨A, c, e, h1, h2, h3.wide (by omega) (Nat.le_refl _)⟩
end
theorem info62s : (Try.prog.info? 62).map (·.size) = some 64 := by kernel_rfl
set_option maxRecDepth 100000 in
set_option maxHeartbeats 4000000 in
theorem sha13 (w : World) (lo hi : Nat) (v : Value) (bs : List Byte) (hb : Bs w lo hi v bs) (hl : bs.length ≤ 1073741824) (hhi : hi ≤ w.heap.size) : Calls Try.prog 13 #[v] w fun e w' => e = .returned (.agg (nums (shaF bs)).toArray) ∧ Below w.heap.size w w' := by
  have HZ : Hid (∀ W : World, W.alloc (.cells #[.int .u8 0, .int .u8 0, .int .u8 0, .int .u8 0, .int .u8 0, .int .u8 0, .int .u8 0, .int .u8 0, .int .u8 0, .int .u8 0, .int .u8 0, .int .u8 0, .int .u8 0, .int .u8 0, .int .u8 0, .int .u8 0, .int .u8 0, .int .u8 0, .int .u8 0, .int .u8 0, .int .u8 0, .int .u8 0, .int .u8 0, .int .u8 0, .int .u8 0, .int .u8 0, .int .u8 0, .int .u8 0, .int .u8 0, .int .u8 0, .int .u8 0, .int .u8 0] 25) = W.alloc (.cells (nums (List.replicate 32 0#8)).toArray 25)) := fun _ => rfl
  have HPAD : Hid (∀ W, Below w.heap.size w W → Calls Try.prog 31 #[v, .bool true] W fun e w' => ∃ v', e = .returned v' ∧ Own w' W.heap.size v' (padM bs 1) ∧ Below W.heap.size W w') := fun W hW => pad31 W lo hi v bs true 1 (.inl ⟨rfl, rfl⟩) (hb.keep (Same.of_below hW hhi)) hl (Nat.le_trans hhi hW.size)
  have HL := Lib.hid hl
  clear hb hl hhi
  have HY1 : Hid ((m32 (List.replicate 8 0#32)).toArray.size = (m32 shaStartF).toArray.size) := by rw [List.size_toArray, List.size_toArray, m32_len, m32_len, start_len]; rfl
  have HY2 : Hid ((m32 (List.replicate 64 0#32)).toArray.size = (m32 keysF).toArray.size) := by rw [List.size_toArray, List.size_toArray, m32_len, m32_len, keys_len]; rfl
  have HX1 : Hid ((Try.prog.info? 60).map (·.size) = some (m32 shaStartF).toArray.size) := by rw [List.size_toArray, m32_len, start_len]; exact info60
  have HX2 : Hid ((Try.prog.info? 62).map (·.size) = some (m32 keysF).toArray.size) := by rw [List.size_toArray, m32_len, keys_len]; exact info62s
  have h1 : (m32 shaStartF).toArray.all (·.oneCell') = true := by simp [m32, Value.oneCell']
  have h2 : (m32 keysF).toArray.all (·.oneCell') = true := by simp [m32, Value.oneCell']
  go_enter Try.func13, Try.ntmps13
  go_wp2_with (first
    | (go_at_call 29; refine (start29 _).mono ?_
       rintro e w1 ⟨rfl, hb1⟩
       rw [HZ.out] at hb1
       have HB1 := Lib.hid hb1
       clear hb1)
    | (go_at_call 30; refine (keys30 _).mono ?_
       rintro e w2 ⟨rfl, hb2⟩
       have HB2 := Lib.hid hb2
       clear hb2)
    | (refine wpList_store_row rfl 60 (.tmp 3) (.tmp 8) rfl w2.heap.size (m32 shaStartF).toArray rfl rfl 60 (m32 (List.replicate 8 0#32)).toArray ((Arr.new w2 _ 60).alloc _) HX1.out HY1.out h1 ?_)
    | (refine wpList_store_row rfl 62 (.tmp 4) (.tmp 9) rfl (w2.heap.size + 1) (m32 keysF).toArray rfl rfl 62 (m32 (List.replicate 64 0#32)).toArray (sf_k w2) HX2.out HY2.out h2 ?_)
    | (go_at_call 31
       go_loud (
         refine (HPAD.out _ (sf_below HB1.out HB2.out)).mono ?_
         rintro e w5 ⟨v5, rfl, ho5, hb5⟩
         have HS5 := Lib.hid (sf_start HB1.out HB2.out ho5 hb5)
         clear ho5 hb5)))
  have HPL := Lib.hid (padM_len bs 1)
  have HPM := Lib.hid (preG_mod bs)
  obtain ⟨M, hM⟩ : ∃ M, M = (padM bs 1).length := ⟨_, rfl⟩
  have HM := Lib.hid hM
  have HM0 := Lib.hid (show M % 64 = 0 by rw [hM, padM_len]; exact preG_mod bs)
  have hkf : shaF bs = it (shaO (it (shaS (padM bs 1)) ((padM bs 1).length / 64) shaStartF)) 8 (List.replicate 32 0#8) := rfl
  rw [← hM] at hkf
  have HKF := Lib.hid hkf
  clear hM hkf HB1 HB2 HX1 HX2 HY1 HY2 h1 h2 HPL HPM HL HPAD HZ
  generalize padM bs 1 = pp at *
  generalize w2.heap.size + 1 = gk at *
  generalize w2.heap.size = gh at *
  generalize w5.heap.size = ga at *
  go_loopw [5] (fun v wr => ∃ k, 64 * k ≤ M ∧ Sf w wr gh gk ga (it (shaS pp) k shaStartF) v (pp.drop (64 * k))) (fun v _ => slen v)
  case atStart => exact ⟨0, by omega, by rw [S4.it_zero]; exact HS5.out⟩
  obtain ⟨k, hk2, hf⟩ := hrel
  clear HS5
  have hS := it_succ (shaS pp) k shaStartF
  have hpk : (pp.drop (64 * k)).length = M - 64 * k := by rw [List.length_drop, HM.out]
  have hpd : pp.drop (64 * (k + 1)) = (pp.drop (64 * k)).drop 64 := by rw [List.drop_drop]; rfl
  have hSS : ∀ h, shaS pp k h = pieceF keysF h (pp.drop (64 * k)) := fun _ => rfl
  rw [hSS] at hS
  have hlh := shaS_len pp k
  obtain ⟨A4, c4, rfl, hc1, hc2, hcR⟩ := hf.P
  generalize pp.drop (64 * k) = pk at *
  generalize hst : it (shaS pp) k shaStartF = st at *
  have HST := Lib.hid hst
  have HS := Lib.hid hS
  have HPD := Lib.hid hpd
  have HF := Lib.hid hf
  have HPK := Lib.hid hpk
  have HLH := Lib.hid hlh
  generalize hn : pk.length = n at *
  have HN := Lib.hid hn
  clear hS hpd hSS hf hcR hn hst hlh
  rcases Nat.eq_zero_or_pos n with h0 | h0
  rotate_left
  · have hn0 : (0 : Int) < (n : Int) := by omega
    have hn64 : 64 ≤ n := by have := HM0.out; omega
    clear hpk
    obtain ⟨A5, hcut, hrd⟩ := cut_slice (P := Try.prog) 22 5 1 Try.underlying22 info5s A4 n c4 64 64 rfl (by omega)
    have HRD := Lib.hid hrd
    have hpl : (pieceF keysF st pk).length = 8 := piece_len HLH.out
    have hs0 : (m32 st).toArray.size = 8 := by rw [List.size_toArray, m32_len, HLH.out]
    have hs1 : (m32 (pieceF keysF st pk)).toArray.size = 8 := by rw [List.size_toArray, m32_len, hpl]
    have HI0 : Hid ((Try.prog.info? 60).map (·.size) = some (m32 st).toArray.size) := by rw [hs0]; exact info60
    have HI1 : Hid ((Try.prog.info? 60).map (·.size) = some (m32 (pieceF keysF st pk)).toArray.size) := by rw [hs1]; exact info60
    have h1 : (m32 (pieceF keysF st pk)).toArray.all (·.oneCell') = true := by simp [m32, Value.oneCell']
    have HS2 : Hid ((m32 st).toArray.size = (m32 (pieceF keysF st pk)).toArray.size) := hs0.trans hs1.symm
    have HP32 : Hid (∀ W, Sf w W gh gk ga st (.slice A4 n c4) pk → Calls Try.prog 32 #[.agg (m32 st).toArray, .pointer (some ⟨gk, 0, none⟩), .slice A4 n c4] W fun e w' => e = .returned (.agg (m32 (pieceF keysF st pk)).toArray) ∧ Below W.heap.size W w') := fun W f => piece32 W gk st keysF (.slice A4 n c4) pk f.lh keys_len f.K f.p0 (by rw [HN.out]; exact hn64)
    have HPLEN := Lib.hid hpl
    clear hrd hs0 hs1 hpl
    generalize pieceF keysF st pk = st2 at *
    go_wp2_with (first
      | (refine wpList_load_row rfl 60 (.tmp 3) rfl gh rfl 60 (m32 st).toArray (0, 0) _ HF.out.H Try.underlying60 rfl HI0.out ?_)
      | (go_at_call 32; refine (HP32.out _ HF.out).mono ?_
         rintro e w6 ⟨rfl, hb6⟩
         have HK6 := Lib.hid (HF.out.later hb6)
         clear hb6)
      | (refine wpList_store_row rfl 60 (.tmp 3) (.tmp 19) rfl gh (m32 st2).toArray rfl rfl 60 (m32 st).toArray HK6.out.H HI1.out HS2.out h1 ?_
         have HK7 := Lib.hid (HK6.out.setH HPLEN.out)))
    go_roundw
    case rel =>
      refine ⟨k + 1, by have := HPK.out; omega, ?_⟩
      rw [HPD.out, HS.out]
      exact HK7.out.cut hn64 HRD.out
    case measure => simp only [slen]; omega
  have hk3 : k = M / 64 := by have := HPK.out; omega
  have hkf := HKF.out
  rw [← hk3, HST.out] at hkf
  have HKF := Lib.hid hkf
  subst h0
  clear hkf hk3 hpk
  go_wp2_with fail
  have HD : Hid (Sf w (wr.alloc (.cells #[.int .u8 0, .int .u8 0, .int .u8 0, .int .u8 0, .int .u8 0, .int .u8 0, .int .u8 0, .int .u8 0, .int .u8 0, .int .u8 0, .int .u8 0, .int .u8 0, .int .u8 0, .int .u8 0, .int .u8 0, .int .u8 0, .int .u8 0, .int .u8 0, .int .u8 0, .int .u8 0, .int .u8 0, .int .u8 0, .int .u8 0, .int .u8 0, .int .u8 0, .int .u8 0, .int .u8 0, .int .u8 0, .int .u8 0, .int .u8 0, .int .u8 0, .int .u8 0] 25)) gh gk ga st (.slice A4 0 c4) pk) := by
    obtain ⟨hg, hk, ha, hW, lh, R, H, K, P, B⟩ := HF.out
    exact ⟨hg, hk, ha, by rw [size_alloc]; omega, lh, R.alloc _, H.alloc _, K.alloc _, P.keep fun k _ hk => Below.heap_alloc _ _ _ (by omega), B.alloc B.size _⟩
  have HH : Hid (Arr (wr.alloc (.cells #[.int .u8 0, .int .u8 0, .int .u8 0, .int .u8 0, .int .u8 0, .int .u8 0, .int .u8 0, .int .u8 0, .int .u8 0, .int .u8 0, .int .u8 0, .int .u8 0, .int .u8 0, .int .u8 0, .int .u8 0, .int .u8 0, .int .u8 0, .int .u8 0, .int .u8 0, .int .u8 0, .int .u8 0, .int .u8 0, .int .u8 0, .int .u8 0, .int .u8 0, .int .u8 0, .int .u8 0, .int .u8 0, .int .u8 0, .int .u8 0, .int .u8 0, .int .u8 0] 25)) wr.heap.size 25 (nums (List.replicate 32 0#8))) := Arr.new wr (nums (List.replicate 32 0#8)) 25
  have hgo : ga ≤ wr.heap.size := HF.out.hW
  generalize (wr.alloc (.cells #[.int .u8 0, .int .u8 0, .int .u8 0, .int .u8 0, .int .u8 0, .int .u8 0, .int .u8 0, .int .u8 0, .int .u8 0, .int .u8 0, .int .u8 0, .int .u8 0, .int .u8 0, .int .u8 0, .int .u8 0, .int .u8 0, .int .u8 0, .int .u8 0, .int .u8 0, .int .u8 0, .int .u8 0, .int .u8 0, .int .u8 0, .int .u8 0, .int .u8 0, .int .u8 0, .int .u8 0, .int .u8 0, .int .u8 0, .int .u8 0, .int .u8 0, .int .u8 0] 25)) = wy at *
  generalize wr.heap.size = go at *
  clear HF
  go_loopw [20] (fun v wr => ∃ i : Nat, i ≤ 8 ∧ v = .int .i64 (i : Int) ∧ Sf w wr gh gk ga st (.slice A4 0 c4) pk ∧ Arr wr go 25 (nums (it (shaO st) i (List.replicate 32 0#8)))) (fun v _ => 8 - (intOf v).toNat)
  case atStart => exact ⟨0, by omega, rfl, HD.out, by rw [S4.it_zero]; exact HH.out⟩
  obtain ⟨i, hi, rfl, hkd, hh⟩ := hrel
  clear HD HH
  have hhl : (it (shaO st) i (List.replicate 32 0#8)).length = 32 := by rw [shaO_len, List.length_replicate]
  have hS4 := it_succ (shaO st) i (List.replicate 32 0#8)
  generalize hhi : it (shaO st) i (List.replicate 32 0#8) = hb at *
  have HHI := Lib.hid hhi
  rcases Nat.lt_or_ge i 8 with hlt | hge
  · obtain ⟨q8, hq8⟩ : ∃ q8, q8 = 4 * i := ⟨_, rfl⟩
    obtain ⟨q16, hq16⟩ : ∃ q16, q16 = q8 + 4 := ⟨_, rfl⟩
    have e8 : (4 : Int) * (i : Int) = (q8 : Int) := by omega
    have e16 : (q8 : Int) + 4 = (q16 : Int) := by omega
    have hq8n : q16 ≤ 32 := by omega
    have i8 : ¬ (8 : Int) ≤ (i : Int) := by omega
    have hs4 : shaO st i hb = layF q8 4 ((gt st 0#32 i).setWidth 64) 1 hb := by unfold shaO; rw [hq8]
    rw [hs4] at hS4
    have ci := hkd.cH i (by omega)
    have HL28 := Lib.hid (lay28 go q8 4 (32 - q8) 25 hb ((gt st 0#32 i).setWidth 64) 1 (by rw [hhl]; omega) (by omega) (by omega) (by omega) wr.drew hh.drew)
    have hsl := slice25 go q8 q16 (by omega) (by omega) (by omega)
    have h816 : q16 - q8 = 4 := by omega
    rw [h816] at hsl
    clear h816
    have HS4 := Lib.hid hS4
    have HKD := Lib.hid hkd
    have HH := Lib.hid hh
    have h8 : q8 ≤ 28 := by omega
    have hz := z3264 (gt st 0#32 i)
    clear hkd hh hS4 hs4 hhi hhl hq8 hq16
    generalize gt st 0#32 i = x at *
    go_wp2_with fail
    refine wp_region_c 10 (by kernel_rfl) (by kernel_rfl) ?_
    simp only [List.take_succ_cons, List.take_zero, List.drop_succ_cons, List.drop_zero]
    iterate 10 (refine wpC_run (by rfl) rfl (fun K hK => ?_); go_wp2)
    refine wpC_nil ?_
    go_wp2_with (first
      | (go_at_call 28; refine HL28.out.mono ?_
         rintro e w8 ⟨⟨v8, rfl⟩, ho8, ha8⟩
         have HO8 := Lib.hid ho8
         have HA8 := Lib.hid ha8
         clear ho8 ha8))
    go_roundw
    case rel => exact ⟨i + 1, by omega, by go_num, HKD.out.drew.only HO8.out hgo, by rw [HS4.out]; exact HA8.out⟩
    case measure => simp [intOf]; omega
  obtain rfl : i = 8 := by omega
  have hkf := HKF.out
  rw [hhi] at hkf
  have HKF := Lib.hid hkf
  have hs : (nums hb).toArray.size = 32 := by simp [hhl]
  have hs0 : (nums (List.replicate 32 0#8)).toArray.size = 32 := by simp
  have hi0 : (Try.prog.info? 25).map (·.size) = some (nums hb).toArray.size := by rw [hs]; exact info25
  have h1 : (nums hb).toArray.all (·.oneCell') = true := by simp [nums, Value.oneCell']
  generalize hv : (nums hb).toArray = vr at *
  have HV := Lib.hid hv
  have HG : Hid (wr.heap[go]? = some (.cells vr 25 (0, 0))) := (show _ = _ from by rw [← hv]; exact hh)
  have HKD := Lib.hid hkd
  clear hv hh hkd hkf hS4 hhi hhl
  go_wp2_with (first | (refine wpList_load_row rfl 25 (.tmp 6) rfl go rfl 25 vr (0, 0) _ HG.out Try.underlying25 rfl hi0 ?_) | (refine wpList_store_row rfl 25 (.tmp 2) (.tmp 35) rfl w.heap.size vr rfl rfl 25 (nums (List.replicate 32 0#8)).toArray HKD.out.R hi0 (hs0.trans hs.symm) h1 ?_))
  refine bodyPost_ret (results_cell_row (P := Try.prog) rfl _ _ w.heap.size 25 vr (0, 0) _ rfl (setRow_heap wr _ _ _ _ _ HKD.out.R) Try.underlying25 rfl hi0) rfl ⟨?_, below_setRow HKD.out.W (Nat.le_refl _) _⟩
  rw [← HV.out, HKF.out]
end Go.Proofs.Ytnlcndlfdnogaaa.S5
