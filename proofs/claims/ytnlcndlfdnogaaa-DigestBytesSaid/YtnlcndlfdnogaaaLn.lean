/- ref.line, walked. (printed by gen_ln.py) -/
import Derived.Test.YtnlcndlfdnogaaaR3
set_option linter.unusedVariables false
set_option linter.unusedSimpArgs false
namespace Go.Proofs.Ytnlcndlfdnogaaa.Ln
open Go.RowKit
open D0 M D2 D3 Rg K1 C1 S0 S1 S2 Z S3 S4 S5 R0
attribute [local go_sem] xor64 and64 or64 xor32 and32 or32 andNot32 add64 add32 unary64 unary32 not64 not32
attribute [local go_sem high] shiftl64 shiftr64 shiftl32 shiftr32
attribute [local irreducible] it gt rl mixF
/-- A step of a line, over a table of numbers. -/
def lnN (l s : List Nat) (k x : V) (back j : Nat) (v : V) : V :=
  [gt v 0#32 4, rl (gt v 0#32 0 + mixF (if back = 1 then 4 - j / 16 else j / 16) (gt v 0#32 1) (gt v 0#32 2) (gt v 0#32 3) + gt x 0#32 (gt l 0 j) + gt k 0#32 (j / 16)) (gt s 0 j) + gt v 0#32 4, gt v 0#32 1, rl (gt v 0#32 2) 10, gt v 0#32 3]
def runN (l s : List Nat) (k x : V) (back : Nat) (v : V) : V := it (lnN l s k x back) 80 v
/-- The frame. -/
structure Lf (w W : World) (n0 n1 n2 n3 n4 n5 : Nat) (l s : List Nat) (k x v : V) : Prop where
  e0 : n0 = w.heap.size
  e1 : n1 = n0 + 1
  e2 : n2 = n1 + 1
  e3 : n3 = n2 + 1
  e4 : n4 = n3 + 1
  e5 : n5 = n4 + 1
  ll : l.length = 80
  ls : s.length = 80
  lk : k.length = 5
  lx : x.length = 16
  lv : v.length = 5
  Vv : Arr W n0 71 (m32 v)
  X : Arr W n1 77 (m32 x)
  R : Arr W n2 80 (mi l)
  S : Arr W n3 80 (mi s)
  K : Arr W n4 71 (m32 k)
  Z : Arr W n5 71 (m32 (List.replicate 5 0#32))
  W : Below w.heap.size w W
section
variable {w W : World} {n0 n1 n2 n3 n4 n5 : Nat} {l s : List Nat} {k x v us : V}
theorem Lf.drew (f : Lf w W n0 n1 n2 n3 n4 n5 l s k x v) : Lf w W.drew n0 n1 n2 n3 n4 n5 l s k x v := ⟨f.e0, f.e1, f.e2, f.e3, f.e4, f.e5, f.ll, f.ls, f.lk, f.lx, f.lv, f.Vv, f.X, f.R, f.S, f.K, f.Z, f.W.drew⟩
theorem Lf.setV (f : Lf w W n0 n1 n2 n3 n4 n5 l s k x v) (hu : us.length = 5) : Lf w (W.setRow n0 (m32 us).toArray) n0 n1 n2 n3 n4 n5 l s k x us := by
  obtain ⟨e0, e1, e2, e3, e4, e5, ll, ls, lk, lx, lv, V, X, R, S, K, Z, B⟩ := f
  exact ⟨e0, e1, e2, e3, e4, e5, ll, ls, lk, lx, hu, setRow_heap _ _ _ _ _ _ V, X.keep (setRow_other _ _ _ _ (by omega)), R.keep (setRow_other _ _ _ _ (by omega)), S.keep (setRow_other _ _ _ _ (by omega)), K.keep (setRow_other _ _ _ _ (by omega)), Z.keep (setRow_other _ _ _ _ (by omega)), below_setRow B (by omega) _⟩
theorem Lf.cV (f : Lf w W n0 n1 n2 n3 n4 n5 l s k x v) (i : Nat) (hi : i < 5) : W.cell? ⟨n0, i, none⟩ = some (.int .u32 (n32 (gt v 0#32 i))) := f.Vv.cell (m32_get (by rw [f.lv]; exact hi))
theorem Lf.cX (f : Lf w W n0 n1 n2 n3 n4 n5 l s k x v) (i : Nat) (hi : i < 16) : W.cell? ⟨n1, i, none⟩ = some (.int .u32 (n32 (gt x 0#32 i))) := f.X.cell (m32_get (by rw [f.lx]; exact hi))
theorem Lf.cR (f : Lf w W n0 n1 n2 n3 n4 n5 l s k x v) (i : Nat) (hi : i < 80) : W.cell? ⟨n2, i, none⟩ = some (.int .i64 ((gt l 0 i : Nat) : Int)) := f.R.cell (mi_get (by rw [f.ll]; exact hi))
theorem Lf.cS (f : Lf w W n0 n1 n2 n3 n4 n5 l s k x v) (i : Nat) (hi : i < 80) : W.cell? ⟨n3, i, none⟩ = some (.int .i64 ((gt s 0 i : Nat) : Int)) := f.S.cell (mi_get (by rw [f.ls]; exact hi))
theorem Lf.cK (f : Lf w W n0 n1 n2 n3 n4 n5 l s k x v) (i : Nat) (hi : i < 5) : W.cell? ⟨n4, i, none⟩ = some (.int .u32 (n32 (gt k 0#32 i))) := f.K.cell (m32_get (by rw [f.lk]; exact hi))
end
theorem it_zero {σ : Type} (f : Nat → σ → σ) (s : σ) : it f 0 s = s := by unfold it; rfl
theorem mix54i (n : Nat) (ni : Int) (e : ni = (n : Int)) (hn : n < 5) (x y z : BitVec 32) (w : World) : Calls Try.prog 54 #[.int .i64 ni, .int .u32 (n32 x), .int .u32 (n32 y), .int .u32 (n32 z)] w fun e w' => e = .returned (.int .u32 (n32 (mixF n x y z))) ∧ w' = w := by
  subst e
  exact mix54 n hn x y z w
theorem left51i (x : BitVec 32) (ki : Int) (k : Nat) (e : ki = (k : Int)) (hk : k ≤ 32) (w : World) : Calls Try.prog 51 #[.int .u32 (n32 x), .int .i64 ki] w fun e w' => e = .returned (.int .u32 (n32 (rl x k))) ∧ w' = w := by
  subst e
  exact left51 x k hk w
set_option maxRecDepth 100000 in
set_option maxHeartbeats 4000000 in
theorem line39 (w : World) (l s : List Nat) (k x v : V) (back : Nat) (bi : Bool) (hback : back = 0 ∧ bi = false ∨ back = 1 ∧ bi = true) (ll : l.length = 80) (ls : s.length = 80) (lk : k.length = 5) (lx : x.length = 16) (lv : v.length = 5) (hl16 : ∀ j, j < 80 → gt l 0 j < 16) (hs32 : ∀ j, j < 80 → gt s 0 j < 32) :
    Calls Try.prog 39 #[.agg (m32 v).toArray, .agg (m32 x).toArray, .agg (mi l).toArray, .agg (mi s).toArray, .agg (m32 k).toArray, .bool bi] w fun e w' => e = .returned (.agg (m32 (runN l s k x back v)).toArray) ∧ Below w.heap.size w w' := by
  have H0 : Hid (Lf w ((((((w.alloc (.cells (m32 v).toArray 71)).alloc (.cells (m32 x).toArray 77)).alloc (.cells (mi l).toArray 80)).alloc (.cells (mi s).toArray 80)).alloc (.cells (m32 k).toArray 71)).alloc (.cells (m32 (List.replicate 5 0#32)).toArray 71)) w.heap.size (w.heap.size + 1) (w.heap.size + 1 + 1) (w.heap.size + 1 + 1 + 1) (w.heap.size + 1 + 1 + 1 + 1) (w.heap.size + 1 + 1 + 1 + 1 + 1) l s k x v) := by
    have s1 := size_alloc w (.cells (m32 v).toArray 71)
    have s2 := size_alloc (w.alloc (.cells (m32 v).toArray 71)) (.cells (m32 x).toArray 77)
    have s3 := size_alloc ((w.alloc (.cells (m32 v).toArray 71)).alloc (.cells (m32 x).toArray 77)) (.cells (mi l).toArray 80)
    have s4 := size_alloc (((w.alloc (.cells (m32 v).toArray 71)).alloc (.cells (m32 x).toArray 77)).alloc (.cells (mi l).toArray 80)) (.cells (mi s).toArray 80)
    have s5 := size_alloc ((((w.alloc (.cells (m32 v).toArray 71)).alloc (.cells (m32 x).toArray 77)).alloc (.cells (mi l).toArray 80)).alloc (.cells (mi s).toArray 80)) (.cells (m32 k).toArray 71)
    have z1 := Arr.new w (m32 v) 71
    have z2 := Arr.new (w.alloc (.cells (m32 v).toArray 71)) (m32 x) 77
    have z3 := Arr.new ((w.alloc (.cells (m32 v).toArray 71)).alloc (.cells (m32 x).toArray 77)) (mi l) 80
    have z4 := Arr.new (((w.alloc (.cells (m32 v).toArray 71)).alloc (.cells (m32 x).toArray 77)).alloc (.cells (mi l).toArray 80)) (mi s) 80
    have z5 := Arr.new ((((w.alloc (.cells (m32 v).toArray 71)).alloc (.cells (m32 x).toArray 77)).alloc (.cells (mi l).toArray 80)).alloc (.cells (mi s).toArray 80)) (m32 k) 71
    have z6 := Arr.new (((((w.alloc (.cells (m32 v).toArray 71)).alloc (.cells (m32 x).toArray 77)).alloc (.cells (mi l).toArray 80)).alloc (.cells (mi s).toArray 80)).alloc (.cells (m32 k).toArray 71)) (m32 (List.replicate 5 0#32)) 71
    rw [s1] at z2 s2
    rw [s2] at z3 s3
    rw [s3] at z4 s4
    rw [s4] at z5 s5
    rw [s5] at z6
    have hB : Below w.heap.size w ((((((w.alloc (.cells (m32 v).toArray 71)).alloc (.cells (m32 x).toArray 77)).alloc (.cells (mi l).toArray 80)).alloc (.cells (mi s).toArray 80)).alloc (.cells (m32 k).toArray 71)).alloc (.cells (m32 (List.replicate 5 0#32)).toArray 71)) := ((((((Below.refl _ w).alloc (Nat.le_refl _) _).alloc (by omega) _).alloc (by omega) _).alloc (by omega) _).alloc (by omega) _).alloc (by omega) _
    exact ⟨rfl, rfl, rfl, rfl, rfl, rfl, ll, ls, lk, lx, lv, ((((z1.alloc _).alloc _).alloc _).alloc _).alloc _, (((z2.alloc _).alloc _).alloc _).alloc _, ((z3.alloc _).alloc _).alloc _, (z4.alloc _).alloc _, z5.alloc _, z6, hB⟩
  have HW : Hid (((((((w.alloc (.cells (m32 v).toArray 71)).alloc (.cells (m32 x).toArray 77)).alloc (.cells (mi l).toArray 80)).alloc (.cells (mi s).toArray 80)).alloc (.cells (m32 k).toArray 71)).alloc (.cells (m32 (List.replicate 5 0#32)).toArray 71)) = ((((((w.alloc (.cells (m32 v).toArray 71)).alloc (.cells (m32 x).toArray 77)).alloc (.cells (mi l).toArray 80)).alloc (.cells (mi s).toArray 80)).alloc (.cells (m32 k).toArray 71)).alloc (.cells #[.int .u32 0, .int .u32 0, .int .u32 0, .int .u32 0, .int .u32 0] 71))) := rfl
  have HL16 := Lib.hid hl16
  have HS32 := Lib.hid hs32
  clear hl16 hs32 ll ls lk lx lv
  rcases hback with ⟨rfl, rfl⟩ | ⟨rfl, rfl⟩
  · go_enter Try.func39, Try.ntmps39
    go_wp2_with fail
    rw [← HW.out]
    clear HW
    generalize ((((((w.alloc (.cells (m32 v).toArray 71)).alloc (.cells (m32 x).toArray 77)).alloc (.cells (mi l).toArray 80)).alloc (.cells (mi s).toArray 80)).alloc (.cells (m32 k).toArray 71)).alloc (.cells (m32 (List.replicate 5 0#32)).toArray 71)) = wx at *
    generalize w.heap.size + 1 = n1 at *
    generalize n1 + 1 = n2 at *
    generalize n2 + 1 = n3 at *
    generalize n3 + 1 = n4 at *
    generalize n4 + 1 = n5 at *
    generalize hn0 : w.heap.size = n0 at *
    have HN0 := Lib.hid hn0
    clear hn0
    go_loopw [13] (fun t wr => ∃ j : Nat, j ≤ 80 ∧ t = .int .i64 (j : Int) ∧ Lf w wr n0 n1 n2 n3 n4 n5 l s k x (it (lnN l s k x 0) j v)) (fun t _ => 80 - (intOf t).toNat)
    case atStart => exact ⟨0, by omega, rfl, by rw [it_zero]; exact H0.out⟩
    obtain ⟨j, hj, rfl, hf⟩ := hrel
    clear H0
    have hS := it_succ (lnN l s k x 0) j v
    have hRF : runN l s k x 0 v = it (lnN l s k x 0) 80 v := rfl
    generalize hvs : it (lnN l s k x 0) j v = vs at *
    have HVS := Lib.hid hvs
    have HRF := Lib.hid hRF
    clear hRF
    rcases Nat.lt_or_ge j 80 with hlt | hge
    · obtain ⟨f, hfq⟩ : ∃ f, f = j / 16 := ⟨_, rfl⟩
      obtain ⟨b, hbq⟩ : ∃ b, b = f := ⟨_, rfl⟩
      have hq1 : (j : Int).tdiv 16 = (f : Int) := by rw [Int.tdiv_eq_ediv_of_nonneg (by omega)]; omega
      have hq2 : (4 : Int) - (f : Int) = ((4 - f : Nat) : Int) := by omega
      have hf5 : f < 5 := by omega
      have i5 : ¬ (5 : Int) ≤ (f : Int) := by omega
      have i80 : ¬ (80 : Int) ≤ (j : Int) := by omega
      have hSS : lnN l s k x 0 j vs = [gt vs 0#32 4, rl (gt vs 0#32 0 + mixF b (gt vs 0#32 1) (gt vs 0#32 2) (gt vs 0#32 3) + gt x 0#32 (gt l 0 j) + gt k 0#32 f) (gt s 0 j) + gt vs 0#32 4, gt vs 0#32 1, rl (gt vs 0#32 2) 10, gt vs 0#32 3] := by unfold lnN; rw [hbq, hfq]; rfl
      rw [hSS] at hS
      have hl16 := HL16.out j hlt
      have hs32 := HS32.out j hlt
      have cl := hf.cR j hlt
      have cs := hf.cS j hlt
      have ck := hf.cK f hf5
      have cx := hf.cX _ hl16
      have c0 := hf.cV 0 (by omega)
      have c1 := hf.cV 1 (by omega)
      have c2 := hf.cV 2 (by omega)
      have c3 := hf.cV 3 (by omega)
      have c4 := hf.cV 4 (by omega)
      generalize gt l 0 j = lq at *
      generalize gt s 0 j = sq at *
      have i16 : ¬ (16 : Int) ≤ (lq : Int) := by omega
      have HM0 := fun a1 a2 a3 W => mix54i b ((f : Int)) (by omega) (by omega) a1 a2 a3 W
      have HR0 := fun y W => left51i y (sq : Int) sq rfl (by omega) W
      have HS := Lib.hid hS
      have HF := Lib.hid hf
      have HR : Hid (Arr wr n0 71 (m32 vs)) := hf.Vv
      have HZ := Lib.hid (show (m32 vs).toArray.size = 5 by rw [List.size_toArray, m32_len, hf.lv])
      clear hS hSS hf hvs hbq hfq hl16 hs32
      generalize gt vs 0#32 0 = a0 at *
      generalize gt vs 0#32 1 = a1 at *
      generalize gt vs 0#32 2 = a2 at *
      generalize gt vs 0#32 3 = a3 at *
      generalize gt vs 0#32 4 = a4 at *
      generalize gt x 0#32 lq = xq at *
      generalize gt k 0#32 f = kf at *
      have HM := Lib.hid (HM0 a1 a2 a3)
      have HR1 := Lib.hid (HR0 (a0 + mixF b a1 a2 a3 + xq + kf))
      have HR2 := Lib.hid (fun W => left51i a2 10 10 rfl (by decide) W)
      clear HM0 HR0
      obtain ⟨us, hus⟩ : ∃ us : V, us = [a4, rl (a0 + mixF b a1 a2 a3 + xq + kf) sq + a4, a1, rl a2 10, a3] := ⟨_, rfl⟩
      have HUE : Hid ((m32 us).toArray = #[.int .u32 (n32 a4), .int .u32 (n32 (rl (a0 + mixF b a1 a2 a3 + xq + kf) sq + a4)), .int .u32 (n32 a1), .int .u32 (n32 (rl a2 10)), .int .u32 (n32 a3)]) := by rw [hus]; rfl
      have hul : us.length = 5 := by rw [hus]; rfl
      have HUL := Lib.hid hul
      have HU1 : Hid ((Try.prog.info? 71).map (·.size) = some (m32 us).toArray.size) := by rw [show (m32 us).toArray.size = 5 by simp [m32_len, hul]]; exact R3.info71
      have HU2 : Hid ((m32 vs).toArray.size = (m32 us).toArray.size) := HZ.out.trans (show (5 : Nat) = (m32 us).toArray.size by simp [m32_len, hul])
      have HU3 := Lib.hid (show (m32 us).toArray.all (·.oneCell') = true by simp [m32, Value.oneCell'])
      have HS2 : Hid (it (lnN l s k x 0) (j + 1) v = us) := by rw [hus]; exact HS.out
      clear hus hul
      go_wp2_with fail
      refine wp_region_q (by kernel_rfl) (by kernel_rfl) ?_
      iterate 9 (refine wpC_run (by rfl) rfl (fun K hK => ?_); go_wp2)
      refine wpC_call 54 _ _ (by rfl) (by go_simp) (HM.out _) ?_
      simp only [Act.put, List.setIfInBounds_toArray, List.set_cons_zero, List.set_cons_succ]
      iterate 15 (refine wpC_run (by rfl) rfl (fun K hK => ?_); go_wp2)
      refine wpC_call 51 _ _ (by rfl) (by go_simp) (HR1.out _) ?_
      simp only [Act.put, List.setIfInBounds_toArray, List.set_cons_zero, List.set_cons_succ]
      iterate 4 (refine wpC_run (by rfl) rfl (fun K hK => ?_); go_wp2)
      refine wpC_nil ?_
      go_wp2_with fail
      refine wp_region_c 11 (by kernel_rfl) (by kernel_rfl) ?_
      simp only [List.take_succ_cons, List.take_zero, List.drop_succ_cons, List.drop_zero]
      iterate 7 (refine wpC_run (by rfl) rfl (fun K hK => ?_); go_wp2)
      refine wpC_call 51 _ _ (by rfl) (by go_simp) (HR2.out _) ?_
      simp only [Act.put, List.setIfInBounds_toArray, List.set_cons_zero, List.set_cons_succ]
      iterate 3 (refine wpC_run (by rfl) rfl (fun K hK => ?_); go_wp2)
      refine wpC_nil ?_
      go_wp2_with (first
        | (refine wpList_store_row rfl 71 (.tmp 6) (.tmp 64) rfl n0 (m32 us).toArray rfl (by rw [HUE.out]; rfl) 71 (m32 vs).toArray HR.out HU1.out HU2.out HU3.out ?_))
      go_roundw
      case rel =>
        refine ⟨j + 1, by omega, by go_num, ?_⟩
        rw [HS2.out]
        exact HF.out.drew.drew.setV HUL.out
      case measure => simp [intOf]; omega
    obtain rfl : j = 80 := by omega
    rw [show ((80 : Nat) : Int) = 80 from rfl]
    have hs : (m32 vs).toArray.size = 5 := by rw [List.size_toArray, m32_len, hf.lv]
    have hi0 : (Try.prog.info? 71).map (·.size) = some (m32 vs).toArray.size := by rw [hs]; exact R3.info71
    have hz0 : (m32 (List.replicate 5 0#32)).toArray.size = (m32 vs).toArray.size := by rw [hs]; rfl
    have h1 : (m32 vs).toArray.all (·.oneCell') = true := by simp [m32, Value.oneCell']
    have HV : Hid (runN l s k x 0 v = vs) := HRF.out.trans HVS.out
    have HF := Lib.hid hf
    clear hf hS hvs HRF
    go_wp2_with (first
      | (refine wpList_load_row rfl 71 (.tmp 6) rfl n0 rfl 71 (m32 vs).toArray (0, 0) _ HF.out.Vv Try.underlying71 rfl hi0 ?_)
      | (refine wpList_store_row rfl 71 (.tmp 12) (.tmp 65) rfl n5 (m32 vs).toArray rfl rfl 71 (m32 (List.replicate 5 0#32)).toArray HF.out.Z hi0 hz0 h1 ?_))
    refine bodyPost_ret (results_cell_row (P := Try.prog) rfl _ _ n5 71 (m32 vs).toArray (0, 0) _ rfl (setRow_heap wr _ _ _ _ _ HF.out.Z) Try.underlying71 rfl hi0) rfl ⟨?_, below_setRow HF.out.W (by have := HF.out.e0; have := HF.out.e1; have := HF.out.e2; have := HF.out.e3; have := HF.out.e4; have := HF.out.e5; omega) _⟩
    rw [HV.out]
  · go_enter Try.func39, Try.ntmps39
    go_wp2_with fail
    rw [← HW.out]
    clear HW
    generalize ((((((w.alloc (.cells (m32 v).toArray 71)).alloc (.cells (m32 x).toArray 77)).alloc (.cells (mi l).toArray 80)).alloc (.cells (mi s).toArray 80)).alloc (.cells (m32 k).toArray 71)).alloc (.cells (m32 (List.replicate 5 0#32)).toArray 71)) = wx at *
    generalize w.heap.size + 1 = n1 at *
    generalize n1 + 1 = n2 at *
    generalize n2 + 1 = n3 at *
    generalize n3 + 1 = n4 at *
    generalize n4 + 1 = n5 at *
    generalize hn0 : w.heap.size = n0 at *
    have HN0 := Lib.hid hn0
    clear hn0
    go_loopw [13] (fun t wr => ∃ j : Nat, j ≤ 80 ∧ t = .int .i64 (j : Int) ∧ Lf w wr n0 n1 n2 n3 n4 n5 l s k x (it (lnN l s k x 1) j v)) (fun t _ => 80 - (intOf t).toNat)
    case atStart => exact ⟨0, by omega, rfl, by rw [it_zero]; exact H0.out⟩
    obtain ⟨j, hj, rfl, hf⟩ := hrel
    clear H0
    have hS := it_succ (lnN l s k x 1) j v
    have hRF : runN l s k x 1 v = it (lnN l s k x 1) 80 v := rfl
    generalize hvs : it (lnN l s k x 1) j v = vs at *
    have HVS := Lib.hid hvs
    have HRF := Lib.hid hRF
    clear hRF
    rcases Nat.lt_or_ge j 80 with hlt | hge
    · obtain ⟨f, hfq⟩ : ∃ f, f = j / 16 := ⟨_, rfl⟩
      obtain ⟨b, hbq⟩ : ∃ b, b = 4 - f := ⟨_, rfl⟩
      have hq1 : (j : Int).tdiv 16 = (f : Int) := by rw [Int.tdiv_eq_ediv_of_nonneg (by omega)]; omega
      have hq2 : (4 : Int) - (f : Int) = ((4 - f : Nat) : Int) := by omega
      have hf5 : f < 5 := by omega
      have i5 : ¬ (5 : Int) ≤ (f : Int) := by omega
      have i80 : ¬ (80 : Int) ≤ (j : Int) := by omega
      have hSS : lnN l s k x 1 j vs = [gt vs 0#32 4, rl (gt vs 0#32 0 + mixF b (gt vs 0#32 1) (gt vs 0#32 2) (gt vs 0#32 3) + gt x 0#32 (gt l 0 j) + gt k 0#32 f) (gt s 0 j) + gt vs 0#32 4, gt vs 0#32 1, rl (gt vs 0#32 2) 10, gt vs 0#32 3] := by unfold lnN; rw [hbq, hfq]; rfl
      rw [hSS] at hS
      have hl16 := HL16.out j hlt
      have hs32 := HS32.out j hlt
      have cl := hf.cR j hlt
      have cs := hf.cS j hlt
      have ck := hf.cK f hf5
      have cx := hf.cX _ hl16
      have c0 := hf.cV 0 (by omega)
      have c1 := hf.cV 1 (by omega)
      have c2 := hf.cV 2 (by omega)
      have c3 := hf.cV 3 (by omega)
      have c4 := hf.cV 4 (by omega)
      generalize gt l 0 j = lq at *
      generalize gt s 0 j = sq at *
      have i16 : ¬ (16 : Int) ≤ (lq : Int) := by omega
      have HM0 := fun a1 a2 a3 W => mix54i b (((4 - f : Nat) : Int)) (by omega) (by omega) a1 a2 a3 W
      have HR0 := fun y W => left51i y (sq : Int) sq rfl (by omega) W
      have HS := Lib.hid hS
      have HF := Lib.hid hf
      have HR : Hid (Arr wr n0 71 (m32 vs)) := hf.Vv
      have HZ := Lib.hid (show (m32 vs).toArray.size = 5 by rw [List.size_toArray, m32_len, hf.lv])
      clear hS hSS hf hvs hbq hfq hl16 hs32
      generalize gt vs 0#32 0 = a0 at *
      generalize gt vs 0#32 1 = a1 at *
      generalize gt vs 0#32 2 = a2 at *
      generalize gt vs 0#32 3 = a3 at *
      generalize gt vs 0#32 4 = a4 at *
      generalize gt x 0#32 lq = xq at *
      generalize gt k 0#32 f = kf at *
      have HM := Lib.hid (HM0 a1 a2 a3)
      have HR1 := Lib.hid (HR0 (a0 + mixF b a1 a2 a3 + xq + kf))
      have HR2 := Lib.hid (fun W => left51i a2 10 10 rfl (by decide) W)
      clear HM0 HR0
      obtain ⟨us, hus⟩ : ∃ us : V, us = [a4, rl (a0 + mixF b a1 a2 a3 + xq + kf) sq + a4, a1, rl a2 10, a3] := ⟨_, rfl⟩
      have HUE : Hid ((m32 us).toArray = #[.int .u32 (n32 a4), .int .u32 (n32 (rl (a0 + mixF b a1 a2 a3 + xq + kf) sq + a4)), .int .u32 (n32 a1), .int .u32 (n32 (rl a2 10)), .int .u32 (n32 a3)]) := by rw [hus]; rfl
      have hul : us.length = 5 := by rw [hus]; rfl
      have HUL := Lib.hid hul
      have HU1 : Hid ((Try.prog.info? 71).map (·.size) = some (m32 us).toArray.size) := by rw [show (m32 us).toArray.size = 5 by simp [m32_len, hul]]; exact R3.info71
      have HU2 : Hid ((m32 vs).toArray.size = (m32 us).toArray.size) := HZ.out.trans (show (5 : Nat) = (m32 us).toArray.size by simp [m32_len, hul])
      have HU3 := Lib.hid (show (m32 us).toArray.all (·.oneCell') = true by simp [m32, Value.oneCell'])
      have HS2 : Hid (it (lnN l s k x 1) (j + 1) v = us) := by rw [hus]; exact HS.out
      clear hus hul
      go_wp2_with fail
      refine wp_region_q (by kernel_rfl) (by kernel_rfl) ?_
      iterate 9 (refine wpC_run (by rfl) rfl (fun K hK => ?_); go_wp2)
      refine wpC_call 54 _ _ (by rfl) (by go_simp) (HM.out _) ?_
      simp only [Act.put, List.setIfInBounds_toArray, List.set_cons_zero, List.set_cons_succ]
      iterate 15 (refine wpC_run (by rfl) rfl (fun K hK => ?_); go_wp2)
      refine wpC_call 51 _ _ (by rfl) (by go_simp) (HR1.out _) ?_
      simp only [Act.put, List.setIfInBounds_toArray, List.set_cons_zero, List.set_cons_succ]
      iterate 4 (refine wpC_run (by rfl) rfl (fun K hK => ?_); go_wp2)
      refine wpC_nil ?_
      go_wp2_with fail
      refine wp_region_c 11 (by kernel_rfl) (by kernel_rfl) ?_
      simp only [List.take_succ_cons, List.take_zero, List.drop_succ_cons, List.drop_zero]
      iterate 7 (refine wpC_run (by rfl) rfl (fun K hK => ?_); go_wp2)
      refine wpC_call 51 _ _ (by rfl) (by go_simp) (HR2.out _) ?_
      simp only [Act.put, List.setIfInBounds_toArray, List.set_cons_zero, List.set_cons_succ]
      iterate 3 (refine wpC_run (by rfl) rfl (fun K hK => ?_); go_wp2)
      refine wpC_nil ?_
      go_wp2_with (first
        | (refine wpList_store_row rfl 71 (.tmp 6) (.tmp 64) rfl n0 (m32 us).toArray rfl (by rw [HUE.out]; rfl) 71 (m32 vs).toArray HR.out HU1.out HU2.out HU3.out ?_))
      go_roundw
      case rel =>
        refine ⟨j + 1, by omega, by go_num, ?_⟩
        rw [HS2.out]
        exact HF.out.drew.drew.setV HUL.out
      case measure => simp [intOf]; omega
    obtain rfl : j = 80 := by omega
    rw [show ((80 : Nat) : Int) = 80 from rfl]
    have hs : (m32 vs).toArray.size = 5 := by rw [List.size_toArray, m32_len, hf.lv]
    have hi0 : (Try.prog.info? 71).map (·.size) = some (m32 vs).toArray.size := by rw [hs]; exact R3.info71
    have hz0 : (m32 (List.replicate 5 0#32)).toArray.size = (m32 vs).toArray.size := by rw [hs]; rfl
    have h1 : (m32 vs).toArray.all (·.oneCell') = true := by simp [m32, Value.oneCell']
    have HV : Hid (runN l s k x 1 v = vs) := HRF.out.trans HVS.out
    have HF := Lib.hid hf
    clear hf hS hvs HRF
    go_wp2_with (first
      | (refine wpList_load_row rfl 71 (.tmp 6) rfl n0 rfl 71 (m32 vs).toArray (0, 0) _ HF.out.Vv Try.underlying71 rfl hi0 ?_)
      | (refine wpList_store_row rfl 71 (.tmp 12) (.tmp 65) rfl n5 (m32 vs).toArray rfl rfl 71 (m32 (List.replicate 5 0#32)).toArray HF.out.Z hi0 hz0 h1 ?_))
    refine bodyPost_ret (results_cell_row (P := Try.prog) rfl _ _ n5 71 (m32 vs).toArray (0, 0) _ rfl (setRow_heap wr _ _ _ _ _ HF.out.Z) Try.underlying71 rfl hi0) rfl ⟨?_, below_setRow HF.out.W (by have := HF.out.e0; have := HF.out.e1; have := HF.out.e2; have := HF.out.e3; have := HF.out.e4; have := HF.out.e5; omega) _⟩
    rw [HV.out]
end Go.Proofs.Ytnlcndlfdnogaaa.Ln
