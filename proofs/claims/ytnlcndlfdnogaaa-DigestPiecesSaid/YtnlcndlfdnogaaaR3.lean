/- run of a line, walked. (printed by gen_r3.py) -/
import Derived.Test.YtnlcndlfdnogaaaR2
set_option linter.unusedVariables false
set_option linter.unusedSimpArgs false
namespace Go.Proofs.Ytnlcndlfdnogaaa.R3
open Go.RowKit
open D0 M D2 D3 Rg K1 C1 S0 S1 S2 Z S3 S4 S5 R0
attribute [local go_sem] xor64 and64 or64 xor32 and32 or32 andNot32 add64 add32 unary64 unary32 not64 not32
attribute [local go_sem high] shiftl64 shiftr64 shiftl32 shiftr32
attribute [local irreducible] it gt rl mixF
theorem info71 : (Try.prog.info? 71).map (·.size) = some 5 := by kernel_rfl
/-- A line in memory. -/
def Ln (W : World) (g o : Nat) (l s : List Byte) (k : V) : Prop := ∃ t vs, Arr W g t vs ∧ ∀ i v, (nums l ++ nums s ++ m32 k)[i]? = some v → vs[o + i]? = some v
theorem Ln.keep {W W' : World} {g o : Nat} {l s : List Byte} {k : V} (h : Ln W g o l s k) (hs : W'.heap[g]? = W.heap[g]?) : Ln W' g o l s k := by
  obtain ⟨t, vs, ha, hv⟩ := h
  exact ⟨t, vs, ha.keep hs, hv⟩
theorem Ln.lt {W : World} {g o : Nat} {l s : List Byte} {k : V} (h : Ln W g o l s k) : g < W.heap.size := by
  obtain ⟨t, vs, ha, hv⟩ := h
  exact ha.lt
theorem Ln.cl {W : World} {g o : Nat} {l s : List Byte} {k : V} (h : Ln W g o l s k) (hl : l.length = 80) (i : Nat) (hi : i < 80) : W.cell? ⟨g, o + i, none⟩ = some (.int .u8 (((gt l 0#8 i).toNat : Nat) : Int)) := by
  obtain ⟨t, vs, ha, hv⟩ := h
  exact ha.cell (hv i _ (by rw [List.append_assoc, List.getElem?_append_left (by simp; omega)]; exact nums_getD (by omega)))
theorem Ln.cs {W : World} {g o : Nat} {l s : List Byte} {k : V} (h : Ln W g o l s k) (hl : l.length = 80) (hs : s.length = 80) (i : Nat) (hi : i < 80) : W.cell? ⟨g, o + 80 + i, none⟩ = some (.int .u8 (((gt s 0#8 i).toNat : Nat) : Int)) := by
  obtain ⟨t, vs, ha, hv⟩ := h
  rw [Nat.add_assoc]
  exact ha.cell (hv _ _ (by rw [List.append_assoc, List.getElem?_append_right (by simp; omega), List.getElem?_append_left (by simp; omega), nums_length, hl, Nat.add_sub_cancel_left]; exact nums_getD (by omega)))
theorem Ln.ck {W : World} {g o : Nat} {l s : List Byte} {k : V} (h : Ln W g o l s k) (hl : l.length = 80) (hs : s.length = 80) (hk : k.length = 5) (i : Nat) (hi : i < 5) : W.cell? ⟨g, o + 160 + i, none⟩ = some (.int .u32 (n32 (gt k 0#32 i))) := by
  obtain ⟨t, vs, ha, hv⟩ := h
  rw [Nat.add_assoc]
  exact ha.cell (hv _ _ (by rw [List.getElem?_append_right (by simp; omega)]; simp only [List.length_append, nums_length, hl, hs, Nat.add_sub_cancel_left]; exact m32_get (by omega)))
/-- The frame. -/
structure Rf (w W : World) (n0 n1 gl ol gx : Nat) (l s : List Byte) (k x v : V) : Prop where
  e0 : n0 = w.heap.size
  e1 : n1 = w.heap.size + 1
  hgl : gl < w.heap.size
  hgx : gx < w.heap.size
  ll : l.length = 80
  ls : s.length = 80
  lk : k.length = 5
  lx : x.length = 16
  lv : v.length = 5
  Vv : Arr W n0 71 (m32 v)
  Z : Arr W n1 71 (m32 (List.replicate 5 0#32))
  X : Arr W gx 77 (m32 x)
  L : Ln W gl ol l s k
  W : Below w.heap.size w W
section
variable {w W : World} {n0 n1 gl ol gx : Nat} {l s : List Byte} {k x v us : V}
theorem Rf.drew (f : Rf w W n0 n1 gl ol gx l s k x v) : Rf w W.drew n0 n1 gl ol gx l s k x v := ⟨f.e0, f.e1, f.hgl, f.hgx, f.ll, f.ls, f.lk, f.lx, f.lv, f.Vv, f.Z, f.X, f.L, f.W.drew⟩
theorem Rf.setV (f : Rf w W n0 n1 gl ol gx l s k x v) (hu : us.length = 5) : Rf w (W.setRow n0 (m32 us).toArray) n0 n1 gl ol gx l s k x us := by
  obtain ⟨e0, e1, hgl, hgx, ll, ls, lk, lx, lv, Vv, Z, X, L, B⟩ := f
  exact ⟨e0, e1, hgl, hgx, ll, ls, lk, lx, hu, setRow_heap _ _ _ _ _ _ Vv, Z.keep (setRow_other _ _ _ _ (by omega)), X.keep (setRow_other _ _ _ _ (by omega)), L.keep (setRow_other _ _ _ _ (by omega)), below_setRow B (by omega) _⟩
theorem Rf.cV (f : Rf w W n0 n1 gl ol gx l s k x v) (i : Nat) (hi : i < 5) : W.cell? ⟨n0, i, none⟩ = some (.int .u32 (n32 (gt v 0#32 i))) := f.Vv.cell (m32_get (by rw [f.lv]; exact hi))
theorem Rf.cX (f : Rf w W n0 n1 gl ol gx l s k x v) (i : Nat) (hi : i < 16) : W.cell? ⟨gx, i, none⟩ = some (.int .u32 (n32 (gt x 0#32 i))) := f.X.cell (m32_get (by rw [f.lx]; exact hi))
end
theorem small8 (n : Nat) (h : n < 256) : wrap64 (n : Int) = (n : Int) := by unfold wrap64; omega
theorem it_zero {σ : Type} (f : Nat → σ → σ) (s : σ) : it f 0 s = s := by unfold it; rfl
theorem mixed53i (n : Nat) (ni : Int) (e : ni = (n : Int)) (hn : n < 5) (x y z : BitVec 32) (w : World) : Calls Try.prog 53 #[.int .i64 ni, .int .u32 (n32 x), .int .u32 (n32 y), .int .u32 (n32 z)] w fun e w' => e = .returned (.int .u32 (n32 (mixF n x y z))) ∧ w' = w := by
  subst e
  exact mixed53 n hn x y z w
set_option maxRecDepth 100000 in
set_option maxHeartbeats 4000000 in
theorem run38 (w : World) (gl ol gx : Nat) (l s : List Byte) (k x v : V) (back : Nat) (bi : Int) (hback : back = 0 ∧ bi = 0 ∨ back = 1 ∧ bi = 1) (ll : l.length = 80) (ls : s.length = 80) (lk : k.length = 5) (lx : x.length = 16) (lv : v.length = 5) (hl16 : ∀ j, j < 80 → (gt l 0#8 j).toNat < 16) (hs32 : ∀ j, j < 80 → (gt s 0#8 j).toNat < 32) (hX : Arr w gx 77 (m32 x)) (hL : Ln w gl ol l s k) :
    Calls Try.prog 38 #[.pointer (some ⟨gl, ol, none⟩), .agg (m32 v).toArray, .pointer (some ⟨gx, 0, none⟩), .int .i64 bi] w fun e w' => e = .returned (.agg (m32 (runF l s k x back v)).toArray) ∧ Below w.heap.size w w' := by
  have H0 : Hid (Rf w ((w.alloc (.cells (m32 v).toArray 71)).alloc (.cells (m32 (List.replicate 5 0#32)).toArray 71)) w.heap.size (w.heap.size + 1) gl ol gx l s k x v) := by
    have s1 := size_alloc w (.cells (m32 v).toArray 71)
    have z1 := Arr.new w (m32 v) 71
    have z2 := Arr.new (w.alloc (.cells (m32 v).toArray 71)) (m32 (List.replicate 5 0#32)) 71
    rw [s1] at z2
    have hB : Below w.heap.size w ((w.alloc (.cells (m32 v).toArray 71)).alloc (.cells (m32 (List.replicate 5 0#32)).toArray 71)) := ((Below.refl _ w).alloc (Nat.le_refl _) _).alloc (by omega) _
    exact ⟨rfl, rfl, hL.lt, hX.lt, ll, ls, lk, lx, lv, z1.alloc _, z2, (hX.alloc _).alloc _, hL.keep (hB.block _ hL.lt), hB⟩
  have HW : Hid (((w.alloc (.cells (m32 v).toArray 71)).alloc (.cells (m32 (List.replicate 5 0#32)).toArray 71)) = ((w.alloc (.cells (m32 v).toArray 71)).alloc (.cells #[.int .u32 0, .int .u32 0, .int .u32 0, .int .u32 0, .int .u32 0] 71))) := rfl
  have HL16 := Lib.hid hl16
  have HS32 := Lib.hid hs32
  clear hl16 hs32 hX hL ll ls lk lx lv
  rcases hback with ⟨rfl, rfl⟩ | ⟨rfl, rfl⟩
  · go_enter Try.func38, Try.ntmps38
    go_wp2_with fail
    rw [← HW.out]
    clear HW
    generalize ((w.alloc (.cells (m32 v).toArray 71)).alloc (.cells (m32 (List.replicate 5 0#32)).toArray 71)) = wx at *
    generalize w.heap.size + 1 = n1 at *
    generalize hn0 : w.heap.size = n0 at *
    have HN0 := Lib.hid hn0
    clear hn0
    go_loopw [12] (fun t wr => ∃ j : Nat, j ≤ 80 ∧ t = .int .i64 (j : Int) ∧ Rf w wr n0 n1 gl ol gx l s k x (it (lnS l s k x 0) j v)) (fun t _ => 80 - (intOf t).toNat)
    case atStart => exact ⟨0, by omega, rfl, by rw [it_zero]; exact H0.out⟩
    obtain ⟨j, hj, rfl, hf⟩ := hrel
    clear H0
    have hS := it_succ (lnS l s k x 0) j v
    have hRF : runF l s k x 0 v = it (lnS l s k x 0) 80 v := rfl
    generalize hvs : it (lnS l s k x 0) j v = vs at *
    have HVS := Lib.hid hvs
    have HRF := Lib.hid hRF
    clear hRF
    rcases Nat.lt_or_ge j 80 with hlt | hge
    · obtain ⟨f, hfq⟩ : ∃ f, f = j / 16 := ⟨_, rfl⟩
      obtain ⟨b, hbq⟩ : ∃ b, b = f := ⟨_, rfl⟩
      have hq1 : (j : Int).tdiv 16 = (f : Int) := by rw [Int.tdiv_eq_ediv_of_nonneg (by omega)]; omega
      have hq2 : (4 : Int) - (f : Int) = ((4 - f : Nat) : Int) := by omega
      have hf5 : f < 5 := by omega
      have i5 : ¬ (5 : Int) ≤ (f : Int) := by omega
      have i80 : ¬ (80 : Int) ≤ (j : Int) := by omega
      have hSS : lnS l s k x 0 j vs = [gt vs 0#32 4, rl (gt vs 0#32 0 + mixF b (gt vs 0#32 1) (gt vs 0#32 2) (gt vs 0#32 3) + gt x 0#32 (gt l 0#8 j).toNat + gt k 0#32 f) (gt s 0#8 j).toNat + gt vs 0#32 4, gt vs 0#32 1, rl (gt vs 0#32 2) 10, gt vs 0#32 3] := by unfold lnS; rw [hbq, hfq]; rfl
      rw [hSS] at hS
      have hl16 := HL16.out j hlt
      have hs32 := HS32.out j hlt
      have cl := hf.L.cl hf.ll j hlt
      have cs := hf.L.cs hf.ll hf.ls j hlt
      have ck := hf.L.ck hf.ll hf.ls hf.lk f hf5
      have cx := hf.cX _ hl16
      have c0 := hf.cV 0 (by omega)
      have c1 := hf.cV 1 (by omega)
      have c2 := hf.cV 2 (by omega)
      have c3 := hf.cV 3 (by omega)
      have c4 := hf.cV 4 (by omega)
      generalize (gt l 0#8 j).toNat = lq at *
      generalize (gt s 0#8 j).toNat = sq at *
      have i16 : ¬ (16 : Int) ≤ (lq : Int) := by omega
      have HM0 := fun a1 a2 a3 W => mixed53i b ((f : Int)) (by omega) (by omega) a1 a2 a3 W
      have HR0 := fun y W => rot52 y (sq : Int) sq (by omega) W
      have HS := Lib.hid hS
      have HF := Lib.hid hf
      have HR : Hid (Arr wr n0 71 (m32 vs)) := hf.Vv
      have HZ := Lib.hid (show (m32 vs).toArray.size = 5 by rw [List.size_toArray, m32_len, hf.lv])
      have hwl := small8 lq (by omega)
      have hws := small8 sq (by omega)
      clear hS hSS hf hvs hbq hfq hl16 hs32
      generalize gt vs 0#32 0 = a0 at *
      generalize gt vs 0#32 1 = a1 at *
      generalize gt vs 0#32 2 = a2 at *
      generalize gt vs 0#32 3 = a3 at *
      generalize gt vs 0#32 4 = a4 at *
      generalize gt x 0#32 lq = xq at *
      generalize gt k 0#32 f = kf at *
      have HM := Lib.hid (HM0 a1 a2 a3)
      have HR1 := Lib.hid (HR0 (a0 + mixF b a1 a2 a3 + xq + kf))
      have HR2 := Lib.hid (fun W => rot52 a2 10 10 (by decide) W)
      clear HM0 HR0
      obtain ⟨us, hus⟩ : ∃ us : V, us = [a4, rl (a0 + mixF b a1 a2 a3 + xq + kf) sq + a4, a1, rl a2 10, a3] := ⟨_, rfl⟩
      have HUE : Hid ((m32 us).toArray = #[.int .u32 (n32 a4), .int .u32 (n32 (rl (a0 + mixF b a1 a2 a3 + xq + kf) sq + a4)), .int .u32 (n32 a1), .int .u32 (n32 (rl a2 10)), .int .u32 (n32 a3)]) := by rw [hus]; rfl
      have hul : us.length = 5 := by rw [hus]; rfl
      have HUL := Lib.hid hul
      have HU1 : Hid ((Try.prog.info? 71).map (·.size) = some (m32 us).toArray.size) := by rw [show (m32 us).toArray.size = 5 by simp [m32_len, hul]]; exact info71
      have HU2 : Hid ((m32 vs).toArray.size = (m32 us).toArray.size) := HZ.out.trans (show (5 : Nat) = (m32 us).toArray.size by simp [m32_len, hul])
      have HU3 := Lib.hid (show (m32 us).toArray.all (·.oneCell') = true by simp [m32, Value.oneCell'])
      have HS2 : Hid (it (lnS l s k x 0) (j + 1) v = us) := by rw [hus]; exact HS.out
      clear hus hul
      go_wp2_with fail
      refine wp_region_q (by kernel_rfl) (by kernel_rfl) ?_
      iterate 9 (refine wpC_run (by rfl) rfl (fun K hK => ?_); go_wp2)
      refine wpC_call 53 _ _ (by rfl) (by go_simp) (HM.out _) ?_
      simp only [Act.put, List.setIfInBounds_toArray, List.set_cons_zero, List.set_cons_succ]
      iterate 4 (refine wpC_run (by rfl) rfl (fun K hK => ?_); go_wp2)
      refine wpC_val (.pointer (some ⟨gl, ol, none⟩)) (by rfl) (by go_simp) ?_
      simp only [Act.put, List.setIfInBounds_toArray, List.set_cons_zero, List.set_cons_succ]
      iterate 3 (refine wpC_run (by rfl) rfl (fun K hK => ?_); go_wp2)
      refine wpC_val (.pointer (some ⟨gx, 0, none⟩)) (by rfl) (by go_simp) ?_
      simp only [Act.put, List.setIfInBounds_toArray, List.set_cons_zero, List.set_cons_succ]
      iterate 6 (refine wpC_run (by rfl) rfl (fun K hK => ?_); go_wp2)
      refine wpC_val (.pointer (some ⟨gl, ol, none⟩)) (by rfl) (by go_simp) ?_
      simp only [Act.put, List.setIfInBounds_toArray, List.set_cons_zero, List.set_cons_succ]
      iterate 6 (refine wpC_run (by rfl) rfl (fun K hK => ?_); go_wp2)
      refine wpC_val (.pointer (some ⟨gl, ol, none⟩)) (by rfl) (by go_simp) ?_
      simp only [Act.put, List.setIfInBounds_toArray, List.set_cons_zero, List.set_cons_succ]
      iterate 4 (refine wpC_run (by rfl) rfl (fun K hK => ?_); go_wp2)
      refine wpC_call 52 _ _ (by rfl) (by go_simp) (HR1.out _) ?_
      simp only [Act.put, List.setIfInBounds_toArray, List.set_cons_zero, List.set_cons_succ]
      iterate 4 (refine wpC_run (by rfl) rfl (fun K hK => ?_); go_wp2)
      refine wpC_nil ?_
      go_wp2_with fail
      refine wp_region_c 11 (by kernel_rfl) (by kernel_rfl) ?_
      simp only [List.take_succ_cons, List.take_zero, List.drop_succ_cons, List.drop_zero]
      iterate 7 (refine wpC_run (by rfl) rfl (fun K hK => ?_); go_wp2)
      refine wpC_call 52 _ _ (by rfl) (by go_simp) (HR2.out _) ?_
      simp only [Act.put, List.setIfInBounds_toArray, List.set_cons_zero, List.set_cons_succ]
      iterate 3 (refine wpC_run (by rfl) rfl (fun K hK => ?_); go_wp2)
      refine wpC_nil ?_
      go_wp2_with (first
        | (refine wpList_store_row rfl 71 (.tmp 5) (.tmp 72) rfl n0 (m32 us).toArray rfl (by rw [HUE.out]; rfl) 71 (m32 vs).toArray HR.out HU1.out HU2.out HU3.out ?_))
      go_roundw
      case rel =>
        refine ⟨j + 1, by omega, by go_num, ?_⟩
        rw [HS2.out]
        exact HF.out.drew.drew.setV HUL.out
      case measure => simp [intOf]; omega
    obtain rfl : j = 80 := by omega
    rw [show ((80 : Nat) : Int) = 80 from rfl]
    have hs : (m32 vs).toArray.size = 5 := by rw [List.size_toArray, m32_len, hf.lv]
    have hi0 : (Try.prog.info? 71).map (·.size) = some (m32 vs).toArray.size := by rw [hs]; exact info71
    have hz0 : (m32 (List.replicate 5 0#32)).toArray.size = (m32 vs).toArray.size := by rw [hs]; rfl
    have h1 : (m32 vs).toArray.all (·.oneCell') = true := by simp [m32, Value.oneCell']
    have HV : Hid (runF l s k x 0 v = vs) := HRF.out.trans HVS.out
    have HF := Lib.hid hf
    clear hf hS hvs HRF
    go_wp2_with (first
      | (refine wpList_load_row rfl 71 (.tmp 5) rfl n0 rfl 71 (m32 vs).toArray (0, 0) _ HF.out.Vv Try.underlying71 rfl hi0 ?_)
      | (refine wpList_store_row rfl 71 (.tmp 8) (.tmp 74) rfl n1 (m32 vs).toArray rfl rfl 71 (m32 (List.replicate 5 0#32)).toArray HF.out.Z hi0 hz0 h1 ?_))
    refine bodyPost_ret (results_cell_row (P := Try.prog) rfl _ _ n1 71 (m32 vs).toArray (0, 0) _ rfl (setRow_heap wr _ _ _ _ _ HF.out.Z) Try.underlying71 rfl hi0) rfl ⟨?_, below_setRow HF.out.W (by have := HF.out.e1; omega) _⟩
    rw [HV.out]
  · go_enter Try.func38, Try.ntmps38
    go_wp2_with fail
    rw [← HW.out]
    clear HW
    generalize ((w.alloc (.cells (m32 v).toArray 71)).alloc (.cells (m32 (List.replicate 5 0#32)).toArray 71)) = wx at *
    generalize w.heap.size + 1 = n1 at *
    generalize hn0 : w.heap.size = n0 at *
    have HN0 := Lib.hid hn0
    clear hn0
    go_loopw [12] (fun t wr => ∃ j : Nat, j ≤ 80 ∧ t = .int .i64 (j : Int) ∧ Rf w wr n0 n1 gl ol gx l s k x (it (lnS l s k x 1) j v)) (fun t _ => 80 - (intOf t).toNat)
    case atStart => exact ⟨0, by omega, rfl, by rw [it_zero]; exact H0.out⟩
    obtain ⟨j, hj, rfl, hf⟩ := hrel
    clear H0
    have hS := it_succ (lnS l s k x 1) j v
    have hRF : runF l s k x 1 v = it (lnS l s k x 1) 80 v := rfl
    generalize hvs : it (lnS l s k x 1) j v = vs at *
    have HVS := Lib.hid hvs
    have HRF := Lib.hid hRF
    clear hRF
    rcases Nat.lt_or_ge j 80 with hlt | hge
    · obtain ⟨f, hfq⟩ : ∃ f, f = j / 16 := ⟨_, rfl⟩
      obtain ⟨b, hbq⟩ : ∃ b, b = 4 - f := ⟨_, rfl⟩
      have hq1 : (j : Int).tdiv 16 = (f : Int) := by rw [Int.tdiv_eq_ediv_of_nonneg (by omega)]; omega
      have hq2 : (4 : Int) - (f : Int) = ((4 - f : Nat) : Int) := by omega
      have hf5 : f < 5 := by omega
      have i5 : ¬ (5 : Int) ≤ (f : Int) := by omega
      have i80 : ¬ (80 : Int) ≤ (j : Int) := by omega
      have hSS : lnS l s k x 1 j vs = [gt vs 0#32 4, rl (gt vs 0#32 0 + mixF b (gt vs 0#32 1) (gt vs 0#32 2) (gt vs 0#32 3) + gt x 0#32 (gt l 0#8 j).toNat + gt k 0#32 f) (gt s 0#8 j).toNat + gt vs 0#32 4, gt vs 0#32 1, rl (gt vs 0#32 2) 10, gt vs 0#32 3] := by unfold lnS; rw [hbq, hfq]; rfl
      rw [hSS] at hS
      have hl16 := HL16.out j hlt
      have hs32 := HS32.out j hlt
      have cl := hf.L.cl hf.ll j hlt
      have cs := hf.L.cs hf.ll hf.ls j hlt
      have ck := hf.L.ck hf.ll hf.ls hf.lk f hf5
      have cx := hf.cX _ hl16
      have c0 := hf.cV 0 (by omega)
      have c1 := hf.cV 1 (by omega)
      have c2 := hf.cV 2 (by omega)
      have c3 := hf.cV 3 (by omega)
      have c4 := hf.cV 4 (by omega)
      generalize (gt l 0#8 j).toNat = lq at *
      generalize (gt s 0#8 j).toNat = sq at *
      have i16 : ¬ (16 : Int) ≤ (lq : Int) := by omega
      have HM0 := fun a1 a2 a3 W => mixed53i b (((4 - f : Nat) : Int)) (by omega) (by omega) a1 a2 a3 W
      have HR0 := fun y W => rot52 y (sq : Int) sq (by omega) W
      have HS := Lib.hid hS
      have HF := Lib.hid hf
      have HR : Hid (Arr wr n0 71 (m32 vs)) := hf.Vv
      have HZ := Lib.hid (show (m32 vs).toArray.size = 5 by rw [List.size_toArray, m32_len, hf.lv])
      have hwl := small8 lq (by omega)
      have hws := small8 sq (by omega)
      clear hS hSS hf hvs hbq hfq hl16 hs32
      generalize gt vs 0#32 0 = a0 at *
      generalize gt vs 0#32 1 = a1 at *
      generalize gt vs 0#32 2 = a2 at *
      generalize gt vs 0#32 3 = a3 at *
      generalize gt vs 0#32 4 = a4 at *
      generalize gt x 0#32 lq = xq at *
      generalize gt k 0#32 f = kf at *
      have HM := Lib.hid (HM0 a1 a2 a3)
      have HR1 := Lib.hid (HR0 (a0 + mixF b a1 a2 a3 + xq + kf))
      have HR2 := Lib.hid (fun W => rot52 a2 10 10 (by decide) W)
      clear HM0 HR0
      obtain ⟨us, hus⟩ : ∃ us : V, us = [a4, rl (a0 + mixF b a1 a2 a3 + xq + kf) sq + a4, a1, rl a2 10, a3] := ⟨_, rfl⟩
      have HUE : Hid ((m32 us).toArray = #[.int .u32 (n32 a4), .int .u32 (n32 (rl (a0 + mixF b a1 a2 a3 + xq + kf) sq + a4)), .int .u32 (n32 a1), .int .u32 (n32 (rl a2 10)), .int .u32 (n32 a3)]) := by rw [hus]; rfl
      have hul : us.length = 5 := by rw [hus]; rfl
      have HUL := Lib.hid hul
      have HU1 : Hid ((Try.prog.info? 71).map (·.size) = some (m32 us).toArray.size) := by rw [show (m32 us).toArray.size = 5 by simp [m32_len, hul]]; exact info71
      have HU2 : Hid ((m32 vs).toArray.size = (m32 us).toArray.size) := HZ.out.trans (show (5 : Nat) = (m32 us).toArray.size by simp [m32_len, hul])
      have HU3 := Lib.hid (show (m32 us).toArray.all (·.oneCell') = true by simp [m32, Value.oneCell'])
      have HS2 : Hid (it (lnS l s k x 1) (j + 1) v = us) := by rw [hus]; exact HS.out
      clear hus hul
      go_wp2_with fail
      refine wp_region_q (by kernel_rfl) (by kernel_rfl) ?_
      iterate 9 (refine wpC_run (by rfl) rfl (fun K hK => ?_); go_wp2)
      refine wpC_call 53 _ _ (by rfl) (by go_simp) (HM.out _) ?_
      simp only [Act.put, List.setIfInBounds_toArray, List.set_cons_zero, List.set_cons_succ]
      iterate 4 (refine wpC_run (by rfl) rfl (fun K hK => ?_); go_wp2)
      refine wpC_val (.pointer (some ⟨gl, ol, none⟩)) (by rfl) (by go_simp) ?_
      simp only [Act.put, List.setIfInBounds_toArray, List.set_cons_zero, List.set_cons_succ]
      iterate 3 (refine wpC_run (by rfl) rfl (fun K hK => ?_); go_wp2)
      refine wpC_val (.pointer (some ⟨gx, 0, none⟩)) (by rfl) (by go_simp) ?_
      simp only [Act.put, List.setIfInBounds_toArray, List.set_cons_zero, List.set_cons_succ]
      iterate 6 (refine wpC_run (by rfl) rfl (fun K hK => ?_); go_wp2)
      refine wpC_val (.pointer (some ⟨gl, ol, none⟩)) (by rfl) (by go_simp) ?_
      simp only [Act.put, List.setIfInBounds_toArray, List.set_cons_zero, List.set_cons_succ]
      iterate 6 (refine wpC_run (by rfl) rfl (fun K hK => ?_); go_wp2)
      refine wpC_val (.pointer (some ⟨gl, ol, none⟩)) (by rfl) (by go_simp) ?_
      simp only [Act.put, List.setIfInBounds_toArray, List.set_cons_zero, List.set_cons_succ]
      iterate 4 (refine wpC_run (by rfl) rfl (fun K hK => ?_); go_wp2)
      refine wpC_call 52 _ _ (by rfl) (by go_simp) (HR1.out _) ?_
      simp only [Act.put, List.setIfInBounds_toArray, List.set_cons_zero, List.set_cons_succ]
      iterate 4 (refine wpC_run (by rfl) rfl (fun K hK => ?_); go_wp2)
      refine wpC_nil ?_
      go_wp2_with fail
      refine wp_region_c 11 (by kernel_rfl) (by kernel_rfl) ?_
      simp only [List.take_succ_cons, List.take_zero, List.drop_succ_cons, List.drop_zero]
      iterate 7 (refine wpC_run (by rfl) rfl (fun K hK => ?_); go_wp2)
      refine wpC_call 52 _ _ (by rfl) (by go_simp) (HR2.out _) ?_
      simp only [Act.put, List.setIfInBounds_toArray, List.set_cons_zero, List.set_cons_succ]
      iterate 3 (refine wpC_run (by rfl) rfl (fun K hK => ?_); go_wp2)
      refine wpC_nil ?_
      go_wp2_with (first
        | (refine wpList_store_row rfl 71 (.tmp 5) (.tmp 72) rfl n0 (m32 us).toArray rfl (by rw [HUE.out]; rfl) 71 (m32 vs).toArray HR.out HU1.out HU2.out HU3.out ?_))
      go_roundw
      case rel =>
        refine ⟨j + 1, by omega, by go_num, ?_⟩
        rw [HS2.out]
        exact HF.out.drew.drew.setV HUL.out
      case measure => simp [intOf]; omega
    obtain rfl : j = 80 := by omega
    rw [show ((80 : Nat) : Int) = 80 from rfl]
    have hs : (m32 vs).toArray.size = 5 := by rw [List.size_toArray, m32_len, hf.lv]
    have hi0 : (Try.prog.info? 71).map (·.size) = some (m32 vs).toArray.size := by rw [hs]; exact info71
    have hz0 : (m32 (List.replicate 5 0#32)).toArray.size = (m32 vs).toArray.size := by rw [hs]; rfl
    have h1 : (m32 vs).toArray.all (·.oneCell') = true := by simp [m32, Value.oneCell']
    have HV : Hid (runF l s k x 1 v = vs) := HRF.out.trans HVS.out
    have HF := Lib.hid hf
    clear hf hS hvs HRF
    go_wp2_with (first
      | (refine wpList_load_row rfl 71 (.tmp 5) rfl n0 rfl 71 (m32 vs).toArray (0, 0) _ HF.out.Vv Try.underlying71 rfl hi0 ?_)
      | (refine wpList_store_row rfl 71 (.tmp 8) (.tmp 74) rfl n1 (m32 vs).toArray rfl rfl 71 (m32 (List.replicate 5 0#32)).toArray HF.out.Z hi0 hz0 h1 ?_))
    refine bodyPost_ret (results_cell_row (P := Try.prog) rfl _ _ n1 71 (m32 vs).toArray (0, 0) _ rfl (setRow_heap wr _ _ _ _ _ HF.out.Z) Try.underlying71 rfl hi0) rfl ⟨?_, below_setRow HF.out.W (by have := HF.out.e1; omega) _⟩
    rw [HV.out]
end Go.Proofs.Ytnlcndlfdnogaaa.R3
