/- ref.stir, walked. (printed by gen_st.py) -/
import Derived.Test.YtnlcndlfdnogaaaBw
set_option linter.unusedVariables false
set_option linter.unusedSimpArgs false
namespace Go.Proofs.Ytnlcndlfdnogaaa.St
open Go.RowKit
open D0 M D2 D3 Rg K1 P Bl
attribute [local go_sem] addw64 xor64 and64 or64 xor32 and32 or32 andNot32 add64 add32 unary64 unary32 not64 not32
attribute [local go_sem high] shiftl64 shiftr64 shiftl32 shiftr32
attribute [local irreducible] gt rl addX rotX addY
theorem info44 : (Try.prog.info? 44).map (·.size) = some 16 := by kernel_rfl
theorem left (x : BitVec 64) (k : Nat) (ki : Int) (e : ki = (k : Int)) (hk : k < 64) (w : World) : Calls Try.prog 42 #[.int .u64 (n64 x), .int .i64 ki] w fun e w' => e = .returned (.int .u64 (n64 (rl x k))) ∧ w' = w := by
  subst e
  exact left42 x k hk w
set_option maxRecDepth 100000 in
set_option maxHeartbeats 4000000 in
theorem stir46 (w : World) (v : L) (a b c d : Nat) (x y : BitVec 64) (ha : a < 16) (hb : b < 16) (hc : c < 16) (hd : d < 16) (hv : v.length = 16) :
    Calls Try.prog 46 #[.agg (m64 v).toArray, .int .i64 (a : Int), .int .i64 (b : Int), .int .i64 (c : Int), .int .i64 (d : Int), .int .u64 (n64 x), .int .u64 (n64 y)] w fun e w' => e = .returned (.agg (m64 (mixG v a b c d x y)).toArray) ∧ Below w.heap.size w w' := by
  have hG : mixG v a b c d x y = rotX (addY (rotX (addX (rotX (addY (rotX (addX v a b x) d a 32) c d) b c 40) a b y) d a 48) c d) b c 1 := rfl
  have HG := Lib.hid hG
  have ia : ¬ (16 : Int) ≤ (a : Int) := by omega
  have ib : ¬ (16 : Int) ≤ (b : Int) := by omega
  have ic : ¬ (16 : Int) ≤ (c : Int) := by omega
  have idd : ¬ (16 : Int) ≤ (d : Int) := by omega
  have HA := Lib.hid ha
  have HB := Lib.hid hb
  have HC := Lib.hid hc
  have HD := Lib.hid hd
  have HA0 : Hid (Arr ((w.alloc (.cells (m64 v).toArray 44)).alloc (.cells #[.int .u64 0, .int .u64 0, .int .u64 0, .int .u64 0, .int .u64 0, .int .u64 0, .int .u64 0, .int .u64 0, .int .u64 0, .int .u64 0, .int .u64 0, .int .u64 0, .int .u64 0, .int .u64 0, .int .u64 0, .int .u64 0] 44)) w.heap.size 44 (m64 v)) := (Arr.new w (m64 v) 44).alloc _
  have HZ0 : Hid (Arr ((w.alloc (.cells (m64 v).toArray 44)).alloc (.cells #[.int .u64 0, .int .u64 0, .int .u64 0, .int .u64 0, .int .u64 0, .int .u64 0, .int .u64 0, .int .u64 0, .int .u64 0, .int .u64 0, .int .u64 0, .int .u64 0, .int .u64 0, .int .u64 0, .int .u64 0, .int .u64 0] 44)) (w.heap.size + 1) 44 (m64 (List.replicate 16 0#64))) := by
    have := Arr.new (w.alloc (.cells (m64 v).toArray 44)) (m64 (List.replicate 16 0#64)) 44
    rw [size_alloc] at this
    exact this
  have HB0 : Hid (Below w.heap.size w ((w.alloc (.cells (m64 v).toArray 44)).alloc (.cells #[.int .u64 0, .int .u64 0, .int .u64 0, .int .u64 0, .int .u64 0, .int .u64 0, .int .u64 0, .int .u64 0, .int .u64 0, .int .u64 0, .int .u64 0, .int .u64 0, .int .u64 0, .int .u64 0, .int .u64 0, .int .u64 0] 44))) := ((Below.refl _ w).alloc (Nat.le_refl _) _).alloc (by rw [size_alloc]; omega) _
  have HV := Lib.hid hv
  clear hv hG ha hb hc hd
  go_enter Try.func46, Try.ntmps46
  go_wp2_with fail
  have H0 : Hid (Mf ((w.alloc (.cells (m64 v).toArray 44)).alloc (.cells #[.int .u64 0, .int .u64 0, .int .u64 0, .int .u64 0, .int .u64 0, .int .u64 0, .int .u64 0, .int .u64 0, .int .u64 0, .int .u64 0, .int .u64 0, .int .u64 0, .int .u64 0, .int .u64 0, .int .u64 0, .int .u64 0] 44)) ((w.alloc (.cells (m64 v).toArray 44)).alloc (.cells #[.int .u64 0, .int .u64 0, .int .u64 0, .int .u64 0, .int .u64 0, .int .u64 0, .int .u64 0, .int .u64 0, .int .u64 0, .int .u64 0, .int .u64 0, .int .u64 0, .int .u64 0, .int .u64 0, .int .u64 0, .int .u64 0] 44)) w.heap.size v) := ⟨HV.out, HA0.out, Only.refl _ _⟩
  generalize ((w.alloc (.cells (m64 v).toArray 44)).alloc (.cells #[.int .u64 0, .int .u64 0, .int .u64 0, .int .u64 0, .int .u64 0, .int .u64 0, .int .u64 0, .int .u64 0, .int .u64 0, .int .u64 0, .int .u64 0, .int .u64 0, .int .u64 0, .int .u64 0, .int .u64 0, .int .u64 0] 44)) = wb at *
  obtain ⟨g, hg⟩ : ∃ g, g = w.heap.size := ⟨_, rfl⟩
  obtain ⟨g1, hg1⟩ : ∃ g1, g1 = w.heap.size + 1 := ⟨_, rfl⟩
  rw [← hg1, ← hg]
  have HGG := Lib.hid hg
  have HGG1 := Lib.hid hg1
  rw [← hg] at H0
  clear hg hg1
  obtain ⟨w0, hw0⟩ : ∃ w0, w0 = wb := ⟨_, rfl⟩
  have H0 : Hid (Mf wb w0 g v) := by rw [hw0]; exact H0.out
  rw [← hw0]
  clear hw0
  have c1 := H0.out.c a HA.out
  have c2 := H0.out.c b HB.out
  have f1 := H0.out.A.frozen a
  obtain ⟨v1, hv1⟩ : ∃ u, u = addX v a b x := ⟨_, rfl⟩
  have HV1 := Lib.hid hv1
  rw [addX_def] at hv1
  generalize gt v 0#64 a = y1 at *
  generalize gt v 0#64 b = y2 at *
  have HE1 := Lib.hid hv1
  clear hv1
  refine wp_region_c 10 (by kernel_rfl) (by kernel_rfl) ?_
  simp only [List.take_succ_cons, List.take_zero, List.drop_succ_cons, List.drop_zero]
  iterate 10 (refine wpC_run (by rfl) rfl (fun K hK => ?_); go_wp2)
  refine wpC_nil ?_
  go_wp2_with fail
  have H1 : Hid (Mf wb (w0.setCell ⟨g, a, none⟩ (.int .u64 (n64 (y1 + (y2 + x))))).drew g v1) := by rw [HE1.out]; exact H0.out.set _ _
  generalize (w0.setCell ⟨g, a, none⟩ (.int .u64 (n64 (y1 + (y2 + x))))).drew = w1 at *
  clear c1 c2 f1 HE1
  have c1 := H1.out.c d HD.out
  have c2 := H1.out.c a HA.out
  have f1 := H1.out.A.frozen d
  obtain ⟨v2, hv2⟩ : ∃ u, u = rotX v1 d a 32 := ⟨_, rfl⟩
  have HV2 := Lib.hid hv2
  rw [rotX_def] at hv2
  generalize gt v1 0#64 d = y1 at *
  generalize gt v1 0#64 a = y2 at *
  have HE2 := Lib.hid hv2
  clear hv2
  have HR := Lib.hid (fun W => left (y1 ^^^ y2) 32 32 rfl (by decide) W)
  refine wp_region_c 10 (by kernel_rfl) (by kernel_rfl) ?_
  simp only [List.take_succ_cons, List.take_zero, List.drop_succ_cons, List.drop_zero]
  iterate 8 (refine wpC_run (by rfl) rfl (fun K hK => ?_); go_wp2)
  refine wpC_call 42 _ _ (by rfl) (by go_simp) (HR.out _) ?_
  simp only [Act.put, List.setIfInBounds_toArray, List.set_cons_zero, List.set_cons_succ]
  iterate 1 (refine wpC_run (by rfl) rfl (fun K hK => ?_); go_wp2)
  refine wpC_nil ?_
  go_wp2_with fail
  have H2 : Hid (Mf wb (w1.setCell ⟨g, d, none⟩ (.int .u64 (n64 (rl (y1 ^^^ y2) 32)))).drew g v2) := by rw [HE2.out]; exact H1.out.set _ _
  generalize (w1.setCell ⟨g, d, none⟩ (.int .u64 (n64 (rl (y1 ^^^ y2) 32)))).drew = w2 at *
  clear c1 c2 f1 HE2 HR
  have c1 := H2.out.c c HC.out
  have c2 := H2.out.c d HD.out
  have f1 := H2.out.A.frozen c
  obtain ⟨v3, hv3⟩ : ∃ u, u = addY v2 c d := ⟨_, rfl⟩
  have HV3 := Lib.hid hv3
  rw [addY_def] at hv3
  generalize gt v2 0#64 c = y1 at *
  generalize gt v2 0#64 d = y2 at *
  have HE3 := Lib.hid hv3
  clear hv3
  refine wp_region_c 8 (by kernel_rfl) (by kernel_rfl) ?_
  simp only [List.take_succ_cons, List.take_zero, List.drop_succ_cons, List.drop_zero]
  iterate 8 (refine wpC_run (by rfl) rfl (fun K hK => ?_); go_wp2)
  refine wpC_nil ?_
  go_wp2_with fail
  have H3 : Hid (Mf wb (w2.setCell ⟨g, c, none⟩ (.int .u64 (n64 (y1 + y2)))).drew g v3) := by rw [HE3.out]; exact H2.out.set _ _
  generalize (w2.setCell ⟨g, c, none⟩ (.int .u64 (n64 (y1 + y2)))).drew = w3 at *
  clear c1 c2 f1 HE3
  have c1 := H3.out.c b HB.out
  have c2 := H3.out.c c HC.out
  have f1 := H3.out.A.frozen b
  obtain ⟨v4, hv4⟩ : ∃ u, u = rotX v3 b c 40 := ⟨_, rfl⟩
  have HV4 := Lib.hid hv4
  rw [rotX_def] at hv4
  generalize gt v3 0#64 b = y1 at *
  generalize gt v3 0#64 c = y2 at *
  have HE4 := Lib.hid hv4
  clear hv4
  have HR := Lib.hid (fun W => left (y1 ^^^ y2) 40 40 rfl (by decide) W)
  refine wp_region_c 10 (by kernel_rfl) (by kernel_rfl) ?_
  simp only [List.take_succ_cons, List.take_zero, List.drop_succ_cons, List.drop_zero]
  iterate 8 (refine wpC_run (by rfl) rfl (fun K hK => ?_); go_wp2)
  refine wpC_call 42 _ _ (by rfl) (by go_simp) (HR.out _) ?_
  simp only [Act.put, List.setIfInBounds_toArray, List.set_cons_zero, List.set_cons_succ]
  iterate 1 (refine wpC_run (by rfl) rfl (fun K hK => ?_); go_wp2)
  refine wpC_nil ?_
  go_wp2_with fail
  have H4 : Hid (Mf wb (w3.setCell ⟨g, b, none⟩ (.int .u64 (n64 (rl (y1 ^^^ y2) 40)))).drew g v4) := by rw [HE4.out]; exact H3.out.set _ _
  generalize (w3.setCell ⟨g, b, none⟩ (.int .u64 (n64 (rl (y1 ^^^ y2) 40)))).drew = w4 at *
  clear c1 c2 f1 HE4 HR
  have c1 := H4.out.c a HA.out
  have c2 := H4.out.c b HB.out
  have f1 := H4.out.A.frozen a
  obtain ⟨v5, hv5⟩ : ∃ u, u = addX v4 a b y := ⟨_, rfl⟩
  have HV5 := Lib.hid hv5
  rw [addX_def] at hv5
  generalize gt v4 0#64 a = y1 at *
  generalize gt v4 0#64 b = y2 at *
  have HE5 := Lib.hid hv5
  clear hv5
  refine wp_region_c 10 (by kernel_rfl) (by kernel_rfl) ?_
  simp only [List.take_succ_cons, List.take_zero, List.drop_succ_cons, List.drop_zero]
  iterate 10 (refine wpC_run (by rfl) rfl (fun K hK => ?_); go_wp2)
  refine wpC_nil ?_
  go_wp2_with fail
  have H5 : Hid (Mf wb (w4.setCell ⟨g, a, none⟩ (.int .u64 (n64 (y1 + (y2 + y))))).drew g v5) := by rw [HE5.out]; exact H4.out.set _ _
  generalize (w4.setCell ⟨g, a, none⟩ (.int .u64 (n64 (y1 + (y2 + y))))).drew = w5 at *
  clear c1 c2 f1 HE5
  have c1 := H5.out.c d HD.out
  have c2 := H5.out.c a HA.out
  have f1 := H5.out.A.frozen d
  obtain ⟨v6, hv6⟩ : ∃ u, u = rotX v5 d a 48 := ⟨_, rfl⟩
  have HV6 := Lib.hid hv6
  rw [rotX_def] at hv6
  generalize gt v5 0#64 d = y1 at *
  generalize gt v5 0#64 a = y2 at *
  have HE6 := Lib.hid hv6
  clear hv6
  have HR := Lib.hid (fun W => left (y1 ^^^ y2) 48 48 rfl (by decide) W)
  refine wp_region_c 10 (by kernel_rfl) (by kernel_rfl) ?_
  simp only [List.take_succ_cons, List.take_zero, List.drop_succ_cons, List.drop_zero]
  iterate 8 (refine wpC_run (by rfl) rfl (fun K hK => ?_); go_wp2)
  refine wpC_call 42 _ _ (by rfl) (by go_simp) (HR.out _) ?_
  simp only [Act.put, List.setIfInBounds_toArray, List.set_cons_zero, List.set_cons_succ]
  iterate 1 (refine wpC_run (by rfl) rfl (fun K hK => ?_); go_wp2)
  refine wpC_nil ?_
  go_wp2_with fail
  have H6 : Hid (Mf wb (w5.setCell ⟨g, d, none⟩ (.int .u64 (n64 (rl (y1 ^^^ y2) 48)))).drew g v6) := by rw [HE6.out]; exact H5.out.set _ _
  generalize (w5.setCell ⟨g, d, none⟩ (.int .u64 (n64 (rl (y1 ^^^ y2) 48)))).drew = w6 at *
  clear c1 c2 f1 HE6 HR
  have c1 := H6.out.c c HC.out
  have c2 := H6.out.c d HD.out
  have f1 := H6.out.A.frozen c
  obtain ⟨v7, hv7⟩ : ∃ u, u = addY v6 c d := ⟨_, rfl⟩
  have HV7 := Lib.hid hv7
  rw [addY_def] at hv7
  generalize gt v6 0#64 c = y1 at *
  generalize gt v6 0#64 d = y2 at *
  have HE7 := Lib.hid hv7
  clear hv7
  refine wp_region_c 8 (by kernel_rfl) (by kernel_rfl) ?_
  simp only [List.take_succ_cons, List.take_zero, List.drop_succ_cons, List.drop_zero]
  iterate 8 (refine wpC_run (by rfl) rfl (fun K hK => ?_); go_wp2)
  refine wpC_nil ?_
  go_wp2_with fail
  have H7 : Hid (Mf wb (w6.setCell ⟨g, c, none⟩ (.int .u64 (n64 (y1 + y2)))).drew g v7) := by rw [HE7.out]; exact H6.out.set _ _
  generalize (w6.setCell ⟨g, c, none⟩ (.int .u64 (n64 (y1 + y2)))).drew = w7 at *
  clear c1 c2 f1 HE7
  have c1 := H7.out.c b HB.out
  have c2 := H7.out.c c HC.out
  have f1 := H7.out.A.frozen b
  obtain ⟨v8, hv8⟩ : ∃ u, u = rotX v7 b c 1 := ⟨_, rfl⟩
  have HV8 := Lib.hid hv8
  rw [rotX_def] at hv8
  generalize gt v7 0#64 b = y1 at *
  generalize gt v7 0#64 c = y2 at *
  have HE8 := Lib.hid hv8
  clear hv8
  have HR := Lib.hid (fun W => left (y1 ^^^ y2) 1 1 rfl (by decide) W)
  refine wp_region_c 10 (by kernel_rfl) (by kernel_rfl) ?_
  simp only [List.take_succ_cons, List.take_zero, List.drop_succ_cons, List.drop_zero]
  iterate 8 (refine wpC_run (by rfl) rfl (fun K hK => ?_); go_wp2)
  refine wpC_call 42 _ _ (by rfl) (by go_simp) (HR.out _) ?_
  simp only [Act.put, List.setIfInBounds_toArray, List.set_cons_zero, List.set_cons_succ]
  iterate 1 (refine wpC_run (by rfl) rfl (fun K hK => ?_); go_wp2)
  refine wpC_nil ?_
  have H8 : Hid (Mf wb (w7.setCell ⟨g, b, none⟩ (.int .u64 (n64 (rl (y1 ^^^ y2) 1)))).drew g v8) := by rw [HE8.out]; exact H7.out.set _ _
  have HF : Hid (mixG v a b c d x y = v8) := show mixG v a b c d x y = v8 by rw [HG.out, HV8.out, HV7.out, HV6.out, HV5.out, HV4.out, HV3.out, HV2.out, HV1.out]
  have hs : (m64 v8).toArray.size = 16 := by rw [List.size_toArray, m64_len, H8.out.l]
  have hi0 : (Try.prog.info? 44).map (·.size) = some (m64 v8).toArray.size := by rw [hs]; exact info44
  have hz0 : (m64 (List.replicate 16 0#64)).toArray.size = (m64 v8).toArray.size := by rw [hs]; rfl
  have h1 : (m64 v8).toArray.all (·.oneCell') = true := by simp [m64, Value.oneCell']
  have HZ8 : Hid (Arr (w7.setCell ⟨g, b, none⟩ (.int .u64 (n64 (rl (y1 ^^^ y2) 1)))).drew g1 44 (m64 (List.replicate 16 0#64))) := (show Arr wb g1 44 _ by rw [HGG1.out]; exact HZ0.out).keep (H8.out.O.block _ (by rw [HGG.out, HGG1.out]; omega))
  go_wp2_with (first
    | (refine wpList_load_row rfl 44 (.tmp 7) rfl g rfl 44 (m64 v8).toArray (0, 0) _ H8.out.A Try.underlying44 rfl hi0 ?_)
    | (refine wpList_store_row rfl 44 (.tmp 14) (.tmp 91) rfl g1 (m64 v8).toArray rfl rfl 44 (m64 (List.replicate 16 0#64)).toArray HZ8.out hi0 hz0 h1 ?_))
  refine bodyPost_ret (results_cell_row (P := Try.prog) rfl _ _ g1 44 (m64 v8).toArray (0, 0) _ rfl (setRow_heap _ _ _ _ _ _ HZ8.out) Try.underlying44 rfl hi0) rfl ⟨?_, below_setRow (HB0.out.trans (H8.out.O.below (by rw [HGG.out]; exact Nat.le_refl _))) (by rw [HGG1.out]; omega) _⟩
  rw [HF.out]
end Go.Proofs.Ytnlcndlfdnogaaa.St
