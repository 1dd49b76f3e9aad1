/- BLAKE2b's mix, walked. (printed by gen_bl.py) -/
import Derived.Test.YtnlcndlfdnogaaaK1
set_option linter.unusedVariables false
set_option linter.unusedSimpArgs false
namespace Go.Proofs.Ytnlcndlfdnogaaa.Bl
open Go.RowKit
open D0 M D2 D3 Rg K1 P
theorem addw64 (x y : BitVec 64) : IntKind.u64.wrap (n64 x + n64 y) = n64 (x + y) := by rw [wrap_u64, add64]
attribute [local go_sem] addw64 xor64 and64 or64 xor32 and32 or32 andNot32 add64 add32 unary64 unary32 not64 not32
attribute [local go_sem high] shiftl64 shiftr64 shiftl32 shiftr32
/-- The steps of a mix. -/
def addX (v : L) (a b : Nat) (x : BitVec 64) : L := v.set a (gt v 0#64 a + (gt v 0#64 b + x))
def rotX (v : L) (d a k : Nat) : L := v.set d (rl (gt v 0#64 d ^^^ gt v 0#64 a) k)
def addY (v : L) (c d : Nat) : L := v.set c (gt v 0#64 c + gt v 0#64 d)
def mixG (v : L) (a b c d : Nat) (x y : BitVec 64) : L :=
  rotX (addY (rotX (addX (rotX (addY (rotX (addX v a b x) d a 32) c d) b c 40) a b y) d a 48) c d) b c 1
theorem addX_len (v : L) (a b : Nat) (x : BitVec 64) : (addX v a b x).length = v.length := List.length_set
theorem rotX_len (v : L) (d a k : Nat) : (rotX v d a k).length = v.length := List.length_set
theorem addY_len (v : L) (c d : Nat) : (addY v c d).length = v.length := List.length_set
theorem mixG_len (v : L) (a b c d : Nat) (x y : BitVec 64) : (mixG v a b c d x y).length = v.length := by
  unfold mixG
  rw [rotX_len, addY_len, rotX_len, addX_len, rotX_len, addY_len, rotX_len, addX_len]
/-- The frame. -/
structure Mf (w W : World) (g : Nat) (v : L) : Prop where
  l : v.length = 16
  A : Arr W g 44 (m64 v)
  O : Only g w W
section
variable {w W : World} {g : Nat} {v : L}
theorem Mf.c (f : Mf w W g v) (i : Nat) (hi : i < 16) : W.cell? ⟨g, i, none⟩ = some (.int .u64 (n64 (gt v 0#64 i))) := f.A.cell (m64_get (by rw [f.l]; exact hi))
theorem Mf.set (f : Mf w W g v) (i : Nat) (x : BitVec 64) : Mf w (W.setCell ⟨g, i, none⟩ (.int .u64 (n64 x))).drew g (v.set i x) :=
  ⟨by rw [List.length_set]; exact f.l, by rw [← m64_set]; exact (f.A.set _ _).drew, (f.O.trans (Only.set _ _ _ _)).drew⟩
end
attribute [local irreducible] gt rl addX rotX addY
theorem addX_def (v : L) (a b : Nat) (x : BitVec 64) : addX v a b x = v.set a (gt v 0#64 a + (gt v 0#64 b + x)) := by unfold addX; rfl
theorem rotX_def (v : L) (d a k : Nat) : rotX v d a k = v.set d (rl (gt v 0#64 d ^^^ gt v 0#64 a) k) := by unfold rotX; rfl
theorem addY_def (v : L) (c d : Nat) : addY v c d = v.set c (gt v 0#64 c + gt v 0#64 d) := by unfold addY; rfl
set_option maxRecDepth 100000 in
set_option maxHeartbeats 4000000 in
theorem mix45 (w : World) (g : Nat) (v : L) (a b c d : Nat) (x y : BitVec 64) (ha : a < 16) (hb : b < 16) (hc : c < 16) (hd : d < 16) (hv : v.length = 16) (hA : Arr w g 44 (m64 v)) :
    Calls Try.prog 45 #[.pointer (some ⟨g, 0, none⟩), .int .i64 (a : Int), .int .i64 (b : Int), .int .i64 (c : Int), .int .i64 (d : Int), .int .u64 (n64 x), .int .u64 (n64 y)] w fun e w' => (∃ u, e = .returned u) ∧ Only g w w' ∧ Arr w' g 44 (m64 (mixG v a b c d x y)) := by
  have H0 : Hid (Mf w w g v) := ⟨hv, hA, Only.refl _ _⟩
  have hG : mixG v a b c d x y = rotX (addY (rotX (addX (rotX (addY (rotX (addX v a b x) d a 32) c d) b c 40) a b y) d a 48) c d) b c 1 := rfl
  have HG := Lib.hid hG
  have ia : ¬ (16 : Int) ≤ (a : Int) := by omega
  have ib : ¬ (16 : Int) ≤ (b : Int) := by omega
  have ic : ¬ (16 : Int) ≤ (c : Int) := by omega
  have idd : ¬ (16 : Int) ≤ (d : Int) := by omega
  have HA := Lib.hid ha
  have HB := Lib.hid hb
  have HC := Lib.hid hc
  have HD := Lib.hid hd
  clear hv hA hG ha hb hc hd
  go_enter Try.func45, Try.ntmps45
  go_wp2_with fail
  have c1 := H0.out.c a HA.out
  have c2 := H0.out.c b HB.out
  have f1 := H0.out.A.frozen a
  obtain ⟨v1, hv1⟩ : ∃ u, u = addX v a b x := ⟨_, rfl⟩
  have HV1 := Lib.hid hv1
  rw [addX_def] at hv1
  generalize gt v 0#64 a = y1 at *
  generalize gt v 0#64 b = y2 at *
  have HE1 := Lib.hid hv1
  clear hv1
  refine wp_region_c 15 (by kernel_rfl) (by kernel_rfl) ?_
  simp only [List.take_succ_cons, List.take_zero, List.drop_succ_cons, List.drop_zero]
  iterate 2 (refine wpC_run (by rfl) rfl (fun K hK => ?_); go_wp2)
  refine wpC_val (.pointer (some ⟨g, 0, none⟩)) (by rfl) (by go_simp) ?_
  simp only [Act.put, List.setIfInBounds_toArray, List.set_cons_zero, List.set_cons_succ]
  iterate 4 (refine wpC_run (by rfl) rfl (fun K hK => ?_); go_wp2)
  refine wpC_val (.pointer (some ⟨g, 0, none⟩)) (by rfl) (by go_simp) ?_
  simp only [Act.put, List.setIfInBounds_toArray, List.set_cons_zero, List.set_cons_succ]
  iterate 5 (refine wpC_run (by rfl) rfl (fun K hK => ?_); go_wp2)
  refine wpC_val (.pointer (some ⟨g, 0, none⟩)) (by rfl) (by go_simp) ?_
  simp only [Act.put, List.setIfInBounds_toArray, List.set_cons_zero, List.set_cons_succ]
  iterate 1 (refine wpC_run (by rfl) rfl (fun K hK => ?_); go_wp2)
  refine wpC_nil ?_
  go_wp2_with fail
  have H1 : Hid (Mf w (w.setCell ⟨g, a, none⟩ (.int .u64 (n64 (y1 + (y2 + x))))).drew g v1) := by rw [HE1.out]; exact H0.out.set _ _
  generalize (w.setCell ⟨g, a, none⟩ (.int .u64 (n64 (y1 + (y2 + x))))).drew = w1 at *
  clear c1 c2 f1 HE1
  have c1 := H1.out.c d HD.out
  have c2 := H1.out.c a HA.out
  have f1 := H1.out.A.frozen d
  obtain ⟨v2, hv2⟩ : ∃ u, u = rotX v1 d a 32 := ⟨_, rfl⟩
  have HV2 := Lib.hid hv2
  rw [rotX_def] at hv2
  generalize gt v1 0#64 d = y1 at *
  generalize gt v1 0#64 a = y2 at *
  have HE2 := Lib.hid hv2
  clear hv2
  have HR := Lib.hid (fun W => rot47 (y1 ^^^ y2) (-32) 32 (by decide) W)
  refine wp_region_c 16 (by kernel_rfl) (by kernel_rfl) ?_
  simp only [List.take_succ_cons, List.take_zero, List.drop_succ_cons, List.drop_zero]
  iterate 4 (refine wpC_run (by rfl) rfl (fun K hK => ?_); go_wp2)
  refine wpC_val (.pointer (some ⟨g, 0, none⟩)) (by rfl) (by go_simp) ?_
  simp only [Act.put, List.setIfInBounds_toArray, List.set_cons_zero, List.set_cons_succ]
  iterate 4 (refine wpC_run (by rfl) rfl (fun K hK => ?_); go_wp2)
  refine wpC_val (.pointer (some ⟨g, 0, none⟩)) (by rfl) (by go_simp) ?_
  simp only [Act.put, List.setIfInBounds_toArray, List.set_cons_zero, List.set_cons_succ]
  iterate 3 (refine wpC_run (by rfl) rfl (fun K hK => ?_); go_wp2)
  refine wpC_call 47 _ _ (by rfl) (by go_simp) (HR.out _) ?_
  simp only [Act.put, List.setIfInBounds_toArray, List.set_cons_zero, List.set_cons_succ]
  refine wpC_val (.pointer (some ⟨g, 0, none⟩)) (by rfl) (by go_simp) ?_
  simp only [Act.put, List.setIfInBounds_toArray, List.set_cons_zero, List.set_cons_succ]
  iterate 1 (refine wpC_run (by rfl) rfl (fun K hK => ?_); go_wp2)
  refine wpC_nil ?_
  go_wp2_with fail
  have H2 : Hid (Mf w (w1.setCell ⟨g, d, none⟩ (.int .u64 (n64 (rl (y1 ^^^ y2) 32)))).drew g v2) := by rw [HE2.out]; exact H1.out.set _ _
  generalize (w1.setCell ⟨g, d, none⟩ (.int .u64 (n64 (rl (y1 ^^^ y2) 32)))).drew = w2 at *
  clear c1 c2 f1 HE2 HR
  have c1 := H2.out.c c HC.out
  have c2 := H2.out.c d HD.out
  have f1 := H2.out.A.frozen c
  obtain ⟨v3, hv3⟩ : ∃ u, u = addY v2 c d := ⟨_, rfl⟩
  have HV3 := Lib.hid hv3
  rw [addY_def] at hv3
  generalize gt v2 0#64 c = y1 at *
  generalize gt v2 0#64 d = y2 at *
  have HE3 := Lib.hid hv3
  clear hv3
  refine wp_region_c 13 (by kernel_rfl) (by kernel_rfl) ?_
  simp only [List.take_succ_cons, List.take_zero, List.drop_succ_cons, List.drop_zero]
  iterate 2 (refine wpC_run (by rfl) rfl (fun K hK => ?_); go_wp2)
  refine wpC_val (.pointer (some ⟨g, 0, none⟩)) (by rfl) (by go_simp) ?_
  simp only [Act.put, List.setIfInBounds_toArray, List.set_cons_zero, List.set_cons_succ]
  iterate 4 (refine wpC_run (by rfl) rfl (fun K hK => ?_); go_wp2)
  refine wpC_val (.pointer (some ⟨g, 0, none⟩)) (by rfl) (by go_simp) ?_
  simp only [Act.put, List.setIfInBounds_toArray, List.set_cons_zero, List.set_cons_succ]
  iterate 3 (refine wpC_run (by rfl) rfl (fun K hK => ?_); go_wp2)
  refine wpC_val (.pointer (some ⟨g, 0, none⟩)) (by rfl) (by go_simp) ?_
  simp only [Act.put, List.setIfInBounds_toArray, List.set_cons_zero, List.set_cons_succ]
  iterate 1 (refine wpC_run (by rfl) rfl (fun K hK => ?_); go_wp2)
  refine wpC_nil ?_
  go_wp2_with fail
  have H3 : Hid (Mf w (w2.setCell ⟨g, c, none⟩ (.int .u64 (n64 (y1 + y2)))).drew g v3) := by rw [HE3.out]; exact H2.out.set _ _
  generalize (w2.setCell ⟨g, c, none⟩ (.int .u64 (n64 (y1 + y2)))).drew = w3 at *
  clear c1 c2 f1 HE3
  have c1 := H3.out.c b HB.out
  have c2 := H3.out.c c HC.out
  have f1 := H3.out.A.frozen b
  obtain ⟨v4, hv4⟩ : ∃ u, u = rotX v3 b c 40 := ⟨_, rfl⟩
  have HV4 := Lib.hid hv4
  rw [rotX_def] at hv4
  generalize gt v3 0#64 b = y1 at *
  generalize gt v3 0#64 c = y2 at *
  have HE4 := Lib.hid hv4
  clear hv4
  have HR := Lib.hid (fun W => rot47 (y1 ^^^ y2) (-24) 40 (by decide) W)
  refine wp_region_c 16 (by kernel_rfl) (by kernel_rfl) ?_
  simp only [List.take_succ_cons, List.take_zero, List.drop_succ_cons, List.drop_zero]
  iterate 4 (refine wpC_run (by rfl) rfl (fun K hK => ?_); go_wp2)
  refine wpC_val (.pointer (some ⟨g, 0, none⟩)) (by rfl) (by go_simp) ?_
  simp only [Act.put, List.setIfInBounds_toArray, List.set_cons_zero, List.set_cons_succ]
  iterate 4 (refine wpC_run (by rfl) rfl (fun K hK => ?_); go_wp2)
  refine wpC_val (.pointer (some ⟨g, 0, none⟩)) (by rfl) (by go_simp) ?_
  simp only [Act.put, List.setIfInBounds_toArray, List.set_cons_zero, List.set_cons_succ]
  iterate 3 (refine wpC_run (by rfl) rfl (fun K hK => ?_); go_wp2)
  refine wpC_call 47 _ _ (by rfl) (by go_simp) (HR.out _) ?_
  simp only [Act.put, List.setIfInBounds_toArray, List.set_cons_zero, List.set_cons_succ]
  refine wpC_val (.pointer (some ⟨g, 0, none⟩)) (by rfl) (by go_simp) ?_
  simp only [Act.put, List.setIfInBounds_toArray, List.set_cons_zero, List.set_cons_succ]
  iterate 1 (refine wpC_run (by rfl) rfl (fun K hK => ?_); go_wp2)
  refine wpC_nil ?_
  go_wp2_with fail
  have H4 : Hid (Mf w (w3.setCell ⟨g, b, none⟩ (.int .u64 (n64 (rl (y1 ^^^ y2) 40)))).drew g v4) := by rw [HE4.out]; exact H3.out.set _ _
  generalize (w3.setCell ⟨g, b, none⟩ (.int .u64 (n64 (rl (y1 ^^^ y2) 40)))).drew = w4 at *
  clear c1 c2 f1 HE4 HR
  have c1 := H4.out.c a HA.out
  have c2 := H4.out.c b HB.out
  have f1 := H4.out.A.frozen a
  obtain ⟨v5, hv5⟩ : ∃ u, u = addX v4 a b y := ⟨_, rfl⟩
  have HV5 := Lib.hid hv5
  rw [addX_def] at hv5
  generalize gt v4 0#64 a = y1 at *
  generalize gt v4 0#64 b = y2 at *
  have HE5 := Lib.hid hv5
  clear hv5
  refine wp_region_c 15 (by kernel_rfl) (by kernel_rfl) ?_
  simp only [List.take_succ_cons, List.take_zero, List.drop_succ_cons, List.drop_zero]
  iterate 2 (refine wpC_run (by rfl) rfl (fun K hK => ?_); go_wp2)
  refine wpC_val (.pointer (some ⟨g, 0, none⟩)) (by rfl) (by go_simp) ?_
  simp only [Act.put, List.setIfInBounds_toArray, List.set_cons_zero, List.set_cons_succ]
  iterate 4 (refine wpC_run (by rfl) rfl (fun K hK => ?_); go_wp2)
  refine wpC_val (.pointer (some ⟨g, 0, none⟩)) (by rfl) (by go_simp) ?_
  simp only [Act.put, List.setIfInBounds_toArray, List.set_cons_zero, List.set_cons_succ]
  iterate 5 (refine wpC_run (by rfl) rfl (fun K hK => ?_); go_wp2)
  refine wpC_val (.pointer (some ⟨g, 0, none⟩)) (by rfl) (by go_simp) ?_
  simp only [Act.put, List.setIfInBounds_toArray, List.set_cons_zero, List.set_cons_succ]
  iterate 1 (refine wpC_run (by rfl) rfl (fun K hK => ?_); go_wp2)
  refine wpC_nil ?_
  go_wp2_with fail
  have H5 : Hid (Mf w (w4.setCell ⟨g, a, none⟩ (.int .u64 (n64 (y1 + (y2 + y))))).drew g v5) := by rw [HE5.out]; exact H4.out.set _ _
  generalize (w4.setCell ⟨g, a, none⟩ (.int .u64 (n64 (y1 + (y2 + y))))).drew = w5 at *
  clear c1 c2 f1 HE5
  have c1 := H5.out.c d HD.out
  have c2 := H5.out.c a HA.out
  have f1 := H5.out.A.frozen d
  obtain ⟨v6, hv6⟩ : ∃ u, u = rotX v5 d a 48 := ⟨_, rfl⟩
  have HV6 := Lib.hid hv6
  rw [rotX_def] at hv6
  generalize gt v5 0#64 d = y1 at *
  generalize gt v5 0#64 a = y2 at *
  have HE6 := Lib.hid hv6
  clear hv6
  have HR := Lib.hid (fun W => rot47 (y1 ^^^ y2) (-16) 48 (by decide) W)
  refine wp_region_c 16 (by kernel_rfl) (by kernel_rfl) ?_
  simp only [List.take_succ_cons, List.take_zero, List.drop_succ_cons, List.drop_zero]
  iterate 4 (refine wpC_run (by rfl) rfl (fun K hK => ?_); go_wp2)
  refine wpC_val (.pointer (some ⟨g, 0, none⟩)) (by rfl) (by go_simp) ?_
  simp only [Act.put, List.setIfInBounds_toArray, List.set_cons_zero, List.set_cons_succ]
  iterate 4 (refine wpC_run (by rfl) rfl (fun K hK => ?_); go_wp2)
  refine wpC_val (.pointer (some ⟨g, 0, none⟩)) (by rfl) (by go_simp) ?_
  simp only [Act.put, List.setIfInBounds_toArray, List.set_cons_zero, List.set_cons_succ]
  iterate 3 (refine wpC_run (by rfl) rfl (fun K hK => ?_); go_wp2)
  refine wpC_call 47 _ _ (by rfl) (by go_simp) (HR.out _) ?_
  simp only [Act.put, List.setIfInBounds_toArray, List.set_cons_zero, List.set_cons_succ]
  refine wpC_val (.pointer (some ⟨g, 0, none⟩)) (by rfl) (by go_simp) ?_
  simp only [Act.put, List.setIfInBounds_toArray, List.set_cons_zero, List.set_cons_succ]
  iterate 1 (refine wpC_run (by rfl) rfl (fun K hK => ?_); go_wp2)
  refine wpC_nil ?_
  go_wp2_with fail
  have H6 : Hid (Mf w (w5.setCell ⟨g, d, none⟩ (.int .u64 (n64 (rl (y1 ^^^ y2) 48)))).drew g v6) := by rw [HE6.out]; exact H5.out.set _ _
  generalize (w5.setCell ⟨g, d, none⟩ (.int .u64 (n64 (rl (y1 ^^^ y2) 48)))).drew = w6 at *
  clear c1 c2 f1 HE6 HR
  have c1 := H6.out.c c HC.out
  have c2 := H6.out.c d HD.out
  have f1 := H6.out.A.frozen c
  obtain ⟨v7, hv7⟩ : ∃ u, u = addY v6 c d := ⟨_, rfl⟩
  have HV7 := Lib.hid hv7
  rw [addY_def] at hv7
  generalize gt v6 0#64 c = y1 at *
  generalize gt v6 0#64 d = y2 at *
  have HE7 := Lib.hid hv7
  clear hv7
  refine wp_region_c 13 (by kernel_rfl) (by kernel_rfl) ?_
  simp only [List.take_succ_cons, List.take_zero, List.drop_succ_cons, List.drop_zero]
  iterate 2 (refine wpC_run (by rfl) rfl (fun K hK => ?_); go_wp2)
  refine wpC_val (.pointer (some ⟨g, 0, none⟩)) (by rfl) (by go_simp) ?_
  simp only [Act.put, List.setIfInBounds_toArray, List.set_cons_zero, List.set_cons_succ]
  iterate 4 (refine wpC_run (by rfl) rfl (fun K hK => ?_); go_wp2)
  refine wpC_val (.pointer (some ⟨g, 0, none⟩)) (by rfl) (by go_simp) ?_
  simp only [Act.put, List.setIfInBounds_toArray, List.set_cons_zero, List.set_cons_succ]
  iterate 3 (refine wpC_run (by rfl) rfl (fun K hK => ?_); go_wp2)
  refine wpC_val (.pointer (some ⟨g, 0, none⟩)) (by rfl) (by go_simp) ?_
  simp only [Act.put, List.setIfInBounds_toArray, List.set_cons_zero, List.set_cons_succ]
  iterate 1 (refine wpC_run (by rfl) rfl (fun K hK => ?_); go_wp2)
  refine wpC_nil ?_
  go_wp2_with fail
  have H7 : Hid (Mf w (w6.setCell ⟨g, c, none⟩ (.int .u64 (n64 (y1 + y2)))).drew g v7) := by rw [HE7.out]; exact H6.out.set _ _
  generalize (w6.setCell ⟨g, c, none⟩ (.int .u64 (n64 (y1 + y2)))).drew = w7 at *
  clear c1 c2 f1 HE7
  have c1 := H7.out.c b HB.out
  have c2 := H7.out.c c HC.out
  have f1 := H7.out.A.frozen b
  obtain ⟨v8, hv8⟩ : ∃ u, u = rotX v7 b c 1 := ⟨_, rfl⟩
  have HV8 := Lib.hid hv8
  rw [rotX_def] at hv8
  generalize gt v7 0#64 b = y1 at *
  generalize gt v7 0#64 c = y2 at *
  have HE8 := Lib.hid hv8
  clear hv8
  have HR := Lib.hid (fun W => rot47 (y1 ^^^ y2) (-63) 1 (by decide) W)
  refine wp_region_c 16 (by kernel_rfl) (by kernel_rfl) ?_
  simp only [List.take_succ_cons, List.take_zero, List.drop_succ_cons, List.drop_zero]
  iterate 4 (refine wpC_run (by rfl) rfl (fun K hK => ?_); go_wp2)
  refine wpC_val (.pointer (some ⟨g, 0, none⟩)) (by rfl) (by go_simp) ?_
  simp only [Act.put, List.setIfInBounds_toArray, List.set_cons_zero, List.set_cons_succ]
  iterate 4 (refine wpC_run (by rfl) rfl (fun K hK => ?_); go_wp2)
  refine wpC_val (.pointer (some ⟨g, 0, none⟩)) (by rfl) (by go_simp) ?_
  simp only [Act.put, List.setIfInBounds_toArray, List.set_cons_zero, List.set_cons_succ]
  iterate 3 (refine wpC_run (by rfl) rfl (fun K hK => ?_); go_wp2)
  refine wpC_call 47 _ _ (by rfl) (by go_simp) (HR.out _) ?_
  simp only [Act.put, List.setIfInBounds_toArray, List.set_cons_zero, List.set_cons_succ]
  refine wpC_val (.pointer (some ⟨g, 0, none⟩)) (by rfl) (by go_simp) ?_
  simp only [Act.put, List.setIfInBounds_toArray, List.set_cons_zero, List.set_cons_succ]
  iterate 1 (refine wpC_run (by rfl) rfl (fun K hK => ?_); go_wp2)
  refine wpC_nil ?_
  go_wp2_with fail
  have H8 : Hid (Mf w (w7.setCell ⟨g, b, none⟩ (.int .u64 (n64 (rl (y1 ^^^ y2) 1)))).drew g v8) := by rw [HE8.out]; exact H7.out.set _ _
  generalize (w7.setCell ⟨g, b, none⟩ (.int .u64 (n64 (rl (y1 ^^^ y2) 1)))).drew = w8 at *
  clear c1 c2 f1 HE8 HR
  go_end0
  refine ⟨⟨_, rfl⟩, H8.out.O, ?_⟩
  rw [HG.out, ← HV1.out, ← HV2.out, ← HV3.out, ← HV4.out, ← HV5.out, ← HV6.out, ← HV7.out, ← HV8.out]
  exact H8.out.A
end Go.Proofs.Ytnlcndlfdnogaaa.Bl
