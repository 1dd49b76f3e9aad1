/- Blake, walked. (printed by gen_bw.py) -/
import Derived.Test.YtnlcndlfdnogaaaBp
import Derived.Laws.CopyOwn
set_option linter.unusedVariables false
set_option linter.unusedSimpArgs false
namespace Go.Proofs.Ytnlcndlfdnogaaa.Bw
open Go.RowKit
open D0 M D2 D3 Rg K1 P Bl Bs Bp
attribute [local go_sem] addw64 xor64 and64 or64 xor32 and32 or32 andNot32 add64 add32 unary64 unary32 not64 not32
attribute [local go_sem high] shiftl64 shiftr64 shiftl32 shiftr32
theorem gt_ne (l : L) (i j : Nat) (x : BitVec 64) (h : i ≠ j) : gt (l.set i x) 0#64 j = gt l 0#64 j := by simp [gt, List.getD, List.getElem?_set_ne h]
theorem two0 (t0 t1 : BitVec 64) : gt [t0, t1] 0#64 0 = t0 := rfl
theorem two1 (t0 t1 : BitVec 64) : gt [t0, t1] 0#64 1 = t1 := rfl
theorem beg_def (h v : L) (t0 t1 : BitVec 64) (last : Bool) (hv : v = h ++ ivF) : begB h t0 t1 last = if last then ((v.set 12 (gt v 0#64 12 ^^^ t0)).set 13 (gt v 0#64 13 ^^^ t1)).set 14 (~~~ gt v 0#64 14) else (v.set 12 (gt v 0#64 12 ^^^ t0)).set 13 (gt v 0#64 13 ^^^ t1) := by
  subst hv
  unfold begB
  simp only [gt_ne _ 12 13 _ (by decide), gt_ne _ 13 14 _ (by decide), gt_ne _ 12 14 _ (by decide)]
theorem te10 (x m : Nat) (k : Int) (hk : k = (x : Int)) (h : m = x % 10) : k.tmod 10 = (m : Int) := by
  subst hk; subst h
  rw [Int.tmod_eq_emod_of_nonneg (by omega)]; omega
theorem te4 (x m : Nat) (k : Int) (hk : k = (x : Int)) (h : m = x % 4) : k.tmod 4 = (m : Int) := by
  subst hk; subst h
  rw [Int.tmod_eq_emod_of_nonneg (by omega)]; omega
theorem it_zero {σ : Type} (f : Nat → σ → σ) (s : σ) : it f 0 s = s := rfl
attribute [local irreducible] it gt ivF SG
theorem sl1 (g : Nat) : ∀ W : World, (Instr.sliceAt 44 (.pointer (some ⟨g, 0, none⟩)) none (some (.int .i64 8)) none).run Try.prog W = .ok (.slice (some ⟨g, 0, none⟩) 8 16) W := fun W => by kernel_rfl
theorem sl2 (g : Nat) : ∀ W : World, (Instr.sliceAt 45 (.pointer (some ⟨g, 0, none⟩)) none none none).run Try.prog W = .ok (.slice (some ⟨g, 0, none⟩) 8 8) W := fun W => by kernel_rfl
theorem sl3 (g : Nat) : ∀ W : World, (Instr.sliceAt 44 (.pointer (some ⟨g, 0, none⟩)) (some (.int .i64 8)) none none).run Try.prog W = .ok (.slice (some ⟨g, 8, none⟩) 8 8) W := fun W => by kernel_rfl
theorem m64_one (l : L) : ∀ u ∈ m64 l, u.oneCell' = true := by
  intro u hu
  simp only [m64, List.mem_map] at hu
  obtain ⟨x, _, rfl⟩ := hu
  rfl
theorem info32s : (Try.prog.info? 32).map (·.size) = some 1 := by kernel_rfl
/-- copy of eight words into an array of sixteen. -/
theorem wp_copy8 {w : World} {ops : Array Oper} {rest : List Oper} {o : Oper} {a : Act} {Q : Exit → Act → World → Prop} (hgd : o.guard = none) (d s : Operand)
    (ho : o.op = .call { callee := .builtin .copy, args := #[d, s], argTypes := #[67, 67] }) (g off gs c1 c2 : Nat) (hd : a.eval d = .slice (some ⟨g, off, none⟩) 8 c1) (hs : a.eval s = .slice (some ⟨gs, 0, none⟩) 8 c2)
    (v l u : L) (hl : l.length = 8) (hA : Arr w g 44 (m64 v)) (hS : Arr w gs 45 (m64 l)) (hfit : off + 8 ≤ v.length) (hu : u = v.take off ++ (l ++ v.drop (off + 8)))
    (h : wpList Try.prog ops Q rest (a.put o.dst (goInt 8)) (w.setRow g (m64 u).toArray)) : wpList Try.prog ops Q (o :: rest) a w := by
  have hlc : (m64 l).length = 8 := by rw [m64_len, hl]
  refine wpList_copy_own hgd d s 67 67 ho 32 Try.underlying67 info32s g off 8 c1 ⟨gs, 0, none⟩ 8 c2 hd hs (m64 v).toArray 44 hA (m64 l) (by rw [hlc]; rfl) (fun j x hx => ?_) (by rw [hlc, List.size_toArray, m64_len]; exact hfit) (m64_one l) ?_
  · rw [Addr.add_lit, Nat.zero_add]; exact hS.cell hx
  · rw [hlc]
    have e : (m64 v).toArray.toList.take off ++ (m64 l ++ (m64 v).toArray.toList.drop (off + 8)) = m64 u := by
      rw [hu]
      simp [m64]
    rw [e]
    exact h
/-- The frame while the first state is laid. -/
structure Qi (w W : World) (gi : Nat) (h m v : L) (t0 t1 : BitVec 64) : Prop where
  hi : w.heap.size + 4 < gi
  lv : v.length = 16
  H : Arr W w.heap.size 45 (m64 h)
  Mm : Arr W (w.heap.size + 1) 44 (m64 m)
  T : Arr W (w.heap.size + 1 + 1) 48 (m64 [t0, t1])
  Z : Arr W (w.heap.size + 1 + 1 + 1) 45 (m64 (List.replicate 8 0#64))
  Vv : Arr W (w.heap.size + 1 + 1 + 1 + 1) 44 (m64 v)
  I : Arr W gi 45 (m64 ivF)
  W : Below w.heap.size w W
section
variable {w W W' : World} {gi : Nat} {h m v u : L} {t0 t1 : BitVec 64}
theorem Qi.drew (f : Qi w W gi h m v t0 t1) : Qi w W.drew gi h m v t0 t1 := ⟨f.hi, f.lv, f.H, f.Mm, f.T, f.Z, f.Vv, f.I, f.W.drew⟩
theorem Qi.row (f : Qi w W gi h m v t0 t1) (hu : u.length = 16) : Qi w (W.setRow (w.heap.size + 1 + 1 + 1 + 1) (m64 u).toArray) gi h m u t0 t1 := by
  obtain ⟨hi, lv, H, Mm, T, Z, Vv, I, B⟩ := f
  exact ⟨hi, hu, H.keep (setRow_other _ _ _ _ (by omega)), Mm.keep (setRow_other _ _ _ _ (by omega)), T.keep (setRow_other _ _ _ _ (by omega)), Z.keep (setRow_other _ _ _ _ (by omega)), setRow_heap _ _ _ _ _ _ Vv, I.keep (setRow_other _ _ _ _ (by omega)), below_setRow B (by omega) _⟩
theorem Qi.set (f : Qi w W gi h m v t0 t1) (i : Nat) (x : BitVec 64) : Qi w (W.setCell ⟨w.heap.size + 1 + 1 + 1 + 1, i, none⟩ (.int .u64 (n64 x))) gi h m (v.set i x) t0 t1 := by
  obtain ⟨hi, lv, H, Mm, T, Z, Vv, I, B⟩ := f
  exact ⟨hi, by rw [List.length_set]; exact lv, H.other (by omega) _ _, Mm.other (by omega) _ _, T.other (by omega) _ _, Z.other (by omega) _ _, by rw [← m64_set]; exact Vv.set _ _, I.other (by omega) _ _, B.trans ((Only.set _ _ _ _).below (by omega))⟩
theorem Qi.cV (f : Qi w W gi h m v t0 t1) (i : Nat) (hi : i < 16) : W.cell? ⟨w.heap.size + 1 + 1 + 1 + 1, i, none⟩ = some (.int .u64 (n64 (gt v 0#64 i))) := f.Vv.cell (m64_get (by rw [f.lv]; exact hi))
theorem qi_start {w1 : World} (hb : Below (((((w.alloc (.cells (m64 h).toArray 45)).alloc (.cells (m64 m).toArray 44)).alloc (.cells (m64 [t0, t1]).toArray 48)).alloc (.cells (m64 (List.replicate 8 0#64)).toArray 45)).alloc (.cells (m64 (List.replicate 16 0#64)).toArray 44)).heap.size (((((w.alloc (.cells (m64 h).toArray 45)).alloc (.cells (m64 m).toArray 44)).alloc (.cells (m64 [t0, t1]).toArray 48)).alloc (.cells (m64 (List.replicate 8 0#64)).toArray 45)).alloc (.cells (m64 (List.replicate 16 0#64)).toArray 44)) w1) : Qi w ((w1.alloc (.cells (m64 (List.replicate 8 0#64)).toArray 45)).setRow w1.heap.size (m64 ivF).toArray) w1.heap.size h m (List.replicate 16 0#64) t0 t1 := by
  have s1 := size_alloc w (.cells (m64 h).toArray 45)
  have s2 := size_alloc (w.alloc (.cells (m64 h).toArray 45)) (.cells (m64 m).toArray 44)
  have s3 := size_alloc ((w.alloc (.cells (m64 h).toArray 45)).alloc (.cells (m64 m).toArray 44)) (.cells (m64 [t0, t1]).toArray 48)
  have s4 := size_alloc (((w.alloc (.cells (m64 h).toArray 45)).alloc (.cells (m64 m).toArray 44)).alloc (.cells (m64 [t0, t1]).toArray 48)) (.cells (m64 (List.replicate 8 0#64)).toArray 45)
  have s5 := size_alloc ((((w.alloc (.cells (m64 h).toArray 45)).alloc (.cells (m64 m).toArray 44)).alloc (.cells (m64 [t0, t1]).toArray 48)).alloc (.cells (m64 (List.replicate 8 0#64)).toArray 45)) (.cells (m64 (List.replicate 16 0#64)).toArray 44)
  rw [s1] at s2; rw [s2] at s3; rw [s3] at s4; rw [s4] at s5
  have z1 := Arr.new w (m64 h) 45
  have z2 := Arr.new (w.alloc (.cells (m64 h).toArray 45)) (m64 m) 44
  have z3 := Arr.new ((w.alloc (.cells (m64 h).toArray 45)).alloc (.cells (m64 m).toArray 44)) (m64 [t0, t1]) 48
  have z4 := Arr.new (((w.alloc (.cells (m64 h).toArray 45)).alloc (.cells (m64 m).toArray 44)).alloc (.cells (m64 [t0, t1]).toArray 48)) (m64 (List.replicate 8 0#64)) 45
  have z5 := Arr.new ((((w.alloc (.cells (m64 h).toArray 45)).alloc (.cells (m64 m).toArray 44)).alloc (.cells (m64 [t0, t1]).toArray 48)).alloc (.cells (m64 (List.replicate 8 0#64)).toArray 45)) (m64 (List.replicate 16 0#64)) 44
  rw [s1] at z2; rw [s2] at z3; rw [s3] at z4; rw [s4] at z5
  have y1 : Arr (((((w.alloc (.cells (m64 h).toArray 45)).alloc (.cells (m64 m).toArray 44)).alloc (.cells (m64 [t0, t1]).toArray 48)).alloc (.cells (m64 (List.replicate 8 0#64)).toArray 45)).alloc (.cells (m64 (List.replicate 16 0#64)).toArray 44)) w.heap.size 45 (m64 h) := (((z1.alloc _).alloc _).alloc _).alloc _
  have y2 : Arr (((((w.alloc (.cells (m64 h).toArray 45)).alloc (.cells (m64 m).toArray 44)).alloc (.cells (m64 [t0, t1]).toArray 48)).alloc (.cells (m64 (List.replicate 8 0#64)).toArray 45)).alloc (.cells (m64 (List.replicate 16 0#64)).toArray 44)) (w.heap.size + 1) 44 (m64 m) := ((z2.alloc _).alloc _).alloc _
  have y3 : Arr (((((w.alloc (.cells (m64 h).toArray 45)).alloc (.cells (m64 m).toArray 44)).alloc (.cells (m64 [t0, t1]).toArray 48)).alloc (.cells (m64 (List.replicate 8 0#64)).toArray 45)).alloc (.cells (m64 (List.replicate 16 0#64)).toArray 44)) (w.heap.size + 1 + 1) 48 (m64 [t0, t1]) := (z3.alloc _).alloc _
  have y4 : Arr (((((w.alloc (.cells (m64 h).toArray 45)).alloc (.cells (m64 m).toArray 44)).alloc (.cells (m64 [t0, t1]).toArray 48)).alloc (.cells (m64 (List.replicate 8 0#64)).toArray 45)).alloc (.cells (m64 (List.replicate 16 0#64)).toArray 44)) (w.heap.size + 1 + 1 + 1) 45 (m64 (List.replicate 8 0#64)) := z4.alloc _
  have B0 : Below w.heap.size w (((((w.alloc (.cells (m64 h).toArray 45)).alloc (.cells (m64 m).toArray 44)).alloc (.cells (m64 [t0, t1]).toArray 48)).alloc (.cells (m64 (List.replicate 8 0#64)).toArray 45)).alloc (.cells (m64 (List.replicate 16 0#64)).toArray 44)) := (((((Below.refl _ w).alloc (Nat.le_refl _) _).alloc (by omega) _).alloc (by omega) _).alloc (by omega) _).alloc (by omega) _
  generalize (((((w.alloc (.cells (m64 h).toArray 45)).alloc (.cells (m64 m).toArray 44)).alloc (.cells (m64 [t0, t1]).toArray 48)).alloc (.cells (m64 (List.replicate 8 0#64)).toArray 45)).alloc (.cells (m64 (List.replicate 16 0#64)).toArray 44)) = x at *
  have hz := hb.size
  have k : ∀ {g t vs}, Arr x g t vs → Arr ((w1.alloc (.cells (m64 (List.replicate 8 0#64)).toArray 45)).setRow w1.heap.size (m64 ivF).toArray) g t vs := fun a => ((a.later hb a.lt).alloc _).keep (setRow_other _ _ _ _ (by have := a.lt; omega))
  exact ⟨by omega, List.length_replicate, k y1, k y2, k y3, k y4, k z5, setRow_heap _ _ _ _ _ _ (block_new w1 (.cells (m64 (List.replicate 8 0#64)).toArray 45)), below_setRow ((B0.trans (hb.mono (by omega))).alloc (by omega) _) (by omega) _⟩
end
theorem qf_start {w W w5 : World} {gi : Nat} {h m v : L} {t0 t1 : BitVec 64} (f : Qi w W gi h m v t0 t1) (lh : h.length = 8) (lm : m.length = 16) (hb : Below W.heap.size W w5) :
    Qf w ((w5.alloc (.cells (nums (List.replicate 160 0#8)).toArray 86)).setRow w5.heap.size (nums SG).toArray) w.heap.size (w.heap.size + 1) (w.heap.size + 1 + 1 + 1 + 1) w5.heap.size h m v := by
  obtain ⟨hi, lv, H, Mm, T, Z, Vv, I, B⟩ := f
  have hz := hb.size
  have hI := I.lt
  have k : ∀ {g t vs}, Arr W g t vs → Arr ((w5.alloc (.cells (nums (List.replicate 160 0#8)).toArray 86)).setRow w5.heap.size (nums SG).toArray) g t vs := fun a => ((a.later hb a.lt).alloc _).keep (setRow_other _ _ _ _ (by have := a.lt; omega))
  refine ⟨rfl, rfl, by omega, by omega, ?_, lh, lm, lv, k H, k Mm, k Z, k Vv, setRow_heap _ _ _ _ _ _ (block_new w5 (.cells (nums (List.replicate 160 0#8)).toArray 86)), below_setRow ((B.trans (hb.mono (by omega))).alloc (by omega) _) (by omega) _⟩
  simp [World.setRow, size_alloc]
set_option maxRecDepth 100000 in
set_option maxHeartbeats 40000000 in
theorem blake22 (w : World) (many : Nat) (h m : L) (t0 t1 : BitVec 64) (last : Bool) (hmany : many < 4294967296) (hh : h.length = 8) (hm : m.length = 16) :
    Calls Try.prog 22 #[.int .u32 (many : Int), .agg (m64 h).toArray, .agg (m64 m).toArray, .agg (m64 [t0, t1]).toArray, .bool last] w fun e w' => e = .returned (.agg (m64 (blakeF many h m t0 t1 last)).toArray) ∧ Below w.heap.size w w' := by
  obtain ⟨th, hth⟩ : ∃ th, th = (m64 h).toArray := ⟨_, rfl⟩
  have HH := Lib.hid hh
  have HM := Lib.hid hm
  have HMN := Lib.hid hmany
  have hsl1 := fun g => sl1 g
  have hsl2 := fun g => sl2 g
  have hsl3 := fun g => sl3 g
  clear hh hm hmany hth
  have HI1 : Hid ((Try.prog.info? 45).map (·.size) = some (m64 ivF).toArray.size) := by rw [List.size_toArray, m64_len, iv_len]; exact info45
  have HI2 : Hid ((m64 (List.replicate 8 0#64)).toArray.size = (m64 ivF).toArray.size) := show _ = _ by rw [List.size_toArray, List.size_toArray, m64_len, m64_len, iv_len]; rfl
  have HI3 := Lib.hid (show (m64 ivF).toArray.all (·.oneCell') = true by simp [m64, Value.oneCell'])
  go_enter Try.func22, Try.ntmps22
  go_wp2_with (first
    | (go_at_call 43; refine (start43 _).mono ?_
       rintro e w1 ⟨rfl, hb1⟩
       have HB1 := Lib.hid hb1
       clear hb1)
    | (refine wpList_store_row rfl 45 (.tmp 12) (.tmp 19) rfl w1.heap.size (m64 ivF).toArray rfl rfl 45 (m64 (List.replicate 8 0#64)).toArray (block_new _ _) HI1.out HI2.out HI3.out ?_))
  have HQ0 : Hid (Qi w ((w1.alloc (.cells #[.int .u64 0, .int .u64 0, .int .u64 0, .int .u64 0, .int .u64 0, .int .u64 0, .int .u64 0, .int .u64 0] 45)).setRow w1.heap.size (m64 ivF).toArray) w1.heap.size h m (List.replicate 16 0#64) t0 t1) := qi_start HB1.out
  generalize ((w1.alloc (.cells #[.int .u64 0, .int .u64 0, .int .u64 0, .int .u64 0, .int .u64 0, .int .u64 0, .int .u64 0, .int .u64 0] 45)).setRow w1.heap.size (m64 ivF).toArray) = wx at *
  generalize w1.heap.size = gi at *
  clear HB1 HI1 HI2 HI3
  obtain ⟨v1, hv1⟩ : ∃ v1 : L, v1 = (List.replicate 16 0#64).take 0 ++ (h ++ (List.replicate 16 0#64).drop (0 + 8)) := ⟨_, rfl⟩
  have HV1 := Lib.hid hv1
  have lv1 := Lib.hid (show v1.length = 16 by rw [hv1]; simp [HH.out])
  obtain ⟨v2, hv2⟩ : ∃ v2 : L, v2 = v1.take 8 ++ (ivF ++ v1.drop (8 + 8)) := ⟨_, rfl⟩
  have HV2 := Lib.hid hv2
  have lv2 := Lib.hid (show v2.length = 16 by rw [hv2]; simp [lv1.out, iv_len])
  clear hv1 hv2
  refine wp_region_c 2 (by kernel_rfl) (by kernel_rfl) ?_
  simp only [List.take_succ_cons, List.take_zero, List.drop_succ_cons, List.drop_zero]
  iterate 2 (refine wpC_run (by rfl) rfl (fun K hK => ?_); go_wp2)
  refine wpC_nil ?_
  go_wp2_with (first
    | (skip
       refine wp_copy8 rfl (.tmp 20) (.tmp 21) rfl (w.heap.size + 1 + 1 + 1 + 1) 0 w.heap.size 16 8 rfl rfl (List.replicate 16 0#64) h v1 HH.out HQ0.out.drew.Vv HQ0.out.drew.H (by simp) HV1.out ?_))
  have HQ1 : Hid (Qi w (wx.drew.setRow (w.heap.size + 1 + 1 + 1 + 1) (m64 v1).toArray) gi h m v1 t0 t1) := HQ0.out.drew.row lv1.out
  generalize (wx.drew.setRow (w.heap.size + 1 + 1 + 1 + 1) (m64 v1).toArray) = wy at *
  refine wp_region_c 2 (by kernel_rfl) (by kernel_rfl) ?_
  simp only [List.take_succ_cons, List.take_zero, List.drop_succ_cons, List.drop_zero]
  iterate 2 (refine wpC_run (by rfl) rfl (fun K hK => ?_); go_wp2)
  refine wpC_nil ?_
  have HVV : Hid (v2 = h ++ ivF) := show v2 = h ++ ivF by
    rw [HV2.out, HV1.out]
    simp [HH.out, List.take_append_of_le_length, List.drop_append_of_le_length]
  have HZ := zero86
  have HI86 : Hid ((Try.prog.info? 86).map (·.size) = some (nums SG).toArray.size) := by rw [List.size_toArray, nums_length, SG_len]; exact info86
  have HS86 : Hid ((nums (List.replicate 160 0#8)).toArray.size = (nums SG).toArray.size) := zeros_len.trans (show (160 : Nat) = (nums SG).toArray.size by rw [List.size_toArray, nums_length, SG_len])
  generalize hz : (nums (List.replicate 160 0#8)).toArray = zs at HZ HS86
  have HZE := Lib.hid hz
  clear hz
  cases last
  · skip
    go_wp2_with (first
      | (skip
         refine wp_copy8 rfl (.tmp 23) (.tmp 24) rfl (w.heap.size + 1 + 1 + 1 + 1) 8 gi 8 8 rfl rfl v1 ivF v2 iv_len HQ1.out.drew.Vv HQ1.out.drew.I (by rw [lv1.out]; exact Nat.le_refl _) HV2.out ?_
         have HQ2 : Hid (Qi w (wy.drew.setRow (w.heap.size + 1 + 1 + 1 + 1) (m64 v2).toArray) gi h m v2 t0 t1) := HQ1.out.drew.row lv2.out
         generalize (wy.drew.setRow (w.heap.size + 1 + 1 + 1 + 1) (m64 v2).toArray) = wz at *
         have c12 := HQ2.out.cV 12 (by omega)
         have c13 := HQ2.out.cV 13 (by omega)
         have c14 := HQ2.out.cV 14 (by omega)
         have d0 := HQ2.out.T.cell (m64_get (i := 0) (by simp))
         have d1 := HQ2.out.T.cell (m64_get (i := 1) (by simp))
         rw [two0] at d0
         rw [two1] at d1
         have f12 := HQ2.out.Vv.frozen 12
         have f13 := HQ2.out.Vv.frozen 13
         have f14 := HQ2.out.Vv.frozen 14)
      | (go_at_call 44; refine (sigma44 _).mono ?_
         rintro e w5 ⟨rfl, hb5⟩
         have HQF := Lib.hid (qf_start ((HQ2.out.set 12 (gt v2 0#64 12 ^^^ t0)).set 13 (gt v2 0#64 13 ^^^ t1)) HH.out HM.out hb5)
         rw [HZE.out] at HQF
         clear hb5)
      | (refine wpList_store_row rfl 86 (.tmp 13) (.tmp 43) rfl w5.heap.size (nums SG).toArray rfl rfl 86 zs (block_new _ _) HI86.out HS86.out (nums_all _) ?_))
    obtain ⟨V0, hV0⟩ : ∃ V0, V0 = begB h t0 t1 false := ⟨_, rfl⟩
    have HV0 := Lib.hid hV0
    have HB0 : Hid (V0 = (v2.set 12 (gt v2 0#64 12 ^^^ t0)).set 13 (gt v2 0#64 13 ^^^ t1)) := hV0.trans ((beg_def h v2 t0 t1 false HVV.out).trans rfl)
    rw [← HB0.out] at HQF
    clear hV0 HB0 HZE HVV HV1 HV2 HQ2 HQ1 HQ0 c12 c13 c14 d0 d1 f12 f13 f14 HZ HI86 HS86 lv1 lv2 hsl1 hsl2 hsl3
    generalize ((w5.alloc (.cells zs 86)).setRow w5.heap.size (nums SG).toArray) = wq at *
    generalize w5.heap.size = gs at *
    obtain ⟨n4, hn4⟩ : ∃ n, n = w.heap.size + 1 + 1 + 1 + 1 := ⟨_, rfl⟩
    rw [← hn4] at HQF ⊢
    obtain ⟨n1, hn1⟩ : ∃ n, n = w.heap.size + 1 := ⟨_, rfl⟩
    obtain ⟨n3, hn3⟩ : ∃ n, n = w.heap.size + 1 + 1 + 1 := ⟨_, rfl⟩
    rw [← hn3]
    rw [← hn1] at HQF ⊢
    have HN3 := Lib.hid hn3
    clear hn1 hn4 hn3
    generalize hn0 : w.heap.size = n0 at HQF ⊢
    have HN0 := Lib.hid hn0
    clear hn0
    go_loopw [14] (fun v wr => ∃ i : Nat, i ≤ many ∧ v = .int .u32 (i : Int) ∧ Qf w wr n0 n1 n4 gs h m (it (rndB m) i V0)) (fun v _ => many - (intOf v).toNat)
    case atStart => exact ⟨0, by omega, rfl, by rw [it_zero]; exact HQF.out⟩
    obtain ⟨i, hi, rfl, hf⟩ := hrel
    clear HQF
    have HS := Lib.hid (show it (rndB m) (i + 1) V0 = rndB m i (it (rndB m) i V0) from it_succ _ _ _)
    generalize hv0 : it (rndB m) i V0 = v0 at *
    have HE := Lib.hid hv0
    clear hv0
    have HF := Lib.hid hf
    clear hf
    rcases Nat.lt_or_ge i many with hlt | hge
    · skip
      obtain ⟨q, hq⟩ : ∃ q, q = i % 10 := ⟨_, rfl⟩
      have eq := te10 i q (i : Int) rfl hq
      have iq : ¬ (10 : Int) ≤ (q : Int) := by omega
      have HQQ := Lib.hid hq
      clear hq
      go_wp2_with fail
      have HIQ := Lib.hid (show q < 10 by omega)
      have HLT := Lib.hid hlt
      clear hlt
      obtain ⟨wo, rfl⟩ : ∃ wo : World, wo = wr := ⟨_, rfl⟩
      go_loopw [52] (fun v wr => ∃ k : Nat, k ≤ 4 ∧ v = .int .i64 (k : Int) ∧ Qf w wr n0 n1 n4 gs h m (it (mixA m q) k v0)) (fun v _ => 4 - (intOf v).toNat)
      case atStart => exact ⟨0, by omega, rfl, by rw [it_zero]; exact HF.out⟩
      obtain ⟨k, hk, rfl, hf⟩ := hrel
      clear HF
      rcases Nat.lt_or_ge k 4 with hlt | hge
      · skip
        have HS2 := Lib.hid (show it (mixA m q) (k + 1) v0 = mixA m q k (it (mixA m q) k v0) from it_succ _ _ _)
        generalize it (mixA m q) k v0 = v1 at *
        have HK := Lib.hid hlt
        have iq9 := HIQ.out
        obtain ⟨k4, hk4⟩ : ∃ q : Nat, q = 4 + k := ⟨_, rfl⟩
        have ek4 : (4 : Int) + (k : Int) = (k4 : Int) := by omega
        obtain ⟨k8, hk8⟩ : ∃ q : Nat, q = 8 + k := ⟨_, rfl⟩
        have ek8 : (8 : Int) + (k : Int) = (k8 : Int) := by omega
        obtain ⟨k12, hk12⟩ : ∃ q : Nat, q = 12 + k := ⟨_, rfl⟩
        have ek12 : (12 : Int) + (k : Int) = (k12 : Int) := by omega
        obtain ⟨j1, hj1⟩ : ∃ q : Nat, q = 2 * k := ⟨_, rfl⟩
        have ej1 : (2 : Int) * (k : Int) = (j1 : Int) := by omega
        obtain ⟨j2, hj2⟩ : ∃ q : Nat, q = 2 * k + 1 := ⟨_, rfl⟩
        have ej2 : (j1 : Int) + 1 = (j2 : Int) := by omega
        have yj1 : ¬ (16 : Int) ≤ (j1 : Int) := by omega
        have yj2 : ¬ (16 : Int) ≤ (j2 : Int) := by omega
        have cs1 : wr.cell? ⟨gs, q * 16 + j1, none⟩ = some (.int .u8 ((sgm q j1 : Nat) : Int)) := by rw [Nat.mul_comm]; exact hf.cS q j1 (by omega)
        have cs2 : wr.cell? ⟨gs, q * 16 + j2, none⟩ = some (.int .u8 ((sgm q j2 : Nat) : Int)) := by rw [Nat.mul_comm]; exact hf.cS q j2 (by omega)
        have l1 := sgm_lt q j1 (by omega)
        have l2 := sgm_lt q j2 (by omega)
        generalize hs1 : sgm q j1 = s1 at *
        generalize hs2 : sgm q j2 = s2 at *
        have cm1 := hf.cM s1 l1
        have cm2 := hf.cM s2 l2
        have z1 : ¬ (16 : Int) ≤ (s1 : Int) := by omega
        have z2 : ¬ (16 : Int) ≤ (s2 : Int) := by omega
        have HF := Lib.hid hf
        have HG := Lib.hid (show mixA m q k v1 = mixG v1 k k4 k8 k12 (gt m 0#64 s1) (gt m 0#64 s2) by unfold mixA; rw [← hj2, ← hj1, hs1, hs2, ← hk4, ← hk8, ← hk12])
        have L4 := Lib.hid (show k4 < 16 by omega)
        have L8 := Lib.hid (show k8 < 16 by omega)
        have L12 := Lib.hid (show k12 < 16 by omega)
        clear hf hs1 hs2 l1 l2 hj1 hj2 hk4 hk8 hk12 iq9
        generalize gt m 0#64 s1 = x at *
        generalize gt m 0#64 s2 = y at *
        go_wp2_with fail
        refine wp_region_c 24 (by kernel_rfl) (by kernel_rfl) ?_
        simp only [List.take_succ_cons, List.take_zero, List.drop_succ_cons, List.drop_zero]
        iterate 10 (refine wpC_run (by rfl) rfl (fun K hK => ?_); go_wp2)
        refine wpC_val (.pointer (some ⟨gs, q * 16, none⟩)) (by rfl) (by go_simp) ?_
        simp only [Act.put, List.setIfInBounds_toArray, List.set_cons_zero, List.set_cons_succ]
        iterate 8 (refine wpC_run (by rfl) rfl (fun K hK => ?_); go_wp2)
        refine wpC_val (.pointer (some ⟨gs, q * 16, none⟩)) (by rfl) (by go_simp) ?_
        simp only [Act.put, List.setIfInBounds_toArray, List.set_cons_zero, List.set_cons_succ]
        iterate 4 (refine wpC_run (by rfl) rfl (fun K hK => ?_); go_wp2)
        refine wpC_nil ?_
        go_wp2_with (first
          | (go_at_call 45; refine (mix45 _ n4 v1 k k4 k8 k12 x y (by have := HK.out; omega) L4.out L8.out L12.out HF.out.lv HF.out.drew.Vv).mono ?_
             rintro e w1 ⟨⟨u, rfl⟩, ho, ha⟩))
        have HF2 : Hid (Qf w w1 n0 n1 n4 gs h m (mixG v1 k k4 k8 k12 x y)) := HF.out.drew.mixed ho ha (by rw [mixG_len]; exact HF.out.lv)
        have hlt := HK.out
        clear ho ha
        go_roundw
        case rel =>
          refine ⟨k + 1, by omega, by go_num, ?_⟩
          rw [HS2.out, HG.out]
          exact HF2.out
        case measure => simp [intOf]; omega
      obtain rfl : k = 4 := by omega
      rw [show ((4 : Nat) : Int) = 4 from rfl]
      have HF := Lib.hid hf
      clear hf hk hge
      go_wp2_with fail
      generalize hva : it (mixA m q) 4 v0 = va at *
      have HVA := Lib.hid hva
      clear hva
      obtain ⟨wo, rfl⟩ : ∃ wo : World, wo = wr := ⟨_, rfl⟩
      go_loopw [81] (fun v wr => ∃ k : Nat, k ≤ 4 ∧ v = .int .i64 (k : Int) ∧ Qf w wr n0 n1 n4 gs h m (it (mixB m q) k va)) (fun v _ => 4 - (intOf v).toNat)
      case atStart => exact ⟨0, by omega, rfl, by rw [it_zero]; exact HF.out⟩
      obtain ⟨k, hk, rfl, hf⟩ := hrel
      clear HF
      rcases Nat.lt_or_ge k 4 with hlt | hge
      · skip
        have HS2 := Lib.hid (show it (mixB m q) (k + 1) va = mixB m q k (it (mixB m q) k va) from it_succ _ _ _)
        generalize it (mixB m q) k va = v1 at *
        have HK := Lib.hid hlt
        have iq9 := HIQ.out
        obtain ⟨p1, hp1⟩ : ∃ q : Nat, q = k + 1 := ⟨_, rfl⟩
        have ep1 : (k : Int) + 1 = (p1 : Int) := by omega
        obtain ⟨r1, hr1⟩ : ∃ q : Nat, q = p1 % 4 := ⟨_, rfl⟩
        have er1 := te4 p1 r1 (p1 : Int) rfl hr1
        obtain ⟨b1, hb1⟩ : ∃ q : Nat, q = 4 + r1 := ⟨_, rfl⟩
        have eb1 : (4 : Int) + (r1 : Int) = (b1 : Int) := by omega
        obtain ⟨p2, hp2⟩ : ∃ q : Nat, q = k + 2 := ⟨_, rfl⟩
        have ep2 : (k : Int) + 2 = (p2 : Int) := by omega
        obtain ⟨r2, hr2⟩ : ∃ q : Nat, q = p2 % 4 := ⟨_, rfl⟩
        have er2 := te4 p2 r2 (p2 : Int) rfl hr2
        obtain ⟨b2, hb2⟩ : ∃ q : Nat, q = 8 + r2 := ⟨_, rfl⟩
        have eb2 : (8 : Int) + (r2 : Int) = (b2 : Int) := by omega
        obtain ⟨p3, hp3⟩ : ∃ q : Nat, q = k + 3 := ⟨_, rfl⟩
        have ep3 : (k : Int) + 3 = (p3 : Int) := by omega
        obtain ⟨r3, hr3⟩ : ∃ q : Nat, q = p3 % 4 := ⟨_, rfl⟩
        have er3 := te4 p3 r3 (p3 : Int) rfl hr3
        obtain ⟨b3, hb3⟩ : ∃ q : Nat, q = 12 + r3 := ⟨_, rfl⟩
        have eb3 : (12 : Int) + (r3 : Int) = (b3 : Int) := by omega
        obtain ⟨j0, hj0⟩ : ∃ q : Nat, q = 2 * k := ⟨_, rfl⟩
        have ej0 : (2 : Int) * (k : Int) = (j0 : Int) := by omega
        obtain ⟨j1, hj1⟩ : ∃ q : Nat, q = 8 + 2 * k := ⟨_, rfl⟩
        have ej1 : (8 : Int) + (j0 : Int) = (j1 : Int) := by omega
        obtain ⟨j2, hj2⟩ : ∃ q : Nat, q = 9 + 2 * k := ⟨_, rfl⟩
        have ej2 : (9 : Int) + (j0 : Int) = (j2 : Int) := by omega
        have yj1 : ¬ (16 : Int) ≤ (j1 : Int) := by omega
        have yj2 : ¬ (16 : Int) ≤ (j2 : Int) := by omega
        have cs1 : wr.cell? ⟨gs, q * 16 + j1, none⟩ = some (.int .u8 ((sgm q j1 : Nat) : Int)) := by rw [Nat.mul_comm]; exact hf.cS q j1 (by omega)
        have cs2 : wr.cell? ⟨gs, q * 16 + j2, none⟩ = some (.int .u8 ((sgm q j2 : Nat) : Int)) := by rw [Nat.mul_comm]; exact hf.cS q j2 (by omega)
        have l1 := sgm_lt q j1 (by omega)
        have l2 := sgm_lt q j2 (by omega)
        generalize hs1 : sgm q j1 = s1 at *
        generalize hs2 : sgm q j2 = s2 at *
        have cm1 := hf.cM s1 l1
        have cm2 := hf.cM s2 l2
        have z1 : ¬ (16 : Int) ≤ (s1 : Int) := by omega
        have z2 : ¬ (16 : Int) ≤ (s2 : Int) := by omega
        have HF := Lib.hid hf
        have HG := Lib.hid (show mixB m q k v1 = mixG v1 k b1 b2 b3 (gt m 0#64 s1) (gt m 0#64 s2) by unfold mixB; rw [← hj1, ← hj2, hs1, hs2, ← hp1, ← hp2, ← hp3, ← hr1, ← hr2, ← hr3, ← hb1, ← hb2, ← hb3])
        have L4 := Lib.hid (show b1 < 16 by omega)
        have tb1 : ¬ (16 : Int) ≤ (b1 : Int) := by omega
        have tb2 : ¬ (16 : Int) ≤ (b2 : Int) := by omega
        have tb3 : ¬ (16 : Int) ≤ (b3 : Int) := by omega
        have L8 := Lib.hid (show b2 < 16 by omega)
        have L12 := Lib.hid (show b3 < 16 by omega)
        clear hf hs1 hs2 l1 l2 hj1 hj2 hj0 hp1 hp2 hp3 hr1 hr2 hr3 hb1 hb2 hb3 iq9
        generalize gt m 0#64 s1 = x at *
        generalize gt m 0#64 s2 = y at *
        go_wp2_with fail
        refine wp_region_c 31 (by kernel_rfl) (by kernel_rfl) ?_
        simp only [List.take_succ_cons, List.take_zero, List.drop_succ_cons, List.drop_zero]
        iterate 17 (refine wpC_run (by rfl) rfl (fun K hK => ?_); go_wp2)
        refine wpC_val (.pointer (some ⟨gs, q * 16, none⟩)) (by rfl) (by go_simp) ?_
        simp only [Act.put, List.setIfInBounds_toArray, List.set_cons_zero, List.set_cons_succ]
        iterate 8 (refine wpC_run (by rfl) rfl (fun K hK => ?_); go_wp2)
        refine wpC_val (.pointer (some ⟨gs, q * 16, none⟩)) (by rfl) (by go_simp) ?_
        simp only [Act.put, List.setIfInBounds_toArray, List.set_cons_zero, List.set_cons_succ]
        iterate 4 (refine wpC_run (by rfl) rfl (fun K hK => ?_); go_wp2)
        refine wpC_nil ?_
        go_wp2_with (first
          | (go_at_call 45; refine (mix45 _ n4 v1 k b1 b2 b3 x y (by have := HK.out; omega) L4.out L8.out L12.out HF.out.lv HF.out.drew.Vv).mono ?_
             rintro e w1 ⟨⟨u, rfl⟩, ho, ha⟩))
        have HF2 : Hid (Qf w w1 n0 n1 n4 gs h m (mixG v1 k b1 b2 b3 x y)) := HF.out.drew.mixed ho ha (by rw [mixG_len]; exact HF.out.lv)
        have hlt := HK.out
        clear ho ha
        go_roundw
        case rel =>
          refine ⟨k + 1, by omega, by go_num, ?_⟩
          rw [HS2.out, HG.out]
          exact HF2.out
        case measure => simp [intOf]; omega
      obtain rfl : k = 4 := by omega
      rw [show ((4 : Nat) : Int) = 4 from rfl]
      have HF := Lib.hid hf
      clear hf hk hge
      have HRB := Lib.hid (show rndB m i v0 = it (mixB m q) 4 va by unfold rndB; rw [← HQQ.out, HVA.out])
      have hmn := HMN.out
      have hlt := HLT.out
      have ewr : IntKind.u32.wrap ((i : Int) + 1) = ((i + 1 : Nat) : Int) := by rw [wrap_u32]; omega
      clear hmn
      go_wp2_with fail
      go_roundw
      case rel =>
        refine ⟨i + 1, by omega, by go_num, ?_⟩
        rw [HS.out, HRB.out]
        exact HF.out
      case measure => simp [intOf]; omega
    obtain rfl : i = many := by omega
    go_wp2_with fail
    have HPF := Lib.hid (show blakeF i h m t0 t1 false = it (outB v0) 8 h by unfold blakeF; rw [← HV0.out, HE.out])
    clear HE HS HV0
    obtain ⟨wo, rfl⟩ : ∃ wo : World, wo = wr := ⟨_, rfl⟩
    go_loopw [117] (fun v wr => ∃ j : Nat, j ≤ 8 ∧ v = .int .i64 (j : Int) ∧ Qf w wr n0 n1 n4 gs (it (outB v0) j h) m v0) (fun v _ => 8 - (intOf v).toNat)
    case atStart => exact ⟨0, by omega, rfl, by rw [it_zero]; exact HF.out⟩
    obtain ⟨j, hj, rfl, hf⟩ := hrel
    clear HF
    have hS := it_succ (outB v0) j h
    generalize hus : it (outB v0) j h = us at *
    have HUS := Lib.hid hus
    rcases Nat.lt_or_ge j 8 with hlt | hge
    · skip
      obtain ⟨j8, hj8⟩ : ∃ q, q = j + 8 := ⟨_, rfl⟩
      have ej8 : (j : Int) + 8 = (j8 : Int) := by omega
      have hSS : outB v0 j us = us.set j (gt us 0#64 j ^^^ (gt v0 0#64 j ^^^ gt v0 0#64 j8)) := by unfold outB; rw [hj8]
      rw [hSS] at hS
      have y8 : ¬ (8 : Int) ≤ (j : Int) := by omega
      have y16 : ¬ (16 : Int) ≤ (j : Int) := by omega
      have y26 : ¬ (16 : Int) ≤ (j8 : Int) := by omega
      have ch := hf.cH j hlt
      have cv := hf.cV j (by omega)
      have cw := hf.cV j8 (by omega)
      have fh := hf.H.frozen j
      have HS := Lib.hid hS
      have HF := Lib.hid hf
      have HJ := Lib.hid hj8
      clear hS hSS hf hus hj8
      generalize gt us 0#64 j = x at *
      generalize gt v0 0#64 j = y at *
      generalize gt v0 0#64 j8 = z at *
      go_wp2_with fail
      refine wp_region_c 13 (by kernel_rfl) (by kernel_rfl) ?_
      simp only [List.take_succ_cons, List.take_zero, List.drop_succ_cons, List.drop_zero]
      iterate 13 (refine wpC_run (by rfl) rfl (fun K hK => ?_); go_wp2)
      refine wpC_nil ?_
      go_wp2
      go_roundw
      case rel =>
        refine ⟨j + 1, by omega, by go_num, ?_⟩
        rw [HS.out]
        exact (HF.out.drew.setH _ _)
      case measure => simp [intOf]; omega
    obtain rfl : j = 8 := by omega
    rw [show ((8 : Nat) : Int) = 8 from rfl]
    have HV : Hid (blakeF i h m t0 t1 false = us) := HPF.out.trans HUS.out
    have hs : (m64 us).toArray.size = 8 := by rw [List.size_toArray, m64_len, hf.lh]
    have hi0 : (Try.prog.info? 45).map (·.size) = some (m64 us).toArray.size := by rw [hs]; exact info45
    have hz0 : (m64 (List.replicate 8 0#64)).toArray.size = (m64 us).toArray.size := by rw [hs]; rfl
    have h1 : (m64 us).toArray.all (·.oneCell') = true := by simp [m64, Value.oneCell']
    have HF := Lib.hid hf
    have HZ3 : Hid (Arr wr n3 45 (m64 (List.replicate 8 0#64))) := by rw [HN3.out]; exact HF.out.Z
    clear hf hS hus HUS
    go_wp2_with (first
      | (refine wpList_load_row rfl 45 (.tmp 6) rfl n0 rfl 45 (m64 us).toArray (0, 0) _ HF.out.H Try.underlying45 rfl hi0 ?_)
      | (refine wpList_store_row rfl 45 (.tmp 10) (.tmp 134) rfl n3 (m64 us).toArray rfl rfl 45 (m64 (List.replicate 8 0#64)).toArray HZ3.out hi0 hz0 h1 ?_))
    refine bodyPost_ret (results_cell_row (P := Try.prog) rfl _ _ n3 45 (m64 us).toArray (0, 0) _ rfl (setRow_heap wr _ _ _ _ _ HZ3.out) Try.underlying45 rfl hi0) rfl ⟨?_, below_setRow HF.out.W (by have := HN3.out; omega) _⟩
    rw [HV.out]
  · skip
    go_wp2_with (first
      | (skip
         refine wp_copy8 rfl (.tmp 23) (.tmp 24) rfl (w.heap.size + 1 + 1 + 1 + 1) 8 gi 8 8 rfl rfl v1 ivF v2 iv_len HQ1.out.drew.Vv HQ1.out.drew.I (by rw [lv1.out]; exact Nat.le_refl _) HV2.out ?_
         have HQ2 : Hid (Qi w (wy.drew.setRow (w.heap.size + 1 + 1 + 1 + 1) (m64 v2).toArray) gi h m v2 t0 t1) := HQ1.out.drew.row lv2.out
         generalize (wy.drew.setRow (w.heap.size + 1 + 1 + 1 + 1) (m64 v2).toArray) = wz at *
         have c12 := HQ2.out.cV 12 (by omega)
         have c13 := HQ2.out.cV 13 (by omega)
         have c14 := HQ2.out.cV 14 (by omega)
         have d0 := HQ2.out.T.cell (m64_get (i := 0) (by simp))
         have d1 := HQ2.out.T.cell (m64_get (i := 1) (by simp))
         rw [two0] at d0
         rw [two1] at d1
         have f12 := HQ2.out.Vv.frozen 12
         have f13 := HQ2.out.Vv.frozen 13
         have f14 := HQ2.out.Vv.frozen 14)
      | (go_at_call 44; refine (sigma44 _).mono ?_
         rintro e w5 ⟨rfl, hb5⟩
         have HQF := Lib.hid (qf_start (((HQ2.out.set 12 (gt v2 0#64 12 ^^^ t0)).set 13 (gt v2 0#64 13 ^^^ t1)).set 14 (~~~ gt v2 0#64 14)) HH.out HM.out hb5)
         rw [HZE.out] at HQF
         clear hb5)
      | (refine wpList_store_row rfl 86 (.tmp 13) (.tmp 43) rfl w5.heap.size (nums SG).toArray rfl rfl 86 zs (block_new _ _) HI86.out HS86.out (nums_all _) ?_))
    clear h
    obtain ⟨V0, hV0⟩ : ∃ V0, V0 = begB h t0 t1 true := ⟨_, rfl⟩
    have HV0 := Lib.hid hV0
    have HB0 : Hid (V0 = ((v2.set 12 (gt v2 0#64 12 ^^^ t0)).set 13 (gt v2 0#64 13 ^^^ t1)).set 14 (~~~ gt v2 0#64 14)) := hV0.trans ((beg_def h v2 t0 t1 true HVV.out).trans rfl)
    rw [← HB0.out] at HQF
    clear hV0 HB0 HZE HVV HV1 HV2 HQ2 HQ1 HQ0 c12 c13 c14 d0 d1 f12 f13 f14 HZ HI86 HS86 lv1 lv2 hsl1 hsl2 hsl3
    generalize ((w5.alloc (.cells zs 86)).setRow w5.heap.size (nums SG).toArray) = wq at *
    generalize w5.heap.size = gs at *
    obtain ⟨n4, hn4⟩ : ∃ n, n = w.heap.size + 1 + 1 + 1 + 1 := ⟨_, rfl⟩
    rw [← hn4] at HQF ⊢
    obtain ⟨n1, hn1⟩ : ∃ n, n = w.heap.size + 1 := ⟨_, rfl⟩
    obtain ⟨n3, hn3⟩ : ∃ n, n = w.heap.size + 1 + 1 + 1 := ⟨_, rfl⟩
    rw [← hn3]
    rw [← hn1] at HQF ⊢
    have HN3 := Lib.hid hn3
    clear hn1 hn4 hn3
    generalize hn0 : w.heap.size = n0 at HQF ⊢
    have HN0 := Lib.hid hn0
    clear hn0
    go_loopw [14] (fun v wr => ∃ i : Nat, i ≤ many ∧ v = .int .u32 (i : Int) ∧ Qf w wr n0 n1 n4 gs h m (it (rndB m) i V0)) (fun v _ => many - (intOf v).toNat)
    case atStart => exact ⟨0, by omega, rfl, by rw [it_zero]; exact HQF.out⟩
    obtain ⟨i, hi, rfl, hf⟩ := hrel
    clear HQF
    have HS := Lib.hid (show it (rndB m) (i + 1) V0 = rndB m i (it (rndB m) i V0) from it_succ _ _ _)
    generalize hv0 : it (rndB m) i V0 = v0 at *
    have HE := Lib.hid hv0
    clear hv0
    have HF := Lib.hid hf
    clear hf
    rcases Nat.lt_or_ge i many with hlt | hge
    · skip
      obtain ⟨q, hq⟩ : ∃ q, q = i % 10 := ⟨_, rfl⟩
      have eq := te10 i q (i : Int) rfl hq
      have iq : ¬ (10 : Int) ≤ (q : Int) := by omega
      have HQQ := Lib.hid hq
      clear hq
      go_wp2_with fail
      have HIQ := Lib.hid (show q < 10 by omega)
      have HLT := Lib.hid hlt
      clear hlt
      obtain ⟨wo, rfl⟩ : ∃ wo : World, wo = wr := ⟨_, rfl⟩
      go_loopw [52] (fun v wr => ∃ k : Nat, k ≤ 4 ∧ v = .int .i64 (k : Int) ∧ Qf w wr n0 n1 n4 gs h m (it (mixA m q) k v0)) (fun v _ => 4 - (intOf v).toNat)
      case atStart => exact ⟨0, by omega, rfl, by rw [it_zero]; exact HF.out⟩
      obtain ⟨k, hk, rfl, hf⟩ := hrel
      clear HF
      rcases Nat.lt_or_ge k 4 with hlt | hge
      · skip
        have HS2 := Lib.hid (show it (mixA m q) (k + 1) v0 = mixA m q k (it (mixA m q) k v0) from it_succ _ _ _)
        generalize it (mixA m q) k v0 = v1 at *
        have HK := Lib.hid hlt
        have iq9 := HIQ.out
        obtain ⟨k4, hk4⟩ : ∃ q : Nat, q = 4 + k := ⟨_, rfl⟩
        have ek4 : (4 : Int) + (k : Int) = (k4 : Int) := by omega
        obtain ⟨k8, hk8⟩ : ∃ q : Nat, q = 8 + k := ⟨_, rfl⟩
        have ek8 : (8 : Int) + (k : Int) = (k8 : Int) := by omega
        obtain ⟨k12, hk12⟩ : ∃ q : Nat, q = 12 + k := ⟨_, rfl⟩
        have ek12 : (12 : Int) + (k : Int) = (k12 : Int) := by omega
        obtain ⟨j1, hj1⟩ : ∃ q : Nat, q = 2 * k := ⟨_, rfl⟩
        have ej1 : (2 : Int) * (k : Int) = (j1 : Int) := by omega
        obtain ⟨j2, hj2⟩ : ∃ q : Nat, q = 2 * k + 1 := ⟨_, rfl⟩
        have ej2 : (j1 : Int) + 1 = (j2 : Int) := by omega
        have yj1 : ¬ (16 : Int) ≤ (j1 : Int) := by omega
        have yj2 : ¬ (16 : Int) ≤ (j2 : Int) := by omega
        have cs1 : wr.cell? ⟨gs, q * 16 + j1, none⟩ = some (.int .u8 ((sgm q j1 : Nat) : Int)) := by rw [Nat.mul_comm]; exact hf.cS q j1 (by omega)
        have cs2 : wr.cell? ⟨gs, q * 16 + j2, none⟩ = some (.int .u8 ((sgm q j2 : Nat) : Int)) := by rw [Nat.mul_comm]; exact hf.cS q j2 (by omega)
        have l1 := sgm_lt q j1 (by omega)
        have l2 := sgm_lt q j2 (by omega)
        generalize hs1 : sgm q j1 = s1 at *
        generalize hs2 : sgm q j2 = s2 at *
        have cm1 := hf.cM s1 l1
        have cm2 := hf.cM s2 l2
        have z1 : ¬ (16 : Int) ≤ (s1 : Int) := by omega
        have z2 : ¬ (16 : Int) ≤ (s2 : Int) := by omega
        have HF := Lib.hid hf
        have HG := Lib.hid (show mixA m q k v1 = mixG v1 k k4 k8 k12 (gt m 0#64 s1) (gt m 0#64 s2) by unfold mixA; rw [← hj2, ← hj1, hs1, hs2, ← hk4, ← hk8, ← hk12])
        have L4 := Lib.hid (show k4 < 16 by omega)
        have L8 := Lib.hid (show k8 < 16 by omega)
        have L12 := Lib.hid (show k12 < 16 by omega)
        clear hf hs1 hs2 l1 l2 hj1 hj2 hk4 hk8 hk12 iq9
        generalize gt m 0#64 s1 = x at *
        generalize gt m 0#64 s2 = y at *
        go_wp2_with fail
        refine wp_region_c 24 (by kernel_rfl) (by kernel_rfl) ?_
        simp only [List.take_succ_cons, List.take_zero, List.drop_succ_cons, List.drop_zero]
        iterate 10 (refine wpC_run (by rfl) rfl (fun K hK => ?_); go_wp2)
        refine wpC_val (.pointer (some ⟨gs, q * 16, none⟩)) (by rfl) (by go_simp) ?_
        simp only [Act.put, List.setIfInBounds_toArray, List.set_cons_zero, List.set_cons_succ]
        iterate 8 (refine wpC_run (by rfl) rfl (fun K hK => ?_); go_wp2)
        refine wpC_val (.pointer (some ⟨gs, q * 16, none⟩)) (by rfl) (by go_simp) ?_
        simp only [Act.put, List.setIfInBounds_toArray, List.set_cons_zero, List.set_cons_succ]
        iterate 4 (refine wpC_run (by rfl) rfl (fun K hK => ?_); go_wp2)
        refine wpC_nil ?_
        go_wp2_with (first
          | (go_at_call 45; refine (mix45 _ n4 v1 k k4 k8 k12 x y (by have := HK.out; omega) L4.out L8.out L12.out HF.out.lv HF.out.drew.Vv).mono ?_
             rintro e w1 ⟨⟨u, rfl⟩, ho, ha⟩))
        have HF2 : Hid (Qf w w1 n0 n1 n4 gs h m (mixG v1 k k4 k8 k12 x y)) := HF.out.drew.mixed ho ha (by rw [mixG_len]; exact HF.out.lv)
        have hlt := HK.out
        clear ho ha
        go_roundw
        case rel =>
          refine ⟨k + 1, by omega, by go_num, ?_⟩
          rw [HS2.out, HG.out]
          exact HF2.out
        case measure => simp [intOf]; omega
      obtain rfl : k = 4 := by omega
      rw [show ((4 : Nat) : Int) = 4 from rfl]
      have HF := Lib.hid hf
      clear hf hk hge
      go_wp2_with fail
      generalize hva : it (mixA m q) 4 v0 = va at *
      have HVA := Lib.hid hva
      clear hva
      obtain ⟨wo, rfl⟩ : ∃ wo : World, wo = wr := ⟨_, rfl⟩
      go_loopw [81] (fun v wr => ∃ k : Nat, k ≤ 4 ∧ v = .int .i64 (k : Int) ∧ Qf w wr n0 n1 n4 gs h m (it (mixB m q) k va)) (fun v _ => 4 - (intOf v).toNat)
      case atStart => exact ⟨0, by omega, rfl, by rw [it_zero]; exact HF.out⟩
      obtain ⟨k, hk, rfl, hf⟩ := hrel
      clear HF
      rcases Nat.lt_or_ge k 4 with hlt | hge
      · skip
        have HS2 := Lib.hid (show it (mixB m q) (k + 1) va = mixB m q k (it (mixB m q) k va) from it_succ _ _ _)
        generalize it (mixB m q) k va = v1 at *
        have HK := Lib.hid hlt
        have iq9 := HIQ.out
        obtain ⟨p1, hp1⟩ : ∃ q : Nat, q = k + 1 := ⟨_, rfl⟩
        have ep1 : (k : Int) + 1 = (p1 : Int) := by omega
        obtain ⟨r1, hr1⟩ : ∃ q : Nat, q = p1 % 4 := ⟨_, rfl⟩
        have er1 := te4 p1 r1 (p1 : Int) rfl hr1
        obtain ⟨b1, hb1⟩ : ∃ q : Nat, q = 4 + r1 := ⟨_, rfl⟩
        have eb1 : (4 : Int) + (r1 : Int) = (b1 : Int) := by omega
        obtain ⟨p2, hp2⟩ : ∃ q : Nat, q = k + 2 := ⟨_, rfl⟩
        have ep2 : (k : Int) + 2 = (p2 : Int) := by omega
        obtain ⟨r2, hr2⟩ : ∃ q : Nat, q = p2 % 4 := ⟨_, rfl⟩
        have er2 := te4 p2 r2 (p2 : Int) rfl hr2
        obtain ⟨b2, hb2⟩ : ∃ q : Nat, q = 8 + r2 := ⟨_, rfl⟩
        have eb2 : (8 : Int) + (r2 : Int) = (b2 : Int) := by omega
        obtain ⟨p3, hp3⟩ : ∃ q : Nat, q = k + 3 := ⟨_, rfl⟩
        have ep3 : (k : Int) + 3 = (p3 : Int) := by omega
        obtain ⟨r3, hr3⟩ : ∃ q : Nat, q = p3 % 4 := ⟨_, rfl⟩
        have er3 := te4 p3 r3 (p3 : Int) rfl hr3
        obtain ⟨b3, hb3⟩ : ∃ q : Nat, q = 12 + r3 := ⟨_, rfl⟩
        have eb3 : (12 : Int) + (r3 : Int) = (b3 : Int) := by omega
        obtain ⟨j0, hj0⟩ : ∃ q : Nat, q = 2 * k := ⟨_, rfl⟩
        have ej0 : (2 : Int) * (k : Int) = (j0 : Int) := by omega
        obtain ⟨j1, hj1⟩ : ∃ q : Nat, q = 8 + 2 * k := ⟨_, rfl⟩
        have ej1 : (8 : Int) + (j0 : Int) = (j1 : Int) := by omega
        obtain ⟨j2, hj2⟩ : ∃ q : Nat, q = 9 + 2 * k := ⟨_, rfl⟩
        have ej2 : (9 : Int) + (j0 : Int) = (j2 : Int) := by omega
        have yj1 : ¬ (16 : Int) ≤ (j1 : Int) := by omega
        have yj2 : ¬ (16 : Int) ≤ (j2 : Int) := by omega
        have cs1 : wr.cell? ⟨gs, q * 16 + j1, none⟩ = some (.int .u8 ((sgm q j1 : Nat) : Int)) := by rw [Nat.mul_comm]; exact hf.cS q j1 (by omega)
        have cs2 : wr.cell? ⟨gs, q * 16 + j2, none⟩ = some (.int .u8 ((sgm q j2 : Nat) : Int)) := by rw [Nat.mul_comm]; exact hf.cS q j2 (by omega)
        have l1 := sgm_lt q j1 (by omega)
        have l2 := sgm_lt q j2 (by omega)
        generalize hs1 : sgm q j1 = s1 at *
        generalize hs2 : sgm q j2 = s2 at *
        have cm1 := hf.cM s1 l1
        have cm2 := hf.cM s2 l2
        have z1 : ¬ (16 : Int) ≤ (s1 : Int) := by omega
        have z2 : ¬ (16 : Int) ≤ (s2 : Int) := by omega
        have HF := Lib.hid hf
        have HG := Lib.hid (show mixB m q k v1 = mixG v1 k b1 b2 b3 (gt m 0#64 s1) (gt m 0#64 s2) by unfold mixB; rw [← hj1, ← hj2, hs1, hs2, ← hp1, ← hp2, ← hp3, ← hr1, ← hr2, ← hr3, ← hb1, ← hb2, ← hb3])
        have L4 := Lib.hid (show b1 < 16 by omega)
        have tb1 : ¬ (16 : Int) ≤ (b1 : Int) := by omega
        have tb2 : ¬ (16 : Int) ≤ (b2 : Int) := by omega
        have tb3 : ¬ (16 : Int) ≤ (b3 : Int) := by omega
        have L8 := Lib.hid (show b2 < 16 by omega)
        have L12 := Lib.hid (show b3 < 16 by omega)
        clear hf hs1 hs2 l1 l2 hj1 hj2 hj0 hp1 hp2 hp3 hr1 hr2 hr3 hb1 hb2 hb3 iq9
        generalize gt m 0#64 s1 = x at *
        generalize gt m 0#64 s2 = y at *
        go_wp2_with fail
        refine wp_region_c 31 (by kernel_rfl) (by kernel_rfl) ?_
        simp only [List.take_succ_cons, List.take_zero, List.drop_succ_cons, List.drop_zero]
        iterate 17 (refine wpC_run (by rfl) rfl (fun K hK => ?_); go_wp2)
        refine wpC_val (.pointer (some ⟨gs, q * 16, none⟩)) (by rfl) (by go_simp) ?_
        simp only [Act.put, List.setIfInBounds_toArray, List.set_cons_zero, List.set_cons_succ]
        iterate 8 (refine wpC_run (by rfl) rfl (fun K hK => ?_); go_wp2)
        refine wpC_val (.pointer (some ⟨gs, q * 16, none⟩)) (by rfl) (by go_simp) ?_
        simp only [Act.put, List.setIfInBounds_toArray, List.set_cons_zero, List.set_cons_succ]
        iterate 4 (refine wpC_run (by rfl) rfl (fun K hK => ?_); go_wp2)
        refine wpC_nil ?_
        go_wp2_with (first
          | (go_at_call 45; refine (mix45 _ n4 v1 k b1 b2 b3 x y (by have := HK.out; omega) L4.out L8.out L12.out HF.out.lv HF.out.drew.Vv).mono ?_
             rintro e w1 ⟨⟨u, rfl⟩, ho, ha⟩))
        have HF2 : Hid (Qf w w1 n0 n1 n4 gs h m (mixG v1 k b1 b2 b3 x y)) := HF.out.drew.mixed ho ha (by rw [mixG_len]; exact HF.out.lv)
        have hlt := HK.out
        clear ho ha
        go_roundw
        case rel =>
          refine ⟨k + 1, by omega, by go_num, ?_⟩
          rw [HS2.out, HG.out]
          exact HF2.out
        case measure => simp [intOf]; omega
      obtain rfl : k = 4 := by omega
      rw [show ((4 : Nat) : Int) = 4 from rfl]
      have HF := Lib.hid hf
      clear hf hk hge
      have HRB := Lib.hid (show rndB m i v0 = it (mixB m q) 4 va by unfold rndB; rw [← HQQ.out, HVA.out])
      have hmn := HMN.out
      have hlt := HLT.out
      have ewr : IntKind.u32.wrap ((i : Int) + 1) = ((i + 1 : Nat) : Int) := by rw [wrap_u32]; omega
      clear hmn
      go_wp2_with fail
      go_roundw
      case rel =>
        refine ⟨i + 1, by omega, by go_num, ?_⟩
        rw [HS.out, HRB.out]
        exact HF.out
      case measure => simp [intOf]; omega
    obtain rfl : i = many := by omega
    go_wp2_with fail
    have HPF := Lib.hid (show blakeF i h m t0 t1 true = it (outB v0) 8 h by unfold blakeF; rw [← HV0.out, HE.out])
    clear HE HS HV0
    obtain ⟨wo, rfl⟩ : ∃ wo : World, wo = wr := ⟨_, rfl⟩
    go_loopw [117] (fun v wr => ∃ j : Nat, j ≤ 8 ∧ v = .int .i64 (j : Int) ∧ Qf w wr n0 n1 n4 gs (it (outB v0) j h) m v0) (fun v _ => 8 - (intOf v).toNat)
    case atStart => exact ⟨0, by omega, rfl, by rw [it_zero]; exact HF.out⟩
    obtain ⟨j, hj, rfl, hf⟩ := hrel
    clear HF
    have hS := it_succ (outB v0) j h
    generalize hus : it (outB v0) j h = us at *
    have HUS := Lib.hid hus
    rcases Nat.lt_or_ge j 8 with hlt | hge
    · skip
      obtain ⟨j8, hj8⟩ : ∃ q, q = j + 8 := ⟨_, rfl⟩
      have ej8 : (j : Int) + 8 = (j8 : Int) := by omega
      have hSS : outB v0 j us = us.set j (gt us 0#64 j ^^^ (gt v0 0#64 j ^^^ gt v0 0#64 j8)) := by unfold outB; rw [hj8]
      rw [hSS] at hS
      have y8 : ¬ (8 : Int) ≤ (j : Int) := by omega
      have y16 : ¬ (16 : Int) ≤ (j : Int) := by omega
      have y26 : ¬ (16 : Int) ≤ (j8 : Int) := by omega
      have ch := hf.cH j hlt
      have cv := hf.cV j (by omega)
      have cw := hf.cV j8 (by omega)
      have fh := hf.H.frozen j
      have HS := Lib.hid hS
      have HF := Lib.hid hf
      have HJ := Lib.hid hj8
      clear hS hSS hf hus hj8
      generalize gt us 0#64 j = x at *
      generalize gt v0 0#64 j = y at *
      generalize gt v0 0#64 j8 = z at *
      go_wp2_with fail
      refine wp_region_c 13 (by kernel_rfl) (by kernel_rfl) ?_
      simp only [List.take_succ_cons, List.take_zero, List.drop_succ_cons, List.drop_zero]
      iterate 13 (refine wpC_run (by rfl) rfl (fun K hK => ?_); go_wp2)
      refine wpC_nil ?_
      go_wp2
      go_roundw
      case rel =>
        refine ⟨j + 1, by omega, by go_num, ?_⟩
        rw [HS.out]
        exact (HF.out.drew.setH _ _)
      case measure => simp [intOf]; omega
    obtain rfl : j = 8 := by omega
    rw [show ((8 : Nat) : Int) = 8 from rfl]
    have HV : Hid (blakeF i h m t0 t1 true = us) := HPF.out.trans HUS.out
    have hs : (m64 us).toArray.size = 8 := by rw [List.size_toArray, m64_len, hf.lh]
    have hi0 : (Try.prog.info? 45).map (·.size) = some (m64 us).toArray.size := by rw [hs]; exact info45
    have hz0 : (m64 (List.replicate 8 0#64)).toArray.size = (m64 us).toArray.size := by rw [hs]; rfl
    have h1 : (m64 us).toArray.all (·.oneCell') = true := by simp [m64, Value.oneCell']
    have HF := Lib.hid hf
    have HZ3 : Hid (Arr wr n3 45 (m64 (List.replicate 8 0#64))) := by rw [HN3.out]; exact HF.out.Z
    clear hf hS hus HUS
    go_wp2_with (first
      | (refine wpList_load_row rfl 45 (.tmp 6) rfl n0 rfl 45 (m64 us).toArray (0, 0) _ HF.out.H Try.underlying45 rfl hi0 ?_)
      | (refine wpList_store_row rfl 45 (.tmp 10) (.tmp 134) rfl n3 (m64 us).toArray rfl rfl 45 (m64 (List.replicate 8 0#64)).toArray HZ3.out hi0 hz0 h1 ?_))
    refine bodyPost_ret (results_cell_row (P := Try.prog) rfl _ _ n3 45 (m64 us).toArray (0, 0) _ rfl (setRow_heap wr _ _ _ _ _ HZ3.out) Try.underlying45 rfl hi0) rfl ⟨?_, below_setRow HF.out.W (by have := HN3.out; omega) _⟩
    rw [HV.out]
end Go.Proofs.Ytnlcndlfdnogaaa.Bw
