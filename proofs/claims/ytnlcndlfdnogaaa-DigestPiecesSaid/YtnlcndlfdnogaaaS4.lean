/- shaPiece, walked. (printed by gen_s4.py) -/
import Derived.Test.YtnlcndlfdnogaaaS3
set_option linter.unusedVariables false
set_option linter.unusedSimpArgs false
namespace Go.Proofs.Ytnlcndlfdnogaaa.S4
open Go.RowKit
open D0 M D2 D3 Rg K1 C1 S0 S1 S2 Z S3
attribute [local go_sem] xor64 and64 or64 xor32 and32 or32 andNot32 add64 add32 unary64 unary32 not64 not32
attribute [local go_sem high] shiftl64 shiftr64 shiftl32 shiftr32
theorem rr49 (x : BitVec 32) (k : Nat) (ki : Int) (e : ki = (k : Int)) (hk : k ≤ 32) (hk0 : 0 < k) (w : World) : Calls Try.prog 49 #[.int .u32 (n32 x), .int .i64 ki] w fun e w' => e = .returned (.int .u32 (n32 (rr x k))) ∧ w' = w := by
  subst e
  exact right49 x k hk hk0 w
theorem w32 (x : BitVec 64) : IntKind.u32.wrap (n64 x) = n32 (x.setWidth 32) := by
  rw [wrap_u32]
  unfold n64 n32
  rw [BitVec.toNat_setWidth]
  omega
theorem it_zero {σ : Type} (f : Nat → σ → σ) (s : σ) : it f 0 s = s := rfl
attribute [local irreducible] it gt
/-- The frame while the words are laid. -/
structure Pf (w W : World) (n0 n1 n2 gk : Nat) (h k ws : V) (v : Value) (p : List Byte) : Prop where
  e0 : n0 = w.heap.size
  e1 : n1 = w.heap.size + 1
  e2 : n2 = w.heap.size + 2
  hk : gk < w.heap.size
  lh : h.length = 8
  lk : k.length = 64
  lw : ws.length = 64
  H : Arr W n0 60 (m32 h)
  Z : Arr W n1 60 (m32 (List.replicate 8 0#32))
  S : Arr W n2 62 (m32 ws)
  K : Arr W gk 62 (m32 k)
  P : Bs W 0 w.heap.size v p
  W : Below w.heap.size w W
section
variable {w W W' : World} {n0 n1 n2 n3 gk : Nat} {h k ws vs : V} {v : Value} {p : List Byte}
theorem Pf.drew (f : Pf w W n0 n1 n2 gk h k ws v p) : Pf w W.drew n0 n1 n2 gk h k ws v p := ⟨f.e0, f.e1, f.e2, f.hk, f.lh, f.lk, f.lw, f.H, f.Z, f.S, f.K, f.P.keep fun _ _ _ => rfl, f.W.drew⟩
theorem Pf.setW (f : Pf w W n0 n1 n2 gk h k ws v p) (i : Nat) (x : BitVec 32) : Pf w (W.setCell ⟨n2, i, none⟩ (.int .u32 (n32 x))) n0 n1 n2 gk h k (ws.set i x) v p := by
  obtain ⟨e0, e1, e2, hk, lh, lk, lw, H, Z, S, K, P, B⟩ := f
  exact ⟨e0, e1, e2, hk, lh, lk, by rw [List.length_set]; exact lw, H.other (by omega) _ _, Z.other (by omega) _ _, by rw [← m32_set]; exact S.set _ _, K.other (by omega) _ _, P.keep fun k _ hk => heap_set _ _ _ _ _ (by omega), B.trans ((Only.set _ _ _ _).below (by omega))⟩
theorem Pf.cW (f : Pf w W n0 n1 n2 gk h k ws v p) (i : Nat) (hi : i < 64) : W.cell? ⟨n2, i, none⟩ = some (.int .u32 (n32 (gt ws 0#32 i))) := f.S.cell (m32_get (by rw [f.lw]; exact hi))
/-- The frame while the rounds are run. -/
structure Pg (w W : World) (n0 n1 n2 n3 gk : Nat) (h k ws vs : V) : Prop where
  e0 : n0 = w.heap.size
  e1 : n1 = w.heap.size + 1
  e2 : n2 = w.heap.size + 2
  e3 : n2 < n3
  hk : gk < w.heap.size
  lh : h.length = 8
  lk : k.length = 64
  lw : ws.length = 64
  lv : vs.length = 8
  H : Arr W n0 60 (m32 h)
  Z : Arr W n1 60 (m32 (List.replicate 8 0#32))
  S : Arr W n2 62 (m32 ws)
  K : Arr W gk 62 (m32 k)
  Vv : Arr W n3 60 (m32 vs)
  W : Below w.heap.size w W
theorem Pf.start (f : Pf w W n0 n1 n2 gk h k ws v p) : Pg w ((W.alloc (.cells (m32 (List.replicate 8 0#32)).toArray 60)).setRow W.heap.size (m32 h).toArray) n0 n1 n2 W.heap.size gk h k ws h := by
  obtain ⟨e0, e1, e2, hk, lh, lk, lw, H, Z, S, K, P, B⟩ := f
  have h0 := H.lt
  have h1 := Z.lt
  have h2 := S.lt
  have h3 := K.lt
  exact ⟨e0, e1, e2, h2, hk, lh, lk, lw, lh, (H.alloc _).keep (setRow_other _ _ _ _ (by omega)), (Z.alloc _).keep (setRow_other _ _ _ _ (by omega)), (S.alloc _).keep (setRow_other _ _ _ _ (by omega)), (K.alloc _).keep (setRow_other _ _ _ _ (by omega)), setRow_heap _ _ _ _ _ _ (block_new _ _), below_setRow (B.alloc (by omega) _) (by omega) _⟩
theorem Pg.drew (f : Pg w W n0 n1 n2 n3 gk h k ws vs) : Pg w W.drew n0 n1 n2 n3 gk h k ws vs := ⟨f.e0, f.e1, f.e2, f.e3, f.hk, f.lh, f.lk, f.lw, f.lv, f.H, f.Z, f.S, f.K, f.Vv, f.W.drew⟩
theorem Pg.setV (f : Pg w W n0 n1 n2 n3 gk h k ws vs) {us : V} (hu : us.length = 8) : Pg w (W.setRow n3 (m32 us).toArray) n0 n1 n2 n3 gk h k ws us := by
  obtain ⟨e0, e1, e2, e3, hk, lh, lk, lw, lv, H, Z, S, K, V, B⟩ := f
  exact ⟨e0, e1, e2, e3, hk, lh, lk, lw, hu, H.keep (setRow_other _ _ _ _ (by omega)), Z.keep (setRow_other _ _ _ _ (by omega)), S.keep (setRow_other _ _ _ _ (by omega)), K.keep (setRow_other _ _ _ _ (by omega)), setRow_heap _ _ _ _ _ _ V, below_setRow B (by omega) _⟩
theorem Pg.setH (f : Pg w W n0 n1 n2 n3 gk h k ws vs) (i : Nat) (x : BitVec 32) : Pg w (W.setCell ⟨n0, i, none⟩ (.int .u32 (n32 x))) n0 n1 n2 n3 gk (h.set i x) k ws vs := by
  obtain ⟨e0, e1, e2, e3, hk, lh, lk, lw, lv, H, Z, S, K, V, B⟩ := f
  exact ⟨e0, e1, e2, e3, hk, by rw [List.length_set]; exact lh, lk, lw, lv, by rw [← m32_set]; exact H.set _ _, Z.other (by omega) _ _, S.other (by omega) _ _, K.other (by omega) _ _, V.other (by omega) _ _, B.trans ((Only.set _ _ _ _).below (by omega))⟩
theorem Pg.cW (f : Pg w W n0 n1 n2 n3 gk h k ws vs) (i : Nat) (hi : i < 64) : W.cell? ⟨n2, i, none⟩ = some (.int .u32 (n32 (gt ws 0#32 i))) := f.S.cell (m32_get (by rw [f.lw]; exact hi))
theorem Pg.cK (f : Pg w W n0 n1 n2 n3 gk h k ws vs) (i : Nat) (hi : i < 64) : W.cell? ⟨gk, i, none⟩ = some (.int .u32 (n32 (gt k 0#32 i))) := f.K.cell (m32_get (by rw [f.lk]; exact hi))
theorem Pg.cV (f : Pg w W n0 n1 n2 n3 gk h k ws vs) (i : Nat) (hi : i < 8) : W.cell? ⟨n3, i, none⟩ = some (.int .u32 (n32 (gt vs 0#32 i))) := f.Vv.cell (m32_get (by rw [f.lv]; exact hi))
theorem Pg.cH (f : Pg w W n0 n1 n2 n3 gk h k ws vs) (i : Nat) (hi : i < 8) : W.cell? ⟨n0, i, none⟩ = some (.int .u32 (n32 (gt h 0#32 i))) := f.H.cell (m32_get (by rw [f.lh]; exact hi))
end
theorem info60 : (Try.prog.info? 60).map (·.size) = some 8 := by kernel_rfl
set_option maxRecDepth 100000 in
set_option maxHeartbeats 4000000 in
theorem piece32 (w : World) (gk : Nat) (h k : V) (v : Value) (p : List Byte) (lh : h.length = 8) (lk : k.length = 64) (hK : Arr w gk 62 (m32 k)) (hP : Bs w 0 w.heap.size v p) (lp : 64 ≤ p.length) :
    Calls Try.prog 32 #[.agg (m32 h).toArray, .pointer (some ⟨gk, 0, none⟩), v] w fun e w' => e = .returned (.agg (m32 (pieceF k h p)).toArray) ∧ Below w.heap.size w w' := by
  have H0 : Hid (Pf w (((w.alloc (.cells (m32 h).toArray 60)).alloc (.cells (m32 (List.replicate 8 0#32)).toArray 60)).alloc (.cells (m32 (List.replicate 64 0#32)).toArray 62)) w.heap.size (w.heap.size + 1) (w.heap.size + 1 + 1) gk h k (List.replicate 64 0#32) v p) := by
    have s1 := size_alloc w (.cells (m32 h).toArray 60)
    have s2 := size_alloc (w.alloc (.cells (m32 h).toArray 60)) (.cells (m32 (List.replicate 8 0#32)).toArray 60)
    rw [s1] at s2
    have z1 := Arr.new w (m32 h) 60
    have z2 := Arr.new (w.alloc (.cells (m32 h).toArray 60)) (m32 (List.replicate 8 0#32)) 60
    have z3 := Arr.new ((w.alloc (.cells (m32 h).toArray 60)).alloc (.cells (m32 (List.replicate 8 0#32)).toArray 60)) (m32 (List.replicate 64 0#32)) 62
    rw [s1] at z2; rw [s2] at z3
    have hB : Below w.heap.size w (((w.alloc (.cells (m32 h).toArray 60)).alloc (.cells (m32 (List.replicate 8 0#32)).toArray 60)).alloc (.cells (m32 (List.replicate 64 0#32)).toArray 62)) := (((Below.refl _ w).alloc (Nat.le_refl _) _).alloc (by omega) _).alloc (by omega) _
    exact ⟨rfl, rfl, rfl, hK.lt, lh, lk, List.length_replicate, (z1.alloc _).alloc _, z2.alloc _, z3, ((hK.alloc _).alloc _).alloc _, hP.keep (Same.of_below hB (Nat.le_refl _)), hB⟩
  have HW : Hid ((((w.alloc (.cells (m32 h).toArray 60)).alloc (.cells (m32 (List.replicate 8 0#32)).toArray 60)).alloc (.cells (m32 (List.replicate 64 0#32)).toArray 62)) = (((w.alloc (.cells (m32 h).toArray 60)).alloc (.cells #[.int .u32 0, .int .u32 0, .int .u32 0, .int .u32 0, .int .u32 0, .int .u32 0, .int .u32 0, .int .u32 0] 60)).alloc (.cells #[.int .u32 0, .int .u32 0, .int .u32 0, .int .u32 0, .int .u32 0, .int .u32 0, .int .u32 0, .int .u32 0, .int .u32 0, .int .u32 0, .int .u32 0, .int .u32 0, .int .u32 0, .int .u32 0, .int .u32 0, .int .u32 0, .int .u32 0, .int .u32 0, .int .u32 0, .int .u32 0, .int .u32 0, .int .u32 0, .int .u32 0, .int .u32 0, .int .u32 0, .int .u32 0, .int .u32 0, .int .u32 0, .int .u32 0, .int .u32 0, .int .u32 0, .int .u32 0, .int .u32 0, .int .u32 0, .int .u32 0, .int .u32 0, .int .u32 0, .int .u32 0, .int .u32 0, .int .u32 0, .int .u32 0, .int .u32 0, .int .u32 0, .int .u32 0, .int .u32 0, .int .u32 0, .int .u32 0, .int .u32 0, .int .u32 0, .int .u32 0, .int .u32 0, .int .u32 0, .int .u32 0, .int .u32 0, .int .u32 0, .int .u32 0, .int .u32 0, .int .u32 0, .int .u32 0, .int .u32 0, .int .u32 0, .int .u32 0, .int .u32 0, .int .u32 0] 62))) := rfl
  obtain ⟨A, c, rfl, hc1, hc2, hR⟩ := hP
  have LP := Lib.hid lp
  clear hR lh lk hK lp hc2
  generalize hn : p.length = n at *
  have HN := Lib.hid hn
  clear hn
  go_enter Try.func32, Try.ntmps32
  go_wp2_with fail
  rw [← HW.out]
  clear HW
  generalize (((w.alloc (.cells (m32 h).toArray 60)).alloc (.cells (m32 (List.replicate 8 0#32)).toArray 60)).alloc (.cells (m32 (List.replicate 64 0#32)).toArray 62)) = wx at *
  generalize w.heap.size + 1 + 1 = n2 at *
  generalize w.heap.size + 1 = n1 at *
  generalize hn0 : w.heap.size = n0 at *
  have HN0 := Lib.hid hn0
  clear hn0
  go_loopw [18] (fun v wr => ∃ t : Nat, t ≤ 64 ∧ v = .int .i64 (t : Int) ∧ Pf w wr n0 n1 n2 gk h k (it (wS p) t (List.replicate 64 0#32)) (.slice A n c) p) (fun v _ => 64 - (intOf v).toNat)
  case atStart => exact ⟨0, by omega, rfl, by rw [it_zero]; exact H0.out⟩
  obtain ⟨t, ht, rfl, hf⟩ := hrel
  clear H0
  have hS := it_succ (wS p) t (List.replicate 64 0#32)
  generalize hws : it (wS p) t (List.replicate 64 0#32) = ws at *
  have HWS := Lib.hid hws
  rcases Nat.lt_or_ge t 64 with hlt | hge
  · rcases Nat.lt_or_ge t 16 with h16 | h16
    · obtain ⟨q, hq⟩ : ∃ q, q = 4 * t := ⟨_, rfl⟩
      have hq4 : (4 : Int) * (t : Int) = (q : Int) := by omega
      have hqn : q + 4 ≤ n := by have := LP.out; omega
      have hSS : wS p t ws = ws.set t ((wordF (p.drop q) 4 1).setWidth 32) := by unfold wS; rw [if_pos h16, hq]
      rw [hSS] at hS
      have i64 : ¬ (64 : Int) ≤ (t : Int) := by omega
      have ft := hf.S.frozen t
      have ct := hf.cW t (by omega)
      obtain ⟨A6, hcut, hrd⟩ := cut_slice (P := Try.prog) 22 5 1 Try.underlying22 info5s A n c q (q : Int) rfl (by omega)
      have hb : Bs wr 0 n0 (.slice A6 (n - q) (c - q)) (p.drop q) := by
        obtain ⟨A0, c0, e, h1, h2, h3⟩ := hf.P
        rw [HN.out] at e h1 h3
        cases e
        have h4 := hrd _ _ _ _ h1 h3
        rw [Nat.mul_one] at h4
        refine ⟨A6, c - q, by rw [List.length_drop, HN.out], by rw [List.length_drop, HN.out]; omega, by omega, ?_⟩
        rw [List.length_drop, HN.out]
        unfold nums at h4 ⊢
        rw [← List.map_drop] at h4
        rw [HN0.out] at h4
        exact h4
      have HW26 := Lib.hid (word26 0 n0 (.slice A6 (n - q) (c - q)) (p.drop q) 4 1 (by rw [List.length_drop, HN.out]; omega) (by omega) (by omega) wr hb)
      have hwc := w32 (wordF (p.drop q) 4 1)
      have HS := Lib.hid hS
      have HF := Lib.hid hf
      clear hS hSS hf hb hrd hq hws
      generalize wordF (p.drop q) 4 1 = x at *
      go_wp2_with (first
        | (go_at_call 26; refine HW26.out.mono ?_; rintro e w1 ⟨rfl, rfl⟩))
      go_roundw
      case rel =>
        refine ⟨t + 1, by omega, by go_num, ?_⟩
        rw [HS.out]
        exact HF.out.setW _ _
      case measure => simp [intOf]; omega
    · obtain ⟨q15, hq15⟩ : ∃ q, q = t - 15 := ⟨_, rfl⟩
      obtain ⟨q2, hq2⟩ : ∃ q, q = t - 2 := ⟨_, rfl⟩
      obtain ⟨q7, hq7⟩ : ∃ q, q = t - 7 := ⟨_, rfl⟩
      obtain ⟨q16, hq16⟩ : ∃ q, q = t - 16 := ⟨_, rfl⟩
      have e15 : (t : Int) - 15 = (q15 : Int) := by omega
      have e2 : (t : Int) - 2 = (q2 : Int) := by omega
      have e7 : (t : Int) - 7 = (q7 : Int) := by omega
      have e16 : (t : Int) - 16 = (q16 : Int) := by omega
      have i64 : ¬ (64 : Int) ≤ (t : Int) := by omega
      have i15 : ¬ (64 : Int) ≤ (q15 : Int) := by omega
      have i2 : ¬ (64 : Int) ≤ (q2 : Int) := by omega
      have i7 : ¬ (64 : Int) ≤ (q7 : Int) := by omega
      have i16 : ¬ (64 : Int) ≤ (q16 : Int) := by omega
      have ft := hf.S.frozen t
      have ct := hf.cW t (by omega)
      have c15 := hf.cW q15 (by omega)
      have c2 := hf.cW q2 (by omega)
      have c7 := hf.cW q7 (by omega)
      have c16 := hf.cW q16 (by omega)
      have hSS : wS p t ws = ws.set t ((((rr (gt ws 0#32 q2) 17 ^^^ rr (gt ws 0#32 q2) 19 ^^^ gt ws 0#32 q2 >>> 10) + gt ws 0#32 q7) + (rr (gt ws 0#32 q15) 7 ^^^ rr (gt ws 0#32 q15) 18 ^^^ gt ws 0#32 q15 >>> 3)) + gt ws 0#32 q16) := by unfold wS; rw [if_neg (by omega), hq15, hq2, hq7, hq16]
      rw [hSS] at hS
      have HS := Lib.hid hS
      have HF := Lib.hid hf
      clear hS hSS hf hws hq15 hq2 hq7 hq16
      generalize gt ws 0#32 q15 = x at *
      generalize gt ws 0#32 q2 = y at *
      generalize gt ws 0#32 q7 = z7 at *
      generalize gt ws 0#32 q16 = z16 at *
      generalize gt ws 0#32 t = zt at *
      have H17 := Lib.hid (rr49 y 17 17 rfl (by decide) (by decide))
      have H19 := Lib.hid (rr49 y 19 19 rfl (by decide) (by decide))
      have H7 := Lib.hid (rr49 x 7 7 rfl (by decide) (by decide))
      have H18 := Lib.hid (rr49 x 18 18 rfl (by decide) (by decide))
      have hd16 : decide ((t : Int) < 16) = false := decide_eq_false (by omega)
      go_wp2_with fail
      refine wp_region_q (by kernel_rfl) (by kernel_rfl) ?_
      iterate 10 (refine wpC_run (by rfl) rfl (fun K hK => ?_); go_wp2)
      refine wpC_nil ?_
      go_wp2_with fail
      refine wp_region_c 29 (by kernel_rfl) (by kernel_rfl) ?_
      simp only [List.take_succ_cons, List.take_zero, List.drop_succ_cons, List.drop_zero]
      iterate 2 (refine wpC_run (by rfl) rfl (fun K hK => ?_); go_wp2)
      refine wpC_call 49 _ _ (by rfl) (by go_simp) (H17.out _) ?_
      simp only [Act.put, List.setIfInBounds_toArray, List.set_cons_zero, List.set_cons_succ]
      iterate 1 (refine wpC_run (by rfl) rfl (fun K hK => ?_); go_wp2)
      refine wpC_call 49 _ _ (by rfl) (by go_simp) (H19.out _) ?_
      simp only [Act.put, List.setIfInBounds_toArray, List.set_cons_zero, List.set_cons_succ]
      iterate 10 (refine wpC_run (by rfl) rfl (fun K hK => ?_); go_wp2)
      refine wpC_call 49 _ _ (by rfl) (by go_simp) (H7.out _) ?_
      simp only [Act.put, List.setIfInBounds_toArray, List.set_cons_zero, List.set_cons_succ]
      iterate 1 (refine wpC_run (by rfl) rfl (fun K hK => ?_); go_wp2)
      refine wpC_call 49 _ _ (by rfl) (by go_simp) (H18.out _) ?_
      simp only [Act.put, List.setIfInBounds_toArray, List.set_cons_zero, List.set_cons_succ]
      iterate 11 (refine wpC_run (by rfl) rfl (fun K hK => ?_); go_wp2)
      refine wpC_nil ?_
      go_wp2
      go_roundw
      case rel =>
        refine ⟨t + 1, by omega, by go_num, ?_⟩
        rw [HS.out]
        exact (HF.out.setW _ _).drew.drew
      case measure => simp [intOf]; omega
  obtain rfl : t = 64 := by omega
  rw [show ((64 : Nat) : Int) = 64 from rfl]
  have HWF : Hid (wF p = ws) := hws
  clear hS hws HWS
  have hi0 : (Try.prog.info? 60).map (·.size) = some (m32 h).toArray.size := by rw [show (m32 h).toArray.size = 8 by simp [m32_len, hf.lh]]; exact info60
  have hz0 : (m32 (List.replicate 8 0#32)).toArray.size = (m32 h).toArray.size := by simp [m32_len, hf.lh]
  have h1 : (m32 h).toArray.all (·.oneCell') = true := by simp [m32, Value.oneCell']
  have HF := Lib.hid hf
  clear hf
  go_wp2_with (first
    | (refine wpList_load_row rfl 60 (.tmp 3) rfl n0 rfl 60 (m32 h).toArray (0, 0) _ HF.out.H Try.underlying60 rfl hi0 ?_)
    | (refine wpList_store_row rfl 60 (.tmp 11) (.tmp 69) rfl wr.heap.size (m32 h).toArray rfl rfl 60 (m32 (List.replicate 8 0#32)).toArray (block_new _ _) hi0 hz0 h1 ?_))
  have HG : Hid (Pg w ((wr.alloc (.cells #[.int .u32 0, .int .u32 0, .int .u32 0, .int .u32 0, .int .u32 0, .int .u32 0, .int .u32 0, .int .u32 0] 60)).setRow wr.heap.size (m32 h).toArray) n0 n1 n2 wr.heap.size gk h k ws h) := HF.out.start
  generalize ((wr.alloc (.cells #[.int .u32 0, .int .u32 0, .int .u32 0, .int .u32 0, .int .u32 0, .int .u32 0, .int .u32 0, .int .u32 0] 60)).setRow wr.heap.size (m32 h).toArray) = wy at *
  generalize wr.heap.size = n3 at *
  have HH := Lib.hid hi0
  clear HF hi0 hz0 h1
  clear wr
  go_loopw [70] (fun v wr => ∃ t : Nat, t ≤ 64 ∧ v = .int .i64 (t : Int) ∧ Pg w wr n0 n1 n2 n3 gk h k ws (it (rndS k ws) t h)) (fun v _ => 64 - (intOf v).toNat)
  case atStart => exact ⟨0, by omega, rfl, by rw [it_zero]; exact HG.out⟩
  obtain ⟨t, ht, rfl, hf⟩ := hrel
  clear HG
  have hS := it_succ (rndS k ws) t h
  generalize hvs : it (rndS k ws) t h = vs at *
  have HVS := Lib.hid hvs
  rcases Nat.lt_or_ge t 64 with hlt | hge
  · have hSS : rndS k ws t vs = [t1F k ws vs t + t2F vs, gt vs 0#32 0, gt vs 0#32 1, gt vs 0#32 2, gt vs 0#32 3 + t1F k ws vs t, gt vs 0#32 4, gt vs 0#32 5, gt vs 0#32 6] := rfl
    have hT1 : t1F k ws vs t = gt vs 0#32 7 + (rr (gt vs 0#32 4) 6 ^^^ rr (gt vs 0#32 4) 11 ^^^ rr (gt vs 0#32 4) 25) + (gt vs 0#32 4 &&& gt vs 0#32 5 ^^^ ~~~ gt vs 0#32 4 &&& gt vs 0#32 6) + gt k 0#32 t + gt ws 0#32 t := rfl
    have hT2 : t2F vs = (rr (gt vs 0#32 0) 2 ^^^ rr (gt vs 0#32 0) 13 ^^^ rr (gt vs 0#32 0) 22) + (gt vs 0#32 0 &&& gt vs 0#32 1 ^^^ gt vs 0#32 0 &&& gt vs 0#32 2 ^^^ gt vs 0#32 1 &&& gt vs 0#32 2) := rfl
    rw [hSS, hT1, hT2] at hS
    have i64 : ¬ (64 : Int) ≤ (t : Int) := by omega
    have c0 := hf.cV 0 (by omega)
    have c1 := hf.cV 1 (by omega)
    have c2 := hf.cV 2 (by omega)
    have c3 := hf.cV 3 (by omega)
    have c4 := hf.cV 4 (by omega)
    have c5 := hf.cV 5 (by omega)
    have c6 := hf.cV 6 (by omega)
    have c7 := hf.cV 7 (by omega)
    have ck := hf.cK t (by omega)
    have cw := hf.cW t (by omega)
    have HS := Lib.hid hS
    have HF := Lib.hid hf
    have hz1 : (m32 vs).toArray.size = 8 := by simp [m32_len, hf.lv]
    have HZ := Lib.hid hz1
    clear hS hSS hT1 hT2 hf hvs hz1
    have HR : Hid (Arr wr n3 60 (m32 vs)) := HF.out.Vv
    generalize gt vs 0#32 0 = a0 at *
    generalize gt vs 0#32 1 = a1 at *
    generalize gt vs 0#32 2 = a2 at *
    generalize gt vs 0#32 3 = a3 at *
    generalize gt vs 0#32 4 = a4 at *
    generalize gt vs 0#32 5 = a5 at *
    generalize gt vs 0#32 6 = a6 at *
    generalize gt vs 0#32 7 = a7 at *
    generalize gt k 0#32 t = kt at *
    generalize gt ws 0#32 t = wt at *
    have H6 := Lib.hid (rr49 a4 6 6 rfl (by decide) (by decide))
    have H11 := Lib.hid (rr49 a4 11 11 rfl (by decide) (by decide))
    have H25 := Lib.hid (rr49 a4 25 25 rfl (by decide) (by decide))
    have H2 := Lib.hid (rr49 a0 2 2 rfl (by decide) (by decide))
    have H13 := Lib.hid (rr49 a0 13 13 rfl (by decide) (by decide))
    have H22 := Lib.hid (rr49 a0 22 22 rfl (by decide) (by decide))
    obtain ⟨us, hus⟩ : ∃ us : V, us = [a7 + (rr a4 6 ^^^ rr a4 11 ^^^ rr a4 25) + (a4 &&& a5 ^^^ ~~~a4 &&& a6) + kt + wt + ((rr a0 2 ^^^ rr a0 13 ^^^ rr a0 22) + (a0 &&& a1 ^^^ a0 &&& a2 ^^^ a1 &&& a2)), a0, a1, a2, a3 + (a7 + (rr a4 6 ^^^ rr a4 11 ^^^ rr a4 25) + (a4 &&& a5 ^^^ ~~~a4 &&& a6) + kt + wt), a4, a5, a6] := ⟨_, rfl⟩
    have HUE : Hid ((m32 us).toArray = #[.int .u32 (n32 (a7 + (rr a4 6 ^^^ rr a4 11 ^^^ rr a4 25) + (a4 &&& a5 ^^^ ~~~a4 &&& a6) + kt + wt + ((rr a0 2 ^^^ rr a0 13 ^^^ rr a0 22) + (a0 &&& a1 ^^^ a0 &&& a2 ^^^ a1 &&& a2)))), .int .u32 (n32 (a0)), .int .u32 (n32 (a1)), .int .u32 (n32 (a2)), .int .u32 (n32 (a3 + (a7 + (rr a4 6 ^^^ rr a4 11 ^^^ rr a4 25) + (a4 &&& a5 ^^^ ~~~a4 &&& a6) + kt + wt))), .int .u32 (n32 (a4)), .int .u32 (n32 (a5)), .int .u32 (n32 (a6))]) := by rw [hus]; rfl
    have hul : us.length = 8 := by rw [hus]; rfl
    have HUL := Lib.hid hul
    have HU1 : Hid ((Try.prog.info? 60).map (·.size) = some (m32 us).toArray.size) := by rw [show (m32 us).toArray.size = 8 by simp [m32_len, hul]]; exact info60
    have HU2 : Hid ((m32 vs).toArray.size = (m32 us).toArray.size) := HZ.out.trans (show (8 : Nat) = (m32 us).toArray.size by simp [m32_len, hul])
    have HU3 := Lib.hid (show (m32 us).toArray.all (·.oneCell') = true by simp [m32, Value.oneCell'])
    have HS2 : Hid (it (rndS k ws) (t + 1) h = us) := by rw [hus]; exact HS.out
    clear hus hul
    go_wp2_with fail
    refine wp_region_q (by kernel_rfl) (by kernel_rfl) ?_
    iterate 6 (refine wpC_run (by rfl) rfl (fun K hK => ?_); go_wp2)
    refine wpC_nil ?_
    go_wp2_with fail
    refine wp_region_q (by kernel_rfl) (by kernel_rfl) ?_
    iterate 3 (refine wpC_run (by rfl) rfl (fun K hK => ?_); go_wp2)
    refine wpC_call 49 _ _ (by rfl) (by go_simp) (H6.out _) ?_
    simp only [Act.put, List.setIfInBounds_toArray, List.set_cons_zero, List.set_cons_succ]
    iterate 1 (refine wpC_run (by rfl) rfl (fun K hK => ?_); go_wp2)
    refine wpC_call 49 _ _ (by rfl) (by go_simp) (H11.out _) ?_
    simp only [Act.put, List.setIfInBounds_toArray, List.set_cons_zero, List.set_cons_succ]
    iterate 2 (refine wpC_run (by rfl) rfl (fun K hK => ?_); go_wp2)
    refine wpC_call 49 _ _ (by rfl) (by go_simp) (H25.out _) ?_
    simp only [Act.put, List.setIfInBounds_toArray, List.set_cons_zero, List.set_cons_succ]
    iterate 15 (refine wpC_run (by rfl) rfl (fun K hK => ?_); go_wp2)
    refine wpC_val (.pointer (some ⟨gk, 0, none⟩)) (by rfl) (by go_simp) ?_
    simp only [Act.put, List.setIfInBounds_toArray, List.set_cons_zero, List.set_cons_succ]
    iterate 8 (refine wpC_run (by rfl) rfl (fun K hK => ?_); go_wp2)
    refine wpC_nil ?_
    go_wp2_with fail
    refine wp_region_q (by kernel_rfl) (by kernel_rfl) ?_
    iterate 1 (refine wpC_run (by rfl) rfl (fun K hK => ?_); go_wp2)
    refine wpC_call 49 _ _ (by rfl) (by go_simp) (H2.out _) ?_
    simp only [Act.put, List.setIfInBounds_toArray, List.set_cons_zero, List.set_cons_succ]
    iterate 1 (refine wpC_run (by rfl) rfl (fun K hK => ?_); go_wp2)
    refine wpC_call 49 _ _ (by rfl) (by go_simp) (H13.out _) ?_
    simp only [Act.put, List.setIfInBounds_toArray, List.set_cons_zero, List.set_cons_succ]
    iterate 2 (refine wpC_run (by rfl) rfl (fun K hK => ?_); go_wp2)
    refine wpC_call 49 _ _ (by rfl) (by go_simp) (H22.out _) ?_
    simp only [Act.put, List.setIfInBounds_toArray, List.set_cons_zero, List.set_cons_succ]
    iterate 18 (refine wpC_run (by rfl) rfl (fun K hK => ?_); go_wp2)
    refine wpC_nil ?_
    go_wp2_with (first
      | (refine wpList_store_row rfl 60 (.tmp 11) (.tmp 152) rfl n3 (m32 us).toArray rfl (by rw [HUE.out]; rfl) 60 (m32 vs).toArray HR.out HU1.out HU2.out HU3.out ?_))
    go_roundw
    case rel =>
      refine ⟨t + 1, by omega, by go_num, ?_⟩
      rw [HS2.out]
      exact HF.out.drew.drew.drew.setV HUL.out
    case measure => simp [intOf]; omega
  obtain rfl : t = 64 := by omega
  rw [show ((64 : Nat) : Int) = 64 from rfl]
  have HF := Lib.hid hf
  have hpf : pieceF k h p = it (sumS vs) 8 h := by unfold pieceF; rw [HWF.out, HVS.out]
  have HPF := Lib.hid hpf
  clear hf hS hvs hpf
  go_wp2_with fail
  obtain ⟨wo, rfl⟩ : ∃ wo : World, wo = wr := ⟨_, rfl⟩
  go_loopw [154] (fun v wr => ∃ i : Nat, i ≤ 8 ∧ v = .int .i64 (i : Int) ∧ Pg w wr n0 n1 n2 n3 gk (it (sumS vs) i h) k ws vs) (fun v _ => 8 - (intOf v).toNat)
  case atStart => exact ⟨0, by omega, rfl, by rw [it_zero]; exact HF.out⟩
  obtain ⟨i, hi, rfl, hf⟩ := hrel
  clear HF
  have hS := it_succ (sumS vs) i h
  generalize hus : it (sumS vs) i h = us at *
  have HUS := Lib.hid hus
  rcases Nat.lt_or_ge i 8 with hlt | hge
  · have hSS : sumS vs i us = us.set i (gt us 0#32 i + gt vs 0#32 i) := rfl
    rw [hSS] at hS
    have i8 : ¬ (8 : Int) ≤ (i : Int) := by omega
    have ch := hf.cH i hlt
    have cv := hf.cV i hlt
    have fh := hf.H.frozen i
    have HS := Lib.hid hS
    have HF := Lib.hid hf
    clear hS hSS hf hus
    generalize gt us 0#32 i = x at *
    generalize gt vs 0#32 i = y at *
    go_wp2_with fail
    refine wp_region_c 8 (by kernel_rfl) (by kernel_rfl) ?_
    simp only [List.take_succ_cons, List.take_zero, List.drop_succ_cons, List.drop_zero]
    iterate 8 (refine wpC_run (by rfl) rfl (fun K hK => ?_); go_wp2)
    refine wpC_nil ?_
    go_wp2
    go_roundw
    case rel =>
      refine ⟨i + 1, by omega, by go_num, ?_⟩
      rw [HS.out]
      exact (HF.out.setH _ _).drew
    case measure => simp [intOf]; omega
  obtain rfl : i = 8 := by omega
  rw [show ((8 : Nat) : Int) = 8 from rfl]
  have HV : Hid (pieceF k h p = us) := HPF.out.trans HUS.out
  have hs : (m32 us).toArray.size = 8 := by simp [m32_len, hf.lh]
  have hi0 : (Try.prog.info? 60).map (·.size) = some (m32 us).toArray.size := by rw [hs]; exact info60
  have hz0 : (m32 (List.replicate 8 0#32)).toArray.size = (m32 us).toArray.size := by rw [hs]; rfl
  have h1 : (m32 us).toArray.all (·.oneCell') = true := by simp [m32, Value.oneCell']
  have HF := Lib.hid hf
  clear hf hS hus HUS
  go_wp2_with (first
    | (refine wpList_load_row rfl 60 (.tmp 3) rfl n0 rfl 60 (m32 us).toArray (0, 0) _ HF.out.H Try.underlying60 rfl hi0 ?_)
    | (refine wpList_store_row rfl 60 (.tmp 6) (.tmp 166) rfl n1 (m32 us).toArray rfl rfl 60 (m32 (List.replicate 8 0#32)).toArray HF.out.Z hi0 hz0 h1 ?_))
  refine bodyPost_ret (results_cell_row (P := Try.prog) rfl _ _ n1 60 (m32 us).toArray (0, 0) _ rfl (setRow_heap wr _ _ _ _ _ HF.out.Z) Try.underlying60 rfl hi0) rfl ⟨?_, below_setRow HF.out.W (by have := HF.out.e1; omega) _⟩
  rw [HV.out]
end Go.Proofs.Ytnlcndlfdnogaaa.S4
