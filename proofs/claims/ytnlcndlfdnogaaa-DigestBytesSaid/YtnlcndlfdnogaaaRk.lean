/- ref.Ripemd, walked. (printed by gen_rk.py) -/
import Derived.Test.YtnlcndlfdnogaaaRx
import Derived.Test.YtnlcndlfdnogaaaBs
set_option linter.unusedVariables false
set_option linter.unusedSimpArgs false
namespace Go.Proofs.Ytnlcndlfdnogaaa.Rk
open Go.RowKit
open D0 M D2 D3 Rg K1 C1 S0 S1 S2 Z R0 Rx Bs
open Sr (N3)
attribute [local go_sem] xor64 and64 or64 xor32 and32 or32 andNot32 add64 add32 unary64 unary32 not64 not32 shl64 shr64 shl32 shr32
theorem zero80 : ∀ W : World, (zeroValue 80).run Try.prog W = .ok (.agg (mi (List.replicate 80 0)).toArray) W := fun W => by kernel_rfl
theorem info80 : (Try.prog.info? 80).map (·.size) = some 80 := by kernel_rfl
theorem info77 : (Try.prog.info? 77).map (·.size) = some 16 := by kernel_rfl
theorem mi_all (l : List Nat) : (mi l).toArray.all (·.oneCell') = true := by simp [mi, Value.oneCell']
/-- Blocks of one's own, the newest first. -/
def Fr (w W : World) (L : List (Nat × TypeId × List Value)) : Prop := Below w.heap.size w W ∧ (∀ e ∈ L, w.heap.size ≤ e.1 ∧ Arr W e.1 e.2.1 e.2.2) ∧ (L.map (·.1)).Pairwise (· > ·)
theorem Fr.one (w : World) (t : TypeId) (vs : List Value) : Fr w (w.alloc (.cells vs.toArray t)) [(w.heap.size, t, vs)] :=
  ⟨(Below.refl _ w).alloc (Nat.le_refl _) _, fun e he => by
    rw [List.mem_singleton] at he
    subst he
    exact ⟨Nat.le_refl _, Arr.new w vs t⟩, by simp⟩
theorem Fr.new {w W : World} {L : List (Nat × TypeId × List Value)} (f : Fr w W L) (t : TypeId) (zs : Array Value) (vs : List Value) : Fr w ((W.alloc (.cells zs t)).setRow W.heap.size vs.toArray) ((W.heap.size, t, vs) :: L) := by
  obtain ⟨hB, hA, hP⟩ := f
  refine ⟨below_setRow (hB.alloc hB.size _) hB.size _, fun e he => ?_, ?_⟩
  · rcases List.mem_cons.1 he with rfl | he
    · exact ⟨hB.size, setRow_heap _ _ _ _ _ _ (block_new _ _)⟩
    · obtain ⟨h1, h2⟩ := hA e he
      exact ⟨h1, (h2.alloc _).keep (setRow_other _ _ _ _ (by have := h2.lt; omega))⟩
  · rw [List.map_cons, List.pairwise_cons]
    refine ⟨fun g hg => ?_, hP⟩
    obtain ⟨e, he, rfl⟩ := List.mem_map.1 hg
    exact (hA e he).2.lt
/-- The frame. -/
structure Rp (w W : World) (n0 n1 n2 n3 n4 n5 lo hi : Nat) (T1 T2 T3 T4 : List Nat) (h : V) (v : Value) (p : List Byte) : Prop where
  e0 : n0 = w.heap.size
  o1 : n0 < n1
  o2 : n1 < n2
  o3 : n2 < n3
  o4 : n3 < n4
  o5 : n4 < n5
  o6 : n5 < lo
  ol : lo ≤ hi
  ho : hi ≤ W.heap.size
  lh : h.length = 5
  R : Arr W n0 29 (nums (List.replicate 20 0#8))
  A1 : Arr W n1 80 (mi T1)
  A2 : Arr W n2 80 (mi T2)
  A3 : Arr W n3 80 (mi T3)
  A4 : Arr W n4 80 (mi T4)
  H : Arr W n5 71 (m32 h)
  P : Bs W lo hi v p
  W : Below w.heap.size w W
section
variable {w W W' : World} {n0 n1 n2 n3 n4 n5 lo hi g t n : Nat} {T1 T2 T3 T4 : List Nat} {h c : V} {v : Value} {p : List Byte}
theorem Rp.drew (f : Rp w W n0 n1 n2 n3 n4 n5 lo hi T1 T2 T3 T4 h v p) : Rp w W.drew n0 n1 n2 n3 n4 n5 lo hi T1 T2 T3 T4 h v p := ⟨f.e0, f.o1, f.o2, f.o3, f.o4, f.o5, f.o6, f.ol, f.ho, f.lh, f.R, f.A1, f.A2, f.A3, f.A4, f.H, f.P.keep fun _ _ _ => rfl, f.W.drew⟩
theorem Rp.later (f : Rp w W n0 n1 n2 n3 n4 n5 lo hi T1 T2 T3 T4 h v p) (hb : Below W.heap.size W W') : Rp w W' n0 n1 n2 n3 n4 n5 lo hi T1 T2 T3 T4 h v p := by
  obtain ⟨e0, o1, o2, o3, o4, o5, o6, ol, ho, lh, R, A1, A2, A3, A4, H, P, B⟩ := f
  exact ⟨e0, o1, o2, o3, o4, o5, o6, ol, Nat.le_trans ho hb.size, lh, R.later hb R.lt, A1.later hb A1.lt, A2.later hb A2.lt, A3.later hb A3.lt, A4.later hb A4.lt, H.later hb H.lt, P.keep (Same.of_below hb ho), B.trans (hb.mono B.size)⟩
theorem Rp.rowH {us : V} (f : Rp w W n0 n1 n2 n3 n4 n5 lo hi T1 T2 T3 T4 h v p) (hu : us.length = 5) : Rp w (W.setRow n5 (m32 us).toArray) n0 n1 n2 n3 n4 n5 lo hi T1 T2 T3 T4 us v p := by
  obtain ⟨e0, o1, o2, o3, o4, o5, o6, ol, ho, lh, R, A1, A2, A3, A4, H, P, B⟩ := f
  exact ⟨e0, o1, o2, o3, o4, o5, o6, ol, by rw [setRow_size]; exact ho, hu, R.keep (setRow_other _ _ _ _ (by omega)), A1.keep (setRow_other _ _ _ _ (by omega)), A2.keep (setRow_other _ _ _ _ (by omega)), A3.keep (setRow_other _ _ _ _ (by omega)), A4.keep (setRow_other _ _ _ _ (by omega)), setRow_heap _ _ _ _ _ _ H, P.keep fun k hk _ => setRow_other _ _ _ _ (by omega), below_setRow B (by omega) _⟩
theorem Rp.other (f : Rp w W n0 n1 n2 n3 n4 n5 lo hi T1 T2 T3 T4 h v p) (hg : hi ≤ g) (hlo : lo ≤ g) (i : Nat) (x : Value) : Rp w (W.setCell ⟨g, i, none⟩ x) n0 n1 n2 n3 n4 n5 lo hi T1 T2 T3 T4 h v p := by
  obtain ⟨e0, o1, o2, o3, o4, o5, o6, ol, ho, lh, R, A1, A2, A3, A4, H, P, B⟩ := f
  exact ⟨e0, o1, o2, o3, o4, o5, o6, ol, by simpa [World.setCell] using ho, lh, R.other (by omega) _ _, A1.other (by omega) _ _, A2.other (by omega) _ _, A3.other (by omega) _ _, A4.other (by omega) _ _, H.other (by omega) _ _, P.keep fun k _ hk => heap_set _ _ _ _ _ (by omega), B.trans ((Only.set _ _ _ _).below (by omega))⟩
theorem Rp.cH (f : Rp w W n0 n1 n2 n3 n4 n5 lo hi T1 T2 T3 T4 h v p) (i : Nat) (hi' : i < 5) : W.cell? ⟨n5, i, none⟩ = some (.int .u32 (n32 (gt h 0#32 i))) := f.H.cell (m32_get (by rw [f.lh]; exact hi'))
theorem Rp.cP {gp cp m : Nat} (f : Rp w W n0 n1 n2 n3 n4 n5 lo hi T1 T2 T3 T4 h (.slice (some ⟨gp, 0, none⟩) m cp) p) (hm : p.length = m) (i : Nat) (hi' : i < m) : W.cell? ⟨gp, i, none⟩ = some (.int .u8 (n8 (gt p 0#8 i))) := by
  obtain ⟨A, c', e, _, _, hR⟩ := f.P
  rw [hm] at e hR
  cases e
  obtain ⟨g', off, e, _, _, hc⟩ := hR.2 (by omega)
  cases e
  have := hc i _ (nums_getD (by rw [hm]; exact hi'))
  rwa [Nat.zero_add] at this
end
theorem rp_start {w w6 w7 : World} {n1 n2 n3 n4 n5 : Nat} {T1 T2 T3 T4 : List Nat} {h : V} {v : Value} {p : List Byte} (f : Fr w w6 [(n5, 71, m32 h), (n4, 80, mi T4), (n3, 80, mi T3), (n2, 80, mi T2), (n1, 80, mi T1), (w.heap.size, 29, nums (List.replicate 20 0#8))]) (lh : h.length = 5) (ho : Own w7 w6.heap.size v p) (hb : Below w6.heap.size w6 w7) : Rp w w7 w.heap.size n1 n2 n3 n4 n5 w6.heap.size w7.heap.size T1 T2 T3 T4 h v p := by
  obtain ⟨hB, hA, hP⟩ := f
  have a5 := (hA _ (List.mem_cons_self ..)).2
  have a4 := (hA (n4, 80, mi T4) (by simp)).2
  have a3 := (hA (n3, 80, mi T3) (by simp)).2
  have a2 := (hA (n2, 80, mi T2) (by simp)).2
  have a1 := (hA (n1, 80, mi T1) (by simp)).2
  have a0 := (hA (w.heap.size, 29, nums (List.replicate 20 0#8)) (by simp)).2
  simp only [List.map_cons, List.map_nil, List.pairwise_cons, List.mem_cons, forall_eq_or_imp, List.not_mem_nil] at hP
  have l5 := a5.lt
  simp only at a0 a1 a2 a3 a4 a5 l5
  exact ⟨rfl, by omega, by omega, by omega, by omega, by omega, l5, hb.size, Nat.le_refl _, lh, a0.later hb a0.lt, a1.later hb a1.lt, a2.later hb a2.lt, a3.later hb a3.lt, a4.later hb a4.lt, a5.later hb a5.lt, Own.bs ho, hB.trans (hb.mono hB.size)⟩
theorem low8' (x : BitVec 32) : IntKind.u8.wrap (n32 x) = n8 (x.setWidth 8) := Sr.low8' x
theorem len_start : startR.length = 5 := rfl
theorem len_l : (tn l1F).length = 80 ∧ (tn l2F).length = 80 ∧ (tn s1F).length = 80 ∧ (tn s2F).length = 80 := by decide +kernel
theorem lim_l : (∀ j, j < 80 → gt (tn l1F) 0 j < 16) ∧ (∀ j, j < 80 → gt (tn l2F) 0 j < 16) ∧ (∀ j, j < 80 → gt (tn s1F) 0 j < 32) ∧ (∀ j, j < 80 → gt (tn s2F) 0 j < 32) := by
  obtain ⟨h1, h2, h3, h4⟩ := small1
  exact ⟨fun j hj => by rw [tn_gt]; exact small_get h1 j hj, fun j hj => by rw [tn_gt]; exact small_get h3 j hj, fun j hj => by rw [tn_gt]; exact small_get h2 j hj, fun j hj => by rw [tn_gt]; exact small_get h4 j hj⟩
theorem run_len (l s : List Byte) (k x v : V) (back : Nat) (hv : v.length = 5) : (runF l s k x back v).length = 5 := by
  unfold runF
  rw [show (80 : Nat) = 79 + 1 from rfl, it_succ]
  rfl
theorem line_a (W : World) (h x : V) (lh : h.length = 5) (lx : x.length = 16) : Calls Try.prog 39 #[.agg (m32 h).toArray, .agg (m32 x).toArray, .agg (mi (tn l1F)).toArray, .agg (mi (tn s1F)).toArray, .agg (m32 k1F).toArray, .bool false] W fun e w' => e = .returned (.agg (m32 (runF l1F s1F k1F x 0 h)).toArray) ∧ Below W.heap.size W w' := by
  rw [← runN_eq]
  exact Ln.line39 W _ _ _ _ _ 0 false (.inl ⟨rfl, rfl⟩) len_l.1 len_l.2.2.1 rfl lx lh lim_l.1 lim_l.2.2.1
theorem line_b (W : World) (h x : V) (lh : h.length = 5) (lx : x.length = 16) : Calls Try.prog 39 #[.agg (m32 h).toArray, .agg (m32 x).toArray, .agg (mi (tn l2F)).toArray, .agg (mi (tn s2F)).toArray, .agg (m32 k2F).toArray, .bool true] W fun e w' => e = .returned (.agg (m32 (runF l2F s2F k2F x 1 h)).toArray) ∧ Below W.heap.size W w' := by
  rw [← runN_eq]
  exact Ln.line39 W _ _ _ _ _ 1 true (.inr ⟨rfl, rfl⟩) len_l.2.1 len_l.2.2.2 rfl lx lh lim_l.2.1 lim_l.2.2.2
theorem xF_len (p : List Byte) : (xF p).length = 16 := (xS_len _ _ _).trans List.length_replicate
theorem shl32' (x : BitVec 32) (n : Nat) : n32 x * 2 ^ n % 4294967296 = n32 (x <<< n) := by rw [← shl32, wrap_u32]
attribute [local irreducible] it gt runF xF
theorem it_z {σ : Type} (f : Nat → σ → σ) (s : σ) : it f 0 s = s := by unfold it; rfl
theorem ripS_def (p : List Byte) (i : Nat) (h : V) : ripS p i h = joinR h (runF l1F s1F k1F (xF (p.drop (64 * i))) 0 h) (runF l2F s2F k2F (xF (p.drop (64 * i))) 1 h) := rfl
set_option maxRecDepth 100000 in
set_option maxHeartbeats 40000000 in
theorem rip16 (w : World) (lo hi0 : Nat) (v : Value) (bs : List Byte) (hb : Bs w lo hi0 v bs) (hl : bs.length ≤ 1073741824) (hhi : hi0 ≤ w.heap.size) : Calls Try.prog 16 #[v] w fun e w' => e = .returned (.agg (nums (ripF bs)).toArray) ∧ Below w.heap.size w w' := by
  have HPD : Hid (∀ W, Below w.heap.size w W → Calls Try.prog 35 #[v, .bool true] W fun e w' => ∃ v', e = .returned v' ∧ Own w' W.heap.size v' (padM bs 0) ∧ Below W.heap.size W w') := fun W hW => Qp.padded35 W lo hi0 v bs true 0 (.inr ⟨rfl, rfl⟩) (hb.keep (Same.of_below hW hhi)) hl (Nat.le_trans hhi hW.size)
  have HL := Lib.hid hl
  clear hb hl hhi
  have HZ := zero80
  obtain ⟨hl1, hl2, hl3, hl4⟩ := len_l
  have HLA : Hid (∀ (W : World) (h x : V) (lh : h.length = 5) (lx : x.length = 16), Calls Try.prog 39 #[.agg (m32 h).toArray, .agg (m32 x).toArray, .agg (mi (tn l1F)).toArray, .agg (mi (tn s1F)).toArray, .agg (m32 k1F).toArray, .bool false] W fun e w' => e = .returned (.agg (m32 (runF l1F s1F k1F x 0 h)).toArray) ∧ Below W.heap.size W w') := line_a
  have HLB : Hid (∀ (W : World) (h x : V) (lh : h.length = 5) (lx : x.length = 16), Calls Try.prog 39 #[.agg (m32 h).toArray, .agg (m32 x).toArray, .agg (mi (tn l2F)).toArray, .agg (mi (tn s2F)).toArray, .agg (m32 k2F).toArray, .bool true] W fun e w' => e = .returned (.agg (m32 (runF l2F s2F k2F x 1 h)).toArray) ∧ Below W.heap.size W w') := line_b
  generalize hT1 : tn l1F = T1 at *
  have HT1 : Hid (T1 = tn l1F) := hT1.symm
  clear hT1
  generalize hT2 : tn l2F = T2 at *
  have HT2 : Hid (T2 = tn l2F) := hT2.symm
  clear hT2
  generalize hT3 : tn s1F = T3 at *
  have HT3 : Hid (T3 = tn s1F) := hT3.symm
  clear hT3
  generalize hT4 : tn s2F = T4 at *
  have HT4 : Hid (T4 = tn s2F) := hT4.symm
  clear hT4
  generalize hz : (mi (List.replicate 80 0)).toArray = zs at HZ
  have HZS : Hid (zs.size = 80) := show zs.size = 80 by rw [← hz, List.size_toArray, mi_len, List.length_replicate]
  clear hz
  have HJ1 : Hid ((Try.prog.info? 80).map (·.size) = some (mi T1).toArray.size) := show _ = _ by rw [List.size_toArray, mi_len, hl1]; exact info80
  have HY1 : Hid (zs.size = (mi T1).toArray.size) := show _ = _ by rw [HZS.out, List.size_toArray, mi_len, hl1]
  have HJ2 : Hid ((Try.prog.info? 80).map (·.size) = some (mi T2).toArray.size) := show _ = _ by rw [List.size_toArray, mi_len, hl2]; exact info80
  have HY2 : Hid (zs.size = (mi T2).toArray.size) := show _ = _ by rw [HZS.out, List.size_toArray, mi_len, hl2]
  have HJ3 : Hid ((Try.prog.info? 80).map (·.size) = some (mi T3).toArray.size) := show _ = _ by rw [List.size_toArray, mi_len, hl3]; exact info80
  have HY3 : Hid (zs.size = (mi T3).toArray.size) := show _ = _ by rw [HZS.out, List.size_toArray, mi_len, hl3]
  have HJ4 : Hid ((Try.prog.info? 80).map (·.size) = some (mi T4).toArray.size) := show _ = _ by rw [List.size_toArray, mi_len, hl4]; exact info80
  have HY4 : Hid (zs.size = (mi T4).toArray.size) := show _ = _ by rw [HZS.out, List.size_toArray, mi_len, hl4]
  have HTL : Hid (T1.length = 80 ∧ T2.length = 80 ∧ T3.length = 80 ∧ T4.length = 80) := ⟨hl1, hl2, hl3, hl4⟩
  clear hl1 hl2 hl3 hl4
  have HI71 : Hid ((Try.prog.info? 71).map (·.size) = some (m32 startR).toArray.size) := R3.info71
  have HS71 : Hid ((m32 (List.replicate 5 0#32)).toArray.size = (m32 startR).toArray.size) := rfl
  have HO71 : Hid ((m32 startR).toArray.all (·.oneCell') = true) := show _ = true by simp [m32, Value.oneCell']
  go_enter Try.func16, Try.ntmps16
  go_wp2_with (first
    | (refine wp_known rfl 16 rfl (.agg (mi T1).toArray) (fun _ _ => by rw [HT1.out]; kernel_rfl) ?_; simp only [Act.put, List.setIfInBounds_toArray, List.set_cons_zero, List.set_cons_succ]
       have HF1 : Hid (Fr w (w.alloc (.cells #[.int .u8 0, .int .u8 0, .int .u8 0, .int .u8 0, .int .u8 0, .int .u8 0, .int .u8 0, .int .u8 0, .int .u8 0, .int .u8 0, .int .u8 0, .int .u8 0, .int .u8 0, .int .u8 0, .int .u8 0, .int .u8 0, .int .u8 0, .int .u8 0, .int .u8 0, .int .u8 0] 29)) [(w.heap.size, 29, nums (List.replicate 20 0#8))]) := Fr.one w 29 (nums (List.replicate 20 0#8))
       generalize (w.alloc (.cells #[.int .u8 0, .int .u8 0, .int .u8 0, .int .u8 0, .int .u8 0, .int .u8 0, .int .u8 0, .int .u8 0, .int .u8 0, .int .u8 0, .int .u8 0, .int .u8 0, .int .u8 0, .int .u8 0, .int .u8 0, .int .u8 0, .int .u8 0, .int .u8 0, .int .u8 0, .int .u8 0] 29)) = w1 at *)
    | (refine wpList_store_row rfl 80 (.tmp 3) (.tmp 16) rfl w1.heap.size (mi T1).toArray rfl rfl 80 zs (block_new _ _) HJ1.out HY1.out (mi_all _) ?_
       have HF2 : Hid (Fr w ((w1.alloc (.cells zs 80)).setRow w1.heap.size (mi T1).toArray) _) := HF1.out.new 80 zs (mi T1)
       generalize ((w1.alloc (.cells zs 80)).setRow w1.heap.size (mi T1).toArray) = w2 at *
       generalize w1.heap.size = n1 at *
       clear HF1)
    | (refine wp_known rfl 17 rfl (.agg (mi T2).toArray) (fun _ _ => by rw [HT2.out]; kernel_rfl) ?_; simp only [Act.put, List.setIfInBounds_toArray, List.set_cons_zero, List.set_cons_succ])
    | (refine wpList_store_row rfl 80 (.tmp 4) (.tmp 17) rfl w2.heap.size (mi T2).toArray rfl rfl 80 zs (block_new _ _) HJ2.out HY2.out (mi_all _) ?_
       have HF3 : Hid (Fr w ((w2.alloc (.cells zs 80)).setRow w2.heap.size (mi T2).toArray) _) := HF2.out.new 80 zs (mi T2)
       generalize ((w2.alloc (.cells zs 80)).setRow w2.heap.size (mi T2).toArray) = w3 at *
       generalize w2.heap.size = n2 at *
       clear HF2)
    | (refine wp_known rfl 18 rfl (.agg (mi T3).toArray) (fun _ _ => by rw [HT3.out]; kernel_rfl) ?_; simp only [Act.put, List.setIfInBounds_toArray, List.set_cons_zero, List.set_cons_succ])
    | (refine wpList_store_row rfl 80 (.tmp 5) (.tmp 18) rfl w3.heap.size (mi T3).toArray rfl rfl 80 zs (block_new _ _) HJ3.out HY3.out (mi_all _) ?_
       have HF4 : Hid (Fr w ((w3.alloc (.cells zs 80)).setRow w3.heap.size (mi T3).toArray) _) := HF3.out.new 80 zs (mi T3)
       generalize ((w3.alloc (.cells zs 80)).setRow w3.heap.size (mi T3).toArray) = w4 at *
       generalize w3.heap.size = n3 at *
       clear HF3)
    | (refine wp_known rfl 19 rfl (.agg (mi T4).toArray) (fun _ _ => by rw [HT4.out]; kernel_rfl) ?_; simp only [Act.put, List.setIfInBounds_toArray, List.set_cons_zero, List.set_cons_succ])
    | (refine wpList_store_row rfl 80 (.tmp 6) (.tmp 19) rfl w4.heap.size (mi T4).toArray rfl rfl 80 zs (block_new _ _) HJ4.out HY4.out (mi_all _) ?_
       have HF5 : Hid (Fr w ((w4.alloc (.cells zs 80)).setRow w4.heap.size (mi T4).toArray) _) := HF4.out.new 80 zs (mi T4)
       generalize ((w4.alloc (.cells zs 80)).setRow w4.heap.size (mi T4).toArray) = w5 at *
       generalize w4.heap.size = n4 at *
       clear HF4)
    | (refine wp_known rfl 20 rfl (.agg (m32 startR).toArray) (fun _ _ => by kernel_rfl) ?_; simp only [Act.put, List.setIfInBounds_toArray, List.set_cons_zero, List.set_cons_succ])
    | (refine wpList_store_row rfl 71 (.tmp 7) (.tmp 20) rfl w5.heap.size (m32 startR).toArray rfl rfl 71 (m32 (List.replicate 5 0#32)).toArray (block_new _ _) HI71.out HS71.out HO71.out ?_
       have HF6 : Hid (Fr w ((w5.alloc (.cells #[.int .u32 0, .int .u32 0, .int .u32 0, .int .u32 0, .int .u32 0] 71)).setRow w5.heap.size (m32 startR).toArray) _) := HF5.out.new 71 _ (m32 startR)
       generalize ((w5.alloc (.cells #[.int .u32 0, .int .u32 0, .int .u32 0, .int .u32 0, .int .u32 0] 71)).setRow w5.heap.size (m32 startR).toArray) = w6 at *
       generalize w5.heap.size = n5 at *
       clear HF5)
    | (go_at_call 35; refine (HPD.out _ HF6.out.1).mono ?_
       rintro e w7 ⟨v7, rfl, ho7, hb7⟩
       have HS0 := Lib.hid (rp_start HF6.out len_start ho7 hb7)
       obtain ⟨g5, c5, rest5, hv5, -⟩ := own_arr ho7 (by have h1 := padM_len bs 0; have h2 := preG_mod bs; have h3 := preG_len bs; omega)
       clear hb7 ho7 HF6
       subst hv5))
  have HPL : Hid ((padM bs 0).length = (preG bs).length ∧ (preG bs).length % 64 = 0 ∧ 64 ≤ (preG bs).length ∧ (preG bs).length ≤ 1073742000) := show _ ∧ _ from ⟨padM_len _ _, preG_mod _, by have := preG_mod bs; have := preG_len bs; omega, by have h1 := preG_len bs; have h2 := HL.out; have h3 : padW bs.length = (119 - bs.length % 64) % 64 := rfl; omega⟩
  obtain ⟨M, hM⟩ : ∃ M, M = (preG bs).length := ⟨_, rfl⟩
  have HSF : Hid (ripF bs = it (ripO (it (ripS (padM bs 0)) ((padM bs 0).length / 64) startR)) 5 (List.replicate 20 0#8)) := rfl
  rw [HPL.out.1, ← hM] at HSF
  have HPL2 := HPL.out
  rw [← hM] at HPL2
  obtain ⟨hp1, hp2, hp3, hp4⟩ := HPL2
  have HP1 := Lib.hid hp1
  have HP2 := Lib.hid hp2
  rw [hp1] at HS0 ⊢
  have HK1 : Hid ((Try.prog.info? 80).map (·.size) = some (mi T1).toArray.size) := HJ1.out
  have HK2 : Hid ((Try.prog.info? 80).map (·.size) = some (mi T2).toArray.size) := HJ2.out
  have HK3 : Hid ((Try.prog.info? 80).map (·.size) = some (mi T3).toArray.size) := HJ3.out
  have HK4 : Hid ((Try.prog.info? 80).map (·.size) = some (mi T4).toArray.size) := HJ4.out
  clear hM HPL HPD hp1 hp2 hp3 HZ HZS HI71 HS71 HO71 HJ1 HY1 HJ2 HY2 HJ3 HY3 HJ4 HY4
  generalize padM bs 0 = p at *
  generalize w7.heap.size = hi at *
  generalize w6.heap.size = lo5 at *
  obtain ⟨n0, hn0⟩ : ∃ n, n = w.heap.size := ⟨_, rfl⟩
  rw [← hn0] at HS0 ⊢
  clear hn0
  go_loopw [9] (fun v wr => ∃ k : Nat, 64 * k ≤ M ∧ v = .int .i64 ((64 * k : Nat) : Int) ∧ Rp w wr n0 n1 n2 n3 n4 n5 lo5 hi T1 T2 T3 T4 (it (ripS p) k startR) (.slice (some ⟨g5, 0, none⟩) M c5) p) (fun v _ => M - (intOf v).toNat)
  case atStart => exact ⟨0, by omega, rfl, by rw [it_z]; exact HS0.out⟩
  obtain ⟨k, hk2, rfl, hf⟩ := hrel
  clear HS0
  have hSP := it_succ (ripS p) k startR
  generalize hak : it (ripS p) k startR = h at *
  rw [ripS_def] at hSP
  obtain ⟨t, ht⟩ : ∃ t, t = 64 * k := ⟨_, rfl⟩
  rw [← ht] at hSP hk2 ⊢
  have HAK := Lib.hid hak
  have HT := Lib.hid ht
  have HSP := Lib.hid hSP
  have HF := Lib.hid hf
  clear hak hSP hf ht
  rcases Nat.lt_or_ge t M with h0 | h0
  · have hM64 : t + 64 ≤ M := by have := HT.out; have := HP2.out; omega
    have HH0 := Lib.hid h0
    have hn0 : decide ((t : Int) < (M : Int)) = true := decide_eq_true (by omega)
    go_wp2_with fail
    have HF1 : Hid (Rp w (wr.alloc (.cells #[.int .u32 0, .int .u32 0, .int .u32 0, .int .u32 0, .int .u32 0, .int .u32 0, .int .u32 0, .int .u32 0, .int .u32 0, .int .u32 0, .int .u32 0, .int .u32 0, .int .u32 0, .int .u32 0, .int .u32 0, .int .u32 0] 77)) n0 n1 n2 n3 n4 n5 lo5 hi T1 T2 T3 T4 h (.slice (some ⟨g5, 0, none⟩) M c5) p) := HF.out.later (below_new _ _)
    have HW : Hid (N3 (wr.alloc (.cells #[.int .u32 0, .int .u32 0, .int .u32 0, .int .u32 0, .int .u32 0, .int .u32 0, .int .u32 0, .int .u32 0, .int .u32 0, .int .u32 0, .int .u32 0, .int .u32 0, .int .u32 0, .int .u32 0, .int .u32 0, .int .u32 0] 77)) lo5 hi wr.heap.size 77 16 (List.replicate 16 0#32)) := ⟨HF.out.ho, Nat.le_trans HF.out.ol HF.out.ho, List.length_replicate, Arr.new wr (m32 (List.replicate 16 0#32)) 77⟩
    clear HF
    generalize (wr.alloc (.cells #[.int .u32 0, .int .u32 0, .int .u32 0, .int .u32 0, .int .u32 0, .int .u32 0, .int .u32 0, .int .u32 0, .int .u32 0, .int .u32 0, .int .u32 0, .int .u32 0, .int .u32 0, .int .u32 0, .int .u32 0, .int .u32 0] 77)) = wx at *
    generalize wr.heap.size = gx at *
    clear wr
    go_loopw [11] (fun v wr => ∃ q : Nat, q ≤ 64 ∧ v = .int .i64 (q : Int) ∧ Rp w wr n0 n1 n2 n3 n4 n5 lo5 hi T1 T2 T3 T4 h (.slice (some ⟨g5, 0, none⟩) M c5) p ∧ N3 wr lo5 hi gx 77 16 (it (xB p t) q (List.replicate 16 0#32))) (fun v _ => 64 - (intOf v).toNat)
    case atStart => exact ⟨0, by omega, rfl, HF1.out, by rw [it_z]; exact HW.out⟩
    obtain ⟨i, hi', rfl, hf, hw⟩ := hrel
    clear HF1 HW
    rcases Nat.lt_or_ge i 64 with hlt | hge
    · obtain ⟨i4, hi4⟩ : ∃ q, q = i / 4 := ⟨_, rfl⟩
      obtain ⟨r, hr⟩ : ∃ q, q = i % 4 := ⟨_, rfl⟩
      obtain ⟨r8, hr8⟩ : ∃ q, q = 8 * r := ⟨_, rfl⟩
      obtain ⟨s, hs⟩ : ∃ q, q = t + i := ⟨_, rfl⟩
      have e1 : (i : Int).tdiv 4 = (i4 : Int) := by rw [Int.tdiv_eq_ediv_of_nonneg (by omega)]; omega
      have e2 : (i : Int).tmod 4 = (r : Int) := by rw [Int.tmod_eq_emod_of_nonneg (by omega)]; omega
      have e3 : (8 : Int) * (r : Int) = (r8 : Int) := by omega
      have e4 : (t : Int) + (i : Int) = (s : Int) := by omega
      have w8 : IntKind.u64.wrap (r8 : Int) = (r8 : Int) := by rw [wrap_u64]; omega
      have m8 : min r8 64 = r8 := by omega
      have m9 : min r8 32 = r8 := by omega
      have i16 : ¬ (16 : Int) ≤ (i4 : Int) := by omega
      have iM : ¬ (M : Int) ≤ (s : Int) := by omega
      have hsM : s < 1073742000 := by omega
      have hS3 := it_succ (xB p t) i (List.replicate 16 0#32)
      have hs3 : ∀ a, xB p t i a = a.set i4 (gt a 0#32 i4 ||| ((gt p 0#8 s).setWidth 32 <<< r8)) := fun a => by unfold xB; rw [hr8, hr, hi4, hs]
      generalize it (xB p t) i (List.replicate 16 0#32) = ai at *
      rw [hs3 ai] at hS3
      have ci := hw.cl i4 (by omega)
      have fi := hw.A.frozen i4
      have cp2 := hf.cP HP1.out s (by omega)
      have HS3 := Lib.hid hS3
      have HF := Lib.hid hf
      have HW := Lib.hid hw
      have HI := Lib.hid hlt
      clear hf hw hS3 hs3 hi4 hr hr8 hs
      generalize gt ai 0#32 i4 = x at *
      generalize gt p 0#8 s = y at *
      have hzx := Sr.zx32 y
      have hsh := shl32 (y.setWidth 32) r8
      have hsh2 := shl32' (y.setWidth 32) r8
      generalize (y.setWidth 32 <<< r8) = yy at *
      go_wp2_with fail
      refine wp_region_c 18 (by kernel_rfl) (by kernel_rfl) ?_
      simp only [List.take_succ_cons, List.take_zero, List.drop_succ_cons, List.drop_zero]
      iterate 18 (refine wpC_run (by rfl) rfl (fun K hK => ?_); go_wp2)
      refine wpC_nil ?_
      go_wp2
      have hlt := HI.out
      go_roundw
      case rel =>
        refine ⟨i + 1, by omega, by go_num, HF.out.drew.other HW.out.h HW.out.l0 _ _, ?_⟩
        rw [HS3.out]
        exact HW.out.drew.set _ _
      case measure => simp [intOf]; omega
    obtain rfl : i = 64 := by omega
    rw [show ((64 : Nat) : Int) = 64 from rfl]
    rw [xF_eq] at hw
    have HXL : Hid ((xF (p.drop t)).length = 16) := xF_len _
    generalize xF (p.drop t) = xs at *
    have HF := Lib.hid hf
    have HX := Lib.hid hw
    clear hf hw hi' hge
    have HL1 : Hid (∀ W, Calls Try.prog 39 #[.agg (m32 h).toArray, .agg (m32 xs).toArray, .agg (mi T1).toArray, .agg (mi T3).toArray, .agg (m32 k1F).toArray, .bool false] W fun e w' => e = .returned (.agg (m32 (runF l1F s1F k1F xs 0 h)).toArray) ∧ Below W.heap.size W w') := fun W => HLA.out W h xs HF.out.lh HXL.out
    have HL2 : Hid (∀ W, Calls Try.prog 39 #[.agg (m32 h).toArray, .agg (m32 xs).toArray, .agg (mi T2).toArray, .agg (mi T4).toArray, .agg (m32 k2F).toArray, .bool true] W fun e w' => e = .returned (.agg (m32 (runF l2F s2F k2F xs 1 h)).toArray) ∧ Below W.heap.size W w') := fun W => HLB.out W h xs HF.out.lh HXL.out
    have hll : (runF l1F s1F k1F xs 0 h).length = 5 := run_len _ _ _ _ _ _ HF.out.lh
    have hlr : (runF l2F s2F k2F xs 1 h).length = 5 := run_len _ _ _ _ _ _ HF.out.lh
    generalize runF l1F s1F k1F xs 0 h = lv at *
    generalize runF l2F s2F k2F xs 1 h = rv at *
    have H5 : Hid (∀ u : V, u.length = 5 → (Try.prog.info? 71).map (·.size) = some (m32 u).toArray.size ∧ (m32 (List.replicate 5 0#32)).toArray.size = (m32 u).toArray.size ∧ (m32 u).toArray.all (·.oneCell') = true) := fun u hu => by
      have e : (m32 u).toArray.size = 5 := by simp [m32_len, hu]
      exact ⟨by rw [e]; exact R3.info71, by rw [e]; rfl, by simp [m32, Value.oneCell']⟩
    have HLL := Lib.hid hll
    have HLR := Lib.hid hlr
    have HI77 : Hid ((Try.prog.info? 77).map (·.size) = some (m32 xs).toArray.size) := show _ = _ by rw [show (m32 xs).toArray.size = 16 by simp [m32_len, HXL.out]]; exact info77
    obtain ⟨us, hus⟩ : ∃ us, us = joinR h lv rv := ⟨_, rfl⟩
    have HUL : Hid (us.length = 5) := show us.length = 5 by rw [hus]; rfl
    have HUE : Hid ((m32 us).toArray = #[.int .u32 (n32 (gt h 0#32 1 + gt lv 0#32 2 + gt rv 0#32 3)), .int .u32 (n32 (gt h 0#32 2 + gt lv 0#32 3 + gt rv 0#32 4)), .int .u32 (n32 (gt h 0#32 3 + gt lv 0#32 4 + gt rv 0#32 0)), .int .u32 (n32 (gt h 0#32 4 + gt lv 0#32 0 + gt rv 0#32 1)), .int .u32 (n32 (gt h 0#32 0 + gt lv 0#32 1 + gt rv 0#32 2))]) := show _ = _ by rw [hus]; rfl
    rw [← hus] at HSP
    clear hus hll hlr HXL
    have HSU : Hid ((m32 h).toArray.size = (m32 us).toArray.size) := show _ = _ by rw [List.size_toArray, List.size_toArray, m32_len, m32_len, HF.out.lh, HUL.out]
    go_wp2_with (first
      | (refine wpList_load_row rfl 71 (.tmp 7) rfl n5 rfl 71 (m32 h).toArray (0, 0) _ HF.out.H Try.underlying71 rfl (H5.out h HF.out.lh).1 ?_)
      | (refine wpList_load_row rfl 77 (.tmp 10) rfl gx rfl 77 (m32 xs).toArray (0, 0) _ HX.out.A Try.underlying77 rfl HI77.out ?_)
      | (refine wpList_load_row rfl 80 (.tmp 3) rfl n1 rfl 80 (mi T1).toArray (0, 0) _ HF.out.A1 Try.underlying80 rfl HK1.out ?_)
      | (refine wpList_load_row rfl 80 (.tmp 5) rfl n3 rfl 80 (mi T3).toArray (0, 0) _ HF.out.A3 Try.underlying80 rfl HK3.out ?_)
      | (refine wp_known rfl 55 rfl (.agg (m32 k1F).toArray) (fun _ _ => by kernel_rfl) ?_; simp only [Act.put, List.setIfInBounds_toArray, List.set_cons_zero, List.set_cons_succ])
      | (go_at_call 39; refine (HL1.out _).mono ?_
         rintro e w6 ⟨rfl, hb6⟩
         have HF6 := Lib.hid (HF.out.later hb6)
         have HX6 := Lib.hid (HX.out.later hb6)
         clear hb6 HL1)
      | (refine wpList_store_row rfl 71 (.tmp 12) (.tmp 56) rfl w6.heap.size (m32 lv).toArray rfl rfl 71 (m32 (List.replicate 5 0#32)).toArray (block_new _ _) (H5.out lv HLL.out).1 (H5.out lv HLL.out).2.1 (H5.out lv HLL.out).2.2 ?_
         have hlow : Below w6.heap.size w6 ((w6.alloc (.cells #[.int .u32 0, .int .u32 0, .int .u32 0, .int .u32 0, .int .u32 0] 71)).setRow w6.heap.size (m32 lv).toArray) := below_setRow (below_new _ _) (Nat.le_refl _) _
         have HF7 := Lib.hid (HF6.out.later hlow)
         have HX7 := Lib.hid (HX6.out.later hlow)
         have HV7 : Hid (N3 ((w6.alloc (.cells #[.int .u32 0, .int .u32 0, .int .u32 0, .int .u32 0, .int .u32 0] 71)).setRow w6.heap.size (m32 lv).toArray) lo5 hi w6.heap.size 71 5 lv) := ⟨HF6.out.ho, Nat.le_trans HF6.out.ol HF6.out.ho, HLL.out, setRow_heap _ _ _ _ _ _ (block_new w6 (.cells (m32 (List.replicate 5 0#32)).toArray 71))⟩
         clear hlow HF6 HX6
         generalize ((w6.alloc (.cells #[.int .u32 0, .int .u32 0, .int .u32 0, .int .u32 0, .int .u32 0] 71)).setRow w6.heap.size (m32 lv).toArray) = w7 at *
         generalize w6.heap.size = gl at *)
      | (refine wpList_load_row rfl 71 (.tmp 7) rfl n5 rfl 71 (m32 h).toArray (0, 0) _ HF7.out.H Try.underlying71 rfl (H5.out h HF7.out.lh).1 ?_)
      | (refine wpList_load_row rfl 77 (.tmp 10) rfl gx rfl 77 (m32 xs).toArray (0, 0) _ HX7.out.A Try.underlying77 rfl HI77.out ?_)
      | (refine wpList_load_row rfl 80 (.tmp 4) rfl n2 rfl 80 (mi T2).toArray (0, 0) _ HF7.out.A2 Try.underlying80 rfl HK2.out ?_)
      | (refine wpList_load_row rfl 80 (.tmp 6) rfl n4 rfl 80 (mi T4).toArray (0, 0) _ HF7.out.A4 Try.underlying80 rfl HK4.out ?_)
      | (refine wp_known rfl 61 rfl (.agg (m32 k2F).toArray) (fun _ _ => by kernel_rfl) ?_; simp only [Act.put, List.setIfInBounds_toArray, List.set_cons_zero, List.set_cons_succ])
      | (go_at_call 39; refine (HL2.out _).mono ?_
         rintro e w8 ⟨rfl, hb8⟩
         have HF8 := Lib.hid (HF7.out.later hb8)
         have HV8 := Lib.hid (HV7.out.later hb8)
         clear hb8 HL2)
      | (refine wpList_store_row rfl 71 (.tmp 13) (.tmp 62) rfl w8.heap.size (m32 rv).toArray rfl rfl 71 (m32 (List.replicate 5 0#32)).toArray (block_new _ _) (H5.out rv HLR.out).1 (H5.out rv HLR.out).2.1 (H5.out rv HLR.out).2.2 ?_
         have hlow : Below w8.heap.size w8 ((w8.alloc (.cells #[.int .u32 0, .int .u32 0, .int .u32 0, .int .u32 0, .int .u32 0] 71)).setRow w8.heap.size (m32 rv).toArray) := below_setRow (below_new _ _) (Nat.le_refl _) _
         have HF9 := Lib.hid (HF8.out.later hlow)
         have HV9 := Lib.hid (HV8.out.later hlow)
         have HR9 : Hid (N3 ((w8.alloc (.cells #[.int .u32 0, .int .u32 0, .int .u32 0, .int .u32 0, .int .u32 0] 71)).setRow w8.heap.size (m32 rv).toArray) lo5 hi w8.heap.size 71 5 rv) := ⟨HF8.out.ho, Nat.le_trans HF8.out.ol HF8.out.ho, HLR.out, setRow_heap _ _ _ _ _ _ (block_new w8 (.cells (m32 (List.replicate 5 0#32)).toArray 71))⟩
         clear hlow HF8 HV8
         generalize ((w8.alloc (.cells #[.int .u32 0, .int .u32 0, .int .u32 0, .int .u32 0, .int .u32 0] 71)).setRow w8.heap.size (m32 rv).toArray) = w9 at *
         generalize w8.heap.size = gr at *
         have ch0 := HF9.out.cH 0 (by omega)
         have cl0 := HV9.out.cl 0 (by omega)
         have cr0 := HR9.out.cl 0 (by omega)
         have ch1 := HF9.out.cH 1 (by omega)
         have cl1 := HV9.out.cl 1 (by omega)
         have cr1 := HR9.out.cl 1 (by omega)
         have ch2 := HF9.out.cH 2 (by omega)
         have cl2 := HV9.out.cl 2 (by omega)
         have cr2 := HR9.out.cl 2 (by omega)
         have ch3 := HF9.out.cH 3 (by omega)
         have cl3 := HV9.out.cl 3 (by omega)
         have cr3 := HR9.out.cl 3 (by omega)
         have ch4 := HF9.out.cH 4 (by omega)
         have cl4 := HV9.out.cl 4 (by omega)
         have cr4 := HR9.out.cl 4 (by omega)
         generalize gt h 0#32 0 = a0 at *
         generalize gt lv 0#32 0 = b0 at *
         generalize gt rv 0#32 0 = d0 at *
         generalize gt h 0#32 1 = a1 at *
         generalize gt lv 0#32 1 = b1 at *
         generalize gt rv 0#32 1 = d1 at *
         generalize gt h 0#32 2 = a2 at *
         generalize gt lv 0#32 2 = b2 at *
         generalize gt rv 0#32 2 = d2 at *
         generalize gt h 0#32 3 = a3 at *
         generalize gt lv 0#32 3 = b3 at *
         generalize gt rv 0#32 3 = d3 at *
         generalize gt h 0#32 4 = a4 at *
         generalize gt lv 0#32 4 = b4 at *
         generalize gt rv 0#32 4 = d4 at *)
      | (refine wpList_store_row rfl 71 (.tmp 7) (.tmp 103) rfl n5 (m32 us).toArray rfl (by rw [HUE.out]; rfl) 71 (m32 h).toArray HF9.out.H (H5.out us HUL.out).1 HSU.out (H5.out us HUL.out).2.2 ?_))
    have h0 := HH0.out
    go_roundw
    case rel =>
      refine ⟨k + 1, by have := HT.out; omega, ?_, ?_⟩
      · have ht := HT.out
        have e : (t : Int) + 64 = ((64 * (k + 1) : Nat) : Int) := by omega
        rw [e]
      · rw [HSP.out]
        exact HF9.out.rowH HUL.out
    case measure => simp [intOf]; omega
  have hk3 : k = M / 64 := by have := HT.out; have := HP2.out; omega
  have hkf := HSF.out
  rw [← hk3, HAK.out] at hkf
  have hn0 : decide ((t : Int) < (M : Int)) = false := decide_eq_false (by omega)
  rw [← out_all h] at hkf
  have HKF := Lib.hid hkf
  clear hkf hk3
  go_wp2_with fail
  have HD : Hid (Rp w (wr.alloc (.cells #[.int .u8 0, .int .u8 0, .int .u8 0, .int .u8 0, .int .u8 0, .int .u8 0, .int .u8 0, .int .u8 0, .int .u8 0, .int .u8 0, .int .u8 0, .int .u8 0, .int .u8 0, .int .u8 0, .int .u8 0, .int .u8 0, .int .u8 0, .int .u8 0, .int .u8 0, .int .u8 0] 29)) n0 n1 n2 n3 n4 n5 lo5 hi T1 T2 T3 T4 h (.slice (some ⟨g5, 0, none⟩) M c5) p) := HF.out.later (below_new _ _)
  have HH : Hid (Arr (wr.alloc (.cells #[.int .u8 0, .int .u8 0, .int .u8 0, .int .u8 0, .int .u8 0, .int .u8 0, .int .u8 0, .int .u8 0, .int .u8 0, .int .u8 0, .int .u8 0, .int .u8 0, .int .u8 0, .int .u8 0, .int .u8 0, .int .u8 0, .int .u8 0, .int .u8 0, .int .u8 0, .int .u8 0] 29)) wr.heap.size 29 (nums (List.replicate 20 0#8))) := Arr.new wr (nums (List.replicate 20 0#8)) 29
  have HGH : Hid (hi ≤ wr.heap.size ∧ lo5 ≤ wr.heap.size) := ⟨HF.out.ho, Nat.le_trans HF.out.ol HF.out.ho⟩
  generalize (wr.alloc (.cells #[.int .u8 0, .int .u8 0, .int .u8 0, .int .u8 0, .int .u8 0, .int .u8 0, .int .u8 0, .int .u8 0, .int .u8 0, .int .u8 0, .int .u8 0, .int .u8 0, .int .u8 0, .int .u8 0, .int .u8 0, .int .u8 0, .int .u8 0, .int .u8 0, .int .u8 0, .int .u8 0] 29)) = wz at *
  generalize wr.heap.size = gh at *
  clear HF wr
  go_loopw [104] (fun v wr => ∃ i : Nat, i ≤ 20 ∧ v = .int .i64 (i : Int) ∧ Rp w wr n0 n1 n2 n3 n4 n5 lo5 hi T1 T2 T3 T4 h (.slice (some ⟨g5, 0, none⟩) M c5) p ∧ Arr wr gh 29 (nums (it (outR h) i (List.replicate 20 0#8)))) (fun v _ => 20 - (intOf v).toNat)
  case atStart => exact ⟨0, by omega, rfl, HD.out, by rw [it_z]; exact HH.out⟩
  obtain ⟨i, hi', rfl, hf, hh⟩ := hrel
  clear HD HH
  have hhl : (it (outR h) i (List.replicate 20 0#8)).length = 20 := by rw [outR_len, List.length_replicate]
  have hS4 := it_succ (outR h) i (List.replicate 20 0#8)
  generalize hhb : it (outR h) i (List.replicate 20 0#8) = hb at *
  have HHB := Lib.hid hhb
  rcases Nat.lt_or_ge i 20 with hlt | hge
  · obtain ⟨i4, hi4⟩ : ∃ q, q = i / 4 := ⟨_, rfl⟩
    obtain ⟨r, hr⟩ : ∃ q, q = i % 4 := ⟨_, rfl⟩
    obtain ⟨s8, hs8⟩ : ∃ q, q = 8 * r := ⟨_, rfl⟩
    have e1 : (i : Int).tdiv 4 = (i4 : Int) := by rw [Int.tdiv_eq_ediv_of_nonneg (by omega)]; omega
    have e2 : (i : Int).tmod 4 = (r : Int) := by rw [Int.tmod_eq_emod_of_nonneg (by omega)]; omega
    have e3 : (8 : Int) * (r : Int) = (s8 : Int) := by omega
    have w8 : IntKind.u64.wrap (s8 : Int) = (s8 : Int) := by rw [wrap_u64]; omega
    have m8 : min s8 32 = s8 := by omega
    have m9 : min s8 64 = s8 := by omega
    have i5 : ¬ (5 : Int) ≤ (i4 : Int) := by omega
    have i20 : ¬ (20 : Int) ≤ (i : Int) := by omega
    have ci := hf.cH i4 (by omega)
    have cz := hh.cell (nums_getD (i := i) (by rw [hhl]; exact hlt))
    have fz := hh.frozen i
    have hs4 : outR h i hb = hb.set i ((gt h 0#32 i4 >>> s8).setWidth 8) := by unfold outR; rw [hs8, hr, hi4]
    rw [hs4] at hS4
    have HS4 := Lib.hid hS4
    have HF := Lib.hid hf
    have HH := Lib.hid hh
    have HI := Lib.hid hlt
    clear hf hh hS4 hs4 hhb hhl hi4 hr hs8
    generalize gt h 0#32 i4 = x at *
    generalize hyb : (x >>> s8).setWidth 8 = yb at *
    have hsh : n32 x / 2 ^ s8 % 256 = n8 yb := by rw [shr32, ← wrap_u8, low8', hyb]
    have hsh2 : n32 (x >>> s8) % 256 = n8 yb := by rw [← wrap_u8, low8', hyb]
    clear hyb
    go_wp2_with fail
    have hlt := HI.out
    go_roundw
    case rel =>
      refine ⟨i + 1, by omega, by go_num, HF.out.other HGH.out.1 HGH.out.2 _ _, ?_⟩
      rw [HS4.out, ← nums_set]
      exact HH.out.set _ _
    case measure => simp [intOf]; omega
  obtain rfl : i = 20 := by omega
  rw [show ((20 : Nat) : Int) = 20 from rfl]
  have hv := HKF.out
  rw [hhb] at hv
  have HV := Lib.hid hv
  have hs1 : (nums hb).toArray.size = 20 := by simp [hhl]
  have hi1 : (Try.prog.info? 29).map (·.size) = some (nums hb).toArray.size := by rw [hs1]; kernel_rfl
  have h1 : (nums hb).toArray.all (·.oneCell') = true := by simp [nums, Value.oneCell']
  have hs2 : (nums (List.replicate 20 0#8)).toArray.size = (nums hb).toArray.size := by rw [hs1]; simp
  have HF := Lib.hid hf
  have HH := Lib.hid hh
  clear hf hh hS4 hhb hv
  go_wp2_with (first
    | (refine wpList_load_row rfl 29 (.tmp 14) rfl gh rfl 29 (nums hb).toArray (0, 0) _ HH.out Try.underlying29 rfl hi1 ?_)
    | (refine wpList_store_row rfl 29 (.tmp 2) (.tmp 120) rfl n0 (nums hb).toArray rfl rfl 29 (nums (List.replicate 20 0#8)).toArray HF.out.R hi1 hs2 h1 ?_))
  refine bodyPost_ret (results_cell_row (P := Try.prog) rfl _ _ n0 29 (nums hb).toArray (0, 0) _ rfl (setRow_heap wr _ _ _ _ _ HF.out.R) Try.underlying29 rfl hi1) rfl ⟨?_, below_setRow HF.out.W (Nat.le_of_eq HF.out.e0.symm) _⟩
  rw [HV.out]
end Go.Proofs.Ytnlcndlfdnogaaa.Rk
