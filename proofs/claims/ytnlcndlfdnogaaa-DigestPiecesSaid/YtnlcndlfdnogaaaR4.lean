/- Ripemd: the frame, the functions' lengths. (printed by gen_r4.py) -/
import Derived.Test.YtnlcndlfdnogaaaR3
set_option linter.unusedVariables false
set_option linter.unusedSimpArgs false
namespace Go.Proofs.Ytnlcndlfdnogaaa.R4
open Go.RowKit
open D0 M D2 D3 Rg K1 C1 S0 S1 S2 Z S3 S4 S5 R0 R1 R3
theorem run_len {l s : List Byte} {k x v : V} {back : Nat} (h : v.length = 5) : (runF l s k x back v).length = 5 := by
  unfold runF
  rw [show (80 : Nat) = 79 + 1 from rfl, it_succ]
  rfl
theorem xS_len (p : List Byte) : ∀ i (x : V), (it (xS p) i x).length = x.length
  | 0, _ => rfl
  | i + 1, x => by rw [it_succ]; unfold xS; rw [List.length_set]; exact xS_len p i x
theorem rip_len (p : List Byte) : ∀ i, (it (ripS p) i startR).length = 5
  | 0 => rfl
  | i + 1 => by rw [it_succ]; rfl
theorem ripO_len (h : V) : ∀ i o, (it (ripO h) i o).length = o.length
  | 0, _ => rfl
  | i + 1, o => by rw [it_succ]; unfold ripO layF; rw [layIt_len]; exact ripO_len h i o
theorem LA_len : LA.length = 165 := by decide +kernel
theorem ln1 {W : World} {g : Nat} (h : Arr W g 75 LN) : Ln W g 0 l1F s1F k1F := by
  refine ⟨75, LN, h, fun i v hv => ?_⟩
  have hi := (List.getElem?_eq_some_iff.1 hv).1
  rw [Nat.zero_add]
  unfold LN
  rw [List.getElem?_append_left (show i < LA.length from hi)]
  exact hv
theorem ln2 {W : World} {g : Nat} (h : Arr W g 75 LN) : Ln W g 165 l2F s2F k2F := by
  refine ⟨75, LN, h, fun i v hv => ?_⟩
  unfold LN
  rw [List.getElem?_append_right (by rw [LA_len]; omega), LA_len, Nat.add_sub_cancel_left]
  exact hv
theorem l1_len : l1F.length = 80 := by decide +kernel
theorem s1_len : s1F.length = 80 := by decide +kernel
theorem l2_len : l2F.length = 80 := by decide +kernel
theorem s2_len : s2F.length = 80 := by decide +kernel
/-- The frame. -/
structure Gf (w W : World) (gh gL ga : Nat) (h : V) (v : Value) (p : List Byte) : Prop where
  hg : w.heap.size < gh
  hL : gh < gL
  ha : gL < ga
  hW : ga ≤ W.heap.size
  lh : h.length = 5
  R : Arr W w.heap.size 29 (nums (List.replicate 20 0#8))
  H : Arr W gh 71 (m32 h)
  L : Arr W gL 75 LN
  P : Bs W (gL + 1) ga v p
  W : Below w.heap.size w W
section
variable {w W W' : World} {gh gL ga go gx g8 g9 : Nat} {h us x xl xr : V} {v : Value} {p : List Byte}
theorem Gf.later (f : Gf w W gh gL ga h v p) (hb : Below W.heap.size W W') : Gf w W' gh gL ga h v p := by
  obtain ⟨hg, hL, ha, hW, lh, R, H, L, P, B⟩ := f
  exact ⟨hg, hL, ha, Nat.le_trans hW hb.size, lh, R.later hb R.lt, H.later hb H.lt, L.later hb L.lt, P.keep (Same.of_below hb hW), B.trans (hb.mono B.size)⟩
theorem Gf.later2 {N : Nat} (f : Gf w W gh gL ga h v p) (hb : Below N W W') (hN : ga ≤ N) : Gf w W' gh gL ga h v p := by
  obtain ⟨hg, hL, ha, hW, lh, R, H, L, P, B⟩ := f
  exact ⟨hg, hL, ha, Nat.le_trans hW hb.size, lh, R.later hb (by omega), H.later hb (by omega), L.later hb (by omega), P.keep (Same.of_below hb hN), B.trans (hb.mono (by omega))⟩
theorem Gf.only (f : Gf w W gh gL ga h v p) (ho : Only go W W') (hgo : ga ≤ go) : Gf w W' gh gL ga h v p := by
  obtain ⟨hg, hL, ha, hW, lh, R, H, L, P, B⟩ := f
  exact ⟨hg, hL, ha, by rw [ho.size]; exact hW, lh, R.keep (ho.block _ (by omega)), H.keep (ho.block _ (by omega)), L.keep (ho.block _ (by omega)), P.keep fun k _ hk => ho.block _ (by omega), B.trans (ho.below (by omega))⟩
theorem Gf.drew (f : Gf w W gh gL ga h v p) : Gf w W.drew gh gL ga h v p := ⟨f.hg, f.hL, f.ha, f.hW, f.lh, f.R, f.H, f.L, f.P.keep fun _ _ _ => rfl, f.W.drew⟩
theorem Gf.setH (f : Gf w W gh gL ga h v p) (hu : us.length = 5) : Gf w (W.setRow gh (m32 us).toArray) gh gL ga us v p := by
  obtain ⟨hg, hL, ha, hW, lh, R, H, L, P, B⟩ := f
  exact ⟨hg, hL, ha, by simpa [World.setRow] using hW, hu, R.keep (setRow_other _ _ _ _ (by omega)), setRow_heap _ _ _ _ _ _ H, L.keep (setRow_other _ _ _ _ (by omega)), P.keep fun k _ hk => setRow_other _ _ _ _ (by omega), below_setRow B (by omega) _⟩
theorem Gf.cut {A A' : Option Addr} {n c m : Nat} (f : Gf w W gh gL ga h (.slice A n c) p) (hm : m ≤ n) (hcut : ∀ (w : World) (lo hi : Nat) (xs : List Value), n ≤ c → Rd w lo hi 1 A n xs → Rd w lo hi 1 A' (n - m) (xs.drop (m * 1))) : Gf w W gh gL ga h (.slice A' (n - m) (c - m)) (p.drop m) := by
  obtain ⟨hg, hL, ha, hW, lh, R, H, L, ⟨A0, c0, e, h1, h2, hR⟩, B⟩ := f
  cases e
  refine ⟨hg, hL, ha, hW, lh, R, H, L, ⟨A', c - m, by rw [List.length_drop], by rw [List.length_drop]; omega, by omega, ?_⟩, B⟩
  have := hcut _ _ _ _ h1 hR
  rw [Nat.mul_one] at this
  rw [List.length_drop]
  unfold nums at this ⊢
  rwa [← List.map_drop] at this
theorem Gf.cH (f : Gf w W gh gL ga h v p) (i : Nat) (hi : i < 5) : W.cell? ⟨gh, i, none⟩ = some (.int .u32 (n32 (gt h 0#32 i))) := f.H.cell (m32_get (by rw [f.lh]; exact hi))
/-- The frame while a piece is taken in. -/
structure Gx (w W : World) (gh gL ga gx : Nat) (h x : V) (v : Value) (p : List Byte) : Prop where
  F : Gf w W gh gL ga h v p
  hx : ga ≤ gx
  lx : x.length = 16
  X : Arr W gx 77 (m32 x)
theorem Gx.start (f : Gf w W gh gL ga h v p) : Gx w (W.alloc (.cells (m32 (List.replicate 16 0#32)).toArray 77)) gh gL ga W.heap.size h (List.replicate 16 0#32) v p :=
  ⟨f.later (below_new _ _), f.hW, List.length_replicate, Arr.new _ _ _⟩
theorem Gx.setX (f : Gx w W gh gL ga gx h x v p) (i : Nat) (y : BitVec 32) : Gx w (W.setCell ⟨gx, i, none⟩ (.int .u32 (n32 y))) gh gL ga gx h (x.set i y) v p :=
  ⟨f.F.only (Only.set _ _ _ _) f.hx, f.hx, by rw [List.length_set]; exact f.lx, by rw [← m32_set]; exact f.X.set _ _⟩
theorem Gx.later2 {N : Nat} (f : Gx w W gh gL ga gx h x v p) (hb : Below N W W') (hN : gx < N) : Gx w W' gh gL ga gx h x v p :=
  ⟨f.F.later2 hb (by have := f.hx; omega), f.hx, f.lx, f.X.later hb hN⟩
theorem Gx.cX (f : Gx w W gh gL ga gx h x v p) (i : Nat) (hi : i < 16) : W.cell? ⟨gx, i, none⟩ = some (.int .u32 (n32 (gt x 0#32 i))) := f.X.cell (m32_get (by rw [f.lx]; exact hi))
theorem Gx.run1 (f : Gx w W gh gL ga gx h x v p) : Calls Try.prog 38 #[.pointer (some ⟨gL, 0, none⟩), .agg (m32 h).toArray, .pointer (some ⟨gx, 0, none⟩), .int .i64 0] W fun e w' => e = .returned (.agg (m32 (runF l1F s1F k1F x 0 h)).toArray) ∧ Below W.heap.size W w' :=
  run38 W gL 0 gx l1F s1F k1F x h 0 0 (.inl ⟨rfl, rfl⟩) l1_len s1_len rfl f.lx f.F.lh (fun j hj => small_get small1.1 j (by rw [l1_len]; exact hj)) (fun j hj => small_get small1.2.1 j (by rw [s1_len]; exact hj)) f.X (ln1 f.F.L)
theorem Gx.run2 (f : Gx w W gh gL ga gx h x v p) : Calls Try.prog 38 #[.pointer (some ⟨gL, 165, none⟩), .agg (m32 h).toArray, .pointer (some ⟨gx, 0, none⟩), .int .i64 1] W fun e w' => e = .returned (.agg (m32 (runF l2F s2F k2F x 1 h)).toArray) ∧ Below W.heap.size W w' :=
  run38 W gL 165 gx l2F s2F k2F x h 1 1 (.inr ⟨rfl, rfl⟩) l2_len s2_len rfl f.lx f.F.lh (fun j hj => small_get small1.2.2.1 j (by rw [l2_len]; exact hj)) (fun j hj => small_get small1.2.2.2 j (by rw [s2_len]; exact hj)) f.X (ln2 f.F.L)
end
theorem st_row (w : World) : Arr ((w.alloc (.cells (nums (List.replicate 20 0#8)).toArray 29)).alloc (.cells (m32 (List.replicate 5 0#32)).toArray 71)) (w.heap.size + 1) 71 (m32 (List.replicate 5 0#32)) := by
  have h := Arr.new (w.alloc (.cells (nums (List.replicate 20 0#8)).toArray 29)) (m32 (List.replicate 5 0#32)) 71
  rw [size_alloc] at h
  exact h
theorem setRow_size (w : World) (g : Nat) (c : Array Value) : (w.setRow g c).heap.size = w.heap.size := by simp [World.setRow]
theorem gf_below {w w2 : World} (hb2 : Below (((w.alloc (.cells (nums (List.replicate 20 0#8)).toArray 29)).alloc (.cells (m32 (List.replicate 5 0#32)).toArray 71)).setRow (w.heap.size + 1) (m32 startR).toArray).heap.size (((w.alloc (.cells (nums (List.replicate 20 0#8)).toArray 29)).alloc (.cells (m32 (List.replicate 5 0#32)).toArray 71)).setRow (w.heap.size + 1) (m32 startR).toArray) w2) : Below w.heap.size w ((w2.alloc (.cells ZL.toArray 75)).setRow w2.heap.size LN.toArray) := by
  have z1 := hb2.size
  rw [setRow_size, size_alloc, size_alloc] at z1
  have B1 : Below w.heap.size w (((w.alloc (.cells (nums (List.replicate 20 0#8)).toArray 29)).alloc (.cells (m32 (List.replicate 5 0#32)).toArray 71)).setRow (w.heap.size + 1) (m32 startR).toArray) := below_setRow (((Below.refl _ w).alloc (Nat.le_refl _) _).alloc (by rw [size_alloc]; omega) _) (by omega) _
  have B2 := B1.trans (hb2.mono (by rw [setRow_size, size_alloc, size_alloc]; omega))
  exact below_setRow (B2.alloc (by omega) _) (by omega) _
theorem gf_start {w w2 w5 : World} {v : Value} {p : List Byte} (hb2 : Below (((w.alloc (.cells (nums (List.replicate 20 0#8)).toArray 29)).alloc (.cells (m32 (List.replicate 5 0#32)).toArray 71)).setRow (w.heap.size + 1) (m32 startR).toArray).heap.size (((w.alloc (.cells (nums (List.replicate 20 0#8)).toArray 29)).alloc (.cells (m32 (List.replicate 5 0#32)).toArray 71)).setRow (w.heap.size + 1) (m32 startR).toArray) w2) (ho : Own w5 ((w2.alloc (.cells ZL.toArray 75)).setRow w2.heap.size LN.toArray).heap.size v p) (hb5 : Below ((w2.alloc (.cells ZL.toArray 75)).setRow w2.heap.size LN.toArray).heap.size ((w2.alloc (.cells ZL.toArray 75)).setRow w2.heap.size LN.toArray) w5) : Gf w w5 (w.heap.size + 1) w2.heap.size w5.heap.size startR v p := by
  have B3 := gf_below hb2
  have z1 := hb2.size
  have hA := setRow_heap _ _ _ (m32 startR).toArray _ _ (st_row w)
  have hR : Arr (((w.alloc (.cells (nums (List.replicate 20 0#8)).toArray 29)).alloc (.cells (m32 (List.replicate 5 0#32)).toArray 71)).setRow (w.heap.size + 1) (m32 startR).toArray) w.heap.size 29 (nums (List.replicate 20 0#8)) := ((Arr.new w (nums (List.replicate 20 0#8)) 29).alloc _).keep (setRow_other _ _ _ _ (by omega))
  have s2 : (((w.alloc (.cells (nums (List.replicate 20 0#8)).toArray 29)).alloc (.cells (m32 (List.replicate 5 0#32)).toArray 71)).setRow (w.heap.size + 1) (m32 startR).toArray).heap.size = w.heap.size + 2 := by rw [setRow_size, size_alloc, size_alloc]
  generalize (((w.alloc (.cells (nums (List.replicate 20 0#8)).toArray 29)).alloc (.cells (m32 (List.replicate 5 0#32)).toArray 71)).setRow (w.heap.size + 1) (m32 startR).toArray) = x2 at *
  have hA3 : Arr ((w2.alloc (.cells ZL.toArray 75)).setRow w2.heap.size LN.toArray) (w.heap.size + 1) 71 (m32 startR) := ((Arr.later hA hb2 (by omega)).alloc _).keep (setRow_other _ _ _ _ (by omega))
  have hR3 : Arr ((w2.alloc (.cells ZL.toArray 75)).setRow w2.heap.size LN.toArray) w.heap.size 29 (nums (List.replicate 20 0#8)) := ((Arr.later hR hb2 (by omega)).alloc _).keep (setRow_other _ _ _ _ (by omega))
  have hL3 : Arr ((w2.alloc (.cells ZL.toArray 75)).setRow w2.heap.size LN.toArray) w2.heap.size 75 LN := setRow_heap _ _ _ _ _ _ (block_new w2 (.cells ZL.toArray 75))
  have s3 : ((w2.alloc (.cells ZL.toArray 75)).setRow w2.heap.size LN.toArray).heap.size = w2.heap.size + 1 := by rw [setRow_size, size_alloc]
  generalize ((w2.alloc (.cells ZL.toArray 75)).setRow w2.heap.size LN.toArray) = x3 at *
  have z5 := hb5.size
  refine ⟨by omega, by omega, by omega, Nat.le_refl _, rfl, hR3.later hb5 (by omega), hA3.later hb5 (by omega), hL3.later hb5 (by omega), ?_, B3.trans (hb5.mono (by omega))⟩
  obtain ⟨A, c, e, h1, h2, h3⟩ := ho.bs
  exact ⟨A, c, e, h1, h2, h3.wide (by omega) (Nat.le_refl _)⟩
end Go.Proofs.Ytnlcndlfdnogaaa.R4
