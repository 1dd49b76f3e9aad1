/- ref.Sha, walked. (printed by gen_sr.py) -/
import Derived.Test.YtnlcndlfdnogaaaMc
import Derived.Test.YtnlcndlfdnogaaaPq
import Derived.Test.YtnlcndlfdnogaaaQp
import Derived.Test.YtnlcndlfdnogaaaS5
set_option linter.unusedVariables false
set_option linter.unusedSimpArgs false
namespace Go.Proofs.Ytnlcndlfdnogaaa.Sr
open Go.RowKit
open D0 M D2 D3 Rg K1 C1 S0 S1 S2 Z
attribute [local go_sem] xor64 and64 or64 xor32 and32 or32 andNot32 add64 add32 unary64 unary32 not64 not32
attribute [local go_sem high] shiftl64 shiftr64 shiftl32 shiftr32
/-- The reference's keys. -/
def keyR (i : Nat) (k : V) : V := k.set i (Mc.rootR (BitVec.ofNat 64 (gt Pq.PR 0 i)))
set_option maxRecDepth 1000000 in
theorem keys_eq : it keyR 64 (List.replicate 64 0#32) = keysF := by decide +kernel
theorem keys_len : keysF.length = 64 := by decide +kernel
theorem right (x : BitVec 32) (k : Nat) (ki : Int) (e : ki = (k : Int)) (hk : k ≤ 32) (w : World) : Calls Try.prog 36 #[.int .u32 (n32 x), .int .i64 ki] w fun e w' => e = .returned (.int .u32 (n32 (rr x k))) ∧ w' = w := by
  subst e
  exact right36 x k hk w
theorem zx32 (b : Byte) : IntKind.u32.wrap (n8 b) = n32 (b.setWidth 32) := by
  rw [wrap_u32]
  unfold n8 n32
  rw [BitVec.toNat_setWidth]
  have := b.isLt
  omega
theorem byte_hi (b : Byte) (j : Nat) (h : 8 ≤ j) : b.getLsbD j = false := BitVec.getLsbD_of_ge b j h
theorem word4 (b0 b1 b2 b3 : Byte) : ((((0#64 <<< 8 ||| b0.setWidth 64) <<< 8 ||| b1.setWidth 64) <<< 8 ||| b2.setWidth 64) <<< 8 ||| b3.setWidth 64).setWidth 32 = b0.setWidth 32 <<< 24 ||| b1.setWidth 32 <<< 16 ||| b2.setWidth 32 <<< 8 ||| b3.setWidth 32 := by
  apply BitVec.eq_of_getLsbD_eq
  intro j hj
  simp only [BitVec.getLsbD_setWidth, BitVec.getLsbD_or, BitVec.getLsbD_shiftLeft, BitVec.getLsbD_zero]
  by_cases h1 : j < 8
  · simp [h1, hj, show j < 16 by omega, show j < 24 by omega, show j < 64 by omega]
  · by_cases h2 : j < 16
    · simp [h1, h2, hj, show j < 24 by omega, show j < 64 by omega, show j - 8 < 8 by omega, byte_hi b3 j (by omega), show j - 8 < 64 by omega, show j - 8 < 32 by omega]
    · by_cases h3 : j < 24
      · simp [h1, h2, h3, hj, show j < 64 by omega, byte_hi b3 j (by omega), byte_hi b2 (j - 8) (by omega), show ¬ j - 8 < 8 by omega, show j - 8 - 8 < 8 by omega, show j - 8 < 64 by omega, show j - 8 - 8 < 64 by omega, show j - 8 - 8 = j - 16 by omega, show j - 16 < 8 by omega, show j - 16 < 32 by omega, show j - 16 < 64 by omega]
      · simp [h1, h2, h3, hj, show j < 64 by omega, byte_hi b3 j (by omega), byte_hi b2 (j - 8) (by omega), byte_hi b1 (j - 16) (by omega), show ¬ j - 8 < 8 by omega, show j - 8 - 8 = j - 16 by omega, show ¬ j - 16 < 8 by omega, show j - 16 - 8 = j - 24 by omega, show j - 24 < 8 by omega, show j - 24 < 32 by omega, show j - 24 < 64 by omega, show j - 8 < 64 by omega, show j - 16 < 64 by omega]
theorem wordF4 (bs : List Byte) : (wordF bs 4 1).setWidth 32 = (gt bs 0#8 0).setWidth 32 <<< 24 ||| (gt bs 0#8 1).setWidth 32 <<< 16 ||| (gt bs 0#8 2).setWidth 32 <<< 8 ||| (gt bs 0#8 3).setWidth 32 := word4 _ _ _ _
theorem gt_drop (p : List Byte) (m i : Nat) : gt (p.drop m) 0#8 i = gt p 0#8 (m + i) := by simp [gt, List.getD, List.getElem?_drop]
theorem cut_any (g n c m : Nat) (hm : m ≤ n) (hc : m < c) : ∀ W : World, (Instr.slice 22 (.slice (some ⟨g, 0, none⟩) n c) (some (.int .i64 (m : Int))) none none).run Try.prog W = .ok (.slice (some ⟨g, m, none⟩) (n - m) (c - m)) W := fun W => by
  rcases Nat.eq_zero_or_pos m with rfl | h0
  · have hel : Try.prog.elem 22 = 5 := by simp [Program.elem, Try.underlying22]
    have hu : Try.prog.underlying 22 = some (.slice (Try.prog.elem 22)) := by rw [hel]; exact Try.underlying22
    obtain ⟨i, hi1, hi2⟩ := Option.map_eq_some_iff.1 info5s
    rw [run_slice_l W 22 _ n c hu .i64 ((0 : Nat) : Int) (by omega) (by omega), hel]
    have h1 : ¬ c = 0 := by omega
    simp [sizeOf, typeInfo, hi1, hi2, sliced, Result.andThen, Addr.add, h1]
  · exact cut_at 22 5 Try.underlying22 info5s g n c m h0 hm hc W
def outB (h : V) (i : Nat) (o : List Byte) : List Byte := o.set i ((gt h 0#32 (i / 4) >>> (24 - 8 * (i % 4))).setWidth 8)
theorem outB_len (a : V) (n : Nat) (h : List Byte) : (it (outB a) n h).length = h.length := P.it_len (fun _ _ => List.length_set) _ _
/-- The frame. -/
structure Sh (w W : World) (n0 n1 n2 lo hi : Nat) (h : V) (v : Value) (p : List Byte) : Prop where
  e0 : n0 = w.heap.size
  o1 : n0 < n1
  o2 : n1 < n2
  o3 : n2 < lo
  ho : hi ≤ W.heap.size
  lh : h.length = 8
  R : Arr W n0 25 (nums (List.replicate 32 0#8))
  K : Arr W n1 62 (m32 keysF)
  H : Arr W n2 60 (m32 h)
  P : Bs W lo hi v p
  W : Below w.heap.size w W
  ol : lo ≤ hi
section
variable {w W W' : World} {n0 n1 n2 lo hi g t n : Nat} {h c : V} {v : Value} {p : List Byte}
theorem Sh.drew (f : Sh w W n0 n1 n2 lo hi h v p) : Sh w W.drew n0 n1 n2 lo hi h v p := ⟨f.e0, f.o1, f.o2, f.o3, f.ho, f.lh, f.R, f.K, f.H, f.P.keep fun _ _ _ => rfl, f.W.drew, f.ol⟩
theorem Sh.later (f : Sh w W n0 n1 n2 lo hi h v p) (hb : Below W.heap.size W W') : Sh w W' n0 n1 n2 lo hi h v p := by
  obtain ⟨e0, o1, o2, o3, ho, lh, R, K, H, P, B, ol⟩ := f
  exact ⟨e0, o1, o2, o3, Nat.le_trans ho hb.size, lh, R.later hb R.lt, K.later hb K.lt, H.later hb H.lt, P.keep (Same.of_below hb ho), B.trans (hb.mono B.size), ol⟩
theorem Sh.setH (f : Sh w W n0 n1 n2 lo hi h v p) (i : Nat) (x : BitVec 32) : Sh w (W.setCell ⟨n2, i, none⟩ (.int .u32 (n32 x))) n0 n1 n2 lo hi (h.set i x) v p := by
  obtain ⟨e0, o1, o2, o3, ho, lh, R, K, H, P, B, ol⟩ := f
  exact ⟨e0, o1, o2, o3, by simpa [World.setCell] using ho, by rw [List.length_set]; exact lh, R.other (by omega) _ _, K.other (by omega) _ _, by rw [← m32_set]; exact H.set _ _, P.keep fun k hk _ => heap_set _ _ _ _ _ (by omega), B.trans ((Only.set _ _ _ _).below (by omega)), ol⟩
theorem Sh.other (f : Sh w W n0 n1 n2 lo hi h v p) (hg : hi ≤ g) (hlo : lo ≤ g) (i : Nat) (x : Value) : Sh w (W.setCell ⟨g, i, none⟩ x) n0 n1 n2 lo hi h v p := by
  obtain ⟨e0, o1, o2, o3, ho, lh, R, K, H, P, B, ol⟩ := f
  exact ⟨e0, o1, o2, o3, by simpa [World.setCell] using ho, lh, R.other (by omega) _ _, K.other (by omega) _ _, H.other (by omega) _ _, P.keep fun k _ hk => heap_set _ _ _ _ _ (by omega), B.trans ((Only.set _ _ _ _).below (by omega)), ol⟩
theorem Sh.otherRow (f : Sh w W n0 n1 n2 lo hi h v p) (hg : hi ≤ g) (hlo : lo ≤ g) (x : Array Value) : Sh w (W.setRow g x) n0 n1 n2 lo hi h v p := by
  obtain ⟨e0, o1, o2, o3, ho, lh, R, K, H, P, B, ol⟩ := f
  exact ⟨e0, o1, o2, o3, by rw [setRow_size]; exact ho, lh, R.keep (setRow_other _ _ _ _ (by omega)), K.keep (setRow_other _ _ _ _ (by omega)), H.keep (setRow_other _ _ _ _ (by omega)), P.keep fun k _ hk => setRow_other _ _ _ _ (by omega), below_setRow B (by omega) _, ol⟩
theorem Sh.cH (f : Sh w W n0 n1 n2 lo hi h v p) (i : Nat) (hi' : i < 8) : W.cell? ⟨n2, i, none⟩ = some (.int .u32 (n32 (gt h 0#32 i))) := f.H.cell (m32_get (by rw [f.lh]; exact hi'))
theorem Sh.cK (f : Sh w W n0 n1 n2 lo hi h v p) (i : Nat) (hi' : i < 64) : W.cell? ⟨n1, i, none⟩ = some (.int .u32 (n32 (gt keysF 0#32 i))) := f.K.cell (m32_get (by rw [keys_len]; exact hi'))
theorem Sh.cP {gp cp m : Nat} (f : Sh w W n0 n1 n2 lo hi h (.slice (some ⟨gp, 0, none⟩) m cp) p) (hm : p.length = m) (i : Nat) (hi' : i < m) : W.cell? ⟨gp, i, none⟩ = some (.int .u8 (n8 (gt p 0#8 i))) := by
  obtain ⟨A, c', e, _, _, hR⟩ := f.P
  rw [hm] at e hR
  cases e
  obtain ⟨g', off, e, _, _, hc⟩ := hR.2 (by omega)
  cases e
  have := hc i _ (nums_getD (by rw [hm]; exact hi'))
  rwa [Nat.zero_add] at this
/-- An array of words made behind the bytes. -/
structure N3 (W : World) (lo hi g t n : Nat) (c : V) : Prop where
  h : hi ≤ g
  l0 : lo ≤ g
  l : c.length = n
  A : Arr W g t (m32 c)
theorem N3.drew (f : N3 W lo hi g t n c) : N3 W.drew lo hi g t n c := ⟨f.h, f.l0, f.l, f.A⟩
theorem N3.set (f : N3 W lo hi g t n c) (i : Nat) (x : BitVec 32) : N3 (W.setCell ⟨g, i, none⟩ (.int .u32 (n32 x))) lo hi g t n (c.set i x) := ⟨f.h, f.l0, by rw [List.length_set]; exact f.l, by rw [← m32_set]; exact f.A.set _ _⟩
theorem N3.other {g' : Nat} (f : N3 W lo hi g t n c) (hg : g' ≠ g) (i : Nat) (v : Value) : N3 (W.setCell ⟨g', i, none⟩ v) lo hi g t n c := ⟨f.h, f.l0, f.l, f.A.other hg _ _⟩
theorem N3.otherRow {g' : Nat} (f : N3 W lo hi g t n c) (hg : g' ≠ g) (x : Array Value) : N3 (W.setRow g' x) lo hi g t n c := ⟨f.h, f.l0, f.l, f.A.keep (setRow_other _ _ _ _ hg.symm)⟩
theorem N3.later (f : N3 W lo hi g t n c) (hb : Below W.heap.size W W') : N3 W' lo hi g t n c := ⟨f.h, f.l0, f.l, f.A.later hb f.A.lt⟩
theorem N3.cl (f : N3 W lo hi g t n c) (i : Nat) (hi' : i < n) : W.cell? ⟨g, i, none⟩ = some (.int .u32 (n32 (gt c 0#32 i))) := f.A.cell (m32_get (by rw [f.l]; exact hi'))
end
/-- The frame while the keys are found. -/
structure Ky (w W : World) (n1 gp : Nat) (ks : V) : Prop where
  e1 : n1 = w.heap.size + 1
  hg : n1 < gp
  hl : gp < W.heap.size
  lk : ks.length = 64
  R : Arr W w.heap.size 25 (nums (List.replicate 32 0#8))
  K : Arr W n1 62 (m32 ks)
  C : ∀ j u, (Pq.mu Pq.PR)[j]? = some u → W.cell? ⟨gp, j, none⟩ = some u
  B : Below w.heap.size w W
theorem Ky.later {w W W' : World} {n1 gp : Nat} {ks : V} (f : Ky w W n1 gp ks) (hb : Below W.heap.size W W') : Ky w W' n1 gp ks := by
  obtain ⟨e1, hg, hl, lk, R, K, C, B⟩ := f
  exact ⟨e1, hg, Nat.lt_of_lt_of_le hl hb.size, lk, R.later hb R.lt, K.later hb K.lt, fun j u hu => by
    rw [← C j u hu]
    have := hb.block gp hl
    simp [World.cell?, this], B.trans (hb.mono B.size)⟩
theorem Ky.set {w W : World} {n1 gp : Nat} {ks : V} (f : Ky w W n1 gp ks) (i : Nat) (x : BitVec 32) : Ky w (W.setCell ⟨n1, i, none⟩ (.int .u32 (n32 x))) n1 gp (ks.set i x) := by
  obtain ⟨e1, hg, hl, lk, R, K, C, B⟩ := f
  exact ⟨e1, hg, by simpa [World.setCell] using hl, by rw [List.length_set]; exact lk, R.other (by omega) _ _, by rw [← m32_set]; exact K.set _ _, fun j u hu => by
    rw [← C j u hu]
    have := heap_set W n1 i (.int .u32 (n32 x)) gp (by omega)
    simp [World.cell?, this], B.trans ((Only.set _ _ _ _).below (by omega))⟩
theorem wS_lo (p : List Byte) (t q s : Nat) (ws : V) (hq : q < 16) (hs : s = t + 4 * q) : wS (p.drop t) q ws = ws.set q ((gt p 0#8 s).setWidth 32 <<< 24 ||| (gt p 0#8 (s + 1)).setWidth 32 <<< 16 ||| (gt p 0#8 (s + 2)).setWidth 32 <<< 8 ||| (gt p 0#8 (s + 3)).setWidth 32) := by
  unfold wS
  rw [if_pos hq, wordF4, List.drop_drop, gt_drop, gt_drop, gt_drop, gt_drop, ← hs]
  rfl
theorem low8' (x : BitVec 32) : IntKind.u8.wrap (n32 x) = n8 (x.setWidth 8) := by
  rw [wrap_u8]
  unfold n8 n32
  rw [BitVec.toNat_setWidth]
  omega
theorem out_all (h : V) : it (outB h) 32 (List.replicate 32 0#8) = it (shaO h) 8 (List.replicate 32 0#8) := by kernel_rfl
theorem info60 : (Try.prog.info? 60).map (·.size) = some 8 := by kernel_rfl
attribute [local irreducible] it gt keysF
theorem it_z {σ : Type} (f : Nat → σ → σ) (s : σ) : it f 0 s = s := by unfold it; rfl
theorem shaS_def (p : List Byte) (i : Nat) (h : V) : shaS p i h = it (sumS (it (rndS keysF (it (wS (p.drop (64 * i))) 64 (List.replicate 64 0#32))) 64 h)) 8 h := rfl
theorem sum_def (v h : V) (i : Nat) : sumS v i h = h.set i (gt h 0#32 i + gt v 0#32 i) := rfl
theorem mu_len (l : List Nat) : (Pq.mu l).length = l.length := by simp [Pq.mu]
theorem pr_len : Pq.PR.length = 64 := Pq.pr_ok.2.1
theorem pr_small (i : Nat) (h : i < 64) : gt Pq.PR 0 i < 400 := (Pq.big Pq.PR (Pq.pr_ok.2.2 ⟨310, by omega⟩) i (by rw [pr_len]; exact h)).2
set_option maxRecDepth 100000 in
set_option maxHeartbeats 40000000 in
theorem sha14 (w : World) (lo hi0 : Nat) (v : Value) (bs : List Byte) (hb : Bs w lo hi0 v bs) (hl : bs.length ≤ 1073741824) (hhi : hi0 ≤ w.heap.size) : Calls Try.prog 14 #[v] w fun e w' => e = .returned (.agg (nums (shaF bs)).toArray) ∧ Below w.heap.size w w' := by
  have HBS : Hid (∀ W, Below w.heap.size w W → Bs W lo hi0 v bs) := fun W hW => hb.keep (Same.of_below hW hhi)
  have HHI := Lib.hid hhi
  have HL := Lib.hid hl
  have HKE := Lib.hid keys_eq
  clear hb hl hhi
  go_enter Try.func14, Try.ntmps14
  have s1 := size_alloc w (.cells #[.int .u8 0, .int .u8 0, .int .u8 0, .int .u8 0, .int .u8 0, .int .u8 0, .int .u8 0, .int .u8 0, .int .u8 0, .int .u8 0, .int .u8 0, .int .u8 0, .int .u8 0, .int .u8 0, .int .u8 0, .int .u8 0, .int .u8 0, .int .u8 0, .int .u8 0, .int .u8 0, .int .u8 0, .int .u8 0, .int .u8 0, .int .u8 0, .int .u8 0, .int .u8 0, .int .u8 0, .int .u8 0, .int .u8 0, .int .u8 0, .int .u8 0, .int .u8 0] 25)
  have HR0 : Hid (Arr ((w.alloc (.cells #[.int .u8 0, .int .u8 0, .int .u8 0, .int .u8 0, .int .u8 0, .int .u8 0, .int .u8 0, .int .u8 0, .int .u8 0, .int .u8 0, .int .u8 0, .int .u8 0, .int .u8 0, .int .u8 0, .int .u8 0, .int .u8 0, .int .u8 0, .int .u8 0, .int .u8 0, .int .u8 0, .int .u8 0, .int .u8 0, .int .u8 0, .int .u8 0, .int .u8 0, .int .u8 0, .int .u8 0, .int .u8 0, .int .u8 0, .int .u8 0, .int .u8 0, .int .u8 0] 25)).alloc (.cells #[.int .u32 0, .int .u32 0, .int .u32 0, .int .u32 0, .int .u32 0, .int .u32 0, .int .u32 0, .int .u32 0, .int .u32 0, .int .u32 0, .int .u32 0, .int .u32 0, .int .u32 0, .int .u32 0, .int .u32 0, .int .u32 0, .int .u32 0, .int .u32 0, .int .u32 0, .int .u32 0, .int .u32 0, .int .u32 0, .int .u32 0, .int .u32 0, .int .u32 0, .int .u32 0, .int .u32 0, .int .u32 0, .int .u32 0, .int .u32 0, .int .u32 0, .int .u32 0, .int .u32 0, .int .u32 0, .int .u32 0, .int .u32 0, .int .u32 0, .int .u32 0, .int .u32 0, .int .u32 0, .int .u32 0, .int .u32 0, .int .u32 0, .int .u32 0, .int .u32 0, .int .u32 0, .int .u32 0, .int .u32 0, .int .u32 0, .int .u32 0, .int .u32 0, .int .u32 0, .int .u32 0, .int .u32 0, .int .u32 0, .int .u32 0, .int .u32 0, .int .u32 0, .int .u32 0, .int .u32 0, .int .u32 0, .int .u32 0, .int .u32 0, .int .u32 0] 62)) w.heap.size 25 (nums (List.replicate 32 0#8))) := (Arr.new w (nums (List.replicate 32 0#8)) 25).alloc _
  have HK0 : Hid (Arr ((w.alloc (.cells #[.int .u8 0, .int .u8 0, .int .u8 0, .int .u8 0, .int .u8 0, .int .u8 0, .int .u8 0, .int .u8 0, .int .u8 0, .int .u8 0, .int .u8 0, .int .u8 0, .int .u8 0, .int .u8 0, .int .u8 0, .int .u8 0, .int .u8 0, .int .u8 0, .int .u8 0, .int .u8 0, .int .u8 0, .int .u8 0, .int .u8 0, .int .u8 0, .int .u8 0, .int .u8 0, .int .u8 0, .int .u8 0, .int .u8 0, .int .u8 0, .int .u8 0, .int .u8 0] 25)).alloc (.cells #[.int .u32 0, .int .u32 0, .int .u32 0, .int .u32 0, .int .u32 0, .int .u32 0, .int .u32 0, .int .u32 0, .int .u32 0, .int .u32 0, .int .u32 0, .int .u32 0, .int .u32 0, .int .u32 0, .int .u32 0, .int .u32 0, .int .u32 0, .int .u32 0, .int .u32 0, .int .u32 0, .int .u32 0, .int .u32 0, .int .u32 0, .int .u32 0, .int .u32 0, .int .u32 0, .int .u32 0, .int .u32 0, .int .u32 0, .int .u32 0, .int .u32 0, .int .u32 0, .int .u32 0, .int .u32 0, .int .u32 0, .int .u32 0, .int .u32 0, .int .u32 0, .int .u32 0, .int .u32 0, .int .u32 0, .int .u32 0, .int .u32 0, .int .u32 0, .int .u32 0, .int .u32 0, .int .u32 0, .int .u32 0, .int .u32 0, .int .u32 0, .int .u32 0, .int .u32 0, .int .u32 0, .int .u32 0, .int .u32 0, .int .u32 0, .int .u32 0, .int .u32 0, .int .u32 0, .int .u32 0, .int .u32 0, .int .u32 0, .int .u32 0, .int .u32 0] 62)) (w.heap.size + 1) 62 (m32 (List.replicate 64 0#32))) := show Arr _ _ _ _ by
    have := Arr.new (w.alloc (.cells #[.int .u8 0, .int .u8 0, .int .u8 0, .int .u8 0, .int .u8 0, .int .u8 0, .int .u8 0, .int .u8 0, .int .u8 0, .int .u8 0, .int .u8 0, .int .u8 0, .int .u8 0, .int .u8 0, .int .u8 0, .int .u8 0, .int .u8 0, .int .u8 0, .int .u8 0, .int .u8 0, .int .u8 0, .int .u8 0, .int .u8 0, .int .u8 0, .int .u8 0, .int .u8 0, .int .u8 0, .int .u8 0, .int .u8 0, .int .u8 0, .int .u8 0, .int .u8 0] 25)) (m32 (List.replicate 64 0#32)) 62
    rw [s1] at this
    exact this
  have HB0 : Hid (Below w.heap.size w ((w.alloc (.cells #[.int .u8 0, .int .u8 0, .int .u8 0, .int .u8 0, .int .u8 0, .int .u8 0, .int .u8 0, .int .u8 0, .int .u8 0, .int .u8 0, .int .u8 0, .int .u8 0, .int .u8 0, .int .u8 0, .int .u8 0, .int .u8 0, .int .u8 0, .int .u8 0, .int .u8 0, .int .u8 0, .int .u8 0, .int .u8 0, .int .u8 0, .int .u8 0, .int .u8 0, .int .u8 0, .int .u8 0, .int .u8 0, .int .u8 0, .int .u8 0, .int .u8 0, .int .u8 0] 25)).alloc (.cells #[.int .u32 0, .int .u32 0, .int .u32 0, .int .u32 0, .int .u32 0, .int .u32 0, .int .u32 0, .int .u32 0, .int .u32 0, .int .u32 0, .int .u32 0, .int .u32 0, .int .u32 0, .int .u32 0, .int .u32 0, .int .u32 0, .int .u32 0, .int .u32 0, .int .u32 0, .int .u32 0, .int .u32 0, .int .u32 0, .int .u32 0, .int .u32 0, .int .u32 0, .int .u32 0, .int .u32 0, .int .u32 0, .int .u32 0, .int .u32 0, .int .u32 0, .int .u32 0, .int .u32 0, .int .u32 0, .int .u32 0, .int .u32 0, .int .u32 0, .int .u32 0, .int .u32 0, .int .u32 0, .int .u32 0, .int .u32 0, .int .u32 0, .int .u32 0, .int .u32 0, .int .u32 0, .int .u32 0, .int .u32 0, .int .u32 0, .int .u32 0, .int .u32 0, .int .u32 0, .int .u32 0, .int .u32 0, .int .u32 0, .int .u32 0, .int .u32 0, .int .u32 0, .int .u32 0, .int .u32 0, .int .u32 0, .int .u32 0, .int .u32 0, .int .u32 0] 62))) := ((Below.refl _ w).alloc (Nat.le_refl _) _).alloc (by omega) _
  have HZ0 : Hid (((w.alloc (.cells #[.int .u8 0, .int .u8 0, .int .u8 0, .int .u8 0, .int .u8 0, .int .u8 0, .int .u8 0, .int .u8 0, .int .u8 0, .int .u8 0, .int .u8 0, .int .u8 0, .int .u8 0, .int .u8 0, .int .u8 0, .int .u8 0, .int .u8 0, .int .u8 0, .int .u8 0, .int .u8 0, .int .u8 0, .int .u8 0, .int .u8 0, .int .u8 0, .int .u8 0, .int .u8 0, .int .u8 0, .int .u8 0, .int .u8 0, .int .u8 0, .int .u8 0, .int .u8 0] 25)).alloc (.cells #[.int .u32 0, .int .u32 0, .int .u32 0, .int .u32 0, .int .u32 0, .int .u32 0, .int .u32 0, .int .u32 0, .int .u32 0, .int .u32 0, .int .u32 0, .int .u32 0, .int .u32 0, .int .u32 0, .int .u32 0, .int .u32 0, .int .u32 0, .int .u32 0, .int .u32 0, .int .u32 0, .int .u32 0, .int .u32 0, .int .u32 0, .int .u32 0, .int .u32 0, .int .u32 0, .int .u32 0, .int .u32 0, .int .u32 0, .int .u32 0, .int .u32 0, .int .u32 0, .int .u32 0, .int .u32 0, .int .u32 0, .int .u32 0, .int .u32 0, .int .u32 0, .int .u32 0, .int .u32 0, .int .u32 0, .int .u32 0, .int .u32 0, .int .u32 0, .int .u32 0, .int .u32 0, .int .u32 0, .int .u32 0, .int .u32 0, .int .u32 0, .int .u32 0, .int .u32 0, .int .u32 0, .int .u32 0, .int .u32 0, .int .u32 0, .int .u32 0, .int .u32 0, .int .u32 0, .int .u32 0, .int .u32 0, .int .u32 0, .int .u32 0, .int .u32 0] 62)).heap.size = w.heap.size + 2) := show _ = _ by rw [size_alloc, s1]
  clear s1
  go_wp2_with (first
    | (go_at_call 33; refine (Pq.primes33 _).mono ?_
       rintro e w2 ⟨pv, rfl, ho2, hb2⟩
       have HB2 := Lib.hid (HB0.out.trans (hb2.mono HB0.out.size))
       have HR2 := Lib.hid (HR0.out.later hb2 HR0.out.lt)
       have HK2 := Lib.hid (HK0.out.later hb2 HK0.out.lt)
       have HO2 : Hid (w2.ownsRow (w.heap.size + 2) 67 1 pv 64 (Pq.mu Pq.PR) ∨ w2.ownsRow (w.heap.size + 2) 32 1 pv 64 (Pq.mu Pq.PR)) := show _ ∨ _ by rw [← HZ0.out]; exact .inr ho2
       obtain ⟨gp, cp, hpv, hgp, hgl, hcell⟩ : ∃ gp cp, pv = .slice (some ⟨gp, 0, none⟩) 64 cp ∧ w.heap.size + 2 ≤ gp ∧ gp < w2.heap.size ∧ ∀ j u, (Pq.mu Pq.PR)[j]? = some u → w2.cell? ⟨gp, j, none⟩ = some u := by
         obtain ⟨A, c, e⟩ := Pq.own_shape ho2
         subst e
         obtain ⟨g, off, rfl, h1, h2, hc⟩ := (Rd.of_own ho2).2 (by omega)
         rcases ho2.2 with ⟨h, _⟩ | ⟨g', cap, cur, h, _⟩
         · cases h
         · cases h
           refine ⟨g, c, rfl, by rw [← HZ0.out]; exact h1, h2, fun j u hu => ?_⟩
           have := hc j u hu
           rwa [Nat.zero_add] at this
       subst hpv
       have HCL := Lib.hid hcell
       have HGP := Lib.hid (show _ ∧ _ from ⟨hgp, hgl⟩)
       clear ho2 hb2 hcell hgp hgl HO2))
  obtain ⟨n1, hn1⟩ : ∃ n, n = w.heap.size + 1 := ⟨_, rfl⟩
  have HY : Hid (Ky w w2 n1 gp (List.replicate 64 0#32)) := ⟨hn1, by have := HGP.out.1; omega, HGP.out.2, List.length_replicate, HR2.out, by rw [hn1]; exact HK2.out, HCL.out, HB2.out⟩
  rw [← hn1]
  clear hn1 HR0 HK0 HB0 HZ0 HB2 HR2 HK2 HCL HGP
  go_loopw [23] (fun v wr => ∃ i : Nat, i ≤ 64 ∧ v = .int .i64 (i : Int) ∧ Ky w wr n1 gp (it keyR i (List.replicate 64 0#32))) (fun v _ => 64 - (intOf v).toNat)
  case atStart => exact ⟨0, by omega, rfl, by rw [it_z]; exact HY.out⟩
  obtain ⟨i, hi, rfl, hy⟩ := hrel
  clear HY
  have hS := it_succ keyR i (List.replicate 64 0#32)
  generalize hks : it keyR i (List.replicate 64 0#32) = ks at *
  have HKS := Lib.hid hks
  have HS := Lib.hid hS
  clear hks hS
  have HY := Lib.hid hy
  clear hy
  rcases Nat.lt_or_ge i 64 with hlt | hge
  · obtain ⟨d, hd⟩ : ∃ d, d = gt Pq.PR 0 i := ⟨_, rfl⟩
    have hd4 := pr_small i hlt
    rw [← hd] at hd4
    have cd : wr.cell? ⟨gp, i, none⟩ = some (.int .u64 (d : Int)) := by
      rw [hd]
      exact HY.out.C i _ (Pq.mu_get Pq.PR i (by rw [pr_len]; exact hlt))
    have hkr : keyR i ks = ks.set i (Mc.rootR (BitVec.ofNat 64 d)) := by unfold keyR; rw [hd]
    have HKR := Lib.hid hkr
    have HRT : Hid (∀ W, Calls Try.prog 34 #[.int .u64 (d : Int)] W fun e w' => e = .returned (.int .u32 (n32 (Mc.rootR (BitVec.ofNat 64 d)))) ∧ Below W.heap.size W w') := fun W => by
      have := Mc.root34 (BitVec.ofNat 64 d) W
      rwa [ofNat64 d (by omega)] at this
    clear hd hkr
    generalize Mc.rootR (BitVec.ofNat 64 d) = x at *
    have HI := Lib.hid hlt
    go_wp2_with (first
      | (go_at_call 34; refine (HRT.out _).mono ?_
         rintro e w3 ⟨rfl, hb3⟩
         have HY3 := Lib.hid (HY.out.later hb3)
         have c3 := HY3.out.K.cell (m32_get (i := i) (by rw [HY3.out.lk]; exact HI.out))
         have f3 := HY3.out.K.frozen i
         clear hb3))
    have hlt := HI.out
    go_roundw
    case rel =>
      refine ⟨i + 1, by omega, by go_num, ?_⟩
      rw [HS.out, HKR.out]
      exact HY3.out.set _ _
    case measure => simp [intOf]; omega
  obtain rfl : i = 64 := by omega
  rw [show ((64 : Nat) : Int) = 64 from rfl]
  have hkf : ks = keysF := HKS.out.symm.trans HKE.out
  subst hkf
  clear HS HKS HKE hge hi
  have HPL : Hid ((padM bs 1).length = (preG bs).length ∧ (preG bs).length % 64 = 0 ∧ 64 ≤ (preG bs).length ∧ (preG bs).length ≤ 1073742000) := show _ ∧ _ from ⟨padM_len _ _, preG_mod _, by have := preG_mod bs; have := preG_len bs; omega, by have h1 := preG_len bs; have h2 := HL.out; have h3 : padW bs.length = (119 - bs.length % 64) % 64 := rfl; omega⟩
  have HPD : Hid (∀ W, Below w.heap.size w W → Calls Try.prog 35 #[v, .bool false] W fun e w' => ∃ v', e = .returned v' ∧ Own w' W.heap.size v' (padM bs 1) ∧ Below W.heap.size W w') := fun W hW => Qp.padded35 W lo hi0 v bs false 1 (.inl ⟨rfl, rfl⟩) (HBS.out W hW) HL.out (Nat.le_trans HHI.out hW.size)
  go_wp2_with (first
    | (go_at_call 35; refine (HPD.out _ (HY.out.B.alloc HY.out.B.size _)).mono ?_
       rintro e w5 ⟨v5, rfl, ho5, hb5⟩
       have HS0 : Hid (Sh w w5 w.heap.size n1 wr.heap.size (wr.heap.size + 1) w5.heap.size shaStartF v5 (padM bs 1)) := by
         obtain ⟨e1, hg, hl, lk, R, K, C, B⟩ := HY.out
         have a := Arr.new wr (m32 shaStartF) 60
         have hsz := hb5.size
         rw [size_alloc] at hsz
         refine ⟨rfl, by omega, by omega, by omega, Nat.le_refl _, rfl, (R.alloc _).later hb5 (R.alloc _).lt, (K.alloc _).later hb5 (K.alloc _).lt, a.later hb5 a.lt, ?_, (B.alloc B.size _).trans (hb5.mono (by rw [size_alloc]; have := B.size; omega)), hsz⟩
         have := Own.bs ho5
         rwa [size_alloc] at this
       obtain ⟨g5, c5, rest5, hv5, -⟩ := own_arr ho5 (by rw [HPL.out.1]; have := HPL.out.2.2.1; omega)
       clear hb5 ho5
       subst hv5))
  obtain ⟨M, hM⟩ : ∃ M, M = (preG bs).length := ⟨_, rfl⟩
  have HSF : Hid (shaF bs = it (shaO (it (shaS (padM bs 1)) ((padM bs 1).length / 64) shaStartF)) 8 (List.replicate 32 0#8)) := rfl
  rw [HPL.out.1, ← hM] at HSF
  have HPL2 := HPL.out
  rw [← hM] at HPL2
  obtain ⟨hp1, hp2, hp3, hp4⟩ := HPL2
  have HP1 := Lib.hid hp1
  have HP2 := Lib.hid hp2
  rw [hp1] at HS0 ⊢
  clear hM HPL HPD HY hp1 hp2 hp3
  generalize padM bs 1 = p at *
  generalize w5.heap.size = hi at *
  generalize wr.heap.size + 1 = lo5 at *
  generalize wr.heap.size = n2 at *
  obtain ⟨n0, hn0⟩ : ∃ n, n = w.heap.size := ⟨_, rfl⟩
  rw [← hn0] at HS0 ⊢
  clear hn0
  clear wr
  go_loopw [8] (fun v wr => ∃ k : Nat, 64 * k ≤ M ∧ v = .int .i64 ((64 * k : Nat) : Int) ∧ Sh w wr n0 n1 n2 lo5 hi (it (shaS p) k shaStartF) (.slice (some ⟨g5, 0, none⟩) M c5) p) (fun v _ => M - (intOf v).toNat)
  case atStart => exact ⟨0, by omega, rfl, by rw [it_z]; exact HS0.out⟩
  obtain ⟨k, hk2, rfl, hf⟩ := hrel
  clear HS0
  have hSP := it_succ (shaS p) k shaStartF
  generalize hak : it (shaS p) k shaStartF = h at *
  rw [shaS_def] at hSP
  obtain ⟨t, ht⟩ : ∃ t, t = 64 * k := ⟨_, rfl⟩
  rw [← ht] at hSP hk2 ⊢
  have HAK := Lib.hid hak
  have HT := Lib.hid ht
  have HSP := Lib.hid hSP
  have HF := Lib.hid hf
  clear hak hSP hf ht
  rcases Nat.lt_or_ge t M with h0 | h0
  · have hM64 : t + 64 ≤ M := by have := HT.out; have := HP2.out; omega
    have HH0 := Lib.hid h0
    have hn0 : decide ((t : Int) < (M : Int)) = true := decide_eq_true (by omega)
    go_wp2_with fail
    have HF1 : Hid (Sh w (wr.alloc (.cells #[.int .u32 0, .int .u32 0, .int .u32 0, .int .u32 0, .int .u32 0, .int .u32 0, .int .u32 0, .int .u32 0, .int .u32 0, .int .u32 0, .int .u32 0, .int .u32 0, .int .u32 0, .int .u32 0, .int .u32 0, .int .u32 0, .int .u32 0, .int .u32 0, .int .u32 0, .int .u32 0, .int .u32 0, .int .u32 0, .int .u32 0, .int .u32 0, .int .u32 0, .int .u32 0, .int .u32 0, .int .u32 0, .int .u32 0, .int .u32 0, .int .u32 0, .int .u32 0, .int .u32 0, .int .u32 0, .int .u32 0, .int .u32 0, .int .u32 0, .int .u32 0, .int .u32 0, .int .u32 0, .int .u32 0, .int .u32 0, .int .u32 0, .int .u32 0, .int .u32 0, .int .u32 0, .int .u32 0, .int .u32 0, .int .u32 0, .int .u32 0, .int .u32 0, .int .u32 0, .int .u32 0, .int .u32 0, .int .u32 0, .int .u32 0, .int .u32 0, .int .u32 0, .int .u32 0, .int .u32 0, .int .u32 0, .int .u32 0, .int .u32 0, .int .u32 0] 62)) n0 n1 n2 lo5 hi h (.slice (some ⟨g5, 0, none⟩) M c5) p) := HF.out.later (below_new _ _)
    have HW : Hid (N3 (wr.alloc (.cells #[.int .u32 0, .int .u32 0, .int .u32 0, .int .u32 0, .int .u32 0, .int .u32 0, .int .u32 0, .int .u32 0, .int .u32 0, .int .u32 0, .int .u32 0, .int .u32 0, .int .u32 0, .int .u32 0, .int .u32 0, .int .u32 0, .int .u32 0, .int .u32 0, .int .u32 0, .int .u32 0, .int .u32 0, .int .u32 0, .int .u32 0, .int .u32 0, .int .u32 0, .int .u32 0, .int .u32 0, .int .u32 0, .int .u32 0, .int .u32 0, .int .u32 0, .int .u32 0, .int .u32 0, .int .u32 0, .int .u32 0, .int .u32 0, .int .u32 0, .int .u32 0, .int .u32 0, .int .u32 0, .int .u32 0, .int .u32 0, .int .u32 0, .int .u32 0, .int .u32 0, .int .u32 0, .int .u32 0, .int .u32 0, .int .u32 0, .int .u32 0, .int .u32 0, .int .u32 0, .int .u32 0, .int .u32 0, .int .u32 0, .int .u32 0, .int .u32 0, .int .u32 0, .int .u32 0, .int .u32 0, .int .u32 0, .int .u32 0, .int .u32 0, .int .u32 0] 62)) lo5 hi wr.heap.size 62 64 (List.replicate 64 0#32)) := ⟨HF.out.ho, Nat.le_trans HF.out.ol HF.out.ho, List.length_replicate, Arr.new wr (m32 (List.replicate 64 0#32)) 62⟩
    clear HF
    generalize (wr.alloc (.cells #[.int .u32 0, .int .u32 0, .int .u32 0, .int .u32 0, .int .u32 0, .int .u32 0, .int .u32 0, .int .u32 0, .int .u32 0, .int .u32 0, .int .u32 0, .int .u32 0, .int .u32 0, .int .u32 0, .int .u32 0, .int .u32 0, .int .u32 0, .int .u32 0, .int .u32 0, .int .u32 0, .int .u32 0, .int .u32 0, .int .u32 0, .int .u32 0, .int .u32 0, .int .u32 0, .int .u32 0, .int .u32 0, .int .u32 0, .int .u32 0, .int .u32 0, .int .u32 0, .int .u32 0, .int .u32 0, .int .u32 0, .int .u32 0, .int .u32 0, .int .u32 0, .int .u32 0, .int .u32 0, .int .u32 0, .int .u32 0, .int .u32 0, .int .u32 0, .int .u32 0, .int .u32 0, .int .u32 0, .int .u32 0, .int .u32 0, .int .u32 0, .int .u32 0, .int .u32 0, .int .u32 0, .int .u32 0, .int .u32 0, .int .u32 0, .int .u32 0, .int .u32 0, .int .u32 0, .int .u32 0, .int .u32 0, .int .u32 0, .int .u32 0, .int .u32 0] 62)) = wx at *
    generalize wr.heap.size = gw at *
    clear wr
    have HMC : Hid (M ≤ c5) := show M ≤ c5 by
      obtain ⟨A, c, e, h1, _⟩ := HF1.out.P
      rw [HP1.out] at e h1
      cases e
      exact h1
    go_loopw [10] (fun v wr => ∃ q : Nat, q ≤ 64 ∧ v = .int .i64 (q : Int) ∧ Sh w wr n0 n1 n2 lo5 hi h (.slice (some ⟨g5, 0, none⟩) M c5) p ∧ N3 wr lo5 hi gw 62 64 (it (wS (p.drop t)) q (List.replicate 64 0#32))) (fun v _ => 64 - (intOf v).toNat)
    case atStart => exact ⟨0, by omega, rfl, HF1.out, by rw [it_z]; exact HW.out⟩
    obtain ⟨q, hq, rfl, hf, hw⟩ := hrel
    clear HF1 HW
    have hS := it_succ (wS (p.drop t)) q (List.replicate 64 0#32)
    generalize hws : it (wS (p.drop t)) q (List.replicate 64 0#32) = ws at *
    have HWS := Lib.hid hws
    clear hws
    rcases Nat.lt_or_ge q 64 with hlt | hge
    · have HQL := Lib.hid hlt
      have i64 : ¬ (64 : Int) ≤ (q : Int) := by omega
      have ft := hw.A.frozen q
      have ct := hw.cl q hlt
      rcases Nat.lt_or_ge q 16 with h16 | h16
      · obtain ⟨q4, hq4⟩ : ∃ z, z = 4 * q := ⟨_, rfl⟩
        have e4 : (4 : Int) * (q : Int) = (q4 : Int) := by omega
        obtain ⟨s, hs⟩ : ∃ z, z = t + q4 := ⟨_, rfl⟩
        have es : (t : Int) + (q4 : Int) = (s : Int) := by omega
        have hsM : s + 4 ≤ M := by omega
        rw [wS_lo p t q s ws h16 (by omega)] at hS
        have hcut := cut_any g5 M c5 s (by omega) (by have := HMC.out; omega)
        obtain ⟨r, hr⟩ : ∃ z, z = M - s := ⟨_, rfl⟩
        rw [← hr] at hcut
        have r0 : ¬ (r : Int) ≤ 0 := by omega
        have r1 : ¬ (r : Int) ≤ 1 := by omega
        have r2 : ¬ (r : Int) ≤ 2 := by omega
        have r3 : ¬ (r : Int) ≤ 3 := by omega
        have c0 := hf.cP HP1.out s (by omega)
        have c1 := hf.cP HP1.out (s + 1) (by omega)
        have c2 := hf.cP HP1.out (s + 2) (by omega)
        have c3 := hf.cP HP1.out (s + 3) (by omega)
        have hd16 : decide ((q : Int) < 16) = true := decide_eq_true (by omega)
        have HS := Lib.hid hS
        have HF := Lib.hid hf
        have HW := Lib.hid hw
        clear hS hf hw hq4 hs hr
        generalize gt p 0#8 s = b0 at *
        generalize gt p 0#8 (s + 1) = b1 at *
        generalize gt p 0#8 (s + 2) = b2 at *
        generalize gt p 0#8 (s + 3) = b3 at *
        have z0 := zx32 b0
        have z1 := zx32 b1
        have z2 := zx32 b2
        have z3 := zx32 b3
        generalize b0.setWidth 32 = x0 at *
        generalize b1.setWidth 32 = x1 at *
        generalize b2.setWidth 32 = x2 at *
        generalize b3.setWidth 32 = x3 at *
        go_wp2_with fail
        refine wp_region_c 24 (by kernel_rfl) (by kernel_rfl) ?_
        simp only [List.take_succ_cons, List.take_zero, List.drop_succ_cons, List.drop_zero]
        iterate 24 (refine wpC_run (by rfl) rfl (fun K hK => ?_); go_wp2)
        refine wpC_nil ?_
        go_wp2
        have hlt := HQL.out
        go_roundw
        case rel =>
          refine ⟨q + 1, by omega, by go_num, (HF.out.drew.other HW.out.h HW.out.l0 _ _), ?_⟩
          rw [HS.out]
          exact HW.out.drew.set _ _
        case measure => simp [intOf]; omega
      · -- from the sixteenth word on
        obtain ⟨q15, hq15⟩ : ∃ z, z = q - 15 := ⟨_, rfl⟩
        have e15 : (q : Int) - 15 = (q15 : Int) := by omega
        have j15 : ¬ (64 : Int) ≤ (q15 : Int) := by omega
        have c15 := hw.cl q15 (by omega)
        obtain ⟨q2, hq2⟩ : ∃ z, z = q - 2 := ⟨_, rfl⟩
        have e2 : (q : Int) - 2 = (q2 : Int) := by omega
        have j2 : ¬ (64 : Int) ≤ (q2 : Int) := by omega
        have c2 := hw.cl q2 (by omega)
        obtain ⟨q7, hq7⟩ : ∃ z, z = q - 7 := ⟨_, rfl⟩
        have e7 : (q : Int) - 7 = (q7 : Int) := by omega
        have j7 : ¬ (64 : Int) ≤ (q7 : Int) := by omega
        have c7 := hw.cl q7 (by omega)
        obtain ⟨q16, hq16⟩ : ∃ z, z = q - 16 := ⟨_, rfl⟩
        have e16 : (q : Int) - 16 = (q16 : Int) := by omega
        have j16 : ¬ (64 : Int) ≤ (q16 : Int) := by omega
        have c16 := hw.cl q16 (by omega)
        have hSS : wS (p.drop t) q ws = ws.set q ((((rr (gt ws 0#32 q2) 17 ^^^ rr (gt ws 0#32 q2) 19 ^^^ gt ws 0#32 q2 >>> 10) + gt ws 0#32 q7) + (rr (gt ws 0#32 q15) 7 ^^^ rr (gt ws 0#32 q15) 18 ^^^ gt ws 0#32 q15 >>> 3)) + gt ws 0#32 q16) := by unfold wS; rw [if_neg (by omega), hq15, hq2, hq7, hq16]
        rw [hSS] at hS
        have HS := Lib.hid hS
        have HF := Lib.hid hf
        have HW := Lib.hid hw
        clear hS hSS hf hw hq15 hq2 hq7 hq16
        generalize gt ws 0#32 q15 = x at *
        generalize gt ws 0#32 q2 = y at *
        generalize gt ws 0#32 q7 = z7 at *
        generalize gt ws 0#32 q16 = z16 at *
        generalize gt ws 0#32 q = zt at *
        have H17 := Lib.hid (right y 17 17 rfl (by decide))
        have H19 := Lib.hid (right y 19 19 rfl (by decide))
        have H7 := Lib.hid (right x 7 7 rfl (by decide))
        have H18 := Lib.hid (right x 18 18 rfl (by decide))
        have hd16 : decide ((q : Int) < 16) = false := decide_eq_false (by omega)
        go_wp2_with fail
        refine wp_region_q (by kernel_rfl) (by kernel_rfl) ?_
        iterate 4 (refine wpC_run (by rfl) rfl (fun K hK => ?_); go_wp2)
        refine wpC_call 36 _ _ (by rfl) (by go_simp) (H7.out _) ?_
        simp only [Act.put, List.setIfInBounds_toArray, List.set_cons_zero, List.set_cons_succ]
        iterate 4 (refine wpC_run (by rfl) rfl (fun K hK => ?_); go_wp2)
        refine wpC_call 36 _ _ (by rfl) (by go_simp) (H18.out _) ?_
        simp only [Act.put, List.setIfInBounds_toArray, List.set_cons_zero, List.set_cons_succ]
        iterate 8 (refine wpC_run (by rfl) rfl (fun K hK => ?_); go_wp2)
        refine wpC_nil ?_
        go_wp2_with fail
        refine wp_region_q (by kernel_rfl) (by kernel_rfl) ?_
        iterate 4 (refine wpC_run (by rfl) rfl (fun K hK => ?_); go_wp2)
        refine wpC_call 36 _ _ (by rfl) (by go_simp) (H17.out _) ?_
        simp only [Act.put, List.setIfInBounds_toArray, List.set_cons_zero, List.set_cons_succ]
        iterate 4 (refine wpC_run (by rfl) rfl (fun K hK => ?_); go_wp2)
        refine wpC_call 36 _ _ (by rfl) (by go_simp) (H19.out _) ?_
        simp only [Act.put, List.setIfInBounds_toArray, List.set_cons_zero, List.set_cons_succ]
        iterate 8 (refine wpC_run (by rfl) rfl (fun K hK => ?_); go_wp2)
        refine wpC_nil ?_
        go_wp2_with fail
        refine wp_region_c 15 (by kernel_rfl) (by kernel_rfl) ?_
        simp only [List.take_succ_cons, List.take_zero, List.drop_succ_cons, List.drop_zero]
        iterate 15 (refine wpC_run (by rfl) rfl (fun K hK => ?_); go_wp2)
        refine wpC_nil ?_
        go_wp2
        have hlt := HQL.out
        go_roundw
        case rel =>
          refine ⟨q + 1, by omega, by go_num, (HF.out.drew.drew.drew.other HW.out.h HW.out.l0 _ _), ?_⟩
          rw [HS.out]
          exact HW.out.drew.drew.drew.set _ _
        case measure => simp [intOf]; omega
    obtain rfl : q = 64 := by omega
    rw [show ((64 : Nat) : Int) = 64 from rfl]
    rw [HWS.out] at HSP
    have HF := Lib.hid hf
    have HW := Lib.hid hw
    clear hf hw hS HWS hq hge
    have hi0' : (Try.prog.info? 60).map (·.size) = some (m32 h).toArray.size := by rw [show (m32 h).toArray.size = 8 by simp [m32_len, HF.out.lh]]; exact info60
    have hz0 : (m32 (List.replicate 8 0#32)).toArray.size = (m32 h).toArray.size := by simp [m32_len, HF.out.lh]
    have h1 : (m32 h).toArray.all (·.oneCell') = true := by simp [m32, Value.oneCell']
    go_wp2_with (first
      | (refine wpList_load_row rfl 60 (.tmp 6) rfl n2 rfl 60 (m32 h).toArray (0, 0) _ HF.out.H Try.underlying60 rfl hi0' ?_)
      | (refine wpList_store_row rfl 60 (.tmp 14) (.tmp 127) rfl wr.heap.size (m32 h).toArray rfl rfl 60 (m32 (List.replicate 8 0#32)).toArray (block_new _ _) hi0' hz0 h1 ?_))
    have hlow : Below wr.heap.size wr ((wr.alloc (.cells #[.int .u32 0, .int .u32 0, .int .u32 0, .int .u32 0, .int .u32 0, .int .u32 0, .int .u32 0, .int .u32 0] 60)).setRow wr.heap.size (m32 h).toArray) := below_setRow (below_new _ _) (Nat.le_refl _) _
    have HF1 : Hid (Sh w ((wr.alloc (.cells #[.int .u32 0, .int .u32 0, .int .u32 0, .int .u32 0, .int .u32 0, .int .u32 0, .int .u32 0, .int .u32 0] 60)).setRow wr.heap.size (m32 h).toArray) n0 n1 n2 lo5 hi h (.slice (some ⟨g5, 0, none⟩) M c5) p) := HF.out.later hlow
    have HW1 : Hid (N3 ((wr.alloc (.cells #[.int .u32 0, .int .u32 0, .int .u32 0, .int .u32 0, .int .u32 0, .int .u32 0, .int .u32 0, .int .u32 0] 60)).setRow wr.heap.size (m32 h).toArray) lo5 hi gw 62 64 ws) := HW.out.later hlow
    have HV1 : Hid (N3 ((wr.alloc (.cells #[.int .u32 0, .int .u32 0, .int .u32 0, .int .u32 0, .int .u32 0, .int .u32 0, .int .u32 0, .int .u32 0] 60)).setRow wr.heap.size (m32 h).toArray) lo5 hi wr.heap.size 60 8 h) := ⟨HF.out.ho, Nat.le_trans HF.out.ol HF.out.ho, HF.out.lh, setRow_heap _ _ _ _ _ _ (block_new wr (.cells (m32 (List.replicate 8 0#32)).toArray 60))⟩
    have HNE : Hid (gw ≠ wr.heap.size) := show _ ≠ _ by have := HW.out.A.lt; omega
    clear HF HW hlow hi0' hz0 h1
    generalize ((wr.alloc (.cells #[.int .u32 0, .int .u32 0, .int .u32 0, .int .u32 0, .int .u32 0, .int .u32 0, .int .u32 0, .int .u32 0] 60)).setRow wr.heap.size (m32 h).toArray) = wx at *
    generalize wr.heap.size = gv at *
    clear wr
    go_loopw [15] (fun v wr => ∃ q : Nat, q ≤ 64 ∧ v = .int .i64 (q : Int) ∧ Sh w wr n0 n1 n2 lo5 hi h (.slice (some ⟨g5, 0, none⟩) M c5) p ∧ N3 wr lo5 hi gw 62 64 ws ∧ N3 wr lo5 hi gv 60 8 (it (rndS keysF ws) q h)) (fun v _ => 64 - (intOf v).toNat)
    case atStart => exact ⟨0, by omega, rfl, HF1.out, HW1.out, by rw [it_z]; exact HV1.out⟩
    obtain ⟨q, hq, rfl, hf, hw, hv⟩ := hrel
    clear HF1 HW1 HV1
    have hS := it_succ (rndS keysF ws) q h
    generalize hvs : it (rndS keysF ws) q h = vs at *
    have HVS := Lib.hid hvs
    clear hvs
    rcases Nat.lt_or_ge q 64 with hlt | hge
    · have HQL := Lib.hid hlt
      have hSS : rndS keysF ws q vs = [t1F keysF ws vs q + t2F vs, gt vs 0#32 0, gt vs 0#32 1, gt vs 0#32 2, gt vs 0#32 3 + t1F keysF ws vs q, gt vs 0#32 4, gt vs 0#32 5, gt vs 0#32 6] := rfl
      have hT1 : t1F keysF ws vs q = gt vs 0#32 7 + (rr (gt vs 0#32 4) 6 ^^^ rr (gt vs 0#32 4) 11 ^^^ rr (gt vs 0#32 4) 25) + (gt vs 0#32 4 &&& gt vs 0#32 5 ^^^ ~~~ gt vs 0#32 4 &&& gt vs 0#32 6) + gt keysF 0#32 q + gt ws 0#32 q := rfl
      have hT2 : t2F vs = (rr (gt vs 0#32 0) 2 ^^^ rr (gt vs 0#32 0) 13 ^^^ rr (gt vs 0#32 0) 22) + (gt vs 0#32 0 &&& gt vs 0#32 1 ^^^ gt vs 0#32 0 &&& gt vs 0#32 2 ^^^ gt vs 0#32 1 &&& gt vs 0#32 2) := rfl
      rw [hSS, hT1, hT2] at hS
      have i64 : ¬ (64 : Int) ≤ (q : Int) := by omega
      have c0 := hv.cl 0 (by omega)
      have c1 := hv.cl 1 (by omega)
      have c2 := hv.cl 2 (by omega)
      have c3 := hv.cl 3 (by omega)
      have c4 := hv.cl 4 (by omega)
      have c5' := hv.cl 5 (by omega)
      have c6 := hv.cl 6 (by omega)
      have c7 := hv.cl 7 (by omega)
      have ck := hf.cK q (by omega)
      have cw := hw.cl q hlt
      have HS := Lib.hid hS
      have HF := Lib.hid hf
      have HW := Lib.hid hw
      have HVV := Lib.hid hv
      have HZ := Lib.hid (show (m32 vs).toArray.size = 8 by simp [m32_len, hv.l])
      clear hS hSS hT1 hT2 hf hw hv
      generalize gt vs 0#32 0 = a0 at *
      generalize gt vs 0#32 1 = a1 at *
      generalize gt vs 0#32 2 = a2 at *
      generalize gt vs 0#32 3 = a3 at *
      generalize gt vs 0#32 4 = a4 at *
      generalize gt vs 0#32 5 = a5 at *
      generalize gt vs 0#32 6 = a6 at *
      generalize gt vs 0#32 7 = a7 at *
      generalize gt keysF 0#32 q = kt at *
      generalize gt ws 0#32 q = wt at *
      have H6 := Lib.hid (right a4 6 6 rfl (by decide))
      have H11 := Lib.hid (right a4 11 11 rfl (by decide))
      have H25 := Lib.hid (right a4 25 25 rfl (by decide))
      have H2 := Lib.hid (right a0 2 2 rfl (by decide))
      have H13 := Lib.hid (right a0 13 13 rfl (by decide))
      have H22 := Lib.hid (right a0 22 22 rfl (by decide))
      obtain ⟨us, hus⟩ : ∃ us : V, us = [a7 + (rr a4 6 ^^^ rr a4 11 ^^^ rr a4 25) + (a4 &&& a5 ^^^ ~~~a4 &&& a6) + kt + wt + ((rr a0 2 ^^^ rr a0 13 ^^^ rr a0 22) + (a0 &&& a1 ^^^ a0 &&& a2 ^^^ a1 &&& a2)), a0, a1, a2, a3 + (a7 + (rr a4 6 ^^^ rr a4 11 ^^^ rr a4 25) + (a4 &&& a5 ^^^ ~~~a4 &&& a6) + kt + wt), a4, a5, a6] := ⟨_, rfl⟩
      have HUE : Hid ((m32 us).toArray = #[.int .u32 (n32 (a7 + (rr a4 6 ^^^ rr a4 11 ^^^ rr a4 25) + (a4 &&& a5 ^^^ ~~~a4 &&& a6) + kt + wt + ((rr a0 2 ^^^ rr a0 13 ^^^ rr a0 22) + (a0 &&& a1 ^^^ a0 &&& a2 ^^^ a1 &&& a2)))), .int .u32 (n32 (a0)), .int .u32 (n32 (a1)), .int .u32 (n32 (a2)), .int .u32 (n32 (a3 + (a7 + (rr a4 6 ^^^ rr a4 11 ^^^ rr a4 25) + (a4 &&& a5 ^^^ ~~~a4 &&& a6) + kt + wt))), .int .u32 (n32 (a4)), .int .u32 (n32 (a5)), .int .u32 (n32 (a6))]) := by rw [hus]; rfl
      have hul : us.length = 8 := by rw [hus]; rfl
      have HUL := Lib.hid hul
      have HU1 : Hid ((Try.prog.info? 60).map (·.size) = some (m32 us).toArray.size) := by rw [show (m32 us).toArray.size = 8 by simp [m32_len, hul]]; exact info60
      have HU2 : Hid ((m32 vs).toArray.size = (m32 us).toArray.size) := HZ.out.trans (show (8 : Nat) = (m32 us).toArray.size by simp [m32_len, hul])
      have HU3 := Lib.hid (show (m32 us).toArray.all (·.oneCell') = true by simp [m32, Value.oneCell'])
      have HS2 : Hid (it (rndS keysF ws) (q + 1) h = us) := by rw [hus]; exact HS.out
      clear hus hul
      go_wp2_with fail
      refine wp_region_q (by kernel_rfl) (by kernel_rfl) ?_
      iterate 4 (refine wpC_run (by rfl) rfl (fun K hK => ?_); go_wp2)
      refine wpC_call 36 _ _ (by rfl) (by go_simp) (H6.out _) ?_
      simp only [Act.put, List.setIfInBounds_toArray, List.set_cons_zero, List.set_cons_succ]
      iterate 2 (refine wpC_run (by rfl) rfl (fun K hK => ?_); go_wp2)
      refine wpC_call 36 _ _ (by rfl) (by go_simp) (H11.out _) ?_
      simp only [Act.put, List.setIfInBounds_toArray, List.set_cons_zero, List.set_cons_succ]
      iterate 3 (refine wpC_run (by rfl) rfl (fun K hK => ?_); go_wp2)
      refine wpC_call 36 _ _ (by rfl) (by go_simp) (H25.out _) ?_
      simp only [Act.put, List.setIfInBounds_toArray, List.set_cons_zero, List.set_cons_succ]
      iterate 24 (refine wpC_run (by rfl) rfl (fun K hK => ?_); go_wp2)
      refine wpC_nil ?_
      go_wp2_with fail
      refine wp_region_q (by kernel_rfl) (by kernel_rfl) ?_
      iterate 2 (refine wpC_run (by rfl) rfl (fun K hK => ?_); go_wp2)
      refine wpC_call 36 _ _ (by rfl) (by go_simp) (H2.out _) ?_
      simp only [Act.put, List.setIfInBounds_toArray, List.set_cons_zero, List.set_cons_succ]
      iterate 2 (refine wpC_run (by rfl) rfl (fun K hK => ?_); go_wp2)
      refine wpC_call 36 _ _ (by rfl) (by go_simp) (H13.out _) ?_
      simp only [Act.put, List.setIfInBounds_toArray, List.set_cons_zero, List.set_cons_succ]
      iterate 3 (refine wpC_run (by rfl) rfl (fun K hK => ?_); go_wp2)
      refine wpC_call 36 _ _ (by rfl) (by go_simp) (H22.out _) ?_
      simp only [Act.put, List.setIfInBounds_toArray, List.set_cons_zero, List.set_cons_succ]
      iterate 20 (refine wpC_run (by rfl) rfl (fun K hK => ?_); go_wp2)
      refine wpC_nil ?_
      go_wp2_with (first
        | (refine wpList_store_row rfl 60 (.tmp 14) (.tmp 215) rfl gv (m32 us).toArray rfl (by rw [HUE.out]; rfl) 60 (m32 vs).toArray HVV.out.A HU1.out HU2.out HU3.out ?_))
      have hlt := HQL.out
      go_roundw
      case rel =>
        refine ⟨q + 1, by omega, by go_num, HF.out.drew.drew.otherRow HVV.out.h HVV.out.l0 _, HW.out.drew.drew.otherRow HNE.out.symm _, ?_⟩
        rw [HS2.out]
        exact ⟨HVV.out.h, HVV.out.l0, HUL.out, setRow_heap _ _ _ _ _ _ HVV.out.drew.drew.A⟩
      case measure => simp [intOf]; omega
    obtain rfl : q = 64 := by omega
    rw [show ((64 : Nat) : Int) = 64 from rfl]
    rw [HVS.out] at HSP
    have HF := Lib.hid hf
    have HV := Lib.hid hv
    clear hf hw hv hS HVS hq hge
    go_wp2_with fail
    obtain ⟨wo, rfl⟩ : ∃ wo : World, wo = wr := ⟨_, rfl⟩
    go_loopw [216] (fun v wr => ∃ i : Nat, i ≤ 8 ∧ v = .int .i64 (i : Int) ∧ Sh w wr n0 n1 n2 lo5 hi (it (sumS vs) i h) (.slice (some ⟨g5, 0, none⟩) M c5) p ∧ N3 wr lo5 hi gv 60 8 vs) (fun v _ => 8 - (intOf v).toNat)
    case atStart => exact ⟨0, by omega, rfl, by rw [it_z]; exact HF.out, HV.out⟩
    obtain ⟨i, hi', rfl, hf, hv⟩ := hrel
    clear HF HV
    have hS := it_succ (sumS vs) i h
    generalize hus : it (sumS vs) i h = us at *
    have HUS := Lib.hid hus
    clear hus
    rcases Nat.lt_or_ge i 8 with hlt | hge
    · have HIL := Lib.hid hlt
      rw [sum_def] at hS
      have i8 : ¬ (8 : Int) ≤ (i : Int) := by omega
      have ch := hf.cH i hlt
      have cv := hv.cl i hlt
      have fh := hf.H.frozen i
      have HS := Lib.hid hS
      have HF := Lib.hid hf
      have HV := Lib.hid hv
      have HNN : Hid (n2 ≠ gv) := show _ ≠ _ by have := hv.h; have := hv.l0; have := hf.o3; omega
      clear hS hf hv
      generalize gt us 0#32 i = x at *
      generalize gt vs 0#32 i = y at *
      go_wp2_with fail
      refine wp_region_c 8 (by kernel_rfl) (by kernel_rfl) ?_
      simp only [List.take_succ_cons, List.take_zero, List.drop_succ_cons, List.drop_zero]
      iterate 8 (refine wpC_run (by rfl) rfl (fun K hK => ?_); go_wp2)
      refine wpC_nil ?_
      go_wp2
      have hlt := HIL.out
      go_roundw
      case rel =>
        refine ⟨i + 1, by omega, by go_num, ?_, HV.out.drew.other HNN.out _ _⟩
        rw [HS.out]
        exact HF.out.drew.setH _ _
      case measure => simp [intOf]; omega
    obtain rfl : i = 8 := by omega
    rw [show ((8 : Nat) : Int) = 8 from rfl]
    rw [HUS.out] at HSP
    have HF := Lib.hid hf
    have h0 := HH0.out
    clear hf hv hS HUS hi' hge
    go_wp2_with fail
    go_roundw
    case rel =>
      refine ⟨k + 1, by have := HT.out; omega, ?_, ?_⟩
      · have ht := HT.out
        have e : (t : Int) + 64 = ((64 * (k + 1) : Nat) : Int) := by omega
        rw [e]
      · rw [HSP.out]
        exact HF.out
    case measure => simp [intOf]; omega
  have hk3 : k = M / 64 := by have := HT.out; have := HP2.out; omega
  have hkf := HSF.out
  rw [← hk3, HAK.out] at hkf
  have HKF := Lib.hid hkf
  have hn0 : decide ((t : Int) < (M : Int)) = false := decide_eq_false (by omega)
  clear hkf hk3
  have hkf := HKF.out
  rw [← out_all h] at hkf
  have HKF := Lib.hid hkf
  clear hkf
  go_wp2_with fail
  have HD : Hid (Sh w (wr.alloc (.cells #[.int .u8 0, .int .u8 0, .int .u8 0, .int .u8 0, .int .u8 0, .int .u8 0, .int .u8 0, .int .u8 0, .int .u8 0, .int .u8 0, .int .u8 0, .int .u8 0, .int .u8 0, .int .u8 0, .int .u8 0, .int .u8 0, .int .u8 0, .int .u8 0, .int .u8 0, .int .u8 0, .int .u8 0, .int .u8 0, .int .u8 0, .int .u8 0, .int .u8 0, .int .u8 0, .int .u8 0, .int .u8 0, .int .u8 0, .int .u8 0, .int .u8 0, .int .u8 0] 25)) n0 n1 n2 lo5 hi h (.slice (some ⟨g5, 0, none⟩) M c5) p) := HF.out.later (below_new _ _)
  have HH : Hid (Arr (wr.alloc (.cells #[.int .u8 0, .int .u8 0, .int .u8 0, .int .u8 0, .int .u8 0, .int .u8 0, .int .u8 0, .int .u8 0, .int .u8 0, .int .u8 0, .int .u8 0, .int .u8 0, .int .u8 0, .int .u8 0, .int .u8 0, .int .u8 0, .int .u8 0, .int .u8 0, .int .u8 0, .int .u8 0, .int .u8 0, .int .u8 0, .int .u8 0, .int .u8 0, .int .u8 0, .int .u8 0, .int .u8 0, .int .u8 0, .int .u8 0, .int .u8 0, .int .u8 0, .int .u8 0] 25)) wr.heap.size 25 (nums (List.replicate 32 0#8))) := Arr.new wr (nums (List.replicate 32 0#8)) 25
  have HGH : Hid (hi ≤ wr.heap.size ∧ lo5 ≤ wr.heap.size) := ⟨HF.out.ho, Nat.le_trans HF.out.ol HF.out.ho⟩
  generalize (wr.alloc (.cells #[.int .u8 0, .int .u8 0, .int .u8 0, .int .u8 0, .int .u8 0, .int .u8 0, .int .u8 0, .int .u8 0, .int .u8 0, .int .u8 0, .int .u8 0, .int .u8 0, .int .u8 0, .int .u8 0, .int .u8 0, .int .u8 0, .int .u8 0, .int .u8 0, .int .u8 0, .int .u8 0, .int .u8 0, .int .u8 0, .int .u8 0, .int .u8 0, .int .u8 0, .int .u8 0, .int .u8 0, .int .u8 0, .int .u8 0, .int .u8 0, .int .u8 0, .int .u8 0] 25)) = wz at *
  generalize wr.heap.size = gh at *
  clear HF wr
  go_loopw [228] (fun v wr => ∃ i : Nat, i ≤ 32 ∧ v = .int .i64 (i : Int) ∧ Sh w wr n0 n1 n2 lo5 hi h (.slice (some ⟨g5, 0, none⟩) M c5) p ∧ Arr wr gh 25 (nums (it (outB h) i (List.replicate 32 0#8)))) (fun v _ => 32 - (intOf v).toNat)
  case atStart => exact ⟨0, by omega, rfl, HD.out, by rw [it_z]; exact HH.out⟩
  obtain ⟨i, hi', rfl, hf, hh⟩ := hrel
  clear HD HH
  have hhl : (it (outB h) i (List.replicate 32 0#8)).length = 32 := by rw [outB_len, List.length_replicate]
  have hS4 := it_succ (outB h) i (List.replicate 32 0#8)
  generalize hhb : it (outB h) i (List.replicate 32 0#8) = hb at *
  have HHB := Lib.hid hhb
  rcases Nat.lt_or_ge i 32 with hlt | hge
  · obtain ⟨i4, hi4⟩ : ∃ q, q = i / 4 := ⟨_, rfl⟩
    obtain ⟨r, hr⟩ : ∃ q, q = i % 4 := ⟨_, rfl⟩
    obtain ⟨r8, hr8⟩ : ∃ q, q = 8 * r := ⟨_, rfl⟩
    obtain ⟨s8, hs8⟩ : ∃ q, q = 24 - r8 := ⟨_, rfl⟩
    have e1 : (i : Int).tdiv 4 = (i4 : Int) := by rw [Int.tdiv_eq_ediv_of_nonneg (by omega)]; omega
    have e2 : (i : Int).tmod 4 = (r : Int) := by rw [Int.tmod_eq_emod_of_nonneg (by omega)]; omega
    have e3 : (8 : Int) * (r : Int) = (r8 : Int) := by omega
    have e4 : (24 : Int) - (r8 : Int) = (s8 : Int) := by omega
    have w8 : IntKind.u64.wrap (s8 : Int) = (s8 : Int) := by rw [wrap_u64]; omega
    have m8 : min s8 32 = s8 := by omega
    have m9 : min s8 64 = s8 := by omega
    have i8 : ¬ (8 : Int) ≤ (i4 : Int) := by omega
    have i32 : ¬ (32 : Int) ≤ (i : Int) := by omega
    have ci := hf.cH i4 (by omega)
    have cz := hh.cell (nums_getD (i := i) (by rw [hhl]; exact hlt))
    have fz := hh.frozen i
    have hs4 : outB h i hb = hb.set i ((gt h 0#32 i4 >>> s8).setWidth 8) := by unfold outB; rw [hs8, hr8, hr, hi4]
    rw [hs4] at hS4
    have HS4 := Lib.hid hS4
    have HF := Lib.hid hf
    have HH := Lib.hid hh
    have HI := Lib.hid hlt
    clear hf hh hS4 hs4 hhb hhl hi4 hr hr8 hs8
    generalize gt h 0#32 i4 = x at *
    generalize hyb : (x >>> s8).setWidth 8 = yb at *
    have hsh : n32 x / 2 ^ s8 % 256 = n8 yb := by rw [shr32, ← wrap_u8, low8', hyb]
    have hsh2 : n32 (x >>> s8) % 256 = n8 yb := by rw [← wrap_u8, low8', hyb]
    clear hyb
    go_wp2_with fail
    have hlt := HI.out
    go_roundw
    case rel =>
      refine ⟨i + 1, by omega, by go_num, HF.out.other HGH.out.1 HGH.out.2 _ _, ?_⟩
      rw [HS4.out, ← nums_set]
      exact HH.out.set _ _
    case measure => simp [intOf]; omega
  obtain rfl : i = 32 := by omega
  rw [show ((32 : Nat) : Int) = 32 from rfl]
  have hv := HKF.out
  rw [hhb] at hv
  have HV := Lib.hid hv
  have hs1 : (nums hb).toArray.size = 32 := by simp [hhl]
  have hi1 : (Try.prog.info? 25).map (·.size) = some (nums hb).toArray.size := by rw [hs1]; exact info25
  have h1 : (nums hb).toArray.all (·.oneCell') = true := by simp [nums, Value.oneCell']
  have hs2 : (nums (List.replicate 32 0#8)).toArray.size = (nums hb).toArray.size := by rw [hs1]; simp
  have HF := Lib.hid hf
  have HH := Lib.hid hh
  clear hf hh hS4 hhb hv
  go_wp2_with (first
    | (refine wpList_load_row rfl 25 (.tmp 19) rfl gh rfl 25 (nums hb).toArray (0, 0) _ HH.out Try.underlying25 rfl hi1 ?_)
    | (refine wpList_store_row rfl 25 (.tmp 2) (.tmp 245) rfl n0 (nums hb).toArray rfl rfl 25 (nums (List.replicate 32 0#8)).toArray HF.out.R hi1 hs2 h1 ?_))
  refine bodyPost_ret (results_cell_row (P := Try.prog) rfl _ _ n0 25 (nums hb).toArray (0, 0) _ rfl (setRow_heap wr _ _ _ _ _ HF.out.R) Try.underlying25 rfl hi1) rfl ⟨?_, below_setRow HF.out.W (Nat.le_of_eq HF.out.e0.symm) _⟩
  rw [HV.out]
end Go.Proofs.Ytnlcndlfdnogaaa.Sr
