/- ref.Keccak, walked. (printed by gen_kr.py) -/
import Derived.Test.YtnlcndlfdnogaaaPw
import Derived.Test.YtnlcndlfdnogaaaK2
set_option linter.unusedVariables false
set_option linter.unusedSimpArgs false
namespace Go.Proofs.Ytnlcndlfdnogaaa.Kr
open Go.RowKit
open D0 M D2 D3 Rg K0 K1 P
attribute [local go_sem] xor64 and64 or64 xor32 and32 or32 andNot32 add64 add32 unary64 unary32 not64 not32 shl64 shr64 shl32 shr32
/-- A number's bits out of its bytes. -/
theorem byte_hi (b : Byte) (j : Nat) (h : 8 ≤ j) : b.getLsbD j = false := BitVec.getLsbD_of_ge b j h
theorem word_bit (bs : List Byte) (long : Nat) (hl : long ≤ 8) (k : Nat) : k ≤ long → ∀ j, j < 64 → (it (wordStep bs long 0) k 0#64).getLsbD j = (decide (j < 8 * k) && (gt bs 0#8 (long - k + j / 8)).getLsbD (j % 8)) := by
  induction k with
  | zero => intro _ j hj; simp [it]
  | succ k ih =>
    intro hk j hj
    rw [it_succ]
    generalize hn : it (wordStep bs long 0) k 0#64 = n at *
    unfold wordStep
    rw [if_neg (by omega), BitVec.getLsbD_or, BitVec.getLsbD_shiftLeft, BitVec.getLsbD_setWidth]
    by_cases h8 : j < 8
    · have e1 : long - (k + 1) + j / 8 = long - 1 - k := by omega
      have e2 : j % 8 = j := by omega
      rw [e1, e2]
      simp [h8, hj, show j < 8 * (k + 1) by omega]
    · rw [ih (by omega) (j - 8) (by omega)]
      have e1 : long - k + (j - 8) / 8 = long - (k + 1) + j / 8 := by omega
      have e2 : (j - 8) % 8 = j % 8 := by omega
      rw [e1, e2, byte_hi _ j (by omega)]
      simp only [hj, h8, decide_true, decide_false, Bool.not_false, Bool.true_and, Bool.and_false, Bool.or_false]
      congr 1
      simp only [decide_eq_decide]
      omega
theorem bits_ext {x y : BitVec 64} (h : ∀ j, j < 64 → x.getLsbD j = y.getLsbD j) : x = y := BitVec.eq_of_getLsbD_eq h
theorem fold_bit (bs : List Byte) (x : BitVec 64) (k : Nat) : k ≤ 8 → ∀ j, j < 64 → (it (fun q y => y ^^^ ((gt bs 0#8 q).setWidth 64 <<< (8 * q))) k x).getLsbD j = (x.getLsbD j ^^ (decide (j < 8 * k) && (gt bs 0#8 (j / 8)).getLsbD (j % 8))) := by
  induction k with
  | zero => intro _ j hj; simp [it]
  | succ k ih =>
    intro hk j hj
    rw [it_succ, BitVec.getLsbD_xor, ih (by omega) j hj, BitVec.getLsbD_shiftLeft, BitVec.getLsbD_setWidth]
    by_cases h1 : j < 8 * k
    · simp [h1, hj, show j < 8 * (k + 1) by omega]
    · by_cases h2 : j < 8 * (k + 1)
      · have e1 : j / 8 = k := by omega
        have e2 : j - 8 * k = j % 8 := by omega
        rw [e1, e2]
        simp [h1, h2, hj, show j % 8 < 64 by omega]
      · rw [byte_hi _ (j - 8 * k) (by omega)]
        simp [h1, h2, hj]
theorem fold8 (bs : List Byte) (x : BitVec 64) : it (fun q y => y ^^^ ((gt bs 0#8 q).setWidth 64 <<< (8 * q))) 8 x = x ^^^ wordF bs 8 0 := by
  apply bits_ext
  intro j hj
  rw [fold_bit bs x 8 (by omega) j hj, BitVec.getLsbD_xor]
  unfold wordF
  rw [word_bit bs 8 (by omega) 8 (by omega) j hj]
  simp
/-- The reference's taking in, byte by byte. -/
def absB (p : List Byte) (at_ i : Nat) (a : L) : L := a.set (i / 8) (gt a 0#64 (i / 8) ^^^ ((gt p 0#8 (at_ + i)).setWidth 64 <<< (8 * (i % 8))))
theorem absB_len (p : List Byte) (at_ n : Nat) (a : L) : (it (absB p at_) n a).length = a.length := P.it_len (fun _ _ => List.length_set) _ _
theorem gt_drop (p : List Byte) (m i : Nat) : gt (p.drop m) 0#8 i = gt p 0#8 (m + i) := by simp [gt, List.getD, List.getElem?_drop]
theorem abs_part (p : List Byte) (at_ j : Nat) (a : L) (hj : j < a.length) (k : Nat) : k ≤ 8 → it (fun q b => absB p at_ (8 * j + q) b) k a = a.set j (it (fun q y => y ^^^ ((gt (p.drop (at_ + 8 * j)) 0#8 q).setWidth 64 <<< (8 * q))) k (gt a 0#64 j)) := by
  induction k with
  | zero =>
    intro _
    show a = a.set j (gt a 0#64 j)
    have e : gt a 0#64 j = a[j] := by simp [gt, List.getD, List.getElem?_eq_getElem hj]
    rw [e, List.set_getElem_self]
  | succ k ih =>
    intro hk
    rw [it_succ, it_succ, ih (by omega)]
    unfold absB
    rw [show (8 * j + k) / 8 = j by omega, show (8 * j + k) % 8 = k by omega, List.set_set]
    congr 1
    rw [gt_drop, show at_ + (8 * j + k) = at_ + 8 * j + k by omega]
    congr 1
    simp [gt, List.getD, List.getElem?_set_self hj]
theorem it_add {σ : Type} (f : Nat → σ → σ) (m : Nat) : ∀ (n : Nat) (s : σ), it f (m + n) s = it (fun q => f (m + q)) n (it f m s)
  | 0, s => rfl
  | n + 1, s => by rw [← Nat.add_assoc, it_succ, it_succ, it_add f m n s]
theorem abs_all (p : List Byte) (at_ : Nat) (a : L) (ha : a.length = 25) (j : Nat) : j ≤ 17 → it (absB p at_) (8 * j) a = it (absS (p.drop at_)) j a := by
  induction j with
  | zero => intro _; rfl
  | succ j ih =>
    intro hj
    rw [show 8 * (j + 1) = 8 * j + 8 by omega, it_add (absB p at_) (8 * j) 8 a, ih (by omega), it_succ (absS (p.drop at_)) j a]
    have hl : (it (absS (p.drop at_)) j a).length = 25 := (abs_len _ _ _).trans ha
    generalize it (absS (p.drop at_)) j a = b at *
    rw [abs_part p at_ j b (by omega) 8 (by omega), fold8]
    unfold absS
    rw [List.drop_drop]
def outB (a : L) (i : Nat) (h : List Byte) : List Byte := h.set i ((gt a 0#64 (i / 8) >>> (8 * (i % 8))).setWidth 8)
theorem outB_len (a : L) (n : Nat) (h : List Byte) : (it (outB a) n h).length = h.length := P.it_len (fun _ _ => List.length_set) _ _
theorem out_all (a : L) : it (outB a) 32 (List.replicate 32 0#8) = it (outS a) 4 (List.replicate 32 0#8) := by kernel_rfl
/-- The frame while the bytes are padded. -/
structure Fp (w W : World) (t : TypeId) (rs : List Value) (v : Value) (xs : List Byte) : Prop where
  R : Arr W w.heap.size t rs
  O : W.ownsRow (w.heap.size + 1) 5 1 v xs.length (nums xs)
  W : Below w.heap.size w W
section
variable {w W W' : World} {t : TypeId} {rs : List Value} {v v' : Value} {xs ys : List Byte} {n : Nat}
theorem Fp.app (h : Fp w W t rs v xs) (hg : W.grownBy W' v.ownBlock) (hn : ys.length = n) (ho : W'.ownsRow (w.heap.size + 1) 5 1 v' n (nums ys)) : Fp w W' t rs v' ys := by
  subst hn
  have hlt := own_lt h.O
  have hR := h.R.lt
  refine ⟨h.R.keep (hg.block _ hR fun e => ?_), ho, h.W.grown hg h.W.size fun k hk => ?_⟩
  · have := hlt _ e.symm; omega
  · have := hlt _ hk; omega
theorem Fp.lit (h : Fp w W t rs v xs) (o : Obj) : Fp w (W.alloc o) t rs v xs :=
  ⟨h.R.alloc _, own_keep h.O fun k hk => Below.heap_alloc _ _ _ (own_lt h.O k hk).2, h.W.alloc h.W.size _⟩
theorem Fp.drew (h : Fp w W t rs v xs) : Fp w W.drew t rs v xs := ⟨h.R, h.O, h.W.drew⟩
theorem Fp.bl (h : Fp w W t rs v xs) : w.heap.size + 1 ≤ W.heap.size := h.R.lt
theorem Fp.shape (h : Fp w W t rs v xs) (hx : 0 < xs.length) : ∃ gp cp, v = .slice (some ⟨gp, 0, none⟩) xs.length cp ∧ w.heap.size < gp ∧ gp < W.heap.size ∧ xs.length ≤ cp ∧ cp ≤ maxLen := by
  rcases h.O.2 with ⟨_, h0⟩ | ⟨gp, cp, cur, e, hb, hg, hn, hm, _⟩
  · omega
  · exact ⟨gp, cp, e, by omega, (Array.getElem?_eq_some_iff.1 hg).1, hn, hm⟩
theorem Fp.cell {gp c : Nat} (h : Fp w W t rs (.slice (some ⟨gp, 0, none⟩) xs.length c) xs) (i : Nat) (hi : i < xs.length) : W.cell? ⟨gp, i, none⟩ = some (.int .u8 (n8 (gt xs 0#8 i))) := by
  obtain ⟨g', off, e, _, _, hc⟩ := (Rd.of_own h.O).2 (by omega)
  cases e
  have := hc i _ (nums_getD hi)
  rwa [Nat.zero_add] at this
theorem Fp.stored {gp c : Nat} (h : Fp w W t rs (.slice (some ⟨gp, 0, none⟩) xs.length c) xs) (i : Nat) (x : Byte) : Fp w (W.setCell ⟨gp, i, none⟩ (.int .u8 (n8 x))) t rs (.slice (some ⟨gp, 0, none⟩) xs.length c) (xs.set i x) := by
  have hs := h.O.stored i (.int .u8 (n8 x))
  rw [nums_set] at hs
  exact h.app (n := xs.length) hs.2 List.length_set hs.1
theorem Fp.snoc (h : Fp w W t rs v xs) (x : Byte) (i : Int) (hi : n8 x = i) (hg : (W.alloc (.cells #[.int .u8 i] 5)).grownBy W' v.ownBlock) (hm : n = xs.length + 1) (ho : W'.ownsRow (w.heap.size + 1) 5 1 v' n (nums xs ++ [.int .u8 i])) :
    Fp w W' t rs v' (xs ++ [x]) ∧ slen v' = n := by
  subst hm; subst hi
  have k : Fp w W' t rs v' (xs ++ [x]) := by
    refine (h.lit _).app (n := xs.length + 1) hg (by simp) ?_
    rw [nums_append]; exact ho
  refine ⟨k, ?_⟩
  obtain ⟨gq, cq, rfl, _⟩ := k.shape (by simp)
  simp [slen]
/-- The frame while the words are taken in. -/
structure Fd (w W : World) (ga : Nat) (p : List Byte) (v : Value) (a : L) : Prop where
  R : Arr W w.heap.size 25 (nums (List.replicate 32 0#8))
  ha : w.heap.size < ga
  la : a.length = 25
  A : Arr W ga 33 (m64 a)
  P : Bs W (w.heap.size + 1) ga v p
  W : Below w.heap.size w W
variable {ga : Nat} {p : List Byte} {a : L}
theorem Fd.start (h : Fp w W 25 (nums (List.replicate 32 0#8)) v xs) : Fd w (W.alloc (.cells (m64 (List.replicate 25 0#64)).toArray 33)) W.heap.size xs v (List.replicate 25 0#64) := by
  refine ⟨h.R.alloc _, h.R.lt, List.length_replicate, Arr.new _ _ _, ?_, h.W.alloc h.W.size _⟩
  have hb := (Own.bs (w := W) (base := w.heap.size + 1) (v := v) (bs := xs) h.O)
  exact hb.keep fun k _ hk => Below.heap_alloc _ _ _ hk
theorem Fd.setA (h : Fd w W ga p v a) (i : Nat) (x : BitVec 64) : Fd w (W.setCell ⟨ga, i, none⟩ (.int .u64 (n64 x))) ga p v (a.set i x) := by
  obtain ⟨R, ha, la, A, P, W⟩ := h
  exact ⟨R.other (by omega) _ _, ha, by rw [List.length_set]; exact la, by rw [← m64_set]; exact A.set _ _, P.keep fun k _ hk => heap_set _ _ _ _ _ (by omega), W.trans ((Only.set _ _ _ _).below (by omega))⟩
theorem Fd.later (h : Fd w W ga p v a) (hb : Below W.heap.size W W') : Fd w W' ga p v a := by
  obtain ⟨R, ha, la, A, P, W0⟩ := h
  exact ⟨R.later hb R.lt, ha, la, A.later hb A.lt, P.keep (Same.of_below hb (Nat.le_of_lt A.lt)), W0.trans (hb.mono W0.size)⟩
theorem Fd.drew (h : Fd w W ga p v a) : Fd w W.drew ga p v a := ⟨h.R, h.ha, h.la, h.A, h.P.keep fun _ _ _ => rfl, h.W.drew⟩
theorem Fd.cA (h : Fd w W ga p v a) (i : Nat) (hi : i < 25) : W.cell? ⟨ga, i, none⟩ = some (.int .u64 (n64 (gt a 0#64 i))) := h.A.cell (m64_get (by rw [h.la]; exact hi))
theorem Fd.cP {gp c : Nat} (h : Fd w W ga p (.slice (some ⟨gp, 0, none⟩) p.length c) a) (i : Nat) (hi : i < p.length) : W.cell? ⟨gp, i, none⟩ = some (.int .u8 (n8 (gt p 0#8 i))) := by
  obtain ⟨A, c', e, _, _, hR⟩ := h.P
  cases e
  obtain ⟨g', off, e, _, _, hc⟩ := hR.2 (by omega)
  cases e
  have := hc i _ (nums_getD hi)
  rwa [Nat.zero_add] at this
theorem Fd.other {gh : Nat} (h : Fd w W ga p v a) (hg : ga < gh) (i : Nat) (x : Value) : Fd w (W.setCell ⟨gh, i, none⟩ x) ga p v a := by
  obtain ⟨R, ha, la, A, P, W0⟩ := h
  exact ⟨R.other (by omega) _ _, ha, la, A.other (by omega) _ _, P.keep fun k _ hk => heap_set _ _ _ _ _ (by omega), W0.trans ((Only.set _ _ _ _).below (by omega))⟩
theorem Fd.setRow (h : Fd w W ga p v a) {b : L} (hb : b.length = 25) : Fd w (W.setRow ga (m64 b).toArray) ga p v b := by
  obtain ⟨R, ha, la, A, P, W0⟩ := h
  exact ⟨R.keep (setRow_other _ _ _ _ (by omega)), ha, hb, setRow_heap _ _ _ _ _ _ A, P.keep fun k _ hk => setRow_other _ _ _ _ (by omega), below_setRow W0 (by omega) _⟩
end
attribute [local irreducible] it gt
theorem it_z {σ : Type} (f : Nat → σ → σ) (s : σ) : it f 0 s = s := by unfold it; rfl
theorem info33 : (Try.prog.info? 33).map (·.size) = some 25 := by kernel_rfl
set_option maxRecDepth 100000 in
set_option maxHeartbeats 8000000 in
theorem kecc12 (w : World) (lo hi : Nat) (v : Value) (bs : List Byte) (hb : Bs w lo hi v bs) (hl : bs.length ≤ 1073741824) (hhi : hi ≤ w.heap.size) : Calls Try.prog 12 #[v] w fun e w' => e = .returned (.agg (nums (keccF bs)).toArray) ∧ Below w.heap.size w w' := by
  have HBS : Hid (∀ W, Below w.heap.size w W → Bs W lo hi v bs) := fun W hW => hb.keep (Same.of_below hW hhi)
  obtain ⟨A, c, rfl, hc1, hc2, hR⟩ := hb
  have HL := Lib.hid hl
  clear hR hl hc1 hc2
  have hm3 : 0 + bs.length ≤ maxLen := by have := HL.out; unfold maxLen; omega
  have hm4 : (0 + bs.length) * 1 ≤ 140737488355328 := by have := HL.out; omega
  have hm5 : bs.length + 1 ≤ maxLen := by have := HL.out; unfold maxLen; omega
  have hm6 : (bs.length + 1) * 1 ≤ 140737488355328 := by have := HL.out; omega
  have HBR : Hid (∀ W, Below w.heap.size w W → Rd W lo hi 1 A bs.length (nums bs)) := fun W hW => by
    obtain ⟨A', c', e, _, _, h⟩ := HBS.out W hW
    cases e
    exact h
  have HK3 : Hid (Fp w (w.alloc (.cells #[.int .u8 0, .int .u8 0, .int .u8 0, .int .u8 0, .int .u8 0, .int .u8 0, .int .u8 0, .int .u8 0, .int .u8 0, .int .u8 0, .int .u8 0, .int .u8 0, .int .u8 0, .int .u8 0, .int .u8 0, .int .u8 0, .int .u8 0, .int .u8 0, .int .u8 0, .int .u8 0, .int .u8 0, .int .u8 0, .int .u8 0, .int .u8 0, .int .u8 0, .int .u8 0, .int .u8 0, .int .u8 0, .int .u8 0, .int .u8 0, .int .u8 0, .int .u8 0] 25)) 25 (nums (List.replicate 32 0#8)) (.slice none 0 0) []) := ⟨Arr.new w (nums (List.replicate 32 0#8)) 25, World.ownsRow_nil _ _ _ _, below_new w _⟩
  go_enter Try.func12, Try.ntmps12
  go_wp2_with (first
    | (at_builtin; refine wp_append rfl (.const (.slice none 0 0)) (.tmp 9) 22 5 (.int .u8 0) 1 1 rfl Try.underlying22 info5 rfl (by omega) (w.heap.size + 1) lo hi _ 0 [] A bs.length c (nums bs) rfl rfl HK3.out.O (HBR.out _ HK3.out.W) (nums_one _) hm3 hm4 HK3.out.bl ?_
       intro v4 w4 ho4 hg4 hb4
       rw [Nat.zero_add, List.nil_append] at ho4
       have HK4 : Hid (Fp w w4 25 (nums (List.replicate 32 0#8)) v4 bs) := HK3.out.app hg4 rfl ho4
       clear ho4 hg4 hb4)
    | (at_builtin; refine wp_append rfl (.tmp 11) (.tmp 12) 22 5 (.int .u8 0) 1 1 rfl Try.underlying22 info5 rfl (by omega) (w.heap.size + 1) 0 (w4.heap.size + 1) v4 bs.length (nums bs) (some ⟨w4.heap.size, 0, none⟩) 1 1 [.int .u8 1] rfl rfl (HK4.out.lit _).O (rd_lit _ _) one_one hm5 hm6 (HK4.out.lit _).bl ?_
       intro v5 w5 ho5 hg5 hb5
       have HK5 := Lib.hid (HK4.out.snoc 1#8 1 rfl hg5 rfl ho5)
       clear ho5 hg5 hb5))
  clear HK3 HK4
  have hz : padZ bs.length = 135 - bs.length % 136 := rfl
  clear hm3 hm4 hm5 hm6 HBS HBR
  go_loopw [3] (fun v wr => ∃ k, k ≤ padZ bs.length ∧ Fp w wr 25 (nums (List.replicate 32 0#8)) v (bs ++ [1#8] ++ List.replicate k 0#8)) (fun v _ => bs.length + 1 + padZ bs.length - slen v)
  case atStart => exact ⟨0, by omega, by simpa using HK5.out.1⟩
  obtain ⟨k, hk, hkc⟩ := hrel
  clear HK5
  have hlen : (bs ++ [1#8] ++ List.replicate k 0#8).length = bs.length + 1 + k := by simp; omega
  obtain ⟨gp, cp, rfl, hgp1, hgp2, hn1, hn2⟩ := hkc.shape (by omega)
  have hpre : k = padZ bs.length → bs ++ [1#8] ++ List.replicate k 0#8 = preF bs := fun e => by rw [e]; rfl
  have hsuc : bs ++ [1#8] ++ List.replicate k 0#8 ++ [0#8] = bs ++ [1#8] ++ List.replicate (k + 1) 0#8 := by rw [List.append_assoc _ _ [0#8], ← List.replicate_succ']
  generalize bs ++ [1#8] ++ List.replicate k 0#8 = xs at *
  obtain ⟨r, hr⟩ : ∃ r, r = xs.length % 136 := ⟨_, rfl⟩
  have er : ((xs.length : Nat) : Int).tmod 136 = (r : Int) := by rw [Int.tmod_eq_emod_of_nonneg (by omega)]; omega
  have HPRE := Lib.hid hpre
  have HSUC := Lib.hid hsuc
  have HKC := Lib.hid hkc
  have hL := HL.out
  have hm3 : xs.length + 1 ≤ maxLen := by unfold maxLen; omega
  have hm4 : (xs.length + 1) * 1 ≤ 140737488355328 := by omega
  clear hpre hsuc hkc
  rcases Nat.lt_or_ge k (padZ bs.length) with hlt | hge
  · have hr0 : ¬ (r : Int) = 0 := by omega
    have HLEN := Lib.hid hlen
    have HR := Lib.hid hr
    generalize hml : xs.length = m at *
    have HML := Lib.hid hml
    have HM1 := Lib.hid (show m + 1 = xs.length + 1 by rw [hml])
    have HO : Hid (∀ o, (wr.alloc o).ownsRow (w.heap.size + 1) 5 1 (.slice (some ⟨gp, 0, none⟩) m cp) m (nums xs)) := fun o => by
      have := (HKC.out.lit o).O
      rwa [hml] at this
    clear hlen hr hml
    go_wp2_with (first
      | (at_builtin
         refine wp_append rfl (.tmp 18) (.tmp 19) 22 5 (.int .u8 0) 1 1 rfl Try.underlying22 info5 rfl (by omega) (w.heap.size + 1) 0 (wr.heap.size + 1) (.slice (some ⟨gp, 0, none⟩) m cp) m (nums xs) (some ⟨wr.heap.size, 0, none⟩) 1 1 [.int .u8 0] rfl rfl (HO.out _) (rd_lit _ _) one_one hm3 hm4 (HKC.out.lit _).bl ?_
         intro v5 w5 ho5 hg5 hb5
         have HK5 := Lib.hid (HKC.out.snoc 0#8 0 rfl hg5 HM1.out ho5)
         clear ho5 hg5 hb5))
    go_roundw
    case rel => exact ⟨k + 1, by omega, by rw [← HSUC.out]; exact HK5.out.1⟩
    case measure =>
      have := HLEN.out
      rw [HK5.out.2]
      show _ - _ < _ - m
      omega
  have hk2 : k = padZ bs.length := by omega
  have hx := HPRE.out hk2
  subst hx
  have hpm := pre_mod bs
  have hpl := hlen
  have hp0 : 0 < (preF bs).length := by omega
  have hq : ((preF bs).length : Int) - 1 = (((preF bs).length - 1 : Nat) : Int) := by omega
  have c1 := HKC.out.cell ((preF bs).length - 1) (by omega)
  have f1 : wr.frozen? ⟨gp, (preF bs).length - 1, none⟩ = false := HKC.out.O.frozenAt _
  have hor : bits .or .u8 (n8 (gt (preF bs) 0#8 ((preF bs).length - 1))) 128 = n8 (gt (preF bs) 0#8 ((preF bs).length - 1) ||| 128#8) := or8 _ 128#8
  have HKE := Lib.hid (HKC.out.stored ((preF bs).length - 1) (gt (preF bs) 0#8 ((preF bs).length - 1) ||| 128#8))
  have hpad : (preF bs).set ((preF bs).length - 1) (gt (preF bs) 0#8 ((preF bs).length - 1) ||| 128#8) = padF bs := rfl
  rw [hpad] at HKE
  have hr0 : r = 0 := by omega
  subst hr0
  have hi1 : ¬ ((preF bs).length : Int) ≤ (((preF bs).length - 1 : Nat) : Int) := by omega
  generalize gt (preF bs) 0#8 ((preF bs).length - 1) = by0 at *
  generalize hq1 : (preF bs).length - 1 = q at *
  have HPM := Lib.hid hpm
  have HPL := Lib.hid (pad_len bs)
  generalize hM : (preF bs).length = M at *
  have hM9 : M ≤ 1073742000 := by omega
  have hq9 : q < 1073742000 := by omega
  clear hpad hpm hlen hpl hp0 hr hq1 hM hm3 hm4
  go_wp2_with fail
  have HD : Hid (Fd w ((wr.setCell ⟨gp, q, none⟩ (.int .u8 (n8 (by0 ||| 128#8)))).alloc (.cells #[.int .u64 0, .int .u64 0, .int .u64 0, .int .u64 0, .int .u64 0, .int .u64 0, .int .u64 0, .int .u64 0, .int .u64 0, .int .u64 0, .int .u64 0, .int .u64 0, .int .u64 0, .int .u64 0, .int .u64 0, .int .u64 0, .int .u64 0, .int .u64 0, .int .u64 0, .int .u64 0, .int .u64 0, .int .u64 0, .int .u64 0, .int .u64 0, .int .u64 0] 33)) wr.heap.size (padF bs) (.slice (some ⟨gp, 0, none⟩) M cp) (List.replicate 25 0#64)) := show Fd _ _ _ _ _ _ by
    have h := Fd.start HKE.out
    rw [size_set] at h
    exact h
  generalize ((wr.setCell ⟨gp, q, none⟩ (.int .u8 (n8 (by0 ||| 128#8)))).alloc (.cells #[.int .u64 0, .int .u64 0, .int .u64 0, .int .u64 0, .int .u64 0, .int .u64 0, .int .u64 0, .int .u64 0, .int .u64 0, .int .u64 0, .int .u64 0, .int .u64 0, .int .u64 0, .int .u64 0, .int .u64 0, .int .u64 0, .int .u64 0, .int .u64 0, .int .u64 0, .int .u64 0, .int .u64 0, .int .u64 0, .int .u64 0, .int .u64 0, .int .u64 0] 33)) = wx at *
  clear c1 f1 hor hi1 HPRE HSUC HKC hgp2 HKE
  generalize hga : wr.heap.size = ga at *
  clear hga wr
  have HP : Hid ((padF bs).length = M) := HPL.out
  have hkf : keccF bs = it (outS (it (spgS (padF bs)) ((padF bs).length / 136) (List.replicate 25 0#64))) 4 (List.replicate 32 0#8) := rfl
  rw [HP.out] at hkf
  have HKF := Lib.hid hkf
  have HM0 := Lib.hid HPM.out
  clear hkf HPL HPM
  generalize padF bs = p at *
  go_loopw [5] (fun v wr => ∃ k : Nat, 136 * k ≤ M ∧ v = .int .i64 ((136 * k : Nat) : Int) ∧ Fd w wr ga p (.slice (some ⟨gp, 0, none⟩) M cp) (it (spgS p) k (List.replicate 25 0#64))) (fun v _ => M - (intOf v).toNat)
  case atStart => exact ⟨0, by omega, rfl, by rw [it_z]; exact HD.out⟩
  obtain ⟨k, hk2, rfl, hkd⟩ := hrel
  clear HD
  have hSP := it_succ (spgS p) k (List.replicate 25 0#64)
  have hsS : ∀ a, spgS p k a = permF (it (absS (p.drop (136 * k))) 17 a) := fun _ => rfl
  generalize hak : it (spgS p) k (List.replicate 25 0#64) = ak at *
  rw [hsS ak] at hSP
  obtain ⟨t, ht⟩ : ∃ t, t = 136 * k := ⟨_, rfl⟩
  rw [← ht] at hSP hk2 ⊢
  have HAK := Lib.hid hak
  have HT := Lib.hid ht
  have HSP := Lib.hid hSP
  have HKD := Lib.hid hkd
  clear hak hSP hsS hkd ht
  rcases Nat.lt_or_ge t M with h0 | h0
  · have hM136 : t + 136 ≤ M := by have := HT.out; have := HM0.out; omega
    have HH0 := Lib.hid h0
    have hn0 : decide ((t : Int) < (M : Int)) = true := decide_eq_true (by omega)
    go_wp2_with fail
    obtain ⟨wo, rfl⟩ : ∃ wo : World, wo = wr := ⟨_, rfl⟩
    go_loopw [6] (fun v wr => ∃ i : Nat, i ≤ 136 ∧ v = .int .i64 (i : Int) ∧ Fd w wr ga p (.slice (some ⟨gp, 0, none⟩) M cp) (it (absB p t) i ak)) (fun v _ => 136 - (intOf v).toNat)
    case atStart => exact ⟨0, by omega, rfl, by rw [it_z]; exact HKD.out⟩
    obtain ⟨i, hi, rfl, hkd⟩ := hrel
    have hal := HKD.out.la
    clear HKD
    rcases Nat.lt_or_ge i 136 with hlt | hge
    · obtain ⟨i8, hi8⟩ : ∃ q, q = i / 8 := ⟨_, rfl⟩
      obtain ⟨r, hr⟩ : ∃ q, q = i % 8 := ⟨_, rfl⟩
      obtain ⟨r8, hr8⟩ : ∃ q, q = 8 * r := ⟨_, rfl⟩
      obtain ⟨s, hs⟩ : ∃ q, q = t + i := ⟨_, rfl⟩
      have e1 : (i : Int).tdiv 8 = (i8 : Int) := by rw [Int.tdiv_eq_ediv_of_nonneg (by omega)]; omega
      have e2 : (i : Int).tmod 8 = (r : Int) := by rw [Int.tmod_eq_emod_of_nonneg (by omega)]; omega
      have e3 : (8 : Int) * (r : Int) = (r8 : Int) := by omega
      have e4 : (t : Int) + (i : Int) = (s : Int) := by omega
      have w8 : IntKind.u64.wrap (r8 : Int) = (r8 : Int) := by rw [wrap_u64]; omega
      have m8 : min r8 64 = r8 := by omega
      have i25 : ¬ (25 : Int) ≤ (i8 : Int) := by omega
      have iM : ¬ (M : Int) ≤ (s : Int) := by omega
      have hsM : s < 1073742000 := by omega
      have hS3 := it_succ (absB p t) i ak
      have hs3 : ∀ a, absB p t i a = a.set i8 (gt a 0#64 i8 ^^^ ((gt p 0#8 s).setWidth 64 <<< r8)) := fun a => by unfold absB; rw [hr8, hr, hi8, hs]
      generalize it (absB p t) i ak = ai at *
      rw [hs3 ai] at hS3
      have ci := hkd.cA i8 (by omega)
      have fi := hkd.A.frozen i8
      have cp2 : wr.cell? ⟨gp, s, none⟩ = some (.int .u8 (n8 (gt p 0#8 s))) := by
        have h := hkd
        rw [← HP.out] at h
        exact h.cP s (by rw [HP.out]; omega)
      have HS3 := Lib.hid hS3
      have HKD := Lib.hid hkd
      have HI := Lib.hid hlt
      clear hkd hS3 hs3 hi8 hr hr8 hs
      generalize gt ai 0#64 i8 = x at *
      generalize gt p 0#8 s = y at *
      have hzx := zx y
      have hsh := shl64 (y.setWidth 64) r8
      generalize (y.setWidth 64 <<< r8) = yy at *
      go_wp2_with fail
      refine wp_region_c 18 (by kernel_rfl) (by kernel_rfl) ?_
      simp only [List.take_succ_cons, List.take_zero, List.drop_succ_cons, List.drop_zero]
      iterate 18 (refine wpC_run (by rfl) rfl (fun K hK => ?_); go_wp2)
      refine wpC_nil ?_
      go_wp2
      have hlt := HI.out
      go_roundw
      case rel =>
        refine ⟨i + 1, by omega, by go_num, ?_⟩
        rw [HS3.out]
        exact (HKD.out.setA _ _).drew
      case measure => simp [intOf]; omega
    obtain rfl : i = 136 := by omega
    rw [show ((136 : Nat) : Int) = 136 from rfl]
    have hab := abs_all p t ak hal 17 (by omega)
    rw [show 8 * 17 = 136 from rfl] at hab
    have hsk := HSP.out
    rw [← hab] at hsk
    generalize it (absB p t) 136 ak = a17 at *
    have HSK := Lib.hid hsk
    have hs0 : (m64 a17).toArray.size = 25 := by simp [m64_len, hkd.la]
    have hpl : (permF a17).length = 25 := perm_len hkd.la
    have hs1 : (m64 (permF a17)).toArray.size = 25 := by simp [m64_len, hpl]
    have hi0 : (Try.prog.info? 33).map (·.size) = some (m64 a17).toArray.size := by rw [hs0]; exact info33
    have hi1 : (Try.prog.info? 33).map (·.size) = some (m64 (permF a17)).toArray.size := by rw [hs1]; exact info33
    have h1 : (m64 (permF a17)).toArray.all (·.oneCell') = true := by simp [m64, Value.oneCell']
    have hs2 : (m64 a17).toArray.size = (m64 (permF a17)).toArray.size := by rw [hs0, hs1]
    have HP18 := Lib.hid (Pw.permute18 wr a17 hkd.la)
    have HKD := Lib.hid hkd
    clear hkd hsk hab
    go_wp2_with (first
      | (refine wpList_load_row rfl 33 (.tmp 4) rfl ga rfl 33 (m64 a17).toArray (0, 0) _ HKD.out.A Try.underlying33 rfl hi0 ?_)
      | (go_at_call 18; refine HP18.out.mono ?_
         rintro e w6 ⟨rfl, hb6⟩
         have HK6 := Lib.hid (HKD.out.later hb6)
         clear hb6)
      | (refine wpList_store_row rfl 33 (.tmp 4) (.tmp 58) rfl ga (m64 (permF a17)).toArray rfl rfl 33 (m64 a17).toArray HK6.out.A hi1 hs2 h1 ?_
         have HK7 := Lib.hid (HK6.out.setRow hpl)))
    have h0 := HH0.out
    go_roundw
    case rel =>
      refine ⟨k + 1, by have := HT.out; omega, ?_, ?_⟩
      · have ht := HT.out
        have e : (t : Int) + 136 = ((136 * (k + 1) : Nat) : Int) := by omega
        rw [e]
      · rw [HSK.out]
        exact HK7.out
    case measure => simp [intOf]; omega
  have hk3 : k = M / 136 := by have := HT.out; have := HM0.out; omega
  have hkf := HKF.out
  rw [← hk3, HAK.out, ← out_all ak] at hkf
  have HKF := Lib.hid hkf
  have hn0 : decide ((t : Int) < (M : Int)) = false := decide_eq_false (by omega)
  clear hkf hk3
  go_wp2_with fail
  have HD : Hid (Fd w (wr.alloc (.cells #[.int .u8 0, .int .u8 0, .int .u8 0, .int .u8 0, .int .u8 0, .int .u8 0, .int .u8 0, .int .u8 0, .int .u8 0, .int .u8 0, .int .u8 0, .int .u8 0, .int .u8 0, .int .u8 0, .int .u8 0, .int .u8 0, .int .u8 0, .int .u8 0, .int .u8 0, .int .u8 0, .int .u8 0, .int .u8 0, .int .u8 0, .int .u8 0, .int .u8 0, .int .u8 0, .int .u8 0, .int .u8 0, .int .u8 0, .int .u8 0, .int .u8 0, .int .u8 0] 25)) ga p (.slice (some ⟨gp, 0, none⟩) M cp) ak) := HKD.out.later (below_new _ _)
  have HH : Hid (Arr (wr.alloc (.cells #[.int .u8 0, .int .u8 0, .int .u8 0, .int .u8 0, .int .u8 0, .int .u8 0, .int .u8 0, .int .u8 0, .int .u8 0, .int .u8 0, .int .u8 0, .int .u8 0, .int .u8 0, .int .u8 0, .int .u8 0, .int .u8 0, .int .u8 0, .int .u8 0, .int .u8 0, .int .u8 0, .int .u8 0, .int .u8 0, .int .u8 0, .int .u8 0, .int .u8 0, .int .u8 0, .int .u8 0, .int .u8 0, .int .u8 0, .int .u8 0, .int .u8 0, .int .u8 0] 25)) wr.heap.size 25 (nums (List.replicate 32 0#8))) := Arr.new wr (nums (List.replicate 32 0#8)) 25
  have HGH : Hid (ga < wr.heap.size) := HKD.out.A.lt
  generalize (wr.alloc (.cells #[.int .u8 0, .int .u8 0, .int .u8 0, .int .u8 0, .int .u8 0, .int .u8 0, .int .u8 0, .int .u8 0, .int .u8 0, .int .u8 0, .int .u8 0, .int .u8 0, .int .u8 0, .int .u8 0, .int .u8 0, .int .u8 0, .int .u8 0, .int .u8 0, .int .u8 0, .int .u8 0, .int .u8 0, .int .u8 0, .int .u8 0, .int .u8 0, .int .u8 0, .int .u8 0, .int .u8 0, .int .u8 0, .int .u8 0, .int .u8 0, .int .u8 0, .int .u8 0] 25)) = wz at *
  generalize wr.heap.size = gh at *
  clear HKD wr
  go_loopw [59] (fun v wr => ∃ i : Nat, i ≤ 32 ∧ v = .int .i64 (i : Int) ∧ Fd w wr ga p (.slice (some ⟨gp, 0, none⟩) M cp) ak ∧ Arr wr gh 25 (nums (it (outB ak) i (List.replicate 32 0#8)))) (fun v _ => 32 - (intOf v).toNat)
  case atStart => exact ⟨0, by omega, rfl, HD.out, by rw [it_z]; exact HH.out⟩
  obtain ⟨i, hi, rfl, hkd, hh⟩ := hrel
  clear HD HH
  have hhl : (it (outB ak) i (List.replicate 32 0#8)).length = 32 := by rw [outB_len, List.length_replicate]
  have hS4 := it_succ (outB ak) i (List.replicate 32 0#8)
  generalize hhb : it (outB ak) i (List.replicate 32 0#8) = hb at *
  have HHB := Lib.hid hhb
  rcases Nat.lt_or_ge i 32 with hlt | hge
  · obtain ⟨i8, hi8⟩ : ∃ q, q = i / 8 := ⟨_, rfl⟩
    obtain ⟨r, hr⟩ : ∃ q, q = i % 8 := ⟨_, rfl⟩
    obtain ⟨r8, hr8⟩ : ∃ q, q = 8 * r := ⟨_, rfl⟩
    have e1 : (i : Int).tdiv 8 = (i8 : Int) := by rw [Int.tdiv_eq_ediv_of_nonneg (by omega)]; omega
    have e2 : (i : Int).tmod 8 = (r : Int) := by rw [Int.tmod_eq_emod_of_nonneg (by omega)]; omega
    have e3 : (8 : Int) * (r : Int) = (r8 : Int) := by omega
    have w8 : IntKind.u64.wrap (r8 : Int) = (r8 : Int) := by rw [wrap_u64]; omega
    have m8 : min r8 64 = r8 := by omega
    have i25 : ¬ (25 : Int) ≤ (i8 : Int) := by omega
    have i32 : ¬ (32 : Int) ≤ (i : Int) := by omega
    have ci := hkd.cA i8 (by omega)
    have cz := hh.cell (nums_getD (i := i) (by rw [hhl]; exact hlt))
    have fz := hh.frozen i
    have hs4 : outB ak i hb = hb.set i ((gt ak 0#64 i8 >>> r8).setWidth 8) := by unfold outB; rw [hr8, hr, hi8]
    rw [hs4] at hS4
    have HS4 := Lib.hid hS4
    have HKD := Lib.hid hkd
    have HH := Lib.hid hh
    have HI := Lib.hid hlt
    clear hkd hh hS4 hs4 hhb hhl hi8 hr hr8
    generalize gt ak 0#64 i8 = x at *
    generalize hyb : (x >>> r8).setWidth 8 = yb at *
    have hsh : n64 x / 2 ^ r8 % 256 = n8 yb := by rw [shr64, ← wrap_u8, low8, hyb]
    have hsh2 : n64 (x >>> r8) % 256 = n8 yb := by rw [← wrap_u8, low8, hyb]
    clear hyb
    go_wp2_with fail
    have hlt := HI.out
    go_roundw
    case rel =>
      refine ⟨i + 1, by omega, by go_num, HKD.out.other HGH.out _ _, ?_⟩
      rw [HS4.out, ← nums_set]
      exact HH.out.set _ _
    case measure => simp [intOf]; omega
  obtain rfl : i = 32 := by omega
  rw [show ((32 : Nat) : Int) = 32 from rfl]
  have hv := HKF.out
  rw [hhb] at hv
  have HV := Lib.hid hv
  have hs1 : (nums hb).toArray.size = 32 := by simp [hhl]
  have hi1 : (Try.prog.info? 25).map (·.size) = some (nums hb).toArray.size := by rw [hs1]; exact info25
  have h1 : (nums hb).toArray.all (·.oneCell') = true := by simp [nums, Value.oneCell']
  have hs2 : (nums (List.replicate 32 0#8)).toArray.size = (nums hb).toArray.size := by rw [hs1]; simp
  have HKD := Lib.hid hkd
  have HH := Lib.hid hh
  clear hkd hh hS4 hhb hv
  go_wp2_with (first
    | (refine wpList_load_row rfl 25 (.tmp 7) rfl gh rfl 25 (nums hb).toArray (0, 0) _ HH.out Try.underlying25 rfl hi1 ?_)
    | (refine wpList_store_row rfl 25 (.tmp 2) (.tmp 75) rfl w.heap.size (nums hb).toArray rfl rfl 25 (nums (List.replicate 32 0#8)).toArray HKD.out.R hi1 hs2 h1 ?_))
  refine bodyPost_ret (results_cell_row (P := Try.prog) rfl _ _ w.heap.size 25 (nums hb).toArray (0, 0) _ rfl (setRow_heap wr _ _ _ _ _ HKD.out.R) Try.underlying25 rfl hi1) rfl ⟨?_, below_setRow HKD.out.W (Nat.le_refl _) _⟩
  rw [HV.out]
end Go.Proofs.Ytnlcndlfdnogaaa.Kr
