/- Keccak's frame: what lies in memory while it runs. -/
import Derived.Test.YtnlcndlfdnogaaaK0
set_option linter.unusedVariables false
set_option linter.unusedSimpArgs false
namespace Go.Proofs.Ytnlcndlfdnogaaa.K1
open Go.RowKit
open D0 M D2 D3 D4 Rg P D5 K0
def slen : Value → Nat
  | .slice _ n _ => n
  | _ => 0
set_option maxRecDepth 100000 in
theorem build56 : ∀ W : World, (Instr.build 56 #[(0, .agg (mi offF).toArray), (1, .agg (m64 conF).toArray)]).run Try.prog W = .ok (.agg (mi offF ++ m64 conF).toArray) W := fun W => by kernel_rfl
theorem wp_build2 {P : Program} {w : World} {ops : Array Oper} {rest : List Oper} {o : Oper} {a : Act} {Q : Exit → Act → World → Prop} (hg : o.guard = none) (t : TypeId) (x y : Operand) (hop : o.op = .build t #[(0, x), (1, y)]) (vx vy u : Value) (hx : a.eval x = vx) (hy : a.eval y = vy)
    (hb : ∀ W : World, (Instr.build t #[(0, vx), (1, vy)]).run P W = .ok u W) (h : wpList P ops Q rest (a.put o.dst u) w) : wpList P ops Q (o :: rest) a w := by
  refine wpList_plain hg fun K hK' => ?_
  unfold Oper.wp
  have hx' : execOp a.eval o = (do pure (.value (← Instr.build t #[(0, vx), (1, vy)]))) := by
    unfold execOp
    simp only [hop, List.map_toArray, List.map_cons, List.map_nil, hx, hy]
  rw [hx', Sem.run_bind, hb]
  exact hK' _ _ h
theorem size_set (w : World) (a : Addr) (v : Value) : (w.setCell a v).heap.size = w.heap.size := by simp [World.setCell]
theorem slice25 (g lo hi : Nat) (h1 : lo ≤ hi) (h2 : hi ≤ 32) (h3 : lo < 32) : ∀ W : World, (Instr.sliceAt 25 (.pointer (some ⟨g, 0, none⟩)) (some (.int .i64 (lo : Int))) (some (.int .i64 (hi : Int))) none).run Try.prog W = .ok (.slice (some ⟨g, lo, none⟩) (hi - lo) (32 - lo)) W := fun W => by
  have ha : Try.prog.arrayLen 25 = 32 := by kernel_rfl
  have ht : Try.prog.underlying 25 = some (.array (Try.prog.arrayLen 25) (Try.prog.elem 25)) := by kernel_rfl
  have hs : (sizeOf (Try.prog.elem 25)).run Try.prog W = .ok 1 W := by kernel_rfl
  rw [run_sliceAt_array_lh W 25 ⟨g, 0, none⟩ ht .i64 .i64 lo hi (by omega) (by omega) (by rw [ha]; omega), hs, ha]
  simp only [Result.andThen, slicedAt, Int.toNat_natCast]
  rw [if_neg (by omega)]
  by_cases h0 : lo = 0
  · subst h0; rfl
  · simp [Addr.add, h0]
theorem info25 : (Try.prog.info? 25).map (·.size) = some 32 := by kernel_rfl
theorem info5s : (Try.prog.info? 5).map (·.size) = some 1 := by kernel_rfl
/-- The frame while the bytes are padded. -/
structure Kc (w W : World) (g : Nat) (v : Value) (xs : List Byte) : Prop where
  R : Arr W w.heap.size 25 (nums (List.replicate 32 0#8))
  G : Arr W g 56 (mi offF ++ m64 conF)
  hg : w.heap.size < g
  O : W.ownsRow (g + 1) 5 1 v xs.length (nums xs)
  W : Below w.heap.size w W
section
variable {w W W' : World} {g : Nat} {v v' : Value} {xs ys : List Byte} {n : Nat}
theorem own_lt {base : Nat} {e : TypeId} {size n : Nat} {us : List Value} (h : W.ownsRow base e size v n us) : ∀ k, v.ownBlock = some k → base ≤ k ∧ k < W.heap.size := by
  rcases h.2 with ⟨rfl, _⟩ | ⟨g', cap, cur, rfl, hb, hg, _⟩
  · intro k hk; cases hk
  · intro k hk
    cases hk
    exact ⟨hb, (Array.getElem?_eq_some_iff.1 hg).1⟩
theorem Kc.app (h : Kc w W g v xs) (hg : W.grownBy W' v.ownBlock) (hn : ys.length = n) (ho : W'.ownsRow (g + 1) 5 1 v' n (nums ys)) : Kc w W' g v' ys := by
  subst hn
  have hlt := own_lt h.O
  have hG := h.G.lt
  have hx := h.hg
  refine ⟨h.R.keep (hg.block _ (by omega) fun e => ?_), h.G.keep (hg.block _ hG fun e => ?_), hx, ho, h.W.grown hg h.W.size fun k hk => ?_⟩
  · have := hlt _ e.symm; omega
  · have := hlt _ e.symm; omega
  · have := hlt _ hk; omega
theorem kc_start {w1 w2 w3 : World} {cp : Nat} (hb1 : Below (w.alloc (.cells (nums (List.replicate 32 0#8)).toArray 25)).heap.size (w.alloc (.cells (nums (List.replicate 32 0#8)).toArray 25)) w1) (hb2 : Below w1.heap.size w1 w2)
    (hg3 : (w2.alloc (.cells (mi offF ++ m64 conF).toArray 56)).grownBy w3 none) (ho3 : w3.ownsRow (w2.heap.size + 1) 5 1 (.slice (some ⟨w2.heap.size + 1, 0, none⟩) 0 cp) 0 []) : Kc w w3 w2.heap.size (.slice (some ⟨w2.heap.size + 1, 0, none⟩) 0 cp) [] := by
  have z1 := hb1.size
  rw [size_alloc] at z1
  have z2 := hb2.size
  have r0 := Arr.new w (nums (List.replicate 32 0#8)) 25
  have r2 := (r0.later hb1 (by rw [size_alloc]; omega)).later hb2 (by omega)
  have k0 : Kc w (w2.alloc (.cells (mi offF ++ m64 conF).toArray 56)) w2.heap.size (.slice none 0 0) [] :=
    ⟨r2.alloc _, Arr.new _ _ _, by omega, World.ownsRow_nil _ _ _ _, ((((Below.refl _ w).alloc (Nat.le_refl _) _).trans (hb1.mono (by rw [size_alloc]; omega))).trans (hb2.mono (by omega))).alloc (by omega) _⟩
  exact k0.app (n := 0) hg3 rfl ho3
theorem Kc.lit (h : Kc w W g v xs) (o : Obj) : Kc w (W.alloc o) g v xs :=
  ⟨h.R.alloc _, h.G.alloc _, h.hg, own_keep h.O fun k hk => Below.heap_alloc _ _ _ (own_lt h.O k hk).2, h.W.alloc h.W.size _⟩
theorem Kc.drew (h : Kc w W g v xs) : Kc w W.drew g v xs := ⟨h.R, h.G, h.hg, h.O, h.W.drew⟩
theorem Kc.shape (h : Kc w W g v xs) (hx : 0 < xs.length) : ∃ gp cp, v = .slice (some ⟨gp, 0, none⟩) xs.length cp ∧ g < gp ∧ gp < W.heap.size ∧ xs.length ≤ cp ∧ cp ≤ maxLen := by
  rcases h.O.2 with ⟨_, h0⟩ | ⟨gp, cp, cur, e, hb, hg, hn, hm, _⟩
  · omega
  · exact ⟨gp, cp, e, by omega, (Array.getElem?_eq_some_iff.1 hg).1, hn, hm⟩
theorem Kc.rd {A : Option Addr} {c : Nat} (h : Kc w W g (.slice A xs.length c) xs) : Rd W (g + 1) W.heap.size 1 A xs.length (nums xs) := Rd.of_own h.O
theorem Kc.cell {gp c : Nat} (h : Kc w W g (.slice (some ⟨gp, 0, none⟩) xs.length c) xs) (i : Nat) (hi : i < xs.length) : W.cell? ⟨gp, i, none⟩ = some (.int .u8 (n8 (gt xs 0#8 i))) := by
  obtain ⟨g', off, e, _, _, hc⟩ := h.rd.2 (by omega)
  cases e
  have := hc i _ (nums_getD hi)
  rwa [Nat.zero_add] at this
theorem Kc.stored {gp c : Nat} (h : Kc w W g (.slice (some ⟨gp, 0, none⟩) xs.length c) xs) (i : Nat) (x : Byte) : Kc w (W.setCell ⟨gp, i, none⟩ (.int .u8 (n8 x))) g (.slice (some ⟨gp, 0, none⟩) xs.length c) (xs.set i x) := by
  have hs := h.O.stored i (.int .u8 (n8 x))
  rw [nums_set] at hs
  exact h.app (n := xs.length) hs.2 List.length_set hs.1
theorem Kc.snoc (h : Kc w W g v xs) (x : Byte) (i : Int) (hi : n8 x = i) (hg : (W.alloc (.cells #[.int .u8 i] 5)).grownBy W' v.ownBlock) (hm : n = xs.length + 1) (ho : W'.ownsRow (g + 1) 5 1 v' n (nums xs ++ [.int .u8 i])) :
    Kc w W' g v' (xs ++ [x]) ∧ slen v' = n := by
  subst hm; subst hi
  have k : Kc w W' g v' (xs ++ [x]) := by
    refine (h.lit _).app (n := xs.length + 1) hg (by simp) ?_
    rw [nums_append]; exact ho
  refine ⟨k, ?_⟩
  obtain ⟨gq, cq, rfl, _⟩ := k.shape (by simp)
  simp [slen]
theorem rd_lit (W : World) (x : Value) : Rd (W.alloc (.cells #[x] 5)) 0 (W.heap.size + 1) 1 (some ⟨W.heap.size, 0, none⟩) 1 [x] := by
  refine ⟨rfl, fun _ => ⟨W.heap.size, 0, rfl, by omega, by omega, fun j u hu => ?_⟩⟩
  have h := (Arr.new W [x] 5).cell hu
  rwa [Nat.zero_add]
theorem one_one {x : Int} : ∀ u ∈ [Value.int .u8 x], u.oneCell' = true := by
  intro u hu
  simp at hu
  subst hu
  rfl
/-- The frame while the words are taken in. -/
structure Kd (w W : World) (g ga : Nat) (p : List Byte) (v : Value) (a : L) : Prop where
  R : Arr W w.heap.size 25 (nums (List.replicate 32 0#8))
  G : Arr W g 56 (mi offF ++ m64 conF)
  hg : w.heap.size < g
  ha : g < ga
  la : a.length = 25
  A : Arr W ga 33 (m64 a)
  P : Bs W (g + 1) ga v p
  W : Below w.heap.size w W
section
variable {ga : Nat} {p : List Byte} {a : L}
theorem Kd.start (h : Kc w W g v xs) : Kd w (W.alloc (.cells (m64 (List.replicate 25 0#64)).toArray 33)) g W.heap.size xs v (List.replicate 25 0#64) := by
  have hG := h.G.lt
  refine ⟨h.R.alloc _, h.G.alloc _, h.hg, hG, List.length_replicate, Arr.new _ _ _, ?_, h.W.alloc h.W.size _⟩
  have hb := (Own.bs (w := W) (base := g + 1) (v := v) (bs := xs) h.O)
  exact hb.keep fun k _ hk => Below.heap_alloc _ _ _ hk
theorem Kd.setA (h : Kd w W g ga p v a) (i : Nat) (x : BitVec 64) : Kd w (W.setCell ⟨ga, i, none⟩ (.int .u64 (n64 x))) g ga p v (a.set i x) := by
  obtain ⟨R, G, hg, ha, la, A, P, W⟩ := h
  exact ⟨R.other (by omega) _ _, G.other (by omega) _ _, hg, ha, by rw [List.length_set]; exact la, by rw [← m64_set]; exact A.set _ _, P.keep fun k _ hk => heap_set _ _ _ _ _ (by omega), W.trans ((Only.set _ _ _ _).below (by omega))⟩
theorem Kd.later (h : Kd w W g ga p v a) (hb : Below W.heap.size W W') : Kd w W' g ga p v a := by
  obtain ⟨R, G, hg, ha, la, A, P, W0⟩ := h
  exact ⟨R.later hb R.lt, G.later hb G.lt, hg, ha, la, A.later hb A.lt, P.keep (Same.of_below hb (Nat.le_of_lt A.lt)), W0.trans (hb.mono W0.size)⟩
theorem Kd.only {gh : Nat} (h : Kd w W g ga p v a) (ho : Only gh W W') (hgh : ga < gh) : Kd w W' g ga p v a := by
  obtain ⟨R, G, hg, ha, la, A, P, W0⟩ := h
  exact ⟨R.keep (ho.block _ (by omega)), G.keep (ho.block _ (by omega)), hg, ha, la, A.keep (ho.block _ (by omega)), P.keep fun k _ hk => ho.block _ (by omega), W0.trans (ho.below (by omega))⟩
theorem Kd.drew (h : Kd w W g ga p v a) : Kd w W.drew g ga p v a := ⟨h.R, h.G, h.hg, h.ha, h.la, h.A, h.P.keep fun _ _ _ => rfl, h.W.drew⟩
theorem Kd.cut {A A' : Option Addr} {n c m : Nat} (h : Kd w W g ga p (.slice A n c) a) (hm : m ≤ n) (hcut : ∀ (w : World) (lo hi : Nat) (xs : List Value), n ≤ c → Rd w lo hi 1 A n xs → Rd w lo hi 1 A' (n - m) (xs.drop (m * 1))) : Kd w W g ga (p.drop m) (.slice A' (n - m) (c - m)) a := by
  obtain ⟨R, G, hg, ha, la, AA, ⟨A0, c0, e, h1, h2, hR⟩, W0⟩ := h
  cases e
  refine ⟨R, G, hg, ha, la, AA, ⟨A', c - m, by rw [List.length_drop], by rw [List.length_drop]; omega, by omega, ?_⟩, W0⟩
  have := hcut _ _ _ _ h1 hR
  rw [Nat.mul_one] at this
  rw [List.length_drop]
  unfold nums at this ⊢
  rwa [← List.map_drop] at this
theorem Kd.cA (h : Kd w W g ga p v a) (i : Nat) (hi : i < 25) : W.cell? ⟨ga, i, none⟩ = some (.int .u64 (n64 (gt a 0#64 i))) := h.A.cell (m64_get (by rw [h.la]; exact hi))
theorem Kd.setRow (h : Kd w W g ga p v a) {b : L} (hb : b.length = 25) : Kd w (W.setRow ga (m64 b).toArray) g ga p v b := by
  obtain ⟨R, G, hg, ha, la, A, P, W0⟩ := h
  exact ⟨R.keep (setRow_other _ _ _ _ (by omega)), G.keep (setRow_other _ _ _ _ (by omega)), hg, ha, hb, setRow_heap _ _ _ _ _ _ A, P.keep fun k _ hk => setRow_other _ _ _ _ (by omega), below_setRow W0 (by omega) _⟩
end
end
end Go.Proofs.Ytnlcndlfdnogaaa.K1
