/- RlpMeans, walked. (printed by gen_b18.py) -/
import Derived.Test.YtkdpphcalekbdaaS3
import Derived.Test.YtkdpphcalekbdaaS7
import Derived.Test.YtkdpphcalekbdaaT4
import Derived.Test.YtkdpphcalekbdaaA1
set_option linter.unusedVariables false
set_option linter.unusedSimpArgs false
namespace Go.Proofs.Ytkdpphcalekbdaa.B18
open Go.ChangeShapes Go.WideShapes Go.ChangeAt Go.RowKit
open M W1 G1 L1 T3 S1 S2 S4 S5 S6 S7
/-- A block, and all that lay below it. -/
def Kx (w2 : World) (X : Array Value) (W : World) : Prop := Below (w2.heap.size + 1) (w2.alloc (.cells X 27)) W
section
variable {w2 W W' : World} {X : Array Value}
theorem Kx.start (w2 : World) (X : Array Value) : Kx w2 X (w2.alloc (.cells X 27)) := Below.refl _ _
theorem Kx.lt (h : Kx w2 X W) : w2.heap.size < W.heap.size := by have := h.size; rw [size_alloc] at this; omega
theorem Kx.step (h : Kx w2 X W) (hb : Below W.heap.size W W') : Kx w2 X W' := Below.trans h (hb.mono h.lt)
theorem Kx.alloc (h : Kx w2 X W) (o : Obj) : Kx w2 X (W.alloc o) := h.step (below_new _ _)
theorem Kx.block (h : Kx w2 X W) : W.heap[w2.heap.size]? = some (.cells X 27 (0, 0)) := (Below.block h w2.heap.size (by omega)).trans (block_new _ _)
theorem Kx.below (h : Kx w2 X W) : Below w2.heap.size w2 W := (below_new w2 _).trans (Below.mono h (by omega))
end
theorem item_ks {w : World} {S : Nat → Prop} {v : Value} {ks : List It} (h : Ks w S v ks) : ItemR w S (.mk 0 [] ks) [.int .i64 0, .slice none 0 0, v] := by
  obtain ⟨A, c, inner, rfl, h1, h2, h3, h4⟩ := h
  simp only [ItemR]
  exact ⟨_, A, c, inner, rfl, ⟨none, 0, rfl, by simp, by omega, by simp, fun h => absurd h (by simp)⟩, h1, h2, h3, h4⟩
theorem Ks.keep {w w' : World} {S : Nat → Prop} {v : Value} {ks : List It} (h : Ks w S v ks) (hs : SameS S w w') : Ks w' S v ks := by
  obtain ⟨A, c, inner, rfl, h1, h2, h3, h4⟩ := h
  exact ⟨A, c, inner, rfl, h1, h2, h3.keep hs, KidsR.keep hs _ _ h4⟩
theorem Ks.later {w w' : World} {S : Nat → Prop} {v : Value} {ks : List It} {B : Nat} (h : Ks w S v ks) (hS : ∀ b, S b → b < B) (hb : Below B w w') : Ks w' S v ks := Ks.keep h fun b hb' => hb.block b (hS b hb')
theorem ks_shape {w : World} {S : Nat → Prop} {v : Value} {ks : List It} (h : Ks w S v ks) : ∃ A n c, v = .slice A n c := by
  obtain ⟨A, c, inner, rfl, _⟩ := h
  exact ⟨_, _, _, rfl⟩
theorem bs_shape {w : World} {lo hi : Nat} {v : Value} {bs : List UInt8} (h : Bs w lo hi v bs) : ∃ A n c, v = .slice A n c := by
  obtain ⟨A, c, rfl, _⟩ := h
  exact ⟨_, _, _, rfl⟩
theorem two_ks (x : It) (ρ : Operand → Value) (W : World) (o : Oper) (r1 r2 : Operand) (v1 v2 : Value) (ho : o.op = .buildSlice 25 2 #[(0, r1), (1, r2)]) (e1 : ρ r1 = v1) (e2 : ρ r2 = v2) (h1 : VK (.it x) v1 W) (h2 : VK (.it x) v2 W) :
    ∃ r : Value × World, (execOp ρ o).run Try.prog W = .ok (.value r.1) r.2 ∧ VK (.ks [x, x]) r.1 r.2 ∧ Below W.heap.size W r.2 := by
  obtain ⟨a, b, c, rfl, h1⟩ := h1
  obtain ⟨a', b', c', rfl, h2⟩ := h2
  have hs : ∀ k, k < W.heap.size → (W.alloc (.cells #[a, b, c, a', b', c'] 27)).heap[k]? = W.heap[k]? := fun k hk => Below.heap_alloc _ _ _ hk
  have hw : ∀ k, k < W.heap.size → k < (W.alloc (.cells #[a, b, c, a', b', c'] 27)).heap.size := fun k hk => by rw [size_alloc]; omega
  refine ⟨(_, _), run_two ρ W o r1 r2 a b c a' b' c' ho e1 e2, ⟨_, 2, [a, b, c, a', b', c'], rfl, by simp, by omega, ⟨rfl, fun _ => ⟨W.heap.size, 0, rfl, by show _ < (W.alloc _).heap.size; rw [size_alloc]; omega, fun j u hu => ?_⟩⟩, ?_⟩, below_new _ _⟩
  · have hb := block_new W (.cells #[a, b, c, a', b', c'] 27)
    simp only [World.cell?, hb]
    simpa using hu
  · simp only [KidsR]
    exact ⟨[a, b, c], [a', b', c'], rfl, ItemR.wide hw _ _ (ItemR.keep hs _ _ h1), [a', b', c'], [], rfl, ItemR.wide hw _ _ (ItemR.keep hs _ _ h2), rfl⟩
theorem fin_two (x : It) {o : Oper} {a : Act} {w : World} {r1 r2 : Operand} {v1 v2 : Value} {Q : Exit → Act → World → Prop} {Inv : World → Prop} (ho : o.op = .buildSlice 25 2 #[(0, r1), (1, r2)]) (e1 : a.eval r1 = v1) (e2 : a.eval r2 = v2) (h1 : VK (.it x) v1 w) (h2 : VK (.it x) v2 w) (hi : ∀ w', Below w.heap.size w w' → Inv w') :
    o.wp Try.prog a w (fun a' w' => ∃ v, a' = a.put o.dst v ∧ VK (.ks [x, x]) v w' ∧ Inv w' ∧ Below w.heap.size w w') Q := by
  obtain ⟨r, h3, h4, h5⟩ := two_ks x a.eval w o r1 r2 v1 v2 ho e1 e2 h1 h2
  exact fin_val h3 h4 (hi _ h5) h5
theorem bytesF_len (l : Int) (bs : List UInt8) (least most : Int) : (bytesF l bs least most).1.length ≤ bs.length := by
  unfold bytesF
  split
  · simp
  · split
    · simp
    · exact Nat.le_refl _
/-- The slots of region 16. -/
def sl (j : Nat) : Nat := if j < 47 then 126 + j else 10
/-- What its slots hold. -/
def kdL (s u xv wv : Value) (q : ByteArray) (n : Int) (bf : List UInt8) (x ni wi : It) : List Kd :=
  [.eq s, .eq (.string q), .eq u, .eq (.string q), .eq (.bool true), .eq (.bool true), .eq (.int .u64 n), .it ni, .eq (.int .u64 n), .it ni, .eq (.bool true), .eq (.bool true), .eq (.bool true),
   .eq wv, .it wi, .eq wv, .it wi, .eq (.bool true), .eq (.bool true), .eq (.bool true),
   .eq u, .bs bf, .it (.mk 0 bf []), .eq u, .it (.mk 0 bf []), .eq (.bool true), .eq (.bool true), .eq (.bool true),
   .eq xv, .it x, .eq xv, .it x, .ks [x, x], .it (.mk 1 [] [x, x]), .eq xv, .eq xv, .ks [x, x], .it (.mk 1 [] [x, x]), .eq (.bool true), .eq (.bool true), .eq (.bool true),
   .eq xv, .it x, .eq xv, .it x, .eq (.bool true), .eq (.bool true), .eq (.bool true)]
section
variable (S : Nat → Prop) (v : Value) (l : List Nd) (n : Int) (wa wb wc wd : Int) (least most : Int) (w : World)
set_option maxRecDepth 100000 in
set_option maxHeartbeats 2000000 in
theorem means11 (hv : Nds w S v l) (hS : ∀ b, S b → b < w.heap.size) (hl : nbulk l ≤ 1048576) (hn : U64 n) (ha : U64 wa) (hb : U64 wb) (hc : U64 wc) (hd : U64 wd) :
    Calls Try.prog 11 #[v, .int .u64 n, .agg #[.int .u64 wa, .int .u64 wb, .int .u64 wc, .int .u64 wd], .int .i64 least, .int .i64 most] w fun e w' => e = .returned (.bool true) ∧ Below w.heap.size w w' := by
  have hxb := item_bulk l
  obtain ⟨lx, bx, kx, hx⟩ : ∃ lx bx kx, (itemF 200 l).1 = .mk lx bx kx := by
    cases (itemF 200 l).1 with
    | mk a b c => exact ⟨a, b, c, rfl⟩
  have C13 : Hid (∀ W, Below w.heap.size w W → Calls Try.prog 13 #[v] W fun e w' => ∃ l0 A0 n0 c0 B0 m0 d0, e = .returned (.agg #[.int .i64 l0, .slice A0 n0 c0, .slice B0 m0 d0]) ∧ ItemR w' (Btw W.heap.size w'.heap.size) (.mk lx bx kx) [.int .i64 l0, .slice A0 n0 c0, .slice B0 m0 d0] ∧ Below W.heap.size W w') := fun W hW => by
    have := c13 hv hS (by omega) W hW
    rwa [hx] at this
  rw [hx] at hxb
  have hbx : bx.length ≤ 1048577 := by simp only [bulk] at hxb; omega
  have hkx : kx.length ≤ 1048577 := by have := bulks_length kx; simp only [bulk] at hxb; omega
  have C15 := Lib.hid (c15 (.mk lx bx kx) (by omega))
  have D15 := Lib.hid (c15 (.mk lx bx kx) (by omega))
  have T15 : Hid (∀ (W : World) (S : Nat → Prop) (c0 c1 c2 : Value), ItemR W S (.mk lx bx kx) [c0, c1, c2] → (∀ b, S b → b < W.heap.size) → Calls Try.prog 15 #[.agg #[c0, c1, c2]] W fun e w' => ∃ l0 A0 n0 c0 B0 m0 d0, e = .returned (.agg #[.int .i64 l0, .slice A0 n0 c0, .slice B0 m0 d0]) ∧ ItemW w' (Btw W.heap.size w'.heap.size) (.mk lx bx kx) [.int .i64 l0, .slice A0 n0 c0, .slice B0 m0 d0] ∧ Below W.heap.size W w') := fun W S c0 c1 c2 hi hS =>
    (twinW15 (.mk lx bx kx) S c0 c1 c2 W hi hS (by omega)).mono fun e w' ⟨d0, d1, d2, h1, h2, h3⟩ => by
      obtain ⟨⟨fl, rfl⟩, ⟨fA, fn, fc, rfl⟩, ⟨fB, fm, fd, rfl⟩⟩ := item_shape (ItemW.r _ _ h2)
      exact ⟨_, _, _, _, _, _, _, h1, h2, h3⟩
  have C24 : Hid (∀ (W : World) (S : Nat → Prop) (c0 c1 c2 : Value), ItemR W S (.mk lx bx kx) [c0, c1, c2] → (∀ b, S b → b < W.heap.size) → Calls Try.prog 24 #[.agg #[c0, c1, c2]] W fun e w' => e = .returned (.tuple #[.int .u64 ((numF (.mk lx bx kx)).1 : Nat), .int .i64 ((numF (.mk lx bx kx)).2 : Nat)]) ∧ Below W.heap.size W w') := fun W S c0 c1 c2 hi hS => asNumber24 _ S c0 c1 c2 W hi hS
  have C32 : Hid (∀ (W : World) (S : Nat → Prop) (c0 c1 c2 : Value), ItemR W S (.mk lx bx kx) [c0, c1, c2] → (∀ b, S b → b < W.heap.size) → Calls Try.prog 32 #[.agg #[c0, c1, c2]] W fun e w' => e = .returned (.tuple #[.int .u64 ((numF (.mk lx bx kx)).1 : Nat), .int .i64 ((numF (.mk lx bx kx)).2 : Nat)]) ∧ Below W.heap.size W w') := fun W S c0 c1 c2 hi hS => rNumber32 _ S c0 c1 c2 W hi hS
  have C26 : Hid (∀ (W : World) (S : Nat → Prop) (c0 c1 c2 : Value), ItemR W S (.mk lx bx kx) [c0, c1, c2] → (∀ b, S b → b < W.heap.size) → Calls Try.prog 26 #[.agg #[c0, c1, c2]] W fun e w' => e = .returned (.tuple #[wordV (wholeF (.mk lx bx kx) 32).1, .int .i64 ((wholeF (.mk lx bx kx) 32).2 : Nat)]) ∧ Below W.heap.size W w') := fun W S c0 c1 c2 hi hS => asWhole26 _ S c0 c1 c2 W hi hS
  have C33 : Hid (∀ (W : World) (S : Nat → Prop) (c0 c1 c2 : Value), ItemR W S (.mk lx bx kx) [c0, c1, c2] → (∀ b, S b → b < W.heap.size) → Calls Try.prog 33 #[.agg #[c0, c1, c2], .int .i64 32] W fun e w' => e = .returned (.tuple #[wordV (wholeF (.mk lx bx kx) 32).1, .int .i64 ((wholeF (.mk lx bx kx) 32).2 : Nat)]) ∧ Below W.heap.size W w') := fun W S c0 c1 c2 hi hS => rWhole33 _ S c0 c1 c2 32 (by omega) W hi hS
  have C12 := Lib.hid A1.awake12
  have C34 : Hid (∀ (W : World) (S : Nat → Prop) (c0 c1 c2 : Value), ItemR W S (.mk lx bx kx) [c0, c1, c2] → (∀ b, S b → b < W.heap.size) → Calls Try.prog 34 #[.agg #[c0, c1, c2], .int .i64 least, .int .i64 most] W fun e w' => ∃ v, e = .returned (.tuple #[v, .int .i64 ((bytesF lx bx least most).2 : Nat)]) ∧ Bs w' W.heap.size w'.heap.size v (bytesF lx bx least most).1 ∧ Below W.heap.size W w') := fun W S c0 c1 c2 hi hS => asBytes34 lx bx kx S c0 c1 c2 least most W hi hS (by omega)
  have C35 : Hid (∀ (W : World) (S : Nat → Prop) (c0 c1 c2 : Value), ItemR W S (.mk lx bx kx) [c0, c1, c2] → (∀ b, S b → b < W.heap.size) → Calls Try.prog 35 #[.agg #[c0, c1, c2], .int .i64 least, .int .i64 most] W fun e w' => ∃ v, e = .returned (.tuple #[v, .int .i64 ((bytesF lx bx least most).2 : Nat)]) ∧ Bs w' W.heap.size w'.heap.size v (bytesF lx bx least most).1 ∧ Below W.heap.size W w') := fun W S c0 c1 c2 hi hS => rBytes35 lx bx kx S c0 c1 c2 least most W hi hS (by omega)
  have C36 : Hid (∀ (W : World) (S : Nat → Prop) (c0 c1 c2 : Value), ItemR W S (.mk lx bx kx) [c0, c1, c2] → (∀ b, S b → b < W.heap.size) → Calls Try.prog 36 #[.agg #[c0, c1, c2], .int .i64 least, .int .i64 most] W fun e w' => ∃ v, e = .returned (.tuple #[v, .int .i64 ((listF lx kx least most).2 : Nat)]) ∧ Ks w' (Btw W.heap.size w'.heap.size) v (listF lx kx least most).1 ∧ Below W.heap.size W w') := fun W S c0 c1 c2 hi hS => asList36 lx bx kx S c0 c1 c2 least most W hi hS (by omega)
  have C37 : Hid (∀ (W : World) (S : Nat → Prop) (c0 c1 c2 : Value), ItemR W S (.mk lx bx kx) [c0, c1, c2] → (∀ b, S b → b < W.heap.size) → Calls Try.prog 37 #[.agg #[c0, c1, c2], .int .i64 least, .int .i64 most] W fun e w' => ∃ v, e = .returned (.tuple #[v, .int .i64 ((listF lx kx least most).2 : Nat)]) ∧ Ks w' S v (listF lx kx least most).1 ∧ Below W.heap.size W w') := fun W S c0 c1 c2 hi hS => rList37 lx bx kx S c0 c1 c2 least most W hi hS
  have C38 : Hid (∀ (W : World) (S : Nat → Prop) (l0 : Int) (c1 c2 : Value), ItemW W S (.mk lx bx kx) [.int .i64 l0, c1, c2] → (∀ b, S b → b < W.heap.size) → Calls Try.prog 38 #[.agg #[.int .i64 l0, c1, c2]] W fun e w' => (∃ v, e = .returned v) ∧ Sp S W w') := fun W S l0 c1 c2 hi hS => by
    obtain ⟨_, h1, h2⟩ := ok_of (deep (.mk lx bx kx)) (.mk lx bx kx) _ _ _ hi (by omega) (Nat.le_refl _)
    exact spoil38 _ S l0 c1 c2 W h1 h2 hS
  have C17 := Lib.hid (c17 (.mk 0 [] (listF lx kx least most).1))
  have L25 : Hid (∀ W, Calls Try.prog 25 #[.int .u64 n] W fun e w' => ∃ v, e = .returned v ∧ VK (.it (.mk 0 (digits n.toNat) [])) v w' ∧ Below W.heap.size W w') := fun W => (number25 n hn W).mono fun e w' ⟨A, m, c, h1, h2, h3⟩ => ⟨_, h1, VK.of_item h2 (fun b hb => hb.2), h3⟩
  have L39 : Hid (∀ W, Calls Try.prog 39 #[.int .u64 n] W fun e w' => ∃ v, e = .returned v ∧ VK (.it (.mk 0 (digits n.toNat) [])) v w' ∧ Below W.heap.size W w') := fun W => (rNumber39 n hn W).mono fun e w' ⟨d0, d1, d2, h1, h2, h3⟩ => ⟨_, h1, VK.of_item h2 (fun b hb => hb.2), h3⟩
  have L27 : Hid (∀ W, Calls Try.prog 27 #[.agg #[.int .u64 wa, .int .u64 wb, .int .u64 wc, .int .u64 wd]] W fun e w' => ∃ v, e = .returned v ∧ VK (.it (.mk 0 (digits (val wa wb wc wd)) [])) v w' ∧ Below W.heap.size W w') := fun W => (whole27 wa wb wc wd ha hb hc hd W).mono fun e w' ⟨A, m, c, h1, h2, h3⟩ => ⟨_, h1, VK.of_item h2 (fun b hb => hb.2), h3⟩
  have L40 : Hid (∀ W, Calls Try.prog 40 #[.agg #[.int .u64 wa, .int .u64 wb, .int .u64 wc, .int .u64 wd]] W fun e w' => ∃ v, e = .returned v ∧ VK (.it (.mk 0 (digits (val wa wb wc wd)) [])) v w' ∧ Below W.heap.size W w') := fun W => (rWhole40 wa wb wc wd ha hb hc hd W).mono fun e w' ⟨d0, d1, d2, h1, h2, h3⟩ => ⟨_, h1, VK.of_item h2 (fun b hb => hb.2), h3⟩
  have L17 : Hid (∀ (y : It) (W : World) (v1 v2 : Value), VK (.it y) v1 W → VK (.it y) v2 W → Calls Try.prog 17 #[v1, v2] W fun e w' => ∃ v, e = .returned v ∧ VK (.eq (.bool true)) v w' ∧ Below W.heap.size W w') := fun y W v1 v2 h1 h2 => by
    obtain ⟨c0, c1, c2, rfl, h1⟩ := h1
    obtain ⟨e0, e1, e2, rfl, h2⟩ := h2
    exact (c17 y W _ _ _ _ _ _ _ _ h1 h2 (fun b hb => hb) (fun b hb => hb)).mono fun e w' ⟨h3, h4⟩ => ⟨_, h3, rfl, h4⟩
  have L31 : Hid (∀ (y : It) (W : World) (v1 v2 : Value), VK (.it y) v1 W → VK (.it y) v2 W → Calls Try.prog 31 #[v1, v2] W fun e w' => ∃ v, e = .returned v ∧ VK (.eq (.bool true)) v w' ∧ Below W.heap.size W w') := fun y W v1 v2 h1 h2 => by
    obtain ⟨c0, c1, c2, rfl, h1⟩ := h1
    obtain ⟨e0, e1, e2, rfl, h2⟩ := h2
    exact (T4.same31 y y _ _ _ _ _ _ _ _ W h1 h2 (fun b hb => hb) (fun b hb => hb)).mono fun e w' ⟨b, h3, h4, h5⟩ => ⟨_, h3, by rw [h4.2 rfl]; rfl, h5⟩
  have L15 : Hid (∀ (W : World) (v1 : Value), VK (.it (.mk lx bx kx)) v1 W → Calls Try.prog 15 #[v1] W fun e w' => ∃ v, e = .returned v ∧ VK (.it (.mk lx bx kx)) v w' ∧ Below W.heap.size W w') := fun W v1 h1 => by
    obtain ⟨c0, c1, c2, rfl, h1⟩ := h1
    exact (F1.twin15 (.mk lx bx kx) _ c0 c1 c2 W h1 (fun b hb => hb) (by omega)).mono fun e w' ⟨d0, d1, d2, h3, h4, h5⟩ => ⟨_, h3, VK.of_item h4 (fun b hb => hb.2), h5⟩
  have L18 : Hid (∀ (b : List UInt8) (W : World) (v1 : Value), b.length ≤ 1048577 → VK (.bs b) v1 W → Calls Try.prog 18 #[v1] W fun e w' => ∃ v, e = .returned v ∧ VK (.bs b) v w' ∧ Below W.heap.size W w') := fun b W v1 hl h1 => (F1.bytes18 0 W.heap.size v1 b W h1 (Nat.le_refl _) (by omega)).mono fun e w' ⟨v', h3, h4, h5⟩ => ⟨_, h3, h4.bs.wide (Nat.zero_le _) (Nat.le_refl _), h5⟩
  have L41 : Hid (∀ (b : List UInt8) (W : World) (v1 : Value), b.length ≤ 1048577 → VK (.bs b) v1 W → Calls Try.prog 41 #[v1] W fun e w' => ∃ v, e = .returned v ∧ VK (.it (.mk 0 b [])) v w' ∧ Below W.heap.size W w') := fun b W v1 hl h1 => (G5.text41 0 W.heap.size v1 b W h1 (Nat.le_refl _) (by omega)).mono fun e w' ⟨d1, h3, h4, h5⟩ => ⟨_, h3, VK.of_item h4 (fun b hb => hb.2), h5⟩
  have L42 : Hid (∀ (b : List UInt8) (W : World) (v1 : Value), b.length ≤ 1048577 → VK (.bs b) v1 W → Calls Try.prog 42 #[v1] W fun e w' => ∃ v, e = .returned v ∧ VK (.it (.mk 0 b [])) v w' ∧ Below W.heap.size W w') := fun b W v1 hl h1 => (rText42 0 W.heap.size v1 b W h1 (Nat.le_refl _) (by omega)).mono fun e w' ⟨d1, h3, h4, h5⟩ => ⟨_, h3, VK.of_item h4 (fun b hb => hb.2), h5⟩
  have L43 : Hid (∀ (W : World) (v1 : Value), VK (.ks [.mk lx bx kx, .mk lx bx kx]) v1 W → Calls Try.prog 43 #[v1] W fun e w' => ∃ v, e = .returned v ∧ VK (.it (.mk 1 [] [.mk lx bx kx, .mk lx bx kx])) v w' ∧ Below W.heap.size W w') := fun W v1 h1 => by
    obtain ⟨A, c, inner, rfl, h1, h2, h3, h4⟩ := h1
    exact (G4.list43 _ A c _ inner W h1 h2 h3 h4 (fun b hb => hb) (by simp only [bulks]; omega)).mono fun e w' ⟨d0, d1, d2, h3, h4, h5⟩ => ⟨_, h3, VK.of_item h4 (fun b hb => hb.2), h5⟩
  have L44 : Hid (∀ (W : World) (v1 : Value), VK (.ks [.mk lx bx kx, .mk lx bx kx]) v1 W → Calls Try.prog 44 #[v1] W fun e w' => ∃ v, e = .returned v ∧ VK (.it (.mk 1 [] [.mk lx bx kx, .mk lx bx kx])) v w' ∧ Below W.heap.size W w') := fun W v1 h1 => by
    obtain ⟨A, c, inner, rfl, h1, h2, h3, h4⟩ := h1
    exact (rList44 _ A c _ inner W h1 h2 h3 h4 (fun b hb => hb) (by simp)).mono fun e w' ⟨d0, d1, d2, h3, h4, h5⟩ => ⟨_, h3, VK.of_item h4 (fun b hb => hb), h5⟩
  have HN := Lib.hid hn
  have HW := Lib.hid (show _ ∧ _ ∧ _ ∧ _ from ⟨ha, hb, hc, hd⟩)
  have hneq := neq_same ((limbN (wholeF (.mk lx bx kx) 32).1 0 : Nat)) ((limbN (wholeF (.mk lx bx kx) 32).1 1 : Nat)) ((limbN (wholeF (.mk lx bx kx) 32).1 2 : Nat)) ((limbN (wholeF (.mk lx bx kx) 32).1 3 : Nat))
  generalize (wholeF (.mk lx bx kx) 32) = wf at *
  generalize (numF (.mk lx bx kx)) = nf at *
  generalize hbf : bytesF lx bx least most = bf at *
  have HBFL : Hid (bf.1.length ≤ 1048577) := (show _ ≤ _ from by rw [← hbf]; exact Nat.le_trans (bytesF_len lx bx least most) hbx)
  generalize listF lx kx least most = lf at *
  have HXB := Lib.hid hxb
  obtain ⟨vA, vn, vc, rfl⟩ : ∃ A n c, v = .slice A n c := by obtain ⟨A, c, inner, rfl, _⟩ := hv; exact ⟨_, _, _, rfl⟩
  clear hv hS hl hn ha hb hc hd hx hxb hbx hkx hbf
  generalize It.mk lx bx kx = x at *
  simp only [wordV] at C26 C33
  generalize ((limbN wf.1 0 : Nat) : Int) = p0 at *
  generalize ((limbN wf.1 1 : Nat) : Int) = p1 at *
  generalize ((limbN wf.1 2 : Nat) : Int) = p2 at *
  generalize ((limbN wf.1 3 : Nat) : Int) = p3 at *
  go_enter Try.func11, Try.ntmps11
  go_wp2_with (first
    | (go_at_call 13; refine (C13.out _ (below_new _ _)).mono ?_
       rintro e w2 ⟨l2, A2, n2, c2, B2, m2, d2, rfl, hi2, hb2⟩
       have HI2 : Hid (ItemR w2 (fun b => b < w2.heap.size) x [.int .i64 l2, .slice A2 n2 c2, .slice B2 m2 d2]) := ItemR.wide (fun b hb => hb.2) _ _ hi2
       have HB2 : Hid (Below (w.heap.size + 1) (w.alloc (.cells #[.int .u64 wa, .int .u64 wb, .int .u64 wc, .int .u64 wd] 57)) w2) := hb2.mono (by rw [size_alloc]; omega)
       clear hi2 hb2)
    | (go_at_call 15; refine (C15.out _ _ _ _ _ (item_later HI2.out (fun b hb => hb) (below_new _ _)) (fun b hb => by rw [size_alloc]; omega)).mono ?_
       rintro e w3 ⟨l3, A3, n3, c3, B3, m3, d3, rfl, hi3, hb3⟩
       have HI3 := Lib.hid hi3
       have K3 : Hid (Kx w2 #[.int .i64 l2, .slice A2 n2 c2, .slice B2 m2 d2] w3) := (Kx.start _ _).step hb3
       clear hi3 hb3 C15)
    | (go_at_call 24; refine (C24.out _ _ _ _ _ HI3.out (fun b hb => hb.2)).mono ?_
       rintro e w4 ⟨rfl, hb4⟩
       have K4 := Lib.hid (K3.out.step hb4)
       obtain ⟨x0, x1, x2, x3⟩ := block_cells K4.out.block
       clear hb4 K3)
    | (go_at_call 32; refine (C32.out _ _ _ _ _ (item_later HI2.out (fun b hb => hb) K4.out.below) (fun b hb => Nat.lt_trans hb K4.out.lt)).mono ?_
       rintro e w5 ⟨rfl, hb5⟩
       have K5 := Lib.hid (K4.out.step hb5)
       clear x0 x1 x2 x3
       obtain ⟨x0, x1, x2, x3⟩ := block_cells K5.out.block
       clear hb5 K4)
    | (go_at_call 15; refine (D15.out _ _ _ _ _ (item_later HI2.out (fun b hb => hb) K5.out.below) (fun b hb => Nat.lt_trans hb K5.out.lt)).mono ?_
       rintro e w6 ⟨l6, A6, n6, c6, B6, m6, d6, rfl, hi6, hb6⟩
       have HI6 := Lib.hid hi6
       have K6 := Lib.hid (K5.out.step hb6)
       clear hi6 hb6 D15 K5 x0 x1 x2 x3)
    | (go_at_call 26; refine (C26.out _ _ _ _ _ HI6.out (fun b hb => hb.2)).mono ?_
       rintro e w7 ⟨rfl, hb7⟩
       have K7 := Lib.hid (K6.out.step hb7)
       obtain ⟨x0, x1, x2, x3⟩ := block_cells K7.out.block
       have hz7 := K7.out.lt
       clear hb7 K6)
    | (go_at_call 33; refine (C33.out _ _ _ _ _ (item_later HI2.out (fun b hb => hb) (K7.out.alloc _).below) (fun b hb => Nat.lt_trans hb (K7.out.alloc _).lt)).mono ?_
       rintro e w8 ⟨rfl, hb8⟩
       have K8 := Lib.hid ((K7.out.alloc (.cells #[.int .u64 p0, .int .u64 p1, .int .u64 p2, .int .u64 p3] 57)).step hb8)
       have hx7 := (hb8.block w7.heap.size (by rw [size_alloc]; omega)).trans (block_new _ _)
       have g0 : w8.cell? ⟨w7.heap.size, 0, none⟩ = some (.int .u64 p0) := by simp [World.cell?, hx7]
       have g1 : w8.cell? ⟨w7.heap.size, 1, none⟩ = some (.int .u64 p1) := by simp [World.cell?, hx7]
       have g2 : w8.cell? ⟨w7.heap.size, 2, none⟩ = some (.int .u64 p2) := by simp [World.cell?, hx7]
       have g3 : w8.cell? ⟨w7.heap.size, 3, none⟩ = some (.int .u64 p3) := by simp [World.cell?, hx7]
       have hz8 : w7.heap.size < w8.heap.size := (Array.getElem?_eq_some_iff.1 hx7).1
       clear hb8 K7 x0 x1 x2 x3 hz7 hx7)
    | (go_at_call 12; refine (C12.out _).mono ?_
       rintro e w9 ⟨rfl, hb9⟩
       have K9 := Lib.hid ((K8.out.alloc (.cells #[.int .u64 p0, .int .u64 p1, .int .u64 p2, .int .u64 p3] 57)).step hb9)
       obtain ⟨x0, x1, x2, x3⟩ := block_cells K9.out.block
       clear hb9 K8 C12 g0 g1 g2 g3 hz8 hneq)
    | (go_at_call 15; refine (T15.out _ _ _ _ _ (item_later HI2.out (fun b hb => hb) K9.out.below) (fun b hb => Nat.lt_trans hb K9.out.lt)).mono ?_
       rintro e w10 ⟨l10, A10, n10, c10, B10, m10, d10, rfl, hi10, hb10⟩
       have HI10 := Lib.hid hi10
       have K10 := Lib.hid (K9.out.step hb10)
       have HZ9 := Lib.hid K9.out.lt
       clear hi10 hb10 T15 K9 x0 x1 x2 x3)
    | (go_at_call 34; refine (C34.out _ _ _ _ _ (item_later (ItemW.r _ _ HI10.out) (fun b hb => hb.2) (below_new _ _)) (fun b hb => by have := hb.2; rw [size_alloc]; omega)).mono ?_
       rintro e w11 ⟨s, rfl, hs11, hb11⟩
       obtain ⟨As, ns, cs, rfl⟩ := bs_shape hs11
       have HS11 := Lib.hid hs11
       have HZ11 : Hid (w10.heap.size < w11.heap.size) := (show _ < _ from by have := hb11.size; rw [size_alloc] at this; omega)
       have K11 := Lib.hid ((K10.out.alloc (.cells #[.int .i64 l10, .slice A10 n10 c10, .slice B10 m10 d10] 27)).step hb11)
       have T11 : Hid (Kx w10 #[.int .i64 l10, .slice A10 n10 c10, .slice B10 m10 d10] w11) := (Kx.start _ _).step hb11
       obtain ⟨x0, x1, x2, x3⟩ := block_cells K11.out.block
       clear hs11 hb11 K10 C34)
    | (go_at_call 35; refine (C35.out _ _ _ _ _ (item_later HI2.out (fun b hb => hb) K11.out.below) (fun b hb => Nat.lt_trans hb K11.out.lt)).mono ?_
       rintro e w12 ⟨u, rfl, hs12, hb12⟩
       obtain ⟨Au, nu, cu, rfl⟩ := bs_shape hs12
       have HS12 := Lib.hid hs12
       have K12 := Lib.hid (K11.out.step hb12)
       have T12 := Lib.hid (T11.out.step hb12)
       have HU11 := Lib.hid (HS11.out.keep (Same.of_below hb12 (Nat.le_refl _)))
       have HZ12 := Lib.hid hb12.size
       clear x0 x1 x2 x3
       obtain ⟨t0, t1, t2, t3⟩ := block_cells T12.out.block
       clear hs12 hb12 K11 T11 C35)
    | (go_at_call 36; refine (C36.out _ _ _ _ _ (item_later (ItemW.r _ _ HI10.out) (fun b hb => hb.2) T12.out.below) (fun b hb => Nat.lt_trans hb.2 T12.out.lt)).mono ?_
       rintro e w13 ⟨v13, rfl, hk13, hb13⟩
       obtain ⟨Av, nv, cv, rfl⟩ := ks_shape hk13
       have HK13 := Lib.hid hk13
       have K13 := Lib.hid (K12.out.step hb13)
       have T13 := Lib.hid (T12.out.step hb13)
       have HB13 := Lib.hid hb13
       clear t0 t1 t2 t3
       obtain ⟨x0, x1, x2, x3⟩ := block_cells K13.out.block
       clear hk13 hb13 K12 T12 C36)
    | (go_at_call 37; refine (C37.out _ _ _ _ _ (item_later HI2.out (fun b hb => hb) K13.out.below) (fun b hb => Nat.lt_trans hb K13.out.lt)).mono ?_
       rintro e w14 ⟨v14, rfl, hk14, hb14⟩
       obtain ⟨Az, nz, cz, rfl⟩ := ks_shape hk14
       have K14 := Lib.hid (K13.out.step hb14)
       have T14 := Lib.hid (T13.out.step hb14)
       have HV := Lib.hid (Ks.later HK13.out (fun b hb => hb.2) hb14)
       have HZ := Lib.hid hk14
       have hb12_14 : Below w12.heap.size w12 w14 := HB13.out.trans (hb14.mono HB13.out.size)
       have US := Lib.hid (HU11.out.keep (Same.of_below hb12_14 HZ12.out))
       have UU := Lib.hid (HS12.out.keep (Same.of_below hb12_14 (Nat.le_refl _)))
       have k1 := str_bs US.out
       have k2 := str_bs UU.out
       have HZZ : Hid (w11.heap.size ≤ w12.heap.size ∧ w12.heap.size ≤ w14.heap.size ∧ w13.heap.size ≤ w14.heap.size) := ⟨HZ12.out, hb12_14.size, hb14.size⟩
       clear x0 x1 x2 x3 hk14 hb14 C37 HK13 K13 T13 hb12_14 HB13 HU11 HS12 HZ12)
    | (go_at_call 17; refine (C17.out _ _ _ _ _ _ _ _ _ (item_ks HV.out) (item_ks HZ.out) (fun b hb => Nat.lt_of_lt_of_le hb.2 HZZ.out.2.2) (fun b hb => Nat.lt_trans hb K14.out.lt)).mono ?_
       rintro e w15 ⟨rfl, hb15⟩
       have K15 := Lib.hid (K14.out.step hb15)
       have T15 := Lib.hid (T14.out.step hb15)
       have US5 := Lib.hid (US.out.keep (Same.of_below hb15 (Nat.le_trans HZZ.out.1 HZZ.out.2.1)))
       have UU5 := Lib.hid (UU.out.keep (Same.of_below hb15 HZZ.out.2.1))
       have HZ5 : Hid (w11.heap.size ≤ w12.heap.size ∧ w12.heap.size ≤ w15.heap.size) := ⟨HZZ.out.1, Nat.le_trans HZZ.out.2.1 hb15.size⟩
       obtain ⟨t0, t1, t2, t3⟩ := block_cells T15.out.block
       clear hb15 C17 K14 T14 US UU HZZ HV HZ k1 k2)
    | (go_at_call 38; refine (C38.out _ _ _ _ _ (ItemW.keep (fun b hb => T15.out.below.block b hb.2) _ _ HI10.out) (fun b hb => Nat.lt_trans hb.2 T15.out.lt)).mono ?_
       rintro e w16 ⟨⟨v16, rfl⟩, hsp⟩
       have HSP := Lib.hid hsp
       clear hsp C38 t0 t1 t2 t3))
  obtain ⟨hz11, hz5, hz9, hzt⟩ : w10.heap.size < w11.heap.size ∧ (w11.heap.size ≤ w12.heap.size ∧ w12.heap.size ≤ w15.heap.size) ∧ w2.heap.size < w9.heap.size ∧ w10.heap.size < w15.heap.size := ⟨HZ11.out, HZ5.out, HZ9.out, T15.out.lt⟩
  have hz2 : w.heap.size < w2.heap.size := by have := HB2.out.size; rw [size_alloc] at this; omega
  have hz215 := K15.out.lt
  have hz16 := HSP.out.size
  have same : ∀ k, k < w15.heap.size → (k < w9.heap.size ∨ w10.heap.size ≤ k) → w16.heap[k]? = w15.heap[k]? := fun k hk h => HSP.out.out k hk (fun hs => by have h1 := hs.1; have h2 := hs.2; omega)
  have hB16 : Below w.heap.size w w16 := by
    have h15 : Below w.heap.size w w15 := ((below_new w _).trans (HB2.out.mono (by omega))).trans (K15.out.below.mono (by omega))
    exact ⟨HSP.out.os.trans h15.os, HSP.out.tape.trans h15.tape, HSP.out.output.trans h15.output, Nat.le_trans h15.size HSP.out.size, fun k hk => (same k (by omega) (.inl (by omega))).trans (h15.block k hk)⟩
  have hx16 : w16.heap[w2.heap.size]? = some (.cells #[.int .i64 l2, .slice A2 n2 c2, .slice B2 m2 d2] 27 (0, 0)) := (same _ (by omega) (.inl (by omega))).trans K15.out.block
  have hw16 : w16.heap[w.heap.size]? = some (.cells #[.int .u64 wa, .int .u64 wb, .int .u64 wc, .int .u64 wd] 57 (0, 0)) := (same _ (by omega) (.inl (by omega))).trans ((K15.out.below.block w.heap.size hz2).trans ((HB2.out.block w.heap.size (by omega)).trans (block_new _ _)))
  have hi16 : ItemR w16 (fun b => b < w2.heap.size) x [.int .i64 l2, .slice A2 n2 c2, .slice B2 m2 d2] := ItemR.keep (fun b hb => (same b (by omega) (.inl (by omega))).trans (K15.out.below.block b hb)) _ _ HI2.out
  have hs16 : Bs w16 (w10.alloc (.cells #[.int .i64 l10, .slice A10 n10 c10, .slice B10 m10 d10] 27)).heap.size w11.heap.size (.slice As ns cs) bf.1 := US5.out.keep (fun k h1 h2 => same k (by omega) (.inr (by rw [size_alloc] at h1; omega)))
  have hu16 : Bs w16 w11.heap.size w12.heap.size (.slice Au nu cu) bf.1 := UU5.out.keep (fun k h1 h2 => same k (by omega) (.inr (by omega)))
  have HX6 : Hid (∀ W, Below w16.heap.size w16 W → W.heap[w2.heap.size]? = some (.cells #[.int .i64 l2, .slice A2 n2 c2, .slice B2 m2 d2] 27 (0, 0))) := fun W hW => (hW.block _ (by omega)).trans hx16
  have HW6 : Hid (∀ W, Below w16.heap.size w16 W → W.heap[w.heap.size]? = some (.cells #[.int .u64 wa, .int .u64 wb, .int .u64 wc, .int .u64 wd] 57 (0, 0))) := fun W hW => (hW.block _ (by omega)).trans hw16
  have HXI : Hid (∀ W, Below w16.heap.size w16 W → VK (.it x) (.agg #[.int .i64 l2, .slice A2 n2 c2, .slice B2 m2 d2]) W) := fun W hW => VK.of_item (item_later hi16 (fun b hb => (by omega : b < w16.heap.size)) hW) (fun b hb => by have := hW.size; omega)
  obtain ⟨q, hq⟩ : ∃ q, q = strOf bf.1 := ⟨_, rfl⟩
  have US6 : Hid (∀ W, Below w16.heap.size w16 W → (convert 23 9 (.slice As ns cs)).run Try.prog W = .ok (.string q) W) := fun W hW => by rw [hq]; exact str_bs (hs16.keep (Same.of_below hW (by omega)))
  have UU6 : Hid (∀ W, Below w16.heap.size w16 W → (convert 23 9 (.slice Au nu cu)).run Try.prog W = .ok (.string q) W) := fun W hW => by rw [hq]; exact str_bs (hu16.keep (Same.of_below hW (by omega)))
  have UB6 : Hid (∀ W, Below w16.heap.size w16 W → VK (.bs bf.1) (.slice Au nu cu) W) := fun W hW => (hu16.keep (Same.of_below hW (by omega))).wide (Nat.zero_le _) (by have := hW.size; omega)
  have HB16 := Lib.hid hB16
  clear hz11 hz5 hz9 hzt hz2 hz215 same hB16 hx16 hw16 hi16 hs16 hu16 hz16 hq HSP US5 UU5 HZ5 K15 T15 HI2 HI10 HB2 HZ9 HZ11 HS11
  refine wp_region_each sl (fun j => VK ((kdL (.slice As ns cs) (.slice Au nu cu) (.agg #[.int .i64 l2, .slice A2 n2 c2, .slice B2 m2 d2]) (.agg #[.int .u64 wa, .int .u64 wb, .int .u64 wc, .int .u64 wd]) q n bf.1 x (.mk 0 (digits n.toNat) []) (.mk 0 (digits (val wa wb wc wd)) [])).getD j (.eq undef))) (fun W => Below w16.heap.size w16 W) (by kernel_rfl) ?slots (Below.refl _ _).drew (fun j v w w' h hb => VK.keep hb h) ?steps ?fin
  case slots => exact (show slotsB _ sl 173 = true from by decide +kernel)
  case fin =>
    intro a' W' hi hsz hdf ho hall
    obtain ⟨v47, e47, h47⟩ := hall 47 (by decide)
    change v47 = _ at h47
    subst h47
    go_wp2
    have e10 : a'.tmps[10]? = some (.bool true) := e47
    exact bodyPost_ret (v := .bool true) (by simp [results, Try.results11, go_sem, e10]) hdf ⟨rfl, HB16.out.trans (hi.mono HB16.out.size)⟩
  case steps =>
    refine Steps.cons ?_ ?_
    · -- operation 0
      intro a w' hi hd ho hf
      have f21 : a.eval (.tmp 21) = _ := eval_of ((ho 21 (by decide)).trans (show _ = some (.slice As ns cs) from rfl))
      refine ⟨wanted_none rfl, ?_⟩
      refine fin_val (run_move a.eval w' _ _ rfl) ?_ hi (Below.refl _ _)
      exact f21
    refine Steps.cons ?_ ?_
    · -- operation 1
      intro a w' hi hd ho hf
      obtain ⟨v0, e0, h0⟩ := hf 0 (by rfl)
      change v0 = _ at h0; subst h0
      have f126 : a.eval (.tmp 126) = _ := eval_of e0
      refine ⟨wanted_none rfl, ?_⟩
      exact fin_val (run_conv a.eval w' _ 23 9 _ _ rfl (by rw [f126]; exact US6.out w' hi)) rfl hi (Below.refl _ _)
    refine Steps.cons ?_ ?_
    · -- operation 2
      intro a w' hi hd ho hf
      have f22 : a.eval (.tmp 22) = _ := eval_of ((ho 22 (by decide)).trans (show _ = some (.slice Au nu cu) from rfl))
      refine ⟨wanted_none rfl, ?_⟩
      refine fin_val (run_move a.eval w' _ _ rfl) ?_ hi (Below.refl _ _)
      exact f22
    refine Steps.cons ?_ ?_
    · -- operation 3
      intro a w' hi hd ho hf
      obtain ⟨v2, e2, h2⟩ := hf 2 (by rfl)
      change v2 = _ at h2; subst h2
      have f128 : a.eval (.tmp 128) = _ := eval_of e2
      refine ⟨wanted_none rfl, ?_⟩
      exact fin_val (run_conv a.eval w' _ 23 9 _ _ rfl (by rw [f128]; exact UU6.out w' hi)) rfl hi (Below.refl _ _)
    refine Steps.cons ?_ ?_
    · -- operation 4
      intro a w' hi hd ho hf
      obtain ⟨v1, e1, h1⟩ := hf 1 (by rfl)
      change v1 = _ at h1; subst h1
      obtain ⟨v3, e3, h3⟩ := hf 3 (by rfl)
      change v3 = _ at h3; subst h3
      have f127 : a.eval (.tmp 127) = _ := eval_of e1
      have f129 : a.eval (.tmp 129) = _ := eval_of e3
      refine ⟨wanted_none rfl, ?_⟩
      exact fin_val (run_eql a.eval w' _ q _ _ rfl f127 f129) rfl hi (Below.refl _ _)
    refine Steps.cons ?_ ?_
    · -- operation 5
      intro a w' hi hd ho hf
      obtain ⟨v4, e4, h4⟩ := hf 4 (by rfl)
      change v4 = _ at h4; subst h4
      have f130 : a.eval (.tmp 130) = _ := eval_of e4
      refine ⟨wanted_none rfl, ?_⟩
      refine fin_val (run_move a.eval w' _ _ rfl) ?_ hi (Below.refl _ _)
      exact f130
    refine Steps.cons ?_ ?_
    · -- operation 6
      intro a w' hi hd ho hf
      obtain ⟨v5, e5, h5⟩ := hf 5 (by rfl)
      change v5 = _ at h5; subst h5
      have f1 : a.eval (.tmp 1) = _ := eval_of ((ho 1 (by decide)).trans (show _ = some (.int .u64 n) from rfl))
      refine ⟨wanted_of (by rfl) (by rfl) (by rfl) e5, ?_⟩
      refine fin_val (run_move a.eval w' _ _ rfl) ?_ hi (Below.refl _ _)
      exact f1
    refine Steps.cons ?_ ?_
    · -- operation 7
      intro a w' hi hd ho hf
      obtain ⟨v6, e6, h6⟩ := hf 6 (by rfl)
      change v6 = _ at h6; subst h6
      obtain ⟨v5, e5, h5⟩ := hf 5 (by rfl)
      change v5 = _ at h5; subst h5
      have f132 : a.eval (.tmp 132) = _ := eval_of e6
      refine ⟨wanted_of (by rfl) (by rfl) (by rfl) e5, ?_⟩
      exact fin_call (run_call a.eval w' _ 25 #[.tmp 132] _ _ rfl rfl (by simp only [List.map_toArray, List.map_cons, List.map_nil, f132]) (enters_of Try.func25 (by kernel_rfl) rfl)) (L25.out w') (fun W hW => hi.trans (hW.mono hi.size))
    refine Steps.cons ?_ ?_
    · -- operation 8
      intro a w' hi hd ho hf
      obtain ⟨v5, e5, h5⟩ := hf 5 (by rfl)
      change v5 = _ at h5; subst h5
      have f1 : a.eval (.tmp 1) = _ := eval_of ((ho 1 (by decide)).trans (show _ = some (.int .u64 n) from rfl))
      refine ⟨wanted_of (by rfl) (by rfl) (by rfl) e5, ?_⟩
      refine fin_val (run_move a.eval w' _ _ rfl) ?_ hi (Below.refl _ _)
      exact f1
    refine Steps.cons ?_ ?_
    · -- operation 9
      intro a w' hi hd ho hf
      obtain ⟨v8, e8, h8⟩ := hf 8 (by rfl)
      change v8 = _ at h8; subst h8
      obtain ⟨v5, e5, h5⟩ := hf 5 (by rfl)
      change v5 = _ at h5; subst h5
      have f134 : a.eval (.tmp 134) = _ := eval_of e8
      refine ⟨wanted_of (by rfl) (by rfl) (by rfl) e5, ?_⟩
      exact fin_call (run_call a.eval w' _ 39 #[.tmp 134] _ _ rfl rfl (by simp only [List.map_toArray, List.map_cons, List.map_nil, f134]) (enters_of Try.func39 (by kernel_rfl) rfl)) (L39.out w') (fun W hW => hi.trans (hW.mono hi.size))
    refine Steps.cons ?_ ?_
    · -- operation 10
      intro a w' hi hd ho hf
      obtain ⟨v7, e7, h7⟩ := hf 7 (by rfl)
      obtain ⟨v9, e9, h9⟩ := hf 9 (by rfl)
      obtain ⟨v5, e5, h5⟩ := hf 5 (by rfl)
      change v5 = _ at h5; subst h5
      have f133 : a.eval (.tmp 133) = _ := eval_of e7
      have f135 : a.eval (.tmp 135) = _ := eval_of e9
      refine ⟨wanted_of (by rfl) (by rfl) (by rfl) e5, ?_⟩
      exact fin_call (run_call a.eval w' _ 17 #[.tmp 133, .tmp 135] _ _ rfl rfl (by simp only [List.map_toArray, List.map_cons, List.map_nil, f133, f135]) (enters_of Try.func17 (by kernel_rfl) rfl)) (L17.out _ w' _ _ h7 h9) (fun W hW => hi.trans (hW.mono hi.size))
    refine Steps.cons ?_ ?_
    · -- operation 11
      intro a w' hi hd ho hf
      obtain ⟨v5, e5, h5⟩ := hf 5 (by rfl)
      change v5 = _ at h5; subst h5
      obtain ⟨v10, e10, h10⟩ := hf 10 (by rfl)
      change v10 = _ at h10; subst h10
      have f131 : a.eval (.tmp 131) = _ := eval_of e5
      have f136 : a.eval (.tmp 136) = _ := eval_of e10
      refine ⟨wanted_none rfl, ?_⟩
      refine fin_val (run_pick a.eval w' _ _ _ _ rfl f131) ?_ hi (Below.refl _ _)
      exact f136
    refine Steps.cons ?_ ?_
    · -- operation 12
      intro a w' hi hd ho hf
      obtain ⟨v11, e11, h11⟩ := hf 11 (by rfl)
      change v11 = _ at h11; subst h11
      have f137 : a.eval (.tmp 137) = _ := eval_of e11
      refine ⟨wanted_none rfl, ?_⟩
      refine fin_val (run_move a.eval w' _ _ rfl) ?_ hi (Below.refl _ _)
      exact f137
    refine Steps.cons ?_ ?_
    · -- operation 13
      intro a w' hi hd ho hf
      obtain ⟨v12, e12, h12⟩ := hf 12 (by rfl)
      change v12 = _ at h12; subst h12
      have f7 : a.eval (.tmp 7) = _ := eval_of ((ho 7 (by decide)).trans (show _ = some (.pointer (some ⟨w.heap.size, 0, none⟩)) from rfl))
      refine ⟨wanted_of (by rfl) (by rfl) (by rfl) e12, ?_⟩
      exact fin_val (run_load57 a.eval w' _ _ _ _ _ _ _ rfl f7 (HW6.out w' hi)) rfl hi (Below.refl _ _)
    refine Steps.cons ?_ ?_
    · -- operation 14
      intro a w' hi hd ho hf
      obtain ⟨v13, e13, h13⟩ := hf 13 (by rfl)
      change v13 = _ at h13; subst h13
      obtain ⟨v12, e12, h12⟩ := hf 12 (by rfl)
      change v12 = _ at h12; subst h12
      have f139 : a.eval (.tmp 139) = _ := eval_of e13
      refine ⟨wanted_of (by rfl) (by rfl) (by rfl) e12, ?_⟩
      exact fin_call (run_call a.eval w' _ 27 #[.tmp 139] _ _ rfl rfl (by simp only [List.map_toArray, List.map_cons, List.map_nil, f139]) (enters_of Try.func27 (by kernel_rfl) rfl)) (L27.out w') (fun W hW => hi.trans (hW.mono hi.size))
    refine Steps.cons ?_ ?_
    · -- operation 15
      intro a w' hi hd ho hf
      obtain ⟨v12, e12, h12⟩ := hf 12 (by rfl)
      change v12 = _ at h12; subst h12
      have f7 : a.eval (.tmp 7) = _ := eval_of ((ho 7 (by decide)).trans (show _ = some (.pointer (some ⟨w.heap.size, 0, none⟩)) from rfl))
      refine ⟨wanted_of (by rfl) (by rfl) (by rfl) e12, ?_⟩
      exact fin_val (run_load57 a.eval w' _ _ _ _ _ _ _ rfl f7 (HW6.out w' hi)) rfl hi (Below.refl _ _)
    refine Steps.cons ?_ ?_
    · -- operation 16
      intro a w' hi hd ho hf
      obtain ⟨v15, e15, h15⟩ := hf 15 (by rfl)
      change v15 = _ at h15; subst h15
      obtain ⟨v12, e12, h12⟩ := hf 12 (by rfl)
      change v12 = _ at h12; subst h12
      have f141 : a.eval (.tmp 141) = _ := eval_of e15
      refine ⟨wanted_of (by rfl) (by rfl) (by rfl) e12, ?_⟩
      exact fin_call (run_call a.eval w' _ 40 #[.tmp 141] _ _ rfl rfl (by simp only [List.map_toArray, List.map_cons, List.map_nil, f141]) (enters_of Try.func40 (by kernel_rfl) rfl)) (L40.out w') (fun W hW => hi.trans (hW.mono hi.size))
    refine Steps.cons ?_ ?_
    · -- operation 17
      intro a w' hi hd ho hf
      obtain ⟨v14, e14, h14⟩ := hf 14 (by rfl)
      obtain ⟨v16, e16, h16⟩ := hf 16 (by rfl)
      obtain ⟨v12, e12, h12⟩ := hf 12 (by rfl)
      change v12 = _ at h12; subst h12
      have f140 : a.eval (.tmp 140) = _ := eval_of e14
      have f142 : a.eval (.tmp 142) = _ := eval_of e16
      refine ⟨wanted_of (by rfl) (by rfl) (by rfl) e12, ?_⟩
      exact fin_call (run_call a.eval w' _ 17 #[.tmp 140, .tmp 142] _ _ rfl rfl (by simp only [List.map_toArray, List.map_cons, List.map_nil, f140, f142]) (enters_of Try.func17 (by kernel_rfl) rfl)) (L17.out _ w' _ _ h14 h16) (fun W hW => hi.trans (hW.mono hi.size))
    refine Steps.cons ?_ ?_
    · -- operation 18
      intro a w' hi hd ho hf
      obtain ⟨v12, e12, h12⟩ := hf 12 (by rfl)
      change v12 = _ at h12; subst h12
      obtain ⟨v17, e17, h17⟩ := hf 17 (by rfl)
      change v17 = _ at h17; subst h17
      have f138 : a.eval (.tmp 138) = _ := eval_of e12
      have f143 : a.eval (.tmp 143) = _ := eval_of e17
      refine ⟨wanted_none rfl, ?_⟩
      refine fin_val (run_pick a.eval w' _ _ _ _ rfl f138) ?_ hi (Below.refl _ _)
      exact f143
    refine Steps.cons ?_ ?_
    · -- operation 19
      intro a w' hi hd ho hf
      obtain ⟨v18, e18, h18⟩ := hf 18 (by rfl)
      change v18 = _ at h18; subst h18
      have f144 : a.eval (.tmp 144) = _ := eval_of e18
      refine ⟨wanted_none rfl, ?_⟩
      refine fin_val (run_move a.eval w' _ _ rfl) ?_ hi (Below.refl _ _)
      exact f144
    refine Steps.cons ?_ ?_
    · -- operation 20
      intro a w' hi hd ho hf
      obtain ⟨v19, e19, h19⟩ := hf 19 (by rfl)
      change v19 = _ at h19; subst h19
      have f22 : a.eval (.tmp 22) = _ := eval_of ((ho 22 (by decide)).trans (show _ = some (.slice Au nu cu) from rfl))
      refine ⟨wanted_of (by rfl) (by rfl) (by rfl) e19, ?_⟩
      refine fin_val (run_move a.eval w' _ _ rfl) ?_ hi (Below.refl _ _)
      exact f22
    refine Steps.cons ?_ ?_
    · -- operation 21
      intro a w' hi hd ho hf
      obtain ⟨v20, e20, h20⟩ := hf 20 (by rfl)
      change v20 = _ at h20; subst h20
      obtain ⟨v19, e19, h19⟩ := hf 19 (by rfl)
      change v19 = _ at h19; subst h19
      have f146 : a.eval (.tmp 146) = _ := eval_of e20
      refine ⟨wanted_of (by rfl) (by rfl) (by rfl) e19, ?_⟩
      exact fin_call (run_call a.eval w' _ 18 #[.tmp 146] _ _ rfl rfl (by simp only [List.map_toArray, List.map_cons, List.map_nil, f146]) (enters_of Try.func18 (by kernel_rfl) rfl)) (L18.out bf.1 w' _ HBFL.out (UB6.out w' hi)) (fun W hW => hi.trans (hW.mono hi.size))
    refine Steps.cons ?_ ?_
    · -- operation 22
      intro a w' hi hd ho hf
      obtain ⟨v21, e21, h21⟩ := hf 21 (by rfl)
      obtain ⟨v19, e19, h19⟩ := hf 19 (by rfl)
      change v19 = _ at h19; subst h19
      have f147 : a.eval (.tmp 147) = _ := eval_of e21
      refine ⟨wanted_of (by rfl) (by rfl) (by rfl) e19, ?_⟩
      exact fin_call (run_call a.eval w' _ 41 #[.tmp 147] _ _ rfl rfl (by simp only [List.map_toArray, List.map_cons, List.map_nil, f147]) (enters_of Try.func41 (by kernel_rfl) rfl)) (L41.out bf.1 w' _ HBFL.out h21) (fun W hW => hi.trans (hW.mono hi.size))
    refine Steps.cons ?_ ?_
    · -- operation 23
      intro a w' hi hd ho hf
      obtain ⟨v19, e19, h19⟩ := hf 19 (by rfl)
      change v19 = _ at h19; subst h19
      have f22 : a.eval (.tmp 22) = _ := eval_of ((ho 22 (by decide)).trans (show _ = some (.slice Au nu cu) from rfl))
      refine ⟨wanted_of (by rfl) (by rfl) (by rfl) e19, ?_⟩
      refine fin_val (run_move a.eval w' _ _ rfl) ?_ hi (Below.refl _ _)
      exact f22
    refine Steps.cons ?_ ?_
    · -- operation 24
      intro a w' hi hd ho hf
      obtain ⟨v23, e23, h23⟩ := hf 23 (by rfl)
      change v23 = _ at h23; subst h23
      obtain ⟨v19, e19, h19⟩ := hf 19 (by rfl)
      change v19 = _ at h19; subst h19
      have f149 : a.eval (.tmp 149) = _ := eval_of e23
      refine ⟨wanted_of (by rfl) (by rfl) (by rfl) e19, ?_⟩
      exact fin_call (run_call a.eval w' _ 42 #[.tmp 149] _ _ rfl rfl (by simp only [List.map_toArray, List.map_cons, List.map_nil, f149]) (enters_of Try.func42 (by kernel_rfl) rfl)) (L42.out bf.1 w' _ HBFL.out (UB6.out w' hi)) (fun W hW => hi.trans (hW.mono hi.size))
    refine Steps.cons ?_ ?_
    · -- operation 25
      intro a w' hi hd ho hf
      obtain ⟨v22, e22, h22⟩ := hf 22 (by rfl)
      obtain ⟨v24, e24, h24⟩ := hf 24 (by rfl)
      obtain ⟨v19, e19, h19⟩ := hf 19 (by rfl)
      change v19 = _ at h19; subst h19
      have f148 : a.eval (.tmp 148) = _ := eval_of e22
      have f150 : a.eval (.tmp 150) = _ := eval_of e24
      refine ⟨wanted_of (by rfl) (by rfl) (by rfl) e19, ?_⟩
      exact fin_call (run_call a.eval w' _ 17 #[.tmp 148, .tmp 150] _ _ rfl rfl (by simp only [List.map_toArray, List.map_cons, List.map_nil, f148, f150]) (enters_of Try.func17 (by kernel_rfl) rfl)) (L17.out (.mk 0 bf.1 []) w' _ _ h22 h24) (fun W hW => hi.trans (hW.mono hi.size))
    refine Steps.cons ?_ ?_
    · -- operation 26
      intro a w' hi hd ho hf
      obtain ⟨v19, e19, h19⟩ := hf 19 (by rfl)
      change v19 = _ at h19; subst h19
      obtain ⟨v25, e25, h25⟩ := hf 25 (by rfl)
      change v25 = _ at h25; subst h25
      have f145 : a.eval (.tmp 145) = _ := eval_of e19
      have f151 : a.eval (.tmp 151) = _ := eval_of e25
      refine ⟨wanted_none rfl, ?_⟩
      refine fin_val (run_pick a.eval w' _ _ _ _ rfl f145) ?_ hi (Below.refl _ _)
      exact f151
    refine Steps.cons ?_ ?_
    · -- operation 27
      intro a w' hi hd ho hf
      obtain ⟨v26, e26, h26⟩ := hf 26 (by rfl)
      change v26 = _ at h26; subst h26
      have f152 : a.eval (.tmp 152) = _ := eval_of e26
      refine ⟨wanted_none rfl, ?_⟩
      refine fin_val (run_move a.eval w' _ _ rfl) ?_ hi (Below.refl _ _)
      exact f152
    refine Steps.cons ?_ ?_
    · -- operation 28
      intro a w' hi hd ho hf
      obtain ⟨v27, e27, h27⟩ := hf 27 (by rfl)
      change v27 = _ at h27; subst h27
      have f11 : a.eval (.tmp 11) = _ := eval_of ((ho 11 (by decide)).trans (show _ = some (.pointer (some ⟨w2.heap.size, 0, none⟩)) from rfl))
      refine ⟨wanted_of (by rfl) (by rfl) (by rfl) e27, ?_⟩
      exact fin_val (run_load27 a.eval w' _ _ _ _ _ _ rfl f11 (HX6.out w' hi)) rfl hi (Below.refl _ _)
    refine Steps.cons ?_ ?_
    · -- operation 29
      intro a w' hi hd ho hf
      obtain ⟨v28, e28, h28⟩ := hf 28 (by rfl)
      change v28 = _ at h28; subst h28
      obtain ⟨v27, e27, h27⟩ := hf 27 (by rfl)
      change v27 = _ at h27; subst h27
      have f154 : a.eval (.tmp 154) = _ := eval_of e28
      refine ⟨wanted_of (by rfl) (by rfl) (by rfl) e27, ?_⟩
      exact fin_call (run_call a.eval w' _ 15 #[.tmp 154] _ _ rfl rfl (by simp only [List.map_toArray, List.map_cons, List.map_nil, f154]) (enters_of Try.func15 (by kernel_rfl) rfl)) (L15.out w' _ (HXI.out w' hi)) (fun W hW => hi.trans (hW.mono hi.size))
    refine Steps.cons ?_ ?_
    · -- operation 30
      intro a w' hi hd ho hf
      obtain ⟨v27, e27, h27⟩ := hf 27 (by rfl)
      change v27 = _ at h27; subst h27
      have f11 : a.eval (.tmp 11) = _ := eval_of ((ho 11 (by decide)).trans (show _ = some (.pointer (some ⟨w2.heap.size, 0, none⟩)) from rfl))
      refine ⟨wanted_of (by rfl) (by rfl) (by rfl) e27, ?_⟩
      exact fin_val (run_load27 a.eval w' _ _ _ _ _ _ rfl f11 (HX6.out w' hi)) rfl hi (Below.refl _ _)
    refine Steps.cons ?_ ?_
    · -- operation 31
      intro a w' hi hd ho hf
      obtain ⟨v30, e30, h30⟩ := hf 30 (by rfl)
      change v30 = _ at h30; subst h30
      obtain ⟨v27, e27, h27⟩ := hf 27 (by rfl)
      change v27 = _ at h27; subst h27
      have f156 : a.eval (.tmp 156) = _ := eval_of e30
      refine ⟨wanted_of (by rfl) (by rfl) (by rfl) e27, ?_⟩
      exact fin_call (run_call a.eval w' _ 15 #[.tmp 156] _ _ rfl rfl (by simp only [List.map_toArray, List.map_cons, List.map_nil, f156]) (enters_of Try.func15 (by kernel_rfl) rfl)) (L15.out w' _ (HXI.out w' hi)) (fun W hW => hi.trans (hW.mono hi.size))
    refine Steps.cons ?_ ?_
    · -- operation 32
      intro a w' hi hd ho hf
      obtain ⟨v29, e29, h29⟩ := hf 29 (by rfl)
      obtain ⟨v31, e31, h31⟩ := hf 31 (by rfl)
      obtain ⟨v27, e27, h27⟩ := hf 27 (by rfl)
      change v27 = _ at h27; subst h27
      have f155 : a.eval (.tmp 155) = _ := eval_of e29
      have f157 : a.eval (.tmp 157) = _ := eval_of e31
      refine ⟨wanted_of (by rfl) (by rfl) (by rfl) e27, ?_⟩
      exact fin_two x rfl f155 f157 h29 h31 (fun W hW => hi.trans (hW.mono hi.size))
    refine Steps.cons ?_ ?_
    · -- operation 33
      intro a w' hi hd ho hf
      obtain ⟨v32, e32, h32⟩ := hf 32 (by rfl)
      obtain ⟨v27, e27, h27⟩ := hf 27 (by rfl)
      change v27 = _ at h27; subst h27
      have f158 : a.eval (.tmp 158) = _ := eval_of e32
      refine ⟨wanted_of (by rfl) (by rfl) (by rfl) e27, ?_⟩
      exact fin_call (run_call a.eval w' _ 43 #[.tmp 158] _ _ rfl rfl (by simp only [List.map_toArray, List.map_cons, List.map_nil, f158]) (enters_of Try.func43 (by kernel_rfl) rfl)) (L43.out w' _ h32) (fun W hW => hi.trans (hW.mono hi.size))
    refine Steps.cons ?_ ?_
    · -- operation 34
      intro a w' hi hd ho hf
      obtain ⟨v27, e27, h27⟩ := hf 27 (by rfl)
      change v27 = _ at h27; subst h27
      have f11 : a.eval (.tmp 11) = _ := eval_of ((ho 11 (by decide)).trans (show _ = some (.pointer (some ⟨w2.heap.size, 0, none⟩)) from rfl))
      refine ⟨wanted_of (by rfl) (by rfl) (by rfl) e27, ?_⟩
      exact fin_val (run_load27 a.eval w' _ _ _ _ _ _ rfl f11 (HX6.out w' hi)) rfl hi (Below.refl _ _)
    refine Steps.cons ?_ ?_
    · -- operation 35
      intro a w' hi hd ho hf
      obtain ⟨v27, e27, h27⟩ := hf 27 (by rfl)
      change v27 = _ at h27; subst h27
      have f11 : a.eval (.tmp 11) = _ := eval_of ((ho 11 (by decide)).trans (show _ = some (.pointer (some ⟨w2.heap.size, 0, none⟩)) from rfl))
      refine ⟨wanted_of (by rfl) (by rfl) (by rfl) e27, ?_⟩
      exact fin_val (run_load27 a.eval w' _ _ _ _ _ _ rfl f11 (HX6.out w' hi)) rfl hi (Below.refl _ _)
    refine Steps.cons ?_ ?_
    · -- operation 36
      intro a w' hi hd ho hf
      obtain ⟨v34, e34, h34⟩ := hf 34 (by rfl)
      change v34 = _ at h34; subst h34
      obtain ⟨v35, e35, h35⟩ := hf 35 (by rfl)
      change v35 = _ at h35; subst h35
      obtain ⟨v27, e27, h27⟩ := hf 27 (by rfl)
      change v27 = _ at h27; subst h27
      have f160 : a.eval (.tmp 160) = _ := eval_of e34
      have f161 : a.eval (.tmp 161) = _ := eval_of e35
      refine ⟨wanted_of (by rfl) (by rfl) (by rfl) e27, ?_⟩
      exact fin_two x rfl f160 f161 (HXI.out w' hi) (HXI.out w' hi) (fun W hW => hi.trans (hW.mono hi.size))
    refine Steps.cons ?_ ?_
    · -- operation 37
      intro a w' hi hd ho hf
      obtain ⟨v36, e36, h36⟩ := hf 36 (by rfl)
      obtain ⟨v27, e27, h27⟩ := hf 27 (by rfl)
      change v27 = _ at h27; subst h27
      have f162 : a.eval (.tmp 162) = _ := eval_of e36
      refine ⟨wanted_of (by rfl) (by rfl) (by rfl) e27, ?_⟩
      exact fin_call (run_call a.eval w' _ 44 #[.tmp 162] _ _ rfl rfl (by simp only [List.map_toArray, List.map_cons, List.map_nil, f162]) (enters_of Try.func44 (by kernel_rfl) rfl)) (L44.out w' _ h36) (fun W hW => hi.trans (hW.mono hi.size))
    refine Steps.cons ?_ ?_
    · -- operation 38
      intro a w' hi hd ho hf
      obtain ⟨v33, e33, h33⟩ := hf 33 (by rfl)
      obtain ⟨v37, e37, h37⟩ := hf 37 (by rfl)
      obtain ⟨v27, e27, h27⟩ := hf 27 (by rfl)
      change v27 = _ at h27; subst h27
      have f159 : a.eval (.tmp 159) = _ := eval_of e33
      have f163 : a.eval (.tmp 163) = _ := eval_of e37
      refine ⟨wanted_of (by rfl) (by rfl) (by rfl) e27, ?_⟩
      exact fin_call (run_call a.eval w' _ 17 #[.tmp 159, .tmp 163] _ _ rfl rfl (by simp only [List.map_toArray, List.map_cons, List.map_nil, f159, f163]) (enters_of Try.func17 (by kernel_rfl) rfl)) (L17.out (.mk 1 [] [x, x]) w' _ _ h33 h37) (fun W hW => hi.trans (hW.mono hi.size))
    refine Steps.cons ?_ ?_
    · -- operation 39
      intro a w' hi hd ho hf
      obtain ⟨v27, e27, h27⟩ := hf 27 (by rfl)
      change v27 = _ at h27; subst h27
      obtain ⟨v38, e38, h38⟩ := hf 38 (by rfl)
      change v38 = _ at h38; subst h38
      have f153 : a.eval (.tmp 153) = _ := eval_of e27
      have f164 : a.eval (.tmp 164) = _ := eval_of e38
      refine ⟨wanted_none rfl, ?_⟩
      refine fin_val (run_pick a.eval w' _ _ _ _ rfl f153) ?_ hi (Below.refl _ _)
      exact f164
    refine Steps.cons ?_ ?_
    · -- operation 40
      intro a w' hi hd ho hf
      obtain ⟨v39, e39, h39⟩ := hf 39 (by rfl)
      change v39 = _ at h39; subst h39
      have f165 : a.eval (.tmp 165) = _ := eval_of e39
      refine ⟨wanted_none rfl, ?_⟩
      refine fin_val (run_move a.eval w' _ _ rfl) ?_ hi (Below.refl _ _)
      exact f165
    refine Steps.cons ?_ ?_
    · -- operation 41
      intro a w' hi hd ho hf
      obtain ⟨v40, e40, h40⟩ := hf 40 (by rfl)
      change v40 = _ at h40; subst h40
      have f11 : a.eval (.tmp 11) = _ := eval_of ((ho 11 (by decide)).trans (show _ = some (.pointer (some ⟨w2.heap.size, 0, none⟩)) from rfl))
      refine ⟨wanted_of (by rfl) (by rfl) (by rfl) e40, ?_⟩
      exact fin_val (run_load27 a.eval w' _ _ _ _ _ _ rfl f11 (HX6.out w' hi)) rfl hi (Below.refl _ _)
    refine Steps.cons ?_ ?_
    · -- operation 42
      intro a w' hi hd ho hf
      obtain ⟨v41, e41, h41⟩ := hf 41 (by rfl)
      change v41 = _ at h41; subst h41
      obtain ⟨v40, e40, h40⟩ := hf 40 (by rfl)
      change v40 = _ at h40; subst h40
      have f167 : a.eval (.tmp 167) = _ := eval_of e41
      refine ⟨wanted_of (by rfl) (by rfl) (by rfl) e40, ?_⟩
      exact fin_call (run_call a.eval w' _ 15 #[.tmp 167] _ _ rfl rfl (by simp only [List.map_toArray, List.map_cons, List.map_nil, f167]) (enters_of Try.func15 (by kernel_rfl) rfl)) (L15.out w' _ (HXI.out w' hi)) (fun W hW => hi.trans (hW.mono hi.size))
    refine Steps.cons ?_ ?_
    · -- operation 43
      intro a w' hi hd ho hf
      obtain ⟨v40, e40, h40⟩ := hf 40 (by rfl)
      change v40 = _ at h40; subst h40
      have f11 : a.eval (.tmp 11) = _ := eval_of ((ho 11 (by decide)).trans (show _ = some (.pointer (some ⟨w2.heap.size, 0, none⟩)) from rfl))
      refine ⟨wanted_of (by rfl) (by rfl) (by rfl) e40, ?_⟩
      exact fin_val (run_load27 a.eval w' _ _ _ _ _ _ rfl f11 (HX6.out w' hi)) rfl hi (Below.refl _ _)
    refine Steps.cons ?_ ?_
    · -- operation 44
      intro a w' hi hd ho hf
      obtain ⟨v43, e43, h43⟩ := hf 43 (by rfl)
      change v43 = _ at h43; subst h43
      obtain ⟨v40, e40, h40⟩ := hf 40 (by rfl)
      change v40 = _ at h40; subst h40
      have f169 : a.eval (.tmp 169) = _ := eval_of e43
      refine ⟨wanted_of (by rfl) (by rfl) (by rfl) e40, ?_⟩
      exact fin_call (run_call a.eval w' _ 15 #[.tmp 169] _ _ rfl rfl (by simp only [List.map_toArray, List.map_cons, List.map_nil, f169]) (enters_of Try.func15 (by kernel_rfl) rfl)) (L15.out w' _ (HXI.out w' hi)) (fun W hW => hi.trans (hW.mono hi.size))
    refine Steps.cons ?_ ?_
    · -- operation 45
      intro a w' hi hd ho hf
      obtain ⟨v42, e42, h42⟩ := hf 42 (by rfl)
      obtain ⟨v44, e44, h44⟩ := hf 44 (by rfl)
      obtain ⟨v40, e40, h40⟩ := hf 40 (by rfl)
      change v40 = _ at h40; subst h40
      have f168 : a.eval (.tmp 168) = _ := eval_of e42
      have f170 : a.eval (.tmp 170) = _ := eval_of e44
      refine ⟨wanted_of (by rfl) (by rfl) (by rfl) e40, ?_⟩
      exact fin_call (run_call a.eval w' _ 31 #[.tmp 168, .tmp 170] _ _ rfl rfl (by simp only [List.map_toArray, List.map_cons, List.map_nil, f168, f170]) (enters_of Try.func31 (by kernel_rfl) rfl)) (L31.out x w' _ _ h42 h44) (fun W hW => hi.trans (hW.mono hi.size))
    refine Steps.cons ?_ ?_
    · -- operation 46
      intro a w' hi hd ho hf
      obtain ⟨v40, e40, h40⟩ := hf 40 (by rfl)
      change v40 = _ at h40; subst h40
      obtain ⟨v45, e45, h45⟩ := hf 45 (by rfl)
      change v45 = _ at h45; subst h45
      have f166 : a.eval (.tmp 166) = _ := eval_of e40
      have f171 : a.eval (.tmp 171) = _ := eval_of e45
      refine ⟨wanted_none rfl, ?_⟩
      refine fin_val (run_pick a.eval w' _ _ _ _ rfl f166) ?_ hi (Below.refl _ _)
      exact f171
    refine Steps.cons ?_ ?_
    · -- operation 47
      intro a w' hi hd ho hf
      obtain ⟨v46, e46, h46⟩ := hf 46 (by rfl)
      change v46 = _ at h46; subst h46
      have f172 : a.eval (.tmp 172) = _ := eval_of e46
      refine ⟨wanted_none rfl, ?_⟩
      refine fin_val (run_assign a.eval w' _ _ rfl) ?_ hi (Below.refl _ _)
      exact f172
    exact Steps.nil
end
end Go.Proofs.Ytkdpphcalekbdaa.B18
