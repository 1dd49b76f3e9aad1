/- Items in blocks of the call's own: what spoil may write over; the law's twin lays such. (printed by gen_s1.py) -/
import Derived.Test.YtkdpphcalekbdaaF1
set_option linter.unusedVariables false
set_option linter.unusedSimpArgs false
namespace Go.Proofs.Ytkdpphcalekbdaa.S1
open Go.ChangeShapes Go.WideShapes Go.ChangeAt Go.RowKit
open M F1
/-- A row in a block of its own, of type e. -/
def RdW (w : World) (S : Nat → Prop) (e size : Nat) (A : Option Addr) (n : Nat) (xs : List Value) : Prop :=
  xs.length = n * size ∧ (0 < n → ∃ (g : Nat) (cur : Array Value), A = some ⟨g, 0, none⟩ ∧ S g ∧ w.heap[g]? = some (.cells cur e (0, 0)) ∧ ∀ (j : Nat) (u : Value), xs[j]? = some u → cur[j]? = some u)
def BsW (w : World) (S : Nat → Prop) (v : Value) (bs : List UInt8) : Prop :=
  ∃ A c, v = .slice A bs.length c ∧ bs.length ≤ c ∧ c ≤ 9223372036854775807 ∧ RdW w S 5 1 A bs.length (nums bs)
section
variable {w w' : World} {S S' : Nat → Prop} {e size n : Nat} {A : Option Addr} {xs : List Value} {v : Value} {bs : List UInt8}
theorem RdW.keep (h : RdW w S e size A n xs) (hs : SameS S w w') : RdW w' S e size A n xs :=
  ⟨h.1, fun hn => by
    obtain ⟨g, cur, e, h1, hg, hc⟩ := h.2 hn
    exact ⟨g, cur, e, h1, (hs g h1).trans hg, hc⟩⟩
theorem RdW.wide (h : RdW w S e size A n xs) (h1 : ∀ b, S b → S' b) : RdW w S' e size A n xs :=
  ⟨h.1, fun hn => by
    obtain ⟨g, cur, e, a1, hc⟩ := h.2 hn
    exact ⟨g, cur, e, h1 _ a1, hc⟩⟩
theorem RdW.r (h : RdW w S e size A n xs) : RdS w S size A n xs :=
  ⟨h.1, fun hn => by
    obtain ⟨g, cur, e, a1, hg, hc⟩ := h.2 hn
    exact ⟨g, 0, e, a1, fun j u hu => by simp [World.cell?, hg, hc j u hu]⟩⟩
theorem RdW.of_own {base : Nat} {c : Nat} (h : w.ownsRow base e size (.slice A n c) n xs) : RdW w (fun b => base ≤ b ∧ b < w.heap.size ∧ (Value.slice A n c).ownBlock = some b) e size A n xs := by
  refine ⟨h.1, fun hn => ?_⟩
  rcases h.2 with ⟨hv, h0⟩ | ⟨g, cap, cur, hv, hb, hg, hnc, hcm, hcs, htake⟩
  · omega
  · obtain ⟨rfl, _, rfl⟩ := (Value.slice.injEq _ _ _ _ _ _).mp hv
    refine ⟨g, cur, rfl, ⟨hb, (Array.getElem?_eq_some_iff.1 hg).1, rfl⟩, hg, fun j u hu => ?_⟩
    rw [← htake, List.getElem?_take] at hu
    split at hu
    · simpa using hu
    · cases hu
theorem BsW.keep (h : BsW w S v bs) (hs : SameS S w w') : BsW w' S v bs := by
  obtain ⟨A, c, e, h1, h2, h3⟩ := h
  exact ⟨A, c, e, h1, h2, h3.keep hs⟩
theorem BsW.wide (h : BsW w S v bs) (h1 : ∀ b, S b → S' b) : BsW w S' v bs := by
  obtain ⟨A, c, e, a1, a2, h3⟩ := h
  exact ⟨A, c, e, a1, a2, h3.wide h1⟩
theorem BsW.r (h : BsW w S v bs) : BsS w S v bs := by
  obtain ⟨A, c, e, a1, a2, h3⟩ := h
  exact ⟨A, c, e, a1, a2, h3.r⟩
theorem BsW.of_own {base : Nat} (h : M.Own w base v bs) : BsW w (fun b => base ≤ b ∧ b < w.heap.size ∧ v.ownBlock = some b) v bs := by
  obtain ⟨A, c, rfl, h1, h2, h3⟩ := h.bs
  exact ⟨A, c, rfl, h1, h2, RdW.of_own h⟩
end
mutual
/-- An item in blocks of its own. -/
def ItemW (w : World) (S : Nat → Prop) : It → List Value → Prop
  | .mk l bs ks, cs => ∃ v A c inner, cs = [.int .i64 l, v, .slice A ks.length c] ∧ BsW w S v bs ∧ ks.length ≤ c ∧ c ≤ 9223372036854775807 ∧ RdW w S 27 3 A ks.length inner ∧ KidsW w S ks inner
def KidsW (w : World) (S : Nat → Prop) : List It → List Value → Prop
  | [], cs => cs = []
  | k :: ks, cs => ∃ c0 rest, cs = c0 ++ rest ∧ ItemW w S k c0 ∧ KidsW w S ks rest
end
mutual
theorem ItemW.keep {w w' : World} {S : Nat → Prop} (hs : SameS S w w') : ∀ (x : It) (cs : List Value), ItemW w S x cs → ItemW w' S x cs
  | .mk l bs ks, cs, h => by
    simp only [ItemW] at h ⊢
    obtain ⟨v, A, c, inner, e, hb, h1, h2, hr, hk⟩ := h
    exact ⟨v, A, c, inner, e, hb.keep hs, h1, h2, hr.keep hs, KidsW.keep hs ks inner hk⟩
theorem KidsW.keep {w w' : World} {S : Nat → Prop} (hs : SameS S w w') : ∀ (ks : List It) (cs : List Value), KidsW w S ks cs → KidsW w' S ks cs
  | [], cs, h => by simpa only [KidsW] using h
  | k :: ks, cs, h => by
    simp only [KidsW] at h ⊢
    obtain ⟨c0, rest, e, hi, hk⟩ := h
    exact ⟨c0, rest, e, ItemW.keep hs k c0 hi, KidsW.keep hs ks rest hk⟩
end
mutual
theorem ItemW.wide {w : World} {S S' : Nat → Prop} (h1 : ∀ b, S b → S' b) : ∀ (x : It) (cs : List Value), ItemW w S x cs → ItemW w S' x cs
  | .mk l bs ks, cs, h => by
    simp only [ItemW] at h ⊢
    obtain ⟨v, A, c, inner, e, hb, a1, a2, hr, hk⟩ := h
    exact ⟨v, A, c, inner, e, hb.wide h1, a1, a2, hr.wide h1, KidsW.wide h1 ks inner hk⟩
theorem KidsW.wide {w : World} {S S' : Nat → Prop} (h1 : ∀ b, S b → S' b) : ∀ (ks : List It) (cs : List Value), KidsW w S ks cs → KidsW w S' ks cs
  | [], cs, h => by simpa only [KidsW] using h
  | k :: ks, cs, h => by
    simp only [KidsW] at h ⊢
    obtain ⟨c0, rest, e, hi, hk⟩ := h
    exact ⟨c0, rest, e, ItemW.wide h1 k c0 hi, KidsW.wide h1 ks rest hk⟩
end
mutual
theorem ItemW.r {w : World} {S : Nat → Prop} : ∀ (x : It) (cs : List Value), ItemW w S x cs → ItemR w S x cs
  | .mk l bs ks, cs, h => by
    simp only [ItemW] at h
    simp only [ItemR]
    obtain ⟨v, A, c, inner, e, hb, h1, h2, hr, hk⟩ := h
    exact ⟨v, A, c, inner, e, hb.r, h1, h2, hr.r, KidsW.r ks inner hk⟩
theorem KidsW.r {w : World} {S : Nat → Prop} : ∀ (ks : List It) (cs : List Value), KidsW w S ks cs → KidsR w S ks cs
  | [], cs, h => by simpa only [KidsW, KidsR] using h
  | k :: ks, cs, h => by
    simp only [KidsW] at h
    simp only [KidsR]
    obtain ⟨c0, rest, e, hi, hk⟩ := h
    exact ⟨c0, rest, e, ItemW.r k c0 hi, KidsW.r ks rest hk⟩
end
theorem ItemW.len {w : World} {S : Nat → Prop} {x : It} {cs : List Value} (h : ItemW w S x cs) : cs.length = 3 := (ItemW.r x cs h).len
theorem KidsW.length {w : World} {S : Nat → Prop} {ks : List It} {cs : List Value} (h : KidsW w S ks cs) : cs.length = ks.length * 3 := (KidsW.r ks cs h).length
/-- Kid number j. -/
theorem KidsW.at_ {w : World} {S : Nat → Prop} : ∀ {ks : List It} {cs : List Value}, KidsW w S ks cs → ∀ j (hj : j < ks.length),
    ∃ c0 c1 c2, cs[3 * j]? = some c0 ∧ cs[3 * j + 1]? = some c1 ∧ cs[3 * j + 2]? = some c2 ∧ ItemW w S (ks[j]'hj) [c0, c1, c2]
  | [], cs, _, j, hj => by simp at hj
  | k :: ks, cs, h, j, hj => by
    simp only [KidsW] at h
    obtain ⟨cs0, rest, rfl, hi, hk⟩ := h
    match cs0, hi.len with
    | [c0, c1, c2], _ =>
      cases j with
      | zero => exact ⟨c0, c1, c2, rfl, rfl, rfl, hi⟩
      | succ j =>
        obtain ⟨d0, d1, d2, h0, h1, h2, h3⟩ := hk.at_ j (by simpa using hj)
        refine ⟨d0, d1, d2, ?_, ?_, ?_, h3⟩
        · rw [show 3 * (j + 1) = 3 * j + 3 from by omega]; simpa using h0
        · rw [show 3 * (j + 1) + 1 = 3 * j + 1 + 3 from by omega]; simpa using h1
        · rw [show 3 * (j + 1) + 2 = 3 * j + 2 + 3 from by omega]; simpa using h2
theorem KidsW.append {w : World} {S : Nat → Prop} : ∀ {ks : List It} {cs : List Value}, KidsW w S ks cs → ∀ {k : It} {c : List Value}, ItemW w S k c → KidsW w S (ks ++ [k]) (cs ++ c)
  | [], cs, h, k, c, hk => by
    simp only [KidsW] at h; subst h
    simp only [List.nil_append, KidsW]
    exact ⟨c, [], by simp, hk, rfl⟩
  | x :: ks, cs, h, k, c, hk => by
    simp only [KidsW] at h
    obtain ⟨cs0, rest, rfl, hi, hr⟩ := h
    simp only [List.cons_append, KidsW]
    exact ⟨cs0, rest ++ c, by simp, hi, hr.append hk⟩

/-- BLOCK g HOLDS AN ITEM UNDER CONSTRUCTION. -/
structure Kw (base : Nat) (W : World) (g : Nat) (l : Int) (bv kv : Value) (bs : List UInt8) (ks : List It) : Prop where
  hg : W.heap[g]? = some (.cells #[.int .i64 l, bv, kv] 27 (0, 0))
  hb : base ≤ g
  ne : kv.ownBlock ≠ some g
  bytes : BsW W (Free base W g kv) bv bs
  own : ∃ inner, W.ownsRow base 27 3 kv ks.length inner ∧ KidsW W (Free base W g kv) ks inner

section
variable {base g : Nat} {W W' : World} {l : Int} {bv kv : Value} {bs : List UInt8} {ks : List It}
theorem Kw.lt (h : Kw base W g l bv kv bs ks) : g < W.heap.size := (Array.getElem?_eq_some_iff.1 h.hg).1
/-- It lives on where nothing of it is written. -/
theorem Kw.later (h : Kw base W g l bv kv bs ks) (hb : Below W.heap.size W W') : Kw base W' g l bv kv bs ks := by
  have hf : ∀ b, Free base W g kv b → Free base W' g kv b := fun b ⟨h1, h2, h3, h4⟩ => ⟨h1, Nat.lt_of_lt_of_le h2 hb.size, h3, h4⟩
  have hs : SameS (Free base W g kv) W W' := fun b hb' => hb.block b hb'.2.1
  obtain ⟨inner, ho, hk⟩ := h.own
  exact ⟨(hb.block g h.lt).trans h.hg, h.hb, h.ne, (h.bytes.keep hs).wide hf, inner, own_keep ho (fun k hk' => hb.block k (ho.lt k hk').2), KidsW.wide hf _ _ (KidsW.keep hs _ _ hk)⟩
/-- What it reads as. -/
theorem Kw.item (h : Kw base W g l bv kv bs ks) : ItemW W (Btw base W.heap.size) (.mk l bs ks) [.int .i64 l, bv, kv] := by
  obtain ⟨inner, ho, hk⟩ := h.own
  have hf : ∀ b, Free base W g kv b → Btw base W.heap.size b := fun b h => ⟨h.1, h.2.1⟩
  simp only [ItemW]
  rcases ho.2 with ⟨hv, h0⟩ | ⟨b, cap, cur, hv, hb, hg, hnc, hcm, hcs, htake⟩
  · subst hv
    have : ks = [] := List.eq_nil_of_length_eq_zero h0
    subst this
    exact ⟨bv, none, 0, inner, rfl, h.bytes.wide hf, by simp, by omega, ⟨by rw [KidsW.length hk], fun h => absurd h (by simp)⟩, KidsW.wide hf _ _ hk⟩
  · subst hv
    exact ⟨bv, _, cap, inner, rfl, h.bytes.wide hf, hnc, by simpa [maxLen] using hcm, (RdW.of_own ho).wide (fun k hk => ⟨hk.1, hk.2.1⟩), KidsW.wide hf _ _ hk⟩
theorem Kw.cells (h : Kw base W g l bv kv bs ks) : W.cell? ⟨g, 0, none⟩ = some (.int .i64 l) ∧ W.cell? ⟨g, 1, none⟩ = some bv ∧ W.cell? ⟨g, 2, none⟩ = some kv ∧ W.frozen? ⟨g, 2, none⟩ = false := by
  refine ⟨?_, ?_, ?_, ?_⟩
  · simp [World.cell?, h.hg]
  · simp [World.cell?, h.hg]
  · simp [World.cell?, h.hg]
  · simp [World.frozen?, h.hg]
/-- One kid more: W1: behind what made the kid; its cells boxed; appended (w'); stored. -/
theorem Kw.append (h : Kw base W g l bv kv bs ks) {W1 w' : World} (hb1 : Below W.heap.size W W1) {k : It} {cs : List Value} (hk : ItemW W1 (Btw W.heap.size W1.heap.size) k cs) {kv' : Value} {inner : List Value}
    (hin : W1.ownsRow base 27 3 kv ks.length inner) (hown : w'.ownsRow base 27 3 kv' (ks.length + 1) (inner ++ cs)) (o : Obj) (hgrow : (W1.alloc o).grownBy w' kv.ownBlock)
    (hat : kv'.ownBlock = kv.ownBlock ∨ kv'.ownBlock = some (W1.alloc o).heap.size) (hinK : KidsW W1 (Free base W1 g kv) ks inner) :
    Kw base (w'.setCell ⟨g, 2, none⟩ kv') g l bv kv' bs (ks ++ [k]) := by
  have h1 := h.later hb1
  have hg1 := h1.lt
  have hg0 := h.lt
  have hsz : (W1.alloc o).heap.size = W1.heap.size + 1 := by simp
  have hsz' := hgrow.size
  have hne' : kv'.ownBlock ≠ some g := by
    rcases hat with e | e
    · rw [e]; exact h.ne
    · rw [e]; intro e'; injection e' with e'; omega
  have hsame : ∀ b, b < W1.heap.size → b ≠ g → some b ≠ kv.ownBlock → (w'.setCell ⟨g, 2, none⟩ kv').heap[b]? = W1.heap[b]? := fun b h1 h2 h3 =>
    (Below.heap_setCell _ _ _ _ h2).trans ((hgrow.block b (by omega) h3).trans (Below.heap_alloc _ _ _ h1))
  have hS1 : SameS (Free base W1 g kv) W1 (w'.setCell ⟨g, 2, none⟩ kv') := fun b hb => hsame b hb.2.1 hb.2.2.1 hb.2.2.2
  have hszF : (w'.setCell ⟨g, 2, none⟩ kv').heap.size = w'.heap.size := by simp [World.setCell]
  have hfr : ∀ b, Free base W1 g kv b → Free base (w'.setCell ⟨g, 2, none⟩ kv') g kv' b := fun b ⟨a1, a2, a3, a4⟩ => ⟨a1, by omega, a3, by
    rcases hat with e | e
    · rw [e]; exact a4
    · rw [e]; intro e'; injection e' with e'; omega⟩
  have hSk : SameS (Btw W.heap.size W1.heap.size) W1 (w'.setCell ⟨g, 2, none⟩ kv') := fun b hb => hsame b hb.2 (by have := hb.1; omega) (fun e => by
    obtain ⟨inner0, ho0, _⟩ := h.own
    have := ho0.lt b e.symm
    have := hb.1
    omega)
  have hfk : ∀ b, Btw W.heap.size W1.heap.size b → Free base (w'.setCell ⟨g, 2, none⟩ kv') g kv' b := fun b hb => by
    obtain ⟨inner0, ho0, _⟩ := h.own
    have hbb := hb.1
    have hb2 := hb.2
    have hbase : base ≤ W.heap.size := by have := h.hb; omega
    refine ⟨by omega, by omega, by omega, ?_⟩
    rcases hat with e | e
    · rw [e]; intro e'; have := ho0.lt b e'.symm; omega
    · rw [e]; intro e'; injection e' with e'; omega
  refine ⟨?_, h.hb, hne', (h1.bytes.keep hS1).wide hfr, inner ++ cs, ?_, ?_⟩
  · have hgw : w'.heap[g]? = some (.cells #[.int .i64 l, bv, kv] 27 (0, 0)) := (hgrow.block g (by omega) (fun e => h.ne e.symm)).trans ((Below.heap_alloc _ _ _ hg1).trans h1.hg)
    simp [World.setCell, Array.getElem?_modify, hgw]
  · rw [List.length_append, List.length_singleton]
    exact own_keep hown fun b hb => Below.heap_setCell _ _ _ _ (fun e => hne' (by rw [hb]; exact congrArg some e))
  · exact (KidsW.wide hfr _ _ (KidsW.keep hS1 _ _ hinK)).append (ItemW.wide hfk _ _ (ItemW.keep hSk _ _ hk))
/-- It begins. -/
theorem Kw.start (W : World) (base g : Nat) (l : Int) (bv : Value) (bs : List UInt8) (hg : W.heap[g]? = some (.cells #[.int .i64 l, bv, .slice none 0 0] 27 (0, 0))) (hb : base ≤ g)
    (hbs : BsW W (fun b => base ≤ b ∧ b < W.heap.size ∧ b ≠ g) bv bs) : Kw base W g l bv (.slice none 0 0) bs [] :=
  ⟨hg, hb, by simp [Value.ownBlock], hbs.wide (fun b h => ⟨h.1, h.2.1, h.2.2, by simp [Value.ownBlock]⟩), [], World.ownsRow_nil _ _ _ _, rfl⟩
end
theorem kw_after (w' : World) (B : Nat) (l : Int) (bv : Value) (bs : List UInt8) (h : M.Own w' B bv bs) (hB : B ≤ w'.heap.size) :
    Kw B (w'.alloc (.cells #[.int .i64 l, bv, .slice none 0 0] 27)) w'.heap.size l bv (.slice none 0 0) bs [] := by
  refine Kw.start _ _ _ _ _ _ (by rw [heap_alloc, if_pos rfl]) hB (((BsW.of_own h).keep (w' := w'.alloc (.cells #[.int .i64 l, bv, .slice none 0 0] 27)) (fun k hk => Below.heap_alloc _ _ _ hk.2.1)).wide fun b hb => ⟨hb.1, by simp; have := hb.2.1; omega, by have := hb.2.1; omega⟩)
theorem kw_ahead (w' : World) (B g : Nat) (l : Int) (bv : Value) (bs : List UInt8) (h : M.Own w' (g + 1) bv bs) (hB : B ≤ g) (hg : w'.heap[g]? = some (.cells #[.int .i64 0, .slice none 0 0, .slice none 0 0] 27 (0, 0))) :
    Kw B (((w'.setCell ⟨g, 0, none⟩ (.int .i64 l)).setCell ⟨g, 1, none⟩ bv).setCell ⟨g, 2, none⟩ (.slice none 0 0)) g l bv (.slice none 0 0) bs [] := by
  have hlt := (Array.getElem?_eq_some_iff.1 hg).1
  refine Kw.start _ _ _ _ _ _ ?_ hB (((BsW.of_own h).keep (w' := ((w'.setCell ⟨g, 0, none⟩ (.int .i64 l)).setCell ⟨g, 1, none⟩ bv).setCell ⟨g, 2, none⟩ (.slice none 0 0)) (fun k hk => ?_)).wide fun b hb => ⟨by have := hb.1; omega, by simpa [World.setCell] using hb.2.1, by have := hb.1; omega⟩)
  · simp [World.setCell, Array.getElem?_modify, hg]
  · have : g ≠ k := by have := hk.1; omega
    simp [World.setCell, Array.getElem?_modify, this]
theorem kw_shape {base g : Nat} {W : World} {l : Int} {bv kv : Value} {bs : List UInt8} {ks : List It} (h : Kw base W g l bv kv bs ks) :
    (∃ A c, bv = .slice A bs.length c) ∧ (∃ A c, kv = .slice A ks.length c) := by
  obtain ⟨A, c, e, _⟩ := h.bytes
  refine ⟨⟨A, c, e⟩, ?_⟩
  obtain ⟨inner, ho, _⟩ := h.own
  rcases ho.2 with ⟨hv, h0⟩ | ⟨b, cap, cur, hv, _⟩
  · exact ⟨none, 0, by rw [hv, h0]⟩
  · exact ⟨_, _, hv⟩
theorem Kw.grow {base g : Nat} {W w1 w2 : World} {l : Int} {bv kv : Value} {bs : List UInt8} {ks : List It} (h : Kw base W g l bv kv bs ks) (hb1 : Below W.heap.size W w1) {k : It} {cs : List Value} (hk : ItemW w1 (Btw W.heap.size w1.heap.size) k cs)
    {n : Nat} (hn : ks.length = n) {inner : List Value} (ho : W.ownsRow base 27 3 kv n inner) (hkk : KidsW W (Free base W g kv) ks inner) {gn cap : Nat} {o : Obj}
    (hown : w2.ownsRow base 27 3 (.slice (some ⟨gn, 0, none⟩) (n + 1) cap) (n + 1) (inner ++ cs)) (hgrow : (w1.alloc o).grownBy w2 kv.ownBlock) (hat : kv.ownBlock = some gn ∨ gn = (w1.alloc o).heap.size) :
    Kw base (w2.setCell ⟨g, 2, none⟩ (.slice (some ⟨gn, 0, none⟩) (n + 1) cap)) g l bv (.slice (some ⟨gn, 0, none⟩) (n + 1) cap) bs (ks ++ [k]) := by
  subst hn
  refine h.append hb1 hk (own_keep ho fun k hk' => hb1.block k (ho.lt k hk').2) hown o hgrow ?_ ?_
  · rcases hat with e | e
    · exact .inl (by rw [e]; rfl)
    · exact .inr (by rw [← e]; rfl)
  · have hf : ∀ b, Free base W g kv b → Free base w1 g kv b := fun b ⟨h1, h2, h3, h4⟩ => ⟨h1, Nat.lt_of_lt_of_le h2 hb1.size, h3, h4⟩
    exact KidsW.wide hf _ _ (KidsW.keep (fun b hb' => hb1.block b hb'.2.1) _ _ hkk)
theorem Kw.row {base g : Nat} {W : World} {l : Int} {bv kv : Value} {bs : List UInt8} {ks : List It} (h : Kw base W g l bv kv bs ks) {n : Nat} (hn : ks.length = n) :
    ∃ inner, W.ownsRow base 27 3 kv n inner ∧ KidsW W (Free base W g kv) ks inner := by subst hn; exact h.own
/-- What twin makes of an item: in blocks of its own. -/
def TwinW (f : Nat) (x : It) : Prop := ∀ (S : Nat → Prop) (c0 c1 c2 : Value) (w : World), ItemR w S x [c0, c1, c2] → (∀ b, S b → b < w.heap.size) → bulk x ≤ 1073741824 →
  Calls Try.prog f #[.agg #[c0, c1, c2]] w fun e w' => ∃ d0 d1 d2, e = .returned (.agg #[d0, d1, d2]) ∧ ItemW w' (Btw w.heap.size w'.heap.size) x [d0, d1, d2] ∧ Below w.heap.size w w'
set_option maxRecDepth 100000 in
set_option maxHeartbeats 1000000 in
theorem twinW15 (x : It) : TwinW 15 x := by
  refine It.ind ?_ x
  intro l bs ks ih S c0 c1 c2 w hx hS hbulk
  simp only [ItemR] at hx
  obtain ⟨v, A, c, inner, e, hb, h1, h2, hr, hk⟩ := hx
  simp only [List.cons.injEq, and_true] at e
  obtain ⟨rfl, rfl, rfl⟩ := e
  obtain ⟨Ab, cb, rfl, hb1, hb2, hbR⟩ := hb
  have HbBs : Hid (∀ W' : World, Below w.heap.size w W' → Bs W' 0 w.heap.size (.slice Ab bs.length cb) bs) := fun W' hB => Bs.keep ⟨Ab, cb, rfl, hb1, hb2, hbR.toRd fun b hb => ⟨Nat.zero_le _, hS b hb⟩⟩ (Same.of_below hB (Nat.le_refl _))
  have Hr := Lib.hid hr
  have Hk := Lib.hid hk
  have HS := Lib.hid hS
  have Hih := Lib.hid ih
  have Hbulk := Lib.hid hbulk
  clear hbR hr hk hS ih hbulk
  go_enter Try.func15, Try.ntmps15
  go_wp2_with fail
  go_upto_region 1 with fail
  go_cut [3] (fun s3 wx => ∃ (g : Nat) (bv : Value), s3 = .pointer (some ⟨g, 0, none⟩) ∧ Below w.heap.size w wx ∧ wx.heap[w.heap.size]? = some (.cells #[.int .i64 l, .slice Ab bs.length cb, .slice A ks.length c] 27 (0, 0)) ∧ wx.heap[w.heap.size + 1]? = some (.cells #[.int .i64 0, .slice none 0 0, .slice none 0 0] 27 (0, 0)) ∧ Kw (w.heap.size + 2) wx g l bv (.slice none 0 0) bs [])
  case first =>
    go_region_held3 (fun w' => w'.cell? ⟨w.heap.size, 0, none⟩ = some (.int .i64 l) ∧ w'.cell? ⟨w.heap.size, 1, none⟩ = some (.slice Ab bs.length cb)) (first | go_keep | (simp only [go_sem] at *; simp [go_sem, q0, q1]; done) | (simp [go_sem, q0, q1]; done))
      (first
        | (go_at_call 18; refine (bytes18 0 w.heap.size _ bs _ (HbBs.out _ (by go_grown)) (by simp; omega) (by have := Hbulk.out; simp only [bulk] at this; omega)).mono ?_; rintro e w' ⟨bv, rfl, ho, hbl⟩; obtain ⟨Ab', cb', rfl, hbb1, hbb2, hbbR⟩ := ho.bs; obtain ⟨hcc, hff⟩ := bcell hbl; have q0 := (hbl.cell (p := ⟨w.heap.size, 0, none⟩) (by simp; omega)).trans (show _ = some (Value.int .i64 l) by simp [go_sem]); have q1 := (hbl.cell (p := ⟨w.heap.size, 1, none⟩) (by simp; omega)).trans (show _ = some (Value.slice Ab bs.length cb) by simp [go_sem])))
    all_goals go_wp2_with fail
    all_goals go_meet
    all_goals have hB2 : Below w.heap.size w w' := Below.trans (by go_grown) (hbl.mono (by simp only [size_alloc, heap_drew]; omega))
    all_goals have p0 := (hbl.block w.heap.size (by simp only [size_alloc, heap_drew]; omega)).trans (show _ = some (Obj.cells #[.int .i64 l, .slice Ab bs.length cb, .slice A ks.length c] 27 (0, 0)) by (simp only [heap_alloc, heap_drew, size_alloc]; repeat (first | rw [if_pos trivial] | rw [if_pos (by omega)] | rw [if_neg (by omega)])))
    all_goals have p1 := (hbl.block (w.heap.size + 1) (by simp only [size_alloc, heap_drew]; omega)).trans (show _ = some (Obj.cells #[.int .i64 0, .slice none 0 0, .slice none 0 0] 27 (0, 0)) by (simp only [heap_alloc, heap_drew, size_alloc]; repeat (first | rw [if_pos trivial] | rw [if_pos (by omega)] | rw [if_neg (by omega)])))
    all_goals have pz := hbl.size
    all_goals simp only [size_alloc, heap_drew] at pz
    any_goals
      refine ⟨_, _, rfl, ?_, ?_, ?_, kw_after w' _ l _ bs (own_low ho (by simp [size_alloc, heap_drew])) ?_⟩
      · go_grown
        all_goals exact hB2
      · rw [heap_alloc, if_neg (by omega), p0]
      · rw [heap_alloc, if_neg (by omega), p1]
      · omega
    any_goals
      refine ⟨_, _, rfl, ?_, ?_, ?_, kw_ahead w' _ _ l _ bs (own_low ho (by simp [size_alloc, heap_drew])) ?_ ?_⟩
      · go_grown
        all_goals exact hB2
      · simp (disch := omega) only [heap_set]; exact p0
      · simp (disch := omega) only [heap_set]; exact p1
      · omega
      · refine (hbl.block (w.heap.size + 2) (by simp only [size_alloc, heap_drew]; omega)).trans ?_
        simp only [heap_alloc, heap_drew, size_alloc]; repeat (first | rw [if_pos trivial] | rw [if_pos (by omega)] | rw [if_neg (by omega)])
  case rest =>
    obtain ⟨g, bv, rfl, hB0, hx0, hy0, hkb0⟩ := hcut
    have HB0 := Lib.hid hB0
    have Hx0 := Lib.hid hx0
    have Hy0 := Lib.hid hy0
    have Hkb0 := Lib.hid hkb0
    clear hB0 hx0 hy0 hkb0 HbBs
    go_wp2_with fail
    go_loopw [4] (fun i wr => ∃ (k : Nat) (kv : Value), k ≤ ks.length ∧ i = .int .i64 k ∧ Below w.heap.size w wr ∧ wr.heap[w.heap.size]? = some (.cells #[.int .i64 l, .slice Ab bs.length cb, .slice A ks.length c] 27 (0, 0)) ∧ wr.heap[w.heap.size + 1]? = some (.cells #[.int .i64 0, .slice none 0 0, .slice none 0 0] 27 (0, 0)) ∧ Kw (w.heap.size + 2) wr g l bv kv bs (ks.take k)) (fun i _ => ks.length - (intOf i).toNat)
    case atStart => exact ⟨0, _, by omega, rfl, HB0.out, Hx0.out, Hy0.out, by simpa using Hkb0.out⟩
    case round =>
      obtain ⟨k, kv, hk, rfl, hB, hx, hy, hkb⟩ := hrel
      have r2 : wr.cell? ⟨w.heap.size, 2, none⟩ = some (.slice A ks.length c) := by simp [World.cell?, hx]
      obtain ⟨g0, g1, g2, g3⟩ := hkb.cells
      obtain ⟨y0, y1, y2, y3⟩ := block_cells hy
      have hlen : (ks.take k).length = k := by rw [List.length_take]; omega
      obtain ⟨⟨Ab2, cb2, rfl⟩, ⟨Ak, ck, rfl⟩⟩ := kw_shape hkb
      rw [hlen] at g2 hkb
      have HB := Lib.hid hB
      have Hx := Lib.hid hx
      have Hy := Lib.hid hy
      have Hkb := Lib.hid hkb
      clear hB hx hy hkb
      by_cases hlt : k < ks.length
      · obtain ⟨ga, offa, rfl, hSa, hcell⟩ := Hr.out.2 (by omega)
        obtain ⟨d0, d1, d2, hd0, hd1, hd2, hit⟩ := Hk.out.at_ k hlt
        have hga := HS.out ga hSa
        have e0 := (HB.out.cell (p := ⟨ga, offa + 3 * k, none⟩) hga).trans (hcell _ _ hd0)
        have e1 := (HB.out.cell (p := ⟨ga, offa + (3 * k + 1), none⟩) hga).trans (hcell _ _ hd1)
        have e2 := (HB.out.cell (p := ⟨ga, offa + (3 * k + 2), none⟩) hga).trans (hcell _ _ hd2)
        have Hhit := Lib.hid hit
        clear hcell hd0 hd1 hd2 hit
        have Hgw : g ≠ w.heap.size := by have := Hkb.out.hb; omega
        have hgw2 : w.heap.size ≠ g := fun e => Hgw e.symm
        have hgw3 : g ≠ ga := by have := Hkb.out.hb; omega
        have hgw4 : ga ≠ g := fun e => hgw3 e.symm
        have hgw5 : g ≠ w.heap.size + 1 := by have := Hkb.out.hb; omega
        have Hrr := HB.out.size
        have Hgl := Hkb.out.lt
        have Hy9 := (Array.getElem?_eq_some_iff.1 Hy.out).1
        obtain ⟨inr, Ho, Hkk⟩ := Hkb.out.row hlen
        have Hol := fun b h => (Ho.lt b h).1
        have n0 : (Value.slice Ak k ck).ownBlock ≠ some w.heap.size := fun h => by have := Hol _ h; omega
        have n1 : (Value.slice Ak k ck).ownBlock ≠ some (w.heap.size + 1) := fun h => by have := Hol _ h; omega
        have n2 : (Value.slice Ak k ck).ownBlock ≠ some ga := fun h => by have := Hol _ h; omega
        have n3 : (Value.slice Ak k ck).ownBlock ≠ some g := Hkb.out.ne
        have N0 := Lib.hid n0
        have N1 := Lib.hid n1
        have N2 := Lib.hid n2
        have N3 := Lib.hid n3
        have HO := Lib.hid Ho
        have HKK := Lib.hid Hkk
        clear n0 n1 n2 n3 Ho Hkk Hol
        obtain ⟨i27, hi27, hz27, hs27, hby27⟩ := ty27
        have HI := Lib.hid hi27
        have HZ := Lib.hid hz27
        have HS27 := Lib.hid hs27
        have HBY := Lib.hid hby27
        clear hi27 hz27 hs27 hby27
        have hks : ks.length ≤ 1073741824 := by have a1 := Hbulk.out; have := bulks_length ks; simp only [bulk] at a1; omega
        have HBK : Hid (bulk (ks[k]'hlt) ≤ 1073741824) := by have a1 := Hbulk.out; have := bulks_mem (List.getElem_mem hlt); simp only [bulk] at a1; exact (by omega : bulk (ks[k]'hlt) ≤ 1073741824)
        have HKS := Lib.hid hks
        have A2 : Hid (k + 1 ≤ maxLen) := (show _ ≤ _ from by simp only [maxLen]; omega)
        have A3 : Hid ((k + 1) * 56 ≤ 140737488355328) := (show _ ≤ _ from by omega)
        clear hks
        have K1 : Hid (∀ W : World, W.heap = wr.heap → ItemR W S (ks[k]'hlt) [d0, d1, d2]) := fun W hW => ItemR.keep (fun b hb => by rw [hW]; exact HB.out.block b (HS.out b hb)) _ _ Hhit.out
        have K2 : Hid (∀ W : World, W.heap = wr.heap → ∀ b, S b → b < W.heap.size) := fun W hW b hb => by rw [hW]; exact Nat.lt_of_lt_of_le (HS.out b hb) Hrr
        rw [show 3 * k = k * 3 from Nat.mul_comm _ _, ← Nat.add_assoc] at e1 e2
        rw [show 3 * k = k * 3 from Nat.mul_comm _ _] at e0
        go_wp2_with fail
        go_region_law
          (first
            | (go_simp; go_at_call 15; refine (Hih.out (ks[k]'hlt) (List.getElem_mem hlt) S d0 d1 d2 _ (K1.out _ (by rfl)) (K2.out _ (by rfl)) HBK.out).mono ?_
               rintro e w1 ⟨f0, f1, f2, rfl, hit1, hbl⟩
               obtain ⟨⟨fl, rfl⟩, ⟨fA, fn, fc, rfl⟩, ⟨fB, fm, fd, rfl⟩⟩ := item_shape (ItemW.r _ _ hit1)
               have q0 := (hbl.cell (p := ⟨w.heap.size, 2, none⟩) (by show w.heap.size < wr.heap.size; omega)).trans r2
               have q1 := (hbl.cell (p := ⟨ga, offa + k * 3, none⟩) (by show ga < wr.heap.size; omega)).trans e0
               have q2 := (hbl.cell (p := ⟨ga, offa + k * 3 + 1, none⟩) (by show ga < wr.heap.size; omega)).trans e1
               have q3 := (hbl.cell (p := ⟨ga, offa + k * 3 + 2, none⟩) (by show ga < wr.heap.size; omega)).trans e2
               have q4 := (hbl.cell (p := ⟨g, 2, none⟩) (by show g < wr.heap.size; omega)).trans g2
               have q5 := (hbl.frozen (p := ⟨g, 2, none⟩) (by show g < wr.heap.size; omega)).trans g3
               have hbz := hbl.size
               have hltg : g < w1.heap.size := Nat.lt_of_lt_of_le Hgl hbz
               have hne1 : g ≠ w1.heap.size := Nat.ne_of_lt hltg
               have hne2 : w1.heap.size ≠ g := fun e => hne1 e.symm
               have q6 : (w1.alloc (.cells #[.int .i64 fl, .slice fA fn fc, .slice fB fm fd] 27)).cell? ⟨g, 2, none⟩ = some (.slice Ak k ck) := by simp [go_sem, hltg, q4]
               have HIT := Lib.hid hit1
               have HBL := Lib.hid hbl
               have A1 : Hid (∀ u ∈ [Value.int .i64 fl, Value.slice fA fn fc, Value.slice fB fm fd], u.oneCell' = true) := fun u hu => by
                 rcases List.mem_cons.1 hu with rfl | hu
                 · rfl
                 rcases List.mem_cons.1 hu with rfl | hu
                 · rfl
                 rcases List.mem_cons.1 hu with rfl | hu
                 · rfl
                 cases hu
               have A4 : Hid (w.heap.size + 2 ≤ (w1.alloc (.cells #[.int .i64 fl, .slice fA fn fc, .slice fB fm fd] 27)).heap.size) := (show _ ≤ _ from by rw [size_alloc]; have h9 : wr.heap.size ≤ w1.heap.size := hbz; omega)
               clear hit1 hbl)
            | (refine step_append_lies _ rfl (.tmp 19) (.tmp 26) 25 rfl (w.heap.size + 2) 27 i27 _ 3 56 Try.underlying25 HI.out HZ.out HS27.out HBY.out rfl (Nat.succ_pos _) (.slice Ak k ck) k inr rfl (own_keep HO.out fun b hb => (Below.heap_alloc _ _ _ (Nat.lt_of_lt_of_le (HO.out.lt b hb).2 HBL.out.size)).trans (HBL.out.block b (HO.out.lt b hb).2)) ⟨w1.heap.size, 0, none⟩ 1 1 [.int .i64 fl, .slice fA fn fc, .slice fB fm fd] rfl rfl (new3 w1 _ _ _ _) A1.out (Nat.le_refl _) A2.out A3.out A4.out _ rfl ?_
               intro gn cap w2 hown2 hgrow2 hat2 hlt2
               have hbz2 : wr.heap.size ≤ w1.heap.size := hbz
               have p0 := grown_cells hgrow2 (by omega) N0.out q0
               have p1 := grown_cells hgrow2 (by omega) N2.out q1
               have p2 := grown_cells hgrow2 (by omega) N2.out q2
               have p3 := grown_cells hgrow2 (by omega) N2.out q3
               have p4 := grown_cells hgrow2 (by omega) N3.out q4
               have p5 := grown_frozen hgrow2 (by omega) N3.out q5
               have HOWN := Lib.hid hown2
               have HGROW := Lib.hid hgrow2
               have HAT := Lib.hid hat2
               clear hown2 hgrow2 hat2))
        all_goals
          go_wp2_with fail
          go_roundw
          case measure => simp [intOf]; omega
          case rel =>
            have z1 : wr.heap.size ≤ w1.heap.size := hbz
            have b1 : Below w.heap.size w w1 := HB.out.trans (Below.mono (undrew HBL.out) Hrr)
            refine ⟨k + 1, .slice (some ⟨gn, 0, none⟩) (k + 1) cap, by omega, by go_num, ?_, ?_, ?_, ?_⟩
            · exact ((b1.alloc (Nat.le_trans Hrr z1) _).grown HGROW.out (by rw [size_alloc]; omega) (fun b hb => by have := (HO.out.lt b hb).1; omega)).setCell (by show w.heap.size ≤ g; have := Hkb.out.hb; omega) _
            · refine (heap_set _ _ _ _ _ Hgw).trans (grown_block HGROW.out (by omega) N0.out ?_)
              exact ((undrew HBL.out).block w.heap.size (by show w.heap.size < wr.heap.size; omega)).trans Hx.out
            · refine (heap_set _ _ _ _ _ hgw5).trans (grown_block HGROW.out (by omega) N1.out ?_)
              exact ((undrew HBL.out).block (w.heap.size + 1) (by show w.heap.size + 1 < wr.heap.size; omega)).trans Hy.out
            · rw [show ks.take (k + 1) = ks.take k ++ [ks[k]'hlt] from (List.take_append_getElem hlt).symm]
              exact Hkb.out.grow (undrew HBL.out) HIT.out hlen HO.out HKK.out HOWN.out HGROW.out HAT.out
      · obtain rfl : k = ks.length := by omega
        go_wp2_with fail
        have hgw5 : w.heap.size + 1 ≠ g := by have := Hkb.out.hb; omega
        refine bodyPost_ret (v := .agg #[.int .i64 l, .slice Ab2 bs.length cb2, .slice Ak ks.length ck]) (by simp [results, Try.results15, go_sem, y0, y1, y2]) rfl ?_
        have hz := HB.out.size
        have Hy9 := (Array.getElem?_eq_some_iff.1 Hy.out).1
        have ht : ks.take ks.length = ks := List.take_length
        have hI := Hkb.out.item
        rw [ht] at hI
        refine ⟨_, _, _, rfl, ItemW.wide (fun b hb => ⟨by have := hb.1; omega, by simpa [World.setCell] using hb.2⟩) _ _ (ItemW.keep (fun b hb => ?_) _ _ hI), ?_⟩
        · have hb1 : w.heap.size + 1 ≠ b := by have := hb.1; omega
          simp (disch := exact hb1) only [heap_set]
        · exact ((HB.out.setCell (by show _ ≤ w.heap.size + 1; omega) _).setCell (by show _ ≤ w.heap.size + 1; omega) _).setCell (by show _ ≤ w.heap.size + 1; omega) _
end Go.Proofs.Ytkdpphcalekbdaa.S1
