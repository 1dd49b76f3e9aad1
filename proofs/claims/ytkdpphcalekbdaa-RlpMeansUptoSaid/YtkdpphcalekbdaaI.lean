/- Items in memory: what three cells read as an item; an item under construction, kid by kid. -/
import Derived.Test.YtkdpphcalekbdaaM
set_option linter.unusedVariables false
set_option linter.unusedSimpArgs false
namespace Go.Proofs.Ytkdpphcalekbdaa.M
open Go.RowKit

/-- An item. -/
inductive It where
  | mk (l : Int) (bs : List UInt8) (ks : List It)

mutual
/-- How many bytes and items. -/
def bulk : It → Nat
  | .mk _ bs ks => bs.length + 1 + bulks ks
def bulks : List It → Nat
  | [] => 0
  | k :: ks => bulk k + bulks ks
end
theorem bulk_pos : ∀ x : It, 1 ≤ bulk x
  | .mk l bs ks => by simp only [bulk]; omega
theorem bulks_mem {k : It} : ∀ {ks : List It}, k ∈ ks → bulk k ≤ bulks ks
  | x :: ks, h => by
    simp only [bulks]
    rcases List.mem_cons.1 h with h | h
    · subst h; omega
    · have := bulks_mem h; omega
theorem bulks_length : ∀ ks : List It, ks.length ≤ bulks ks
  | [] => by simp [bulks]
  | k :: ks => by have := bulks_length ks; have := bulk_pos k; simp only [bulks, List.length_cons]; omega
theorem bulks_append (a b : List It) : bulks (a ++ b) = bulks a + bulks b := by
  induction a with
  | nil => simp [bulks]
  | cons x a ih => simp only [List.cons_append, bulks, ih]; omega
/-- From the kids to the item. -/
theorem It.ind {P : It → Prop} (h : ∀ l bs ks, (∀ k ∈ ks, P k) → P (.mk l bs ks)) (x : It) : P x := by
  have key : ∀ n x, bulk x ≤ n → P x := by
    intro n
    induction n with
    | zero => intro x hx; have := bulk_pos x; omega
    | succ n ih =>
      intro x hx
      cases x with
      | mk l bs ks =>
        refine h l bs ks fun k hk => ih k ?_
        have := bulks_mem hk
        simp only [bulk] at hx
        omega
  exact key _ x (Nat.le_refl _)

/-- A slice's cells, in blocks of S. -/
def RdS (w : World) (S : Nat → Prop) (size : Nat) (A : Option Addr) (n : Nat) (xs : List Value) : Prop :=
  xs.length = n * size ∧ (0 < n → ∃ g off, A = some ⟨g, off, none⟩ ∧ S g ∧ ∀ j u, xs[j]? = some u → w.cell? ⟨g, off + j, none⟩ = some u)
/-- A slice of bytes, in blocks of S. -/
def BsS (w : World) (S : Nat → Prop) (v : Value) (bs : List UInt8) : Prop :=
  ∃ A c, v = .slice A bs.length c ∧ bs.length ≤ c ∧ c ≤ 9223372036854775807 ∧ RdS w S 1 A bs.length (nums bs)
/-- Blocks of S hold what they held. -/
def SameS (S : Nat → Prop) (w w' : World) : Prop := ∀ k, S k → w'.heap[k]? = w.heap[k]?

section
variable {w w' : World} {S S' : Nat → Prop} {size n : Nat} {A : Option Addr} {xs : List Value} {v : Value} {bs : List UInt8}
theorem RdS.keep (h : RdS w S size A n xs) (hs : SameS S w w') : RdS w' S size A n xs :=
  ⟨h.1, fun hn => by
    obtain ⟨g, off, e, h1, hc⟩ := h.2 hn
    exact ⟨g, off, e, h1, fun j u hu => (World.cell?_of_block (w := w) (hs g h1)).trans (hc j u hu)⟩⟩
theorem RdS.wide (h : RdS w S size A n xs) (h1 : ∀ b, S b → S' b) : RdS w S' size A n xs :=
  ⟨h.1, fun hn => by
    obtain ⟨g, off, e, a1, hc⟩ := h.2 hn
    exact ⟨g, off, e, h1 _ a1, hc⟩⟩
theorem RdS.toRd {lo hi : Nat} (h : RdS w S size A n xs) (h1 : ∀ b, S b → lo ≤ b ∧ b < hi) : Rd w lo hi size A n xs :=
  ⟨h.1, fun hn => by
    obtain ⟨g, off, e, a1, hc⟩ := h.2 hn
    exact ⟨g, off, e, (h1 _ a1).1, (h1 _ a1).2, hc⟩⟩
theorem Rd.toS {lo hi : Nat} (h : Rd w lo hi size A n xs) (h1 : ∀ b, lo ≤ b → b < hi → S b) : RdS w S size A n xs :=
  ⟨h.1, fun hn => by
    obtain ⟨g, off, e, a1, a2, hc⟩ := h.2 hn
    exact ⟨g, off, e, h1 _ a1 a2, hc⟩⟩
theorem BsS.keep (h : BsS w S v bs) (hs : SameS S w w') : BsS w' S v bs := by
  obtain ⟨A, c, e, h1, h2, h3⟩ := h
  exact ⟨A, c, e, h1, h2, h3.keep hs⟩
theorem BsS.wide (h : BsS w S v bs) (h1 : ∀ b, S b → S' b) : BsS w S' v bs := by
  obtain ⟨A, c, e, a1, a2, h3⟩ := h
  exact ⟨A, c, e, a1, a2, h3.wide h1⟩
theorem BsS.toBs {lo hi : Nat} (h : BsS w S v bs) (h1 : ∀ b, S b → lo ≤ b ∧ b < hi) : Bs w lo hi v bs := by
  obtain ⟨A, c, e, a1, a2, h3⟩ := h
  exact ⟨A, c, e, a1, a2, h3.toRd h1⟩
theorem Bs.toS {lo hi : Nat} (h : Bs w lo hi v bs) (h1 : ∀ b, lo ≤ b → b < hi → S b) : BsS w S v bs := by
  obtain ⟨A, c, e, a1, a2, h3⟩ := h
  exact ⟨A, c, e, a1, a2, h3.toS h1⟩
end

mutual
/-- Three cells that read as an item. -/
def ItemR (w : World) (S : Nat → Prop) : It → List Value → Prop
  | .mk l bs ks, cs => ∃ v A c inner, cs = [.int .i64 l, v, .slice A ks.length c] ∧ BsS w S v bs ∧ ks.length ≤ c ∧ c ≤ 9223372036854775807 ∧ RdS w S 3 A ks.length inner ∧ KidsR w S ks inner
def KidsR (w : World) (S : Nat → Prop) : List It → List Value → Prop
  | [], cs => cs = []
  | k :: ks, cs => ∃ c0 rest, cs = c0 ++ rest ∧ ItemR w S k c0 ∧ KidsR w S ks rest
end
mutual
theorem ItemR.keep {w w' : World} {S : Nat → Prop} (hs : SameS S w w') : ∀ (x : It) (cs : List Value), ItemR w S x cs → ItemR w' S x cs
  | .mk l bs ks, cs, h => by
    simp only [ItemR] at h ⊢
    obtain ⟨v, A, c, inner, e, hb, h1, h2, hr, hk⟩ := h
    exact ⟨v, A, c, inner, e, hb.keep hs, h1, h2, hr.keep hs, KidsR.keep hs ks inner hk⟩
theorem KidsR.keep {w w' : World} {S : Nat → Prop} (hs : SameS S w w') : ∀ (ks : List It) (cs : List Value), KidsR w S ks cs → KidsR w' S ks cs
  | [], cs, h => by simpa only [KidsR] using h
  | k :: ks, cs, h => by
    simp only [KidsR] at h ⊢
    obtain ⟨c0, rest, e, hi, hk⟩ := h
    exact ⟨c0, rest, e, ItemR.keep hs k c0 hi, KidsR.keep hs ks rest hk⟩
end
mutual
theorem ItemR.wide {w : World} {S S' : Nat → Prop} (h1 : ∀ b, S b → S' b) : ∀ (x : It) (cs : List Value), ItemR w S x cs → ItemR w S' x cs
  | .mk l bs ks, cs, h => by
    simp only [ItemR] at h ⊢
    obtain ⟨v, A, c, inner, e, hb, a1, a2, hr, hk⟩ := h
    exact ⟨v, A, c, inner, e, hb.wide h1, a1, a2, hr.wide h1, KidsR.wide h1 ks inner hk⟩
theorem KidsR.wide {w : World} {S S' : Nat → Prop} (h1 : ∀ b, S b → S' b) : ∀ (ks : List It) (cs : List Value), KidsR w S ks cs → KidsR w S' ks cs
  | [], cs, h => by simpa only [KidsR] using h
  | k :: ks, cs, h => by
    simp only [KidsR] at h ⊢
    obtain ⟨c0, rest, e, hi, hk⟩ := h
    exact ⟨c0, rest, e, ItemR.wide h1 k c0 hi, KidsR.wide h1 ks rest hk⟩
end
theorem ItemR.len {w : World} {S : Nat → Prop} : ∀ {x : It} {cs : List Value}, ItemR w S x cs → cs.length = 3
  | .mk l bs ks, cs, h => by
    simp only [ItemR] at h
    obtain ⟨v, A, c, inner, e, _⟩ := h
    subst e; rfl
theorem ItemR.one {w : World} {S : Nat → Prop} : ∀ {x : It} {cs : List Value}, ItemR w S x cs → ∀ u ∈ cs, u.oneCell' = true
  | .mk l bs ks, cs, h => by
    simp only [ItemR] at h
    obtain ⟨v, A, c, inner, rfl, ⟨A', c', rfl, _⟩, _⟩ := h
    intro u hu
    simp at hu
    rcases hu with rfl | rfl | rfl <;> rfl
theorem KidsR.length {w : World} {S : Nat → Prop} : ∀ {ks : List It} {cs : List Value}, KidsR w S ks cs → cs.length = ks.length * 3
  | [], cs, h => by simp only [KidsR] at h; subst h; rfl
  | k :: ks, cs, h => by
    simp only [KidsR] at h
    obtain ⟨c0, rest, rfl, hi, hk⟩ := h
    rw [List.length_append, hi.len, hk.length, List.length_cons]; omega
/-- Kid number j. -/
theorem KidsR.at_ {w : World} {S : Nat → Prop} : ∀ {ks : List It} {cs : List Value}, KidsR w S ks cs → ∀ j (hj : j < ks.length),
    ∃ c0 c1 c2, cs[3 * j]? = some c0 ∧ cs[3 * j + 1]? = some c1 ∧ cs[3 * j + 2]? = some c2 ∧ ItemR w S (ks[j]'hj) [c0, c1, c2]
  | [], cs, _, j, hj => by simp at hj
  | k :: ks, cs, h, j, hj => by
    simp only [KidsR] at h
    obtain ⟨cs0, rest, rfl, hi, hk⟩ := h
    match cs0, hi.len with
    | [c0, c1, c2], _ =>
      cases j with
      | zero => exact ⟨c0, c1, c2, rfl, rfl, rfl, hi⟩
      | succ j =>
        obtain ⟨d0, d1, d2, h0, h1, h2, h3⟩ := hk.at_ j (by simpa using hj)
        refine ⟨d0, d1, d2, ?_, ?_, ?_, h3⟩
        · rw [show 3 * (j + 1) = 3 * j + 3 from by omega]; simpa using h0
        · rw [show 3 * (j + 1) + 1 = 3 * j + 1 + 3 from by omega]; simpa using h1
        · rw [show 3 * (j + 1) + 2 = 3 * j + 2 + 3 from by omega]; simpa using h2
theorem KidsR.append {w : World} {S : Nat → Prop} : ∀ {ks : List It} {cs : List Value}, KidsR w S ks cs → ∀ {k : It} {c : List Value}, ItemR w S k c → KidsR w S (ks ++ [k]) (cs ++ c)
  | [], cs, h, k, c, hk => by
    simp only [KidsR] at h; subst h
    simp only [List.nil_append, KidsR]
    exact ⟨c, [], by simp, hk, rfl⟩
  | x :: ks, cs, h, k, c, hk => by
    simp only [KidsR] at h
    obtain ⟨cs0, rest, rfl, hi, hr⟩ := h
    simp only [List.cons_append, KidsR]
    exact ⟨cs0, rest ++ c, by simp, hi, hr.append hk⟩

/-- Blocks lo to hi. -/
def Btw (lo hi : Nat) : Nat → Prop := fun b => lo ≤ b ∧ b < hi
/-- What an item under construction leaves to its parts: all blocks of the call's own but its variable's and its kids' row. -/
def Free (base : Nat) (W : World) (g : Nat) (kv : Value) : Nat → Prop := fun b => base ≤ b ∧ b < W.heap.size ∧ b ≠ g ∧ some b ≠ kv.ownBlock

/-- BLOCK g HOLDS AN ITEM UNDER CONSTRUCTION. -/
structure Kb (base : Nat) (W : World) (g : Nat) (l : Int) (bv kv : Value) (bs : List UInt8) (ks : List It) : Prop where
  hg : W.heap[g]? = some (.cells #[.int .i64 l, bv, kv] 27 (0, 0))
  hb : base ≤ g
  ne : kv.ownBlock ≠ some g
  bytes : BsS W (Free base W g kv) bv bs
  own : ∃ inner, W.ownsRow base 27 3 kv ks.length inner ∧ KidsR W (Free base W g kv) ks inner

section
variable {base g : Nat} {W W' : World} {l : Int} {bv kv : Value} {bs : List UInt8} {ks : List It}
theorem Kb.lt (h : Kb base W g l bv kv bs ks) : g < W.heap.size := (Array.getElem?_eq_some_iff.1 h.hg).1
/-- It lives on where nothing of it is written. -/
theorem Kb.later (h : Kb base W g l bv kv bs ks) (hb : Below W.heap.size W W') : Kb base W' g l bv kv bs ks := by
  have hf : ∀ b, Free base W g kv b → Free base W' g kv b := fun b ⟨h1, h2, h3, h4⟩ => ⟨h1, Nat.lt_of_lt_of_le h2 hb.size, h3, h4⟩
  have hs : SameS (Free base W g kv) W W' := fun b hb' => hb.block b hb'.2.1
  obtain ⟨inner, ho, hk⟩ := h.own
  exact ⟨(hb.block g h.lt).trans h.hg, h.hb, h.ne, (h.bytes.keep hs).wide hf, inner, own_keep ho (fun k hk' => hb.block k (ho.lt k hk').2), KidsR.wide hf _ _ (KidsR.keep hs _ _ hk)⟩
/-- What it reads as. -/
theorem Kb.item (h : Kb base W g l bv kv bs ks) : ItemR W (Btw base W.heap.size) (.mk l bs ks) [.int .i64 l, bv, kv] := by
  obtain ⟨inner, ho, hk⟩ := h.own
  have hf : ∀ b, Free base W g kv b → Btw base W.heap.size b := fun b h => ⟨h.1, h.2.1⟩
  simp only [ItemR]
  rcases ho.2 with ⟨hv, h0⟩ | ⟨b, cap, cur, hv, hb, hg, hnc, hcm, hcs, htake⟩
  · subst hv
    have : ks = [] := List.eq_nil_of_length_eq_zero h0
    subst this
    exact ⟨bv, none, 0, inner, rfl, h.bytes.wide hf, by simp, by omega, ⟨by rw [hk.length], fun h => absurd h (by simp)⟩, KidsR.wide hf _ _ hk⟩
  · subst hv
    refine ⟨bv, _, cap, inner, rfl, h.bytes.wide hf, hnc, by simpa [maxLen] using hcm, ?_, KidsR.wide hf _ _ hk⟩
    have hlt := ho.lt b rfl
    exact (Rd.of_own ho).toS fun k h1 h2 => ⟨h1, h2⟩
theorem Kb.cells (h : Kb base W g l bv kv bs ks) : W.cell? ⟨g, 0, none⟩ = some (.int .i64 l) ∧ W.cell? ⟨g, 1, none⟩ = some bv ∧ W.cell? ⟨g, 2, none⟩ = some kv ∧ W.frozen? ⟨g, 2, none⟩ = false := by
  refine ⟨?_, ?_, ?_, ?_⟩
  · simp [World.cell?, h.hg]
  · simp [World.cell?, h.hg]
  · simp [World.cell?, h.hg]
  · simp [World.frozen?, h.hg]
/-- One kid more: W1: behind what made the kid; its cells boxed; appended (w'); stored. -/
theorem Kb.append (h : Kb base W g l bv kv bs ks) {W1 w' : World} (hb1 : Below W.heap.size W W1) {k : It} {cs : List Value} (hk : ItemR W1 (Btw W.heap.size W1.heap.size) k cs) {kv' : Value} {inner : List Value}
    (hin : W1.ownsRow base 27 3 kv ks.length inner) (hown : w'.ownsRow base 27 3 kv' (ks.length + 1) (inner ++ cs)) (o : Obj) (hgrow : (W1.alloc o).grownBy w' kv.ownBlock)
    (hat : kv'.ownBlock = kv.ownBlock ∨ kv'.ownBlock = some (W1.alloc o).heap.size) (hinK : KidsR W1 (Free base W1 g kv) ks inner) :
    Kb base (w'.setCell ⟨g, 2, none⟩ kv') g l bv kv' bs (ks ++ [k]) := by
  have h1 := h.later hb1
  have hg1 := h1.lt
  have hg0 := h.lt
  have hsz : (W1.alloc o).heap.size = W1.heap.size + 1 := by simp
  have hsz' := hgrow.size
  have hne' : kv'.ownBlock ≠ some g := by
    rcases hat with e | e
    · rw [e]; exact h.ne
    · rw [e]; intro e'; injection e' with e'; omega
  have hsame : ∀ b, b < W1.heap.size → b ≠ g → some b ≠ kv.ownBlock → (w'.setCell ⟨g, 2, none⟩ kv').heap[b]? = W1.heap[b]? := fun b h1 h2 h3 =>
    (Below.heap_setCell _ _ _ _ h2).trans ((hgrow.block b (by omega) h3).trans (Below.heap_alloc _ _ _ h1))
  have hS1 : SameS (Free base W1 g kv) W1 (w'.setCell ⟨g, 2, none⟩ kv') := fun b hb => hsame b hb.2.1 hb.2.2.1 hb.2.2.2
  have hszF : (w'.setCell ⟨g, 2, none⟩ kv').heap.size = w'.heap.size := by simp [World.setCell]
  have hfr : ∀ b, Free base W1 g kv b → Free base (w'.setCell ⟨g, 2, none⟩ kv') g kv' b := fun b ⟨a1, a2, a3, a4⟩ => ⟨a1, by omega, a3, by
    rcases hat with e | e
    · rw [e]; exact a4
    · rw [e]; intro e'; injection e' with e'; omega⟩
  have hSk : SameS (Btw W.heap.size W1.heap.size) W1 (w'.setCell ⟨g, 2, none⟩ kv') := fun b hb => hsame b hb.2 (by have := hb.1; omega) (fun e => by
    obtain ⟨inner0, ho0, _⟩ := h.own
    have := ho0.lt b e.symm
    have := hb.1
    omega)
  have hfk : ∀ b, Btw W.heap.size W1.heap.size b → Free base (w'.setCell ⟨g, 2, none⟩ kv') g kv' b := fun b hb => by
    obtain ⟨inner0, ho0, _⟩ := h.own
    have hbb := hb.1
    have hb2 := hb.2
    have hbase : base ≤ W.heap.size := by have := h.hb; omega
    refine ⟨by omega, by omega, by omega, ?_⟩
    rcases hat with e | e
    · rw [e]; intro e'; have := ho0.lt b e'.symm; omega
    · rw [e]; intro e'; injection e' with e'; omega
  refine ⟨?_, h.hb, hne', (h1.bytes.keep hS1).wide hfr, inner ++ cs, ?_, ?_⟩
  · have hgw : w'.heap[g]? = some (.cells #[.int .i64 l, bv, kv] 27 (0, 0)) := (hgrow.block g (by omega) (fun e => h.ne e.symm)).trans ((Below.heap_alloc _ _ _ hg1).trans h1.hg)
    simp [World.setCell, Array.getElem?_modify, hgw]
  · rw [List.length_append, List.length_singleton]
    exact own_keep hown fun b hb => Below.heap_setCell _ _ _ _ (fun e => hne' (by rw [hb]; exact congrArg some e))
  · exact (KidsR.wide hfr _ _ (KidsR.keep hS1 _ _ hinK)).append (ItemR.wide hfk _ _ (ItemR.keep hSk _ _ hk))
/-- It begins. -/
theorem Kb.start (W : World) (base g : Nat) (l : Int) (bv : Value) (bs : List UInt8) (hg : W.heap[g]? = some (.cells #[.int .i64 l, bv, .slice none 0 0] 27 (0, 0))) (hb : base ≤ g)
    (hbs : BsS W (fun b => base ≤ b ∧ b < W.heap.size ∧ b ≠ g) bv bs) : Kb base W g l bv (.slice none 0 0) bs [] :=
  ⟨hg, hb, by simp [Value.ownBlock], hbs.wide (fun b h => ⟨h.1, h.2.1, h.2.2, by simp [Value.ownBlock]⟩), [], World.ownsRow_nil _ _ _ _, rfl⟩
end
end Go.Proofs.Ytkdpphcalekbdaa.M
