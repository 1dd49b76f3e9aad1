/- spoil: it returns, and writes over nothing but the item's own blocks. -/
import Derived.Test.YtkdpphcalekbdaaS1
set_option linter.unusedVariables false
set_option linter.unusedSimpArgs false
namespace Go.Proofs.Ytkdpphcalekbdaa.S2
open Go.ChangeShapes Go.WideShapes Go.ChangeAt Go.RowKit
open M S1
/-- A slice of bytes in a block of bytes. -/
def OkB (w : World) (S : Nat → Prop) (v : Value) : Prop :=
  ∃ A n c, v = .slice A n c ∧ n ≤ c ∧ n ≤ 1073741824 ∧ (0 < n → ∃ (g : Nat) (cur : Array Value), A = some ⟨g, 0, none⟩ ∧ S g ∧ w.heap[g]? = some (.cells cur 5 (0, 0)) ∧ ∀ j, j < n → ∃ k : Int, cur[j]? = some (.int .u8 k))
/-- A slice of items, d deep, in blocks of items. -/
def OkK (w : World) (S : Nat → Prop) : Nat → Value → Prop
  | 0, v => ∃ A c, v = .slice A 0 c
  | d + 1, v => ∃ A n c, v = .slice A n c ∧ n ≤ c ∧ n ≤ 1073741824 ∧ (0 < n → ∃ (g : Nat) (cur : Array Value), A = some ⟨g, 0, none⟩ ∧ S g ∧ w.heap[g]? = some (.cells cur 27 (0, 0)) ∧
      ∀ j, j < n → ∃ (l : Int) (bv kv : Value), cur[3 * j]? = some (.int .i64 l) ∧ cur[3 * j + 1]? = some bv ∧ cur[3 * j + 2]? = some kv ∧ OkB w S bv ∧ OkK w S d kv)
theorem okB_nil (w : World) (S : Nat → Prop) : OkB w S (.slice none 0 0) := ⟨none, 0, 0, rfl, Nat.le_refl _, by omega, fun h => absurd h (Nat.lt_irrefl _)⟩
theorem okK_nil (w : World) (S : Nat → Prop) : ∀ d, OkK w S d (.slice none 0 0)
  | 0 => ⟨none, 0, rfl⟩
  | d + 1 => ⟨none, 0, 0, rfl, Nat.le_refl _, by omega, fun h => absurd h (Nat.lt_irrefl _)⟩
/-- What spoil may do to memory. -/
structure Sp (S : Nat → Prop) (w w' : World) : Prop where
  os : w'.os = w.os
  tape : w'.tape = w.tape
  output : w'.output = w.output
  size : w.heap.size ≤ w'.heap.size
  out : ∀ k, k < w.heap.size → ¬ S k → w'.heap[k]? = w.heap[k]?
  b5 : ∀ (k : Nat) (cur : Array Value), S k → w.heap[k]? = some (.cells cur 5 (0, 0)) → ∃ cur' : Array Value, w'.heap[k]? = some (.cells cur' 5 (0, 0)) ∧ ∀ (j : Nat) (x : Int), cur[j]? = some (.int .u8 x) → ∃ y : Int, cur'[j]? = some (.int .u8 y)
  b27 : ∀ (k : Nat) (cur : Array Value), S k → w.heap[k]? = some (.cells cur 27 (0, 0)) → ∃ cur' : Array Value, w'.heap[k]? = some (.cells cur' 27 (0, 0)) ∧ ∀ (j : Nat) (l : Int) (bv kv : Value), cur[3 * j]? = some (.int .i64 l) → cur[3 * j + 1]? = some bv → cur[3 * j + 2]? = some kv →
    (cur'[3 * j]? = some (.int .i64 l) ∧ cur'[3 * j + 1]? = some bv ∧ cur'[3 * j + 2]? = some kv) ∨ (cur'[3 * j]? = some (.int .i64 1) ∧ cur'[3 * j + 1]? = some (.slice none 0 0) ∧ cur'[3 * j + 2]? = some (.slice none 0 0))
theorem Sp.of_below {S : Nat → Prop} {w w' : World} (hS : ∀ b, S b → b < w.heap.size) (h : Below w.heap.size w w') : Sp S w w' :=
  ⟨h.os, h.tape, h.output, h.size, fun k hk _ => h.block k hk, fun k cur hs hk => ⟨cur, (h.block k (hS k hs)).trans hk, fun j x hx => ⟨x, hx⟩⟩, fun k cur hs hk => ⟨cur, (h.block k (hS k hs)).trans hk, fun j l bv kv h1 h2 h3 => .inl ⟨h1, h2, h3⟩⟩⟩
theorem Sp.refl (S : Nat → Prop) (w : World) : Sp S w w := ⟨rfl, rfl, rfl, Nat.le_refl _, fun _ _ _ => rfl, fun k cur _ hk => ⟨cur, hk, fun j x hx => ⟨x, hx⟩⟩, fun k cur _ hk => ⟨cur, hk, fun j l bv kv h1 h2 h3 => .inl ⟨h1, h2, h3⟩⟩⟩
theorem Sp.trans {S : Nat → Prop} {a b c : World} (h : Sp S a b) (h' : Sp S b c) : Sp S a c :=
  ⟨h'.os.trans h.os, h'.tape.trans h.tape, h'.output.trans h.output, Nat.le_trans h.size h'.size, fun k hk hs => (h'.out k (Nat.lt_of_lt_of_le hk h.size) hs).trans (h.out k hk hs),
    fun k cur hs hk => by
      obtain ⟨c1, h1, h2⟩ := h.b5 k cur hs hk
      obtain ⟨c2, h3, h4⟩ := h'.b5 k c1 hs h1
      exact ⟨c2, h3, fun j x hx => by obtain ⟨y, hy⟩ := h2 j x hx; exact h4 j y hy⟩,
    fun k cur hs hk => by
      obtain ⟨c1, h1, h2⟩ := h.b27 k cur hs hk
      obtain ⟨c2, h3, h4⟩ := h'.b27 k c1 hs h1
      refine ⟨c2, h3, fun j l bv kv e1 e2 e3 => ?_⟩
      rcases h2 j l bv kv e1 e2 e3 with ⟨f1, f2, f3⟩ | ⟨f1, f2, f3⟩
      · exact h4 j l bv kv f1 f2 f3
      · rcases h4 j _ _ _ f1 f2 f3 with h | h
        · exact .inr h
        · exact .inr h⟩
theorem OkB.sp {S : Nat → Prop} {w w' : World} (h : Sp S w w') {v : Value} (hv : OkB w S v) : OkB w' S v := by
  obtain ⟨A, n, c, rfl, h1, h2, h3⟩ := hv
  refine ⟨A, n, c, rfl, h1, h2, fun hn => ?_⟩
  obtain ⟨g, cur, rfl, hs, hg, hc⟩ := h3 hn
  obtain ⟨cur', hg', hc'⟩ := h.b5 g cur hs hg
  exact ⟨g, cur', rfl, hs, hg', fun j hj => by obtain ⟨x, hx⟩ := hc j hj; exact hc' j x hx⟩
theorem OkK.sp {S : Nat → Prop} {w w' : World} (h : Sp S w w') : ∀ (d : Nat) {v : Value}, OkK w S d v → OkK w' S d v
  | 0, v, hv => hv
  | d + 1, v, hv => by
    obtain ⟨A, n, c, rfl, h1, h2, h3⟩ := hv
    refine ⟨A, n, c, rfl, h1, h2, fun hn => ?_⟩
    obtain ⟨g, cur, rfl, hs, hg, hc⟩ := h3 hn
    obtain ⟨cur', hg', hc'⟩ := h.b27 g cur hs hg
    refine ⟨g, cur', rfl, hs, hg', fun j hj => ?_⟩
    obtain ⟨l, bv, kv, e1, e2, e3, hb, hk⟩ := hc j hj
    rcases hc' j l bv kv e1 e2 e3 with ⟨f1, f2, f3⟩ | ⟨f1, f2, f3⟩
    · exact ⟨l, bv, kv, f1, f2, f3, hb.sp h, OkK.sp h d hk⟩
    · exact ⟨1, _, _, f1, f2, f3, okB_nil _ _, okK_nil _ _ d⟩
theorem cell_blk {w : World} {g j : Nat} {cur : Array Value} {e : TypeId} {u : Value} (hg : w.heap[g]? = some (.cells cur e (0, 0))) (hu : cur[j]? = some u) : w.cell? ⟨g, j, none⟩ = some u := by simp [World.cell?, hg, hu]
theorem frozen_blk {w : World} {g : Nat} {cur : Array Value} {e : TypeId} (hg : w.heap[g]? = some (.cells cur e (0, 0))) (j : Nat) : w.frozen? ⟨g, j, none⟩ = false := by simp [World.frozen?, hg]
theorem set_blk {w : World} {g j : Nat} {cur : Array Value} {e : TypeId} {u : Value} (hg : w.heap[g]? = some (.cells cur e (0, 0))) : (w.setCell ⟨g, j, none⟩ u).heap[g]? = some (.cells (cur.setIfInBounds j u) e (0, 0)) := by simp [World.setCell, Array.getElem?_modify, hg]
/-- A byte is written over. -/
theorem Sp.byte {S : Nat → Prop} {w : World} {g j : Nat} {cur : Array Value} (hs : S g) (hg : w.heap[g]? = some (.cells cur 5 (0, 0))) (x : Int) : Sp S w (w.setCell ⟨g, j, none⟩ (.int .u8 x)) := by
  refine ⟨rfl, rfl, rfl, by simp [World.setCell], fun k hk hn => heap_set _ _ _ _ _ (fun e => hn (e ▸ hs)), fun k c hk he => ?_, fun k c hk he => ?_⟩
  · by_cases e : g = k
    · subst e
      rw [hg] at he
      cases he
      refine ⟨_, set_blk hg, fun i y hy => ?_⟩
      by_cases hi : j = i
      · subst hi
        exact ⟨x, by rw [Array.getElem?_setIfInBounds_self_of_lt (Array.getElem?_eq_some_iff.1 hy).1]⟩
      · exact ⟨y, by rw [Array.getElem?_setIfInBounds_ne hi]; exact hy⟩
    · exact ⟨c, (heap_set _ _ _ _ _ e).trans he, fun i y hy => ⟨y, hy⟩⟩
  · by_cases e : g = k
    · subst e
      rw [hg] at he
      cases he
    · exact ⟨c, (heap_set _ _ _ _ _ e).trans he, fun j l bv kv h1 h2 h3 => .inl ⟨h1, h2, h3⟩⟩
/-- An item is written over. -/
theorem Sp.item {S : Nat → Prop} {w : World} {g j : Nat} {cur : Array Value} (hs : S g) (hg : w.heap[g]? = some (.cells cur 27 (0, 0))) (hj : 3 * j + 2 < cur.size) :
    Sp S w (((w.setCell ⟨g, 3 * j, none⟩ (.int .i64 1)).setCell ⟨g, 3 * j + 1, none⟩ (.slice none 0 0)).setCell ⟨g, 3 * j + 2, none⟩ (.slice none 0 0)) := by
  have hg3 := set_blk (u := .slice none 0 0) (j := 3 * j + 2) (set_blk (u := .slice none 0 0) (j := 3 * j + 1) (set_blk (u := .int .i64 1) (j := 3 * j) hg))
  have hne : ∀ k, g ≠ k → (((w.setCell ⟨g, 3 * j, none⟩ (.int .i64 1)).setCell ⟨g, 3 * j + 1, none⟩ (.slice none 0 0)).setCell ⟨g, 3 * j + 2, none⟩ (.slice none 0 0)).heap[k]? = w.heap[k]? := fun k e => by rw [heap_set _ _ _ _ _ e, heap_set _ _ _ _ _ e, heap_set _ _ _ _ _ e]
  refine ⟨rfl, rfl, rfl, by simp [World.setCell], fun k hk hn => hne k (fun e => hn (e ▸ hs)), fun k c hk he => ?_, fun k c hk he => ?_⟩
  · by_cases e : g = k
    · subst e
      rw [hg] at he
      cases he
    · exact ⟨c, (hne k e).trans he, fun i y hy => ⟨y, hy⟩⟩
  · by_cases e : g = k
    · subst e
      rw [hg] at he
      cases he
      refine ⟨_, hg3, fun i l bv kv h1 h2 h3 => ?_⟩
      by_cases hi : j = i
      · subst hi
        right
        refine ⟨?_, ?_, ?_⟩
        · rw [Array.getElem?_setIfInBounds_ne (by omega), Array.getElem?_setIfInBounds_ne (by omega), Array.getElem?_setIfInBounds_self_of_lt (by omega)]
        · rw [Array.getElem?_setIfInBounds_ne (by omega), Array.getElem?_setIfInBounds_self_of_lt (by simp; omega)]
        · rw [Array.getElem?_setIfInBounds_self_of_lt (by simp; omega)]
      · left
        refine ⟨?_, ?_, ?_⟩
        · rw [Array.getElem?_setIfInBounds_ne (by omega), Array.getElem?_setIfInBounds_ne (by omega), Array.getElem?_setIfInBounds_ne (by omega)]; exact h1
        · rw [Array.getElem?_setIfInBounds_ne (by omega), Array.getElem?_setIfInBounds_ne (by omega), Array.getElem?_setIfInBounds_ne (by omega)]; exact h2
        · rw [Array.getElem?_setIfInBounds_ne (by omega), Array.getElem?_setIfInBounds_ne (by omega), Array.getElem?_setIfInBounds_ne (by omega)]; exact h3
    · exact ⟨c, (hne k e).trans he, fun j l bv kv h1 h2 h3 => .inl ⟨h1, h2, h3⟩⟩
mutual
/-- How deep an item is. -/
def deep : It → Nat
  | .mk _ _ ks => deeps ks
def deeps : List It → Nat
  | [] => 0
  | k :: ks => max (deep k + 1) (deeps ks)
end
theorem deeps_get : ∀ (ks : List It) (j : Nat) (h : j < ks.length), deep (ks[j]'h) + 1 ≤ deeps ks
  | [], _, h => absurd h (by simp)
  | k :: ks, 0, _ => by simp only [deeps, List.getElem_cons_zero]; omega
  | k :: ks, j + 1, h => by
    have := deeps_get ks j (by simpa using h)
    simp only [deeps, List.getElem_cons_succ]; omega
theorem okB_of {w : World} {S : Nat → Prop} {v : Value} {bs : List UInt8} (h : BsW w S v bs) (hl : bs.length ≤ 1073741824) : OkB w S v := by
  obtain ⟨A, c, rfl, h1, h2, h3⟩ := h
  refine ⟨A, _, c, rfl, h1, hl, fun hn => ?_⟩
  obtain ⟨g, cur, rfl, hs, hg, hc⟩ := h3.2 hn
  exact ⟨g, cur, rfl, hs, hg, fun j hj => ⟨_, hc j _ (nums_get bs j hj)⟩⟩
theorem ok_of {w : World} {S : Nat → Prop} : ∀ (d : Nat) (x : It) (c0 c1 c2 : Value), ItemW w S x [c0, c1, c2] → bulk x ≤ 1073741824 → deep x ≤ d → (∃ l, c0 = .int .i64 l) ∧ OkB w S c1 ∧ OkK w S d c2
  | d, .mk l bs ks, c0, c1, c2, h, hb, hd => by
    simp only [ItemW] at h
    obtain ⟨v, A, c, inner, e, hbs, h1, h2, hr, hk⟩ := h
    simp only [List.cons.injEq, and_true] at e
    obtain ⟨rfl, rfl, rfl⟩ := e
    simp only [bulk] at hb
    simp only [deep] at hd
    have hkl := bulks_length ks
    refine ⟨⟨l, rfl⟩, okB_of hbs (by omega), ?_⟩
    cases d with
    | zero =>
      cases ks with
      | nil => exact ⟨A, c, rfl⟩
      | cons k ks => simp only [deeps] at hd; omega
    | succ d =>
      refine ⟨A, _, c, rfl, h1, by omega, fun hn => ?_⟩
      obtain ⟨g, cur, rfl, hs, hg, hc⟩ := hr.2 hn
      refine ⟨g, cur, rfl, hs, hg, fun j hj => ?_⟩
      obtain ⟨d0, d1, d2, e0, e1, e2, hi⟩ := hk.at_ j hj
      have hm := bulks_mem (List.getElem_mem hj)
      have hdj := deeps_get ks j hj
      obtain ⟨⟨l', rfl⟩, hb', hk'⟩ := ok_of d (ks[j]'hj) d0 d1 d2 hi (by omega) (by omega)
      exact ⟨l', d1, d2, hc _ _ e0, hc _ _ e1, hc _ _ e2, hb', hk'⟩
end Go.Proofs.Ytkdpphcalekbdaa.S2
