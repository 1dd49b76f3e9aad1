/- The contracts as the laws of the RLP seat want them. -/
import Derived.Test.YtkdpphcalekbdaaA1
import Derived.Test.YtkdpphcalekbdaaX1
import Derived.Test.YtkdpphcalekbdaaF3
import Derived.Test.YtkdpphcalekbdaaG3
set_option linter.unusedVariables false
set_option linter.unusedSimpArgs false
namespace Go.Proofs.Ytkdpphcalekbdaa.L1
open Go.ChangeShapes Go.WideShapes Go.ChangeAt Go.RowKit
open M G1 G4 G5 G8 E4 H2 A1
/-- An item kept: in a later world. -/
theorem item_later {w w' : World} {S : Nat → Prop} {x : It} {cs : List Value} {B : Nat} (h : ItemR w S x cs) (hS : ∀ b, S b → b < B) (hb : Below B w w') : ItemR w' S x cs := ItemR.keep (fun b hb' => hb.block b (hS b hb')) _ _ h
theorem nds_later {w w' : World} {S : Nat → Prop} {v : Value} {l : List Nd} (h : Nds w S v l) (hS : ∀ b, S b → b < w.heap.size) (hb : Below w.heap.size w w') : Nds w' S v l := h.keep fun b hb' => hb.block b (hS b hb')
/-- A block that a call left. -/
theorem block_later {w w' : World} {B : Nat} (hb : Below B w w') {b : Nat} {c : Array Value} {t : TypeId} (h : w.heap[b]? = some (.cells c t (0, 0))) (hB : b < B) : w'.heap[b]? = some (.cells c t (0, 0)) := (hb.block b hB).trans h
theorem block_new (w : World) (o : Obj) : (w.alloc o).heap[w.heap.size]? = some o := by rw [heap_alloc, if_pos rfl]
theorem below_new (w : World) (o : Obj) : Below w.heap.size w (w.alloc o) := (Below.refl _ w).alloc (Nat.le_refl _) _
theorem dec_form0 {x : It} (hc : checkF 0 x = 0) (h40 : (formF x).length ≤ 1099511627776) : decodeF (formF x) = .ok x := by
  have := dec_form x 64 [] (by omega) hc h40
  rw [List.append_nil] at this
  rw [decodeF, this]; simp
theorem decode_inv {bs : List UInt8} {y : It} (h : decodeF bs = .ok y) : checkF 0 y = 0 ∧ formF y = bs ∧ bulk y ≤ 2 * bs.length := by
  rw [decodeF] at h
  cases hd : decF 64 bs with
  | error e => rw [hd] at h; cases h
  | ok r =>
    obtain ⟨x, t⟩ := r
    rw [hd] at h
    simp only at h
    split at h
    · cases h
    · injection h with h
      subst h
      obtain ⟨h1, h2, h3⟩ := dec_inv 64 bs x t (by omega) hd
      have h4 := decF_ok 64 bs x t hd
      have ht : t = bs.length := by omega
      subst ht
      rw [List.take_length] at h2
      exact ⟨h1, h2.symm, h4.2.2⟩
theorem item_bulk (l : List Nd) : bulk (itemF 200 l).1 ≤ nbulk l + 1 := by
  cases l with
  | nil => simp [itemF, bulk, bulks]
  | cons n l => have := (itemF_left 200 (n :: l) (by simp)).2; omega
/-- The contracts as the laws want them. -/
theorem c13 {S : Nat → Prop} {v : Value} {l : List Nd} {w : World} (hv : Nds w S v l) (hS : ∀ b, S b → b < w.heap.size) (hn : nbulk l ≤ 1073741824) (W : World) (hW : Below w.heap.size w W) :
    Calls Try.prog 13 #[v] W fun e w' => ∃ l0 A0 n0 c0 B0 m0 d0, e = .returned (.agg #[.int .i64 l0, .slice A0 n0 c0, .slice B0 m0 d0]) ∧ ItemR w' (Btw W.heap.size w'.heap.size) (itemF 200 l).1 [.int .i64 l0, .slice A0 n0 c0, .slice B0 m0 d0] ∧ Below W.heap.size W w' := by
  refine (F3.item13 S v l W (nds_later hv hS hW) (fun b hb => Nat.lt_of_lt_of_le (hS b hb) hW.size) hn).mono ?_
  rintro e w' ⟨d0, d1, d2, rfl, hi, hb⟩
  obtain ⟨⟨fl, rfl⟩, ⟨fA, fn, fc, rfl⟩, ⟨fB, fm, fd, rfl⟩⟩ := item_shape hi
  exact ⟨_, _, _, _, _, _, _, rfl, hi, hb⟩
theorem c15 (x : It) (hn : bulk x ≤ 1073741824) (W : World) (S : Nat → Prop) (c0 c1 c2 : Value) (hi : ItemR W S x [c0, c1, c2]) (hS : ∀ b, S b → b < W.heap.size) :
    Calls Try.prog 15 #[.agg #[c0, c1, c2]] W fun e w' => ∃ l0 A0 n0 c0 B0 m0 d0, e = .returned (.agg #[.int .i64 l0, .slice A0 n0 c0, .slice B0 m0 d0]) ∧ ItemR w' (Btw W.heap.size w'.heap.size) x [.int .i64 l0, .slice A0 n0 c0, .slice B0 m0 d0] ∧ Below W.heap.size W w' := by
  refine (F1.twin15 x S c0 c1 c2 W hi hS hn).mono ?_
  rintro e w' ⟨d0, d1, d2, rfl, hi, hb⟩
  obtain ⟨⟨fl, rfl⟩, ⟨fA, fn, fc, rfl⟩, ⟨fB, fm, fd, rfl⟩⟩ := item_shape hi
  exact ⟨_, _, _, _, _, _, _, rfl, hi, hb⟩
theorem c14 (x : It) (hn : bulk x ≤ 2097152) (hc : checkF 0 x = 0) (W : World) (S : Nat → Prop) (c0 c1 c2 : Value) (hi : ItemR W S x [c0, c1, c2]) (hS : ∀ b, S b → b < W.heap.size) :
    Calls Try.prog 14 #[.agg #[c0, c1, c2]] W fun e w' => ∃ A c, e = .returned (.tuple #[.slice A (formF x).length c, .int .i64 0]) ∧ Bs w' W.heap.size w'.heap.size (.slice A (formF x).length c) (formF x) ∧ Below W.heap.size W w' := by
  refine (encode14_ok x S c0 c1 c2 W hi hS hn hc).mono ?_
  rintro e w' ⟨hb, v, rfl, ho⟩
  have hbs := ho.bs
  obtain ⟨A, c, rfl, _⟩ := ho.bs
  exact ⟨A, c, rfl, hbs, hb⟩
theorem c14e (x : It) (hn : bulk x ≤ 2097152) (hc : checkF 0 x ≠ 0) (W : World) (S : Nat → Prop) (c0 c1 c2 : Value) (hi : ItemR W S x [c0, c1, c2]) (hS : ∀ b, S b → b < W.heap.size) :
    Calls Try.prog 14 #[.agg #[c0, c1, c2]] W fun e w' => e = .returned (.tuple #[.slice none 0 0, .int .i64 (checkF 0 x : Int)]) ∧ Below W.heap.size W w' :=
  (encode14_err x S c0 c1 c2 W hi hS hn hc).mono fun e w' h => ⟨h.2, h.1⟩
theorem c16 {bs : List UInt8} {x : It} (hd : decodeF bs = .ok x) (hn : bs.length ≤ 1073741824) (W : World) (lo hi : Nat) (v : Value) (hb : Bs W lo hi v bs) (hhi : hi ≤ W.heap.size) :
    Calls Try.prog 16 #[v] W fun e w' => ∃ l0 A0 n0 c0 B0 m0 d0, e = .returned (.tuple #[.agg #[.int .i64 l0, .slice A0 n0 c0, .slice B0 m0 d0], .int .i64 0]) ∧ ItemR w' (Btw W.heap.size w'.heap.size) x [.int .i64 l0, .slice A0 n0 c0, .slice B0 m0 d0] ∧ Below W.heap.size W w' := by
  refine (decode16 lo hi v bs W hb hhi hn).mono ?_
  rintro e w' ⟨hbl, ⟨er, h1, h2, h3⟩ | ⟨y, d0, d1, d2, h1, rfl, hi⟩⟩
  · rw [hd] at h2; cases h2
  · rw [hd] at h1
    injection h1 with h1
    subst h1
    obtain ⟨⟨fl, rfl⟩, ⟨fA, fn, fc, rfl⟩, ⟨fB, fm, fd, rfl⟩⟩ := item_shape hi
    exact ⟨_, _, _, _, _, _, _, rfl, hi, hbl⟩
theorem c16e {bs : List UInt8} {er : Nat} (hd : decodeF bs = .error er) (hn : bs.length ≤ 1073741824) (W : World) (lo hi : Nat) (v : Value) (hb : Bs W lo hi v bs) (hhi : hi ≤ W.heap.size) :
    Calls Try.prog 16 #[v] W fun e w' => e = .returned (.tuple #[.agg #[.int .i64 0, .slice none 0 0, .slice none 0 0], .int .i64 (er : Int)]) ∧ er ≠ 0 ∧ Below W.heap.size W w' := by
  refine (decode16 lo hi v bs W hb hhi hn).mono ?_
  rintro e w' ⟨hbl, ⟨er', h1, h2, h3⟩ | ⟨y, d0, d1, d2, h1, rfl, hi⟩⟩
  · rw [hd] at h2
    injection h2 with h2
    subst h2
    exact ⟨h3, h1, hbl⟩
  · rw [hd] at h1; cases h1
theorem c17 (x : It) (W : World) (S S' : Nat → Prop) (c0 c1 c2 e0 e1 e2 : Value) (hi : ItemR W S x [c0, c1, c2]) (hi' : ItemR W S' x [e0, e1, e2]) (hS : ∀ b, S b → b < W.heap.size) (hS' : ∀ b, S' b → b < W.heap.size) :
    Calls Try.prog 17 #[.agg #[c0, c1, c2], .agg #[e0, e1, e2]] W fun e w' => e = .returned (.bool true) ∧ Below W.heap.size W w' :=
  (same17 x x S S' c0 c1 c2 e0 e1 e2 W hi hi' hS hS').mono fun e w' ⟨b, h1, h2, h3⟩ => ⟨by rw [h1, h2.2 rfl], h3⟩
theorem c18 {v : Value} {bs : List UInt8} {hi : Nat} {w : World} (hb : Bs w 0 hi v bs) (hhi : hi ≤ w.heap.size) (hn : bs.length ≤ 140737488355328) (W : World) (hW : Below w.heap.size w W) :
    Calls Try.prog 18 #[v] W fun e w' => ∃ A c, e = .returned (.slice A bs.length c) ∧ Bs w' W.heap.size w'.heap.size (.slice A bs.length c) bs ∧ Below W.heap.size W w' := by
  refine (F1.bytes18 0 hi v bs W (hb.keep (Same.of_below hW hhi)) (Nat.le_trans hhi hW.size) hn).mono ?_
  rintro e w' ⟨v', rfl, ho, hbl⟩
  have hbs := ho.bs
  obtain ⟨A, c, rfl, _⟩ := ho.bs
  exact ⟨A, c, rfl, hbs, hbl⟩
theorem str_bs {w : World} {lo hi : Nat} {A : Option Addr} {n c : Nat} {bs : List UInt8} (h : Bs w lo hi (.slice A n c) bs) : (convert 23 9 (.slice A n c)).run Try.prog w = .ok (.string (strOf bs)) w := by
  obtain ⟨A', c', e, h1, h2, h3⟩ := h
  have e9 := (Value.slice.injEq _ _ _ _ _ _).mp e
  obtain ⟨rfl, rfl, rfl⟩ := e9
  exact str_of rfl h3
/-- The first n bytes. -/
theorem take_bs {w : World} {lo hi : Nat} {A : Option Addr} {c : Nat} {bs : List UInt8} (h : Bs w lo hi (.slice A bs.length c) bs) (k : Nat) (hk : k ≤ bs.length) : Bs w lo hi (.slice A k c) (bs.take k) := by
  obtain ⟨A', c', e, h1, h2, h3⟩ := h
  obtain ⟨rfl, _, rfl⟩ := (Value.slice.injEq _ _ _ _ _ _).mp e
  exact W1.Bs.take_ h1 h2 h3 k hk
end Go.Proofs.Ytkdpphcalekbdaa.L1
