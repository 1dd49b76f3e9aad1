/- rlp.Decode. -/
import Derived.Test.YtkdpphcalekbdaaG7
set_option linter.unusedVariables false
set_option linter.unusedSimpArgs false
namespace Go.Proofs.Ytkdpphcalekbdaa.G8
open Go.ChangeShapes Go.WideShapes Go.ChangeAt Go.RowKit
open M F1 W1 G5 F2 G7
/-- The one item that bytes are the form of. -/
def decodeF (bs : List UInt8) : Except Nat It :=
  match decF 64 bs with
  | .error e => .error e
  | .ok (x, t) => if t < bs.length then .error 43 else .ok x
set_option maxRecDepth 100000 in
set_option maxHeartbeats 1000000 in
theorem decode16_err (lo hi : Nat) (v : Value) (bs : List UInt8) (w : World) (hb : Bs w lo hi v bs) (hhi : hi ≤ w.heap.size) (hn : bs.length ≤ 1073741824) (er : Nat) (h : decF 64 bs = .error er) :
    Calls Try.prog 16 #[v] w fun e w' => Below w.heap.size w w' ∧ er ≠ 0 ∧ e = .returned (.tuple #[.agg #[.int .i64 0, .slice none 0 0, .slice none 0 0], .int .i64 (er : Int)]) := by
  have HC : Hid (∀ W, Below w.heap.size w W → Calls Try.prog 48 #[v, .int .i64 0] W fun e w' => Below W.heap.size W w' ∧ er ≠ 0 ∧ e = .returned (.tuple #[.agg #[.int .i64 0, .slice none 0 0, .slice none 0 0], .int .i64 0, .int .i64 (er : Int)])) := fun W hW =>
    (decode48 64 (by omega) lo hi v bs W (hb.keep (Same.of_below hW hhi)) (Nat.le_trans hhi hW.size) hn).mono fun e w' ⟨h1, h2⟩ => by
      rcases h2 with ⟨er', a1, a2, a3⟩ | ⟨x, t, d0, d1, d2, a1, _⟩
      · rw [h] at a2; injection a2 with a2; subst a2; exact ⟨h1, a1, a3⟩
      · rw [h] at a1; cases a1
  obtain ⟨A, c, rfl, h1, h2, hR⟩ := hb
  clear hR h
  go_enter Try.func16, Try.ntmps16
  go_wp2_with (first
    | (go_at_call 48; refine (HC.out _ (by go_grown)).mono ?_
       rintro e w1 ⟨hbl, her, rfl⟩
       have heri : ¬ (er : Int) = 0 := by omega
       have hx := (hbl.block w.heap.size (by rw [size_alloc]; omega)).trans (show _ = some (Obj.cells #[.int .i64 0, .slice none 0 0, .slice none 0 0] 27 (0, 0)) by rw [heap_alloc, if_pos rfl])
       obtain ⟨y0, y1, y2, y3⟩ := block_cells hx
       have hz : w.heap.size < w1.heap.size := Nat.lt_of_lt_of_le (by rw [size_alloc]; omega) hbl.size
       have hz1 : w.heap.size < w1.heap.size + 1 := by omega
       have HB1 : Hid (Below w.heap.size w w1) := ((Below.refl _ w).alloc (Nat.le_refl _) _).trans (hbl.mono (by rw [size_alloc]; omega))
       clear hbl hx))
  refine bodyPost_ret (v := .tuple #[.agg #[.int .i64 0, .slice none 0 0, .slice none 0 0], .int .i64 (er : Int)]) (by simp [results, Try.results16, go_sem, y0, y1, y2, hz, hz1]) rfl ?_
  have hB1 := HB1.out
  refine ⟨?_, fun h => heri (by omega), rfl⟩
  first
    | exact (((hB1.setCell (Nat.le_refl _) _).setCell (Nat.le_refl _) _).setCell (Nat.le_refl _) _).alloc (by simp [World.setCell]; omega) _
    | exact ((((hB1.alloc hB1.size _).setCell (Nat.le_refl _) _).setCell (Nat.le_refl _) _).setCell (Nat.le_refl _) _)
set_option maxRecDepth 100000 in
set_option maxHeartbeats 1000000 in
theorem decode16_rest (lo hi : Nat) (v : Value) (bs : List UInt8) (w : World) (hb : Bs w lo hi v bs) (hhi : hi ≤ w.heap.size) (hn : bs.length ≤ 1073741824) (x : It) (t : Nat) (h : decF 64 bs = .ok (x, t)) (ht : t < bs.length) :
    Calls Try.prog 16 #[v] w fun e w' => Below w.heap.size w w' ∧ e = .returned (.tuple #[.agg #[.int .i64 0, .slice none 0 0, .slice none 0 0], .int .i64 43]) := by
  have HC : Hid (∀ W, Below w.heap.size w W → Calls Try.prog 48 #[v, .int .i64 0] W fun e w' => Below W.heap.size W w' ∧ ∃ d0 d1 d2, e = .returned (.tuple #[.agg #[d0, d1, d2], .int .i64 (t : Int), .int .i64 0]) ∧ ItemR w' (Btw W.heap.size w'.heap.size) x [d0, d1, d2]) := fun W hW =>
    (decode48 64 (by omega) lo hi v bs W (hb.keep (Same.of_below hW hhi)) (Nat.le_trans hhi hW.size) hn).mono fun e w' ⟨h1, h2⟩ => by
      rcases h2 with ⟨er', a1, a2, a3⟩ | ⟨x', t', d0, d1, d2, a1, a2, a3⟩
      · rw [h] at a2; cases a2
      · rw [h] at a1; injection a1 with a1; injection a1 with b1 b2; subst b1; subst b2; exact ⟨h1, d0, d1, d2, a2, a3⟩
  obtain ⟨A, c, rfl, h1, h2, hR⟩ := hb
  have hti : (t : Int) < (bs.length : Int) := by omega
  clear hR h
  go_enter Try.func16, Try.ntmps16
  go_wp2_with (first
    | (go_at_call 48; refine (HC.out _ (by go_grown)).mono ?_
       rintro e w1 ⟨hbl, d0, d1, d2, rfl, hit⟩
       obtain ⟨⟨fl, rfl⟩, ⟨fA, fn, fc, rfl⟩, ⟨fB, fm, fd, rfl⟩⟩ := item_shape hit
       have hx := (hbl.block w.heap.size (by rw [size_alloc]; omega)).trans (show _ = some (Obj.cells #[.int .i64 0, .slice none 0 0, .slice none 0 0] 27 (0, 0)) by rw [heap_alloc, if_pos rfl])
       obtain ⟨y0, y1, y2, y3⟩ := block_cells hx
       have hz : w.heap.size < w1.heap.size := Nat.lt_of_lt_of_le (by rw [size_alloc]; omega) hbl.size
       have hz1 : w.heap.size < w1.heap.size + 1 := by omega
       have HB1 : Hid (Below w.heap.size w w1) := ((Below.refl _ w).alloc (Nat.le_refl _) _).trans (hbl.mono (by rw [size_alloc]; omega))
       clear hbl hx hit))
  refine bodyPost_ret (v := .tuple #[.agg #[.int .i64 0, .slice none 0 0, .slice none 0 0], .int .i64 43]) (by simp [results, Try.results16, go_sem, y0, y1, y2, hz, hz1]) rfl ?_
  have hB1 := HB1.out
  refine ⟨?_, rfl⟩
  first
    | exact (((hB1.setCell (Nat.le_refl _) _).setCell (Nat.le_refl _) _).setCell (Nat.le_refl _) _).alloc (by simp [World.setCell]; omega) _
    | exact ((((hB1.alloc hB1.size _).setCell (Nat.le_refl _) _).setCell (Nat.le_refl _) _).setCell (Nat.le_refl _) _)
set_option maxRecDepth 100000 in
set_option maxHeartbeats 1000000 in
theorem decode16_ok (lo hi : Nat) (v : Value) (bs : List UInt8) (w : World) (hb : Bs w lo hi v bs) (hhi : hi ≤ w.heap.size) (hn : bs.length ≤ 1073741824) (x : It) (t : Nat) (h : decF 64 bs = .ok (x, t)) (ht : ¬ t < bs.length) :
    Calls Try.prog 16 #[v] w fun e w' => Below w.heap.size w w' ∧ ∃ d0 d1 d2, e = .returned (.tuple #[.agg #[d0, d1, d2], .int .i64 0]) ∧ ItemR w' (Btw w.heap.size w'.heap.size) x [d0, d1, d2] := by
  have HC : Hid (∀ W, Below w.heap.size w W → Calls Try.prog 48 #[v, .int .i64 0] W fun e w' => Below W.heap.size W w' ∧ ∃ d0 d1 d2, e = .returned (.tuple #[.agg #[d0, d1, d2], .int .i64 (t : Int), .int .i64 0]) ∧ ItemR w' (Btw W.heap.size w'.heap.size) x [d0, d1, d2]) := fun W hW =>
    (decode48 64 (by omega) lo hi v bs W (hb.keep (Same.of_below hW hhi)) (Nat.le_trans hhi hW.size) hn).mono fun e w' ⟨h1, h2⟩ => by
      rcases h2 with ⟨er', a1, a2, a3⟩ | ⟨x', t', d0, d1, d2, a1, a2, a3⟩
      · rw [h] at a2; cases a2
      · rw [h] at a1; injection a1 with a1; injection a1 with b1 b2; subst b1; subst b2; exact ⟨h1, d0, d1, d2, a2, a3⟩
  obtain ⟨A, c, rfl, h1, h2, hR⟩ := hb
  have hti : ¬ (t : Int) < (bs.length : Int) := by omega
  clear hR h
  go_enter Try.func16, Try.ntmps16
  go_wp2_with (first
    | (go_at_call 48; refine (HC.out _ (by go_grown)).mono ?_
       rintro e w1 ⟨hbl, d0, d1, d2, rfl, hit⟩
       obtain ⟨⟨fl, rfl⟩, ⟨fA, fn, fc, rfl⟩, ⟨fB, fm, fd, rfl⟩⟩ := item_shape hit
       have hx := (hbl.block w.heap.size (by rw [size_alloc]; omega)).trans (show _ = some (Obj.cells #[.int .i64 0, .slice none 0 0, .slice none 0 0] 27 (0, 0)) by rw [heap_alloc, if_pos rfl])
       obtain ⟨y0, y1, y2, y3⟩ := block_cells hx
       have hz : w.heap.size < w1.heap.size := Nat.lt_of_lt_of_le (by rw [size_alloc]; omega) hbl.size
       have hz1 : w.heap.size < w1.heap.size + 1 := by omega
       have HB1 : Hid (Below w.heap.size w w1) := ((Below.refl _ w).alloc (Nat.le_refl _) _).trans (hbl.mono (by rw [size_alloc]; omega))
       have HIT := Lib.hid hit
       clear hbl hx hit))
  refine bodyPost_ret (v := .tuple #[.agg #[.int .i64 fl, .slice fA fn fc, .slice fB fm fd], .int .i64 0]) (by simp [results, Try.results16, go_sem, y0, y1, y2, hz, hz1]) rfl ?_
  have hB1 := HB1.out
  have hsz : (((w1.setCell ⟨w.heap.size, 0, none⟩ (.int .i64 fl)).setCell ⟨w.heap.size, 1, none⟩ (.slice fA fn fc)).setCell ⟨w.heap.size, 2, none⟩ (.slice fB fm fd)).heap.size = w1.heap.size := by simp [World.setCell]
  refine ⟨(((hB1.setCell (Nat.le_refl _) _).setCell (Nat.le_refl _) _).setCell (Nat.le_refl _) _).alloc (by rw [hsz]; omega) _, _, _, _, rfl, ItemR.wide (fun b hb => ⟨by have := hb.1; rw [size_alloc] at this; omega, by rw [size_alloc, hsz]; have := hb.2; omega⟩) _ _ (ItemR.keep (fun b hb => ?_) _ _ HIT.out)⟩
  have hb1 : w.heap.size ≠ b := by have := hb.1; rw [size_alloc] at this; omega
  rw [heap_alloc, if_neg (by rw [hsz]; have := hb.2; omega)]
  simp (disch := exact hb1) only [heap_set]
/-- Decode is decodeF. -/
theorem decode16 (lo hi : Nat) (v : Value) (bs : List UInt8) (w : World) (hb : Bs w lo hi v bs) (hhi : hi ≤ w.heap.size) (hn : bs.length ≤ 1073741824) :
    Calls Try.prog 16 #[v] w fun e w' => Below w.heap.size w w' ∧
      ((∃ er : Nat, er ≠ 0 ∧ decodeF bs = .error er ∧ e = .returned (.tuple #[.agg #[.int .i64 0, .slice none 0 0, .slice none 0 0], .int .i64 (er : Int)])) ∨
       (∃ x d0 d1 d2, decodeF bs = .ok x ∧ e = .returned (.tuple #[.agg #[d0, d1, d2], .int .i64 0]) ∧ ItemR w' (Btw w.heap.size w'.heap.size) x [d0, d1, d2])) := by
  cases h : decF 64 bs with
  | error er => exact (decode16_err lo hi v bs w hb hhi hn er h).mono fun e w' ⟨h1, h2, h3⟩ => ⟨h1, .inl ⟨er, h2, by rw [decodeF, h], h3⟩⟩
  | ok q =>
    obtain ⟨x, t⟩ := q
    by_cases ht : t < bs.length
    · exact (decode16_rest lo hi v bs w hb hhi hn x t h ht).mono fun e w' ⟨h1, h2⟩ => ⟨h1, .inl ⟨43, by omega, by rw [decodeF, h]; simp [ht], h2⟩⟩
    · exact (decode16_ok lo hi v bs w hb hhi hn x t h ht).mono fun e w' ⟨h1, d0, d1, d2, h2, h3⟩ => ⟨h1, .inr ⟨x, d0, d1, d2, by rw [decodeF, h]; simp [ht], h2, h3⟩⟩
end Go.Proofs.Ytkdpphcalekbdaa.G8
