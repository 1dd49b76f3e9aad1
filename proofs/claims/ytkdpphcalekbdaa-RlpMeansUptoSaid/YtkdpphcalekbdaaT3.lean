/- Items as numbers and words: rlp.Number, Whole, AsWhole, AsNumber. -/
import Derived.Test.YtkdpphcalekbdaaL1
import Derived.ChangeKeysEq
import Derived.Laws.StructEq
set_option linter.unusedVariables false
set_option linter.unusedSimpArgs false
namespace Go.Proofs.Ytkdpphcalekbdaa.T3
open Go.ChangeShapes Go.WideShapes Go.ChangeAt Go.RowKit
open M W1 L1
/-- An item as a word: its number, and the error. -/
def wholeF : It → Nat → Nat × Nat
  | .mk l bs _, most => if l ≠ 0 then (0, 45) else if most < bs.length then (0, 46) else if 0 < bs.length ∧ bs.headD 0 = 0 then (0, 42) else (ofDigits bs, 0)
theorem limbN_zero0 (i : Nat) : limbN 0 i = 0 := by unfold limbN; simp
theorem limbN_val (a b c d : Int) (ha : U64 a) (hb : U64 b) (hc : U64 c) (hd : U64 d) : ((limbN (val a b c d) 0 : Nat) : Int) = a ∧ ((limbN (val a b c d) 1 : Nat) : Int) = b ∧ ((limbN (val a b c d) 2 : Nat) : Int) = c ∧ ((limbN (val a b c d) 3 : Nat) : Int) = d := by
  obtain ⟨a, rfl⟩ := Int.eq_ofNat_of_zero_le ha.1
  obtain ⟨b, rfl⟩ := Int.eq_ofNat_of_zero_le hb.1
  obtain ⟨c, rfl⟩ := Int.eq_ofNat_of_zero_le hc.1
  obtain ⟨d, rfl⟩ := Int.eq_ofNat_of_zero_le hd.1
  have h1 := ha.2
  have h2 := hb.2
  have h3 := hc.2
  have h4 := hd.2
  rw [val_nat]
  have e1 : (18446744073709551616 : Nat) ^ 1 = 18446744073709551616 := rfl
  have e2 : (18446744073709551616 : Nat) ^ 2 = 18446744073709551616 * 18446744073709551616 := rfl
  have e3 : (18446744073709551616 : Nat) ^ 3 = 18446744073709551616 * 18446744073709551616 * 18446744073709551616 := rfl
  unfold limbN
  rw [Nat.pow_zero, e1, e2, e3, Nat.div_one, ← Nat.div_div_eq_div_mul, ← Nat.div_div_eq_div_mul, ← Nat.div_div_eq_div_mul]
  have q1 : (a + 18446744073709551616 * (b + 18446744073709551616 * (c + 18446744073709551616 * d))) / 18446744073709551616 = b + 18446744073709551616 * (c + 18446744073709551616 * d) := by omega
  have q2 : (b + 18446744073709551616 * (c + 18446744073709551616 * d)) / 18446744073709551616 = c + 18446744073709551616 * d := by omega
  have q3 : (c + 18446744073709551616 * d) / 18446744073709551616 = d := by omega
  rw [q1, q2, q3]
  refine ⟨by omega, by omega, by omega, by omega⟩
theorem val_lt (a b c d : Int) (ha : U64 a) (hb : U64 b) (hc : U64 c) (hd : U64 d) : val a b c d < 256 ^ 32 := by
  have e : (256 : Nat) ^ 32 = 115792089237316195423570985008687907853269984665640564039457584007913129639936 := by decide
  rw [e]
  have h1 := ha.2
  have h2 := hb.2
  have h3 := hc.2
  have h4 := hd.2
  have g1 := ha.1
  have g2 := hb.1
  have g3 := hc.1
  have g4 := hd.1
  unfold val
  omega
theorem whole_digits (n : Nat) (most : Nat) (hn : n < 256 ^ most) : wholeF (.mk 0 (digits n) []) most = (n, 0) := by
  have hl := digits_length_le hn
  rw [wholeF, if_neg (by simp), if_neg (by omega), if_neg ?_, ofDigits_digits]
  rintro ⟨h1, h2⟩
  cases hd : digits n with
  | nil => rw [hd] at h1; simp at h1
  | cons b r => rw [hd] at h2; exact digits_head n b r hd (by simpa using h2)
theorem whole_lt (x : It) (most : Nat) : (wholeF x most).1 < 256 ^ most := by
  have hp : 0 < 256 ^ most := Nat.pow_pos (by omega)
  cases x with
  | mk l bs ks =>
    rw [wholeF]
    split
    · exact hp
    · split
      · exact hp
      · split
        · exact hp
        · rename_i h _
          exact Nat.lt_of_lt_of_le (ofDigits_lt bs) (Nat.pow_le_pow_right (by omega) (by omega))
theorem item_text {w0 w1 : World} {v : Value} {bs : List UInt8} {B : Nat} (ho : Bs w1 B w1.heap.size v bs) : ∃ A c, v = .slice A bs.length c ∧ ItemR w1 (fun b => B ≤ b ∧ b < w1.heap.size) (.mk 0 bs []) [.int .i64 0, .slice A bs.length c, .slice none 0 0] := by
  have h3 : BsS w1 (fun b => B ≤ b ∧ b < w1.heap.size) v bs := ho.toS fun b h1 h2 => ⟨h1, h2⟩
  obtain ⟨A, c, rfl, _⟩ := ho
  refine ⟨A, c, rfl, ?_⟩
  simp only [ItemR]
  exact ⟨_, none, 0, [], rfl, h3, by simp, by omega, ⟨rfl, fun h => absurd h (by simp)⟩, rfl⟩
set_option maxRecDepth 100000 in
set_option maxHeartbeats 1000000 in
theorem number25 (n : Int) (hn : U64 n) (w : World) :
    Calls Try.prog 25 #[.int .u64 n] w fun e w' => ∃ A m c, e = .returned (.agg #[.int .i64 0, .slice A m c, .slice none 0 0]) ∧ ItemR w' (Btw w.heap.size w'.heap.size) (.mk 0 (digits n.toNat) []) [.int .i64 0, .slice A m c, .slice none 0 0] ∧ Below w.heap.size w w' := by
  have HN : Hid (∀ W, Calls Try.prog 55 #[.int .u64 n] W fun e w' => ∃ v, e = .returned v ∧ M.Own w' W.heap.size v (digits n.toNat) ∧ Below W.heap.size W w') := fun W => by
    have h := number_any n.toNat (by have := hn.2; have := hn.1; omega) W
    rwa [show ((n.toNat : Nat) : Int) = n from by have := hn.1; omega] at h
  generalize digits n.toNat = dg at *
  go_enter Try.func25, Try.ntmps25
  go_wp2_with (first
    | (go_at_call 55; refine (HN.out _).mono ?_
       rintro e w1 ⟨v', rfl, ho, hbl⟩
       have HI := Lib.hid (item_text (w0 := w) ho.bs)
       obtain ⟨Ao, co, rfl, hq1, hq2, hq3⟩ := ho.bs
       have hx := (hbl.block w.heap.size (by rw [size_alloc]; omega)).trans (show _ = some (Obj.cells #[.int .i64 0, .slice none 0 0, .slice none 0 0] 27 (0, 0)) by rw [heap_alloc, if_pos rfl])
       obtain ⟨y0, y1, y2, y3⟩ := block_cells hx
       have HBL := Lib.hid hbl
       clear hbl ho hq3 hx))
  refine bodyPost_ret (v := .agg #[.int .i64 0, .slice Ao dg.length co, .slice none 0 0]) (by simp [results, Try.results25, go_sem, y0, y1, y2]) rfl ?_
  have hB1 : Below w.heap.size w w1 := ((Below.refl _ w).alloc (Nat.le_refl _) _).trans (HBL.out.mono (by rw [size_alloc]; omega))
  obtain ⟨A', c', e, hi⟩ := HI.out
  obtain ⟨rfl, _, rfl⟩ := (Value.slice.injEq _ _ _ _ _ _).mp e
  refine ⟨_, _, _, rfl, ?_, ((hB1.setCell (Nat.le_refl _) _).setCell (Nat.le_refl _) _).setCell (Nat.le_refl _) _⟩
  refine ItemR.wide (fun b hb => ⟨by have := hb.1; rw [size_alloc] at this; omega, by simpa [World.setCell] using hb.2⟩) _ _ (ItemR.keep (fun b hb => ?_) _ _ hi)
  have hb1 : w.heap.size ≠ b := by have := hb.1; rw [size_alloc] at this; omega
  simp (disch := exact hb1) only [heap_set]
set_option maxRecDepth 100000 in
set_option maxHeartbeats 1000000 in
theorem whole27 (a b c d : Int) (ha : U64 a) (hb : U64 b) (hc : U64 c) (hd : U64 d) (w : World) :
    Calls Try.prog 27 #[.agg #[.int .u64 a, .int .u64 b, .int .u64 c, .int .u64 d]] w fun e w' => ∃ A m c', e = .returned (.agg #[.int .i64 0, .slice A m c', .slice none 0 0]) ∧ ItemR w' (Btw w.heap.size w'.heap.size) (.mk 0 (digits (val a b c d)) []) [.int .i64 0, .slice A m c', .slice none 0 0] ∧ Below w.heap.size w w' := by
  have HN := Lib.hid (least_any a b c d ha hb hc hd)
  generalize digits (val a b c d) = dg at *
  go_enter Try.func27, Try.ntmps27
  go_wp2_with (first
    | (go_at_call 57; refine (HN.out _).mono ?_
       rintro e w1 ⟨v', rfl, ho, hbl⟩
       have HI := Lib.hid (item_text (w0 := w) ho.bs)
       obtain ⟨Ao, co, rfl, hq1, hq2, hq3⟩ := ho.bs
       have hx := (hbl.block (w.heap.size + 1) (by simp only [size_alloc]; omega)).trans (show _ = some (Obj.cells #[.int .i64 0, .slice none 0 0, .slice none 0 0] 27 (0, 0)) by rw [heap_alloc, if_pos (by rw [size_alloc])])
       obtain ⟨y0, y1, y2, y3⟩ := block_cells hx
       have HBL := Lib.hid hbl
       clear hbl ho hq3 hx))
  refine bodyPost_ret (v := .agg #[.int .i64 0, .slice Ao dg.length co, .slice none 0 0]) (by simp [results, Try.results27, go_sem, y0, y1, y2]) rfl ?_
  have hB1 : Below w.heap.size w w1 := (((Below.refl _ w).alloc (Nat.le_refl _) _).alloc (by rw [size_alloc]; omega) _).trans (HBL.out.mono (by simp only [size_alloc]; omega))
  obtain ⟨A', c', e, hi⟩ := HI.out
  obtain ⟨rfl, _, rfl⟩ := (Value.slice.injEq _ _ _ _ _ _).mp e
  refine ⟨_, _, _, rfl, ?_, ((hB1.setCell (by show _ ≤ w.heap.size + 1; omega) _).setCell (by show _ ≤ w.heap.size + 1; omega) _).setCell (by show _ ≤ w.heap.size + 1; omega) _⟩
  refine ItemR.wide (fun b hb => ⟨by have := hb.1; simp only [size_alloc] at this; omega, by simpa [World.setCell] using hb.2⟩) _ _ (ItemR.keep (fun b hb => ?_) _ _ hi)
  have hb1 : w.heap.size + 1 ≠ b := by have := hb.1; simp only [size_alloc] at this; omega
  simp (disch := exact hb1) only [heap_set]
/-- A word as a value. -/
abbrev wordV (n : Nat) : Value := .agg #[.int .u64 (limbN n 0 : Nat), .int .u64 (limbN n 1 : Nat), .int .u64 (limbN n 2 : Nat), .int .u64 (limbN n 3 : Nat)]
theorem wordV_zero : wordV 0 = .agg #[.int .u64 0, .int .u64 0, .int .u64 0, .int .u64 0] := by simp only [wordV, limbN_zero0]; rfl
set_option maxRecDepth 100000 in
set_option maxHeartbeats 1000000 in
theorem asWhole_kind (l : Int) (h0 : ¬ l = 0) (n m c0 c1 : Nat) (A0 A1 : Option Addr) (w : World) :
    Calls Try.prog 26 #[.agg #[.int .i64 l, .slice A0 n c0, .slice A1 m c1]] w fun e w' => e = .returned (.tuple #[.agg #[.int .u64 0, .int .u64 0, .int .u64 0, .int .u64 0], .int .i64 45]) ∧ Below w.heap.size w w' := by
  go_enter Try.func26, Try.ntmps26
  go_wp2
  go_returns
  exact ⟨rfl, by go_grown⟩
set_option maxRecDepth 100000 in
set_option maxHeartbeats 1000000 in
theorem asWhole_size (n m c0 c1 : Nat) (hn : 32 < n) (A0 A1 : Option Addr) (w : World) :
    Calls Try.prog 26 #[.agg #[.int .i64 0, .slice A0 n c0, .slice A1 m c1]] w fun e w' => e = .returned (.tuple #[.agg #[.int .u64 0, .int .u64 0, .int .u64 0, .int .u64 0], .int .i64 46]) ∧ Below w.heap.size w w' := by
  have h1 : (32 : Int) < (n : Int) := by omega
  go_enter Try.func26, Try.ntmps26
  go_wp2
  go_returns
  exact ⟨rfl, by go_grown⟩
set_option maxRecDepth 100000 in
set_option maxHeartbeats 1000000 in
theorem asWhole_form (g off n m c0 c1 : Nat) (hn : ¬ 32 < n) (hn0 : 0 < n) (A1 : Option Addr) (w : World) (hg : g < w.heap.size) (hc : w.cell? ⟨g, off, none⟩ = some (.int .u8 0)) :
    Calls Try.prog 26 #[.agg #[.int .i64 0, .slice (some ⟨g, off, none⟩) n c0, .slice A1 m c1]] w fun e w' => e = .returned (.tuple #[.agg #[.int .u64 0, .int .u64 0, .int .u64 0, .int .u64 0], .int .i64 42]) ∧ Below w.heap.size w w' := by
  have h1 : ¬ (32 : Int) < (n : Int) := by omega
  have h2 : (0 : Int) < (n : Int) := by omega
  go_enter Try.func26, Try.ntmps26
  go_wp2
  go_returns
  exact ⟨rfl, by go_grown⟩
set_option maxRecDepth 100000 in
set_option maxHeartbeats 1000000 in
theorem asWhole_empty (m c0 c1 : Nat) (A0 A1 : Option Addr) (w : World) (h56 : Hid (∀ W, Calls Try.prog 56 #[.slice A0 0 c0] W fun e w' => e = .returned (.tuple #[.agg #[.int .u64 0, .int .u64 0, .int .u64 0, .int .u64 0], .int .i64 0]) ∧ Below W.heap.size W w')) :
    Calls Try.prog 26 #[.agg #[.int .i64 0, .slice A0 0 c0, .slice A1 m c1]] w fun e w' => e = .returned (.tuple #[.agg #[.int .u64 0, .int .u64 0, .int .u64 0, .int .u64 0], .int .i64 0]) ∧ Below w.heap.size w w' := by
  go_enter Try.func26, Try.ntmps26
  go_wp2_with (first
    | (go_at_call 56; refine (h56.out _).mono ?_
       rintro e w1 ⟨rfl, hbl⟩
       have hx := (hbl.block (w.heap.size + 1) (by simp only [size_alloc]; omega)).trans (show _ = some (Obj.cells #[.int .u64 0, .int .u64 0, .int .u64 0, .int .u64 0] 57 (0, 0)) by rw [heap_alloc, if_pos (by rw [size_alloc])])
       have z0 : w1.cell? ⟨w.heap.size + 1, 0, none⟩ = some (.int .u64 0) := by simp [World.cell?, hx]
       have z1 : w1.cell? ⟨w.heap.size + 1, 1, none⟩ = some (.int .u64 0) := by simp [World.cell?, hx]
       have z2 : w1.cell? ⟨w.heap.size + 1, 2, none⟩ = some (.int .u64 0) := by simp [World.cell?, hx]
       have z3 : w1.cell? ⟨w.heap.size + 1, 3, none⟩ = some (.int .u64 0) := by simp [World.cell?, hx]
       have zf : ∀ o, w1.frozen? ⟨w.heap.size + 1, o, none⟩ = false := fun o => by simp [World.frozen?, hx]
       have HBL := Lib.hid hbl
       clear hbl hx))
  refine bodyPost_ret (v := .tuple #[.agg #[.int .u64 0, .int .u64 0, .int .u64 0, .int .u64 0], .int .i64 0]) (by simp [results, Try.results26, go_sem, z0, z1, z2, z3]) rfl ?_
  have hB1 : Below w.heap.size w w1 := (((Below.refl _ w).alloc (Nat.le_refl _) _).alloc (by rw [size_alloc]; omega) _).trans (HBL.out.mono (by simp only [size_alloc]; omega))
  refine ⟨rfl, ?_⟩
  first
    | exact hB1
    | exact (((hB1.setCell (by show _ ≤ w.heap.size + 1; omega) _).setCell (by show _ ≤ w.heap.size + 1; omega) _).setCell (by show _ ≤ w.heap.size + 1; omega) _).setCell (by show _ ≤ w.heap.size + 1; omega) _
set_option maxRecDepth 100000 in
set_option maxHeartbeats 1000000 in
theorem asWhole_ok (g off n m c0 c1 : Nat) (hn : ¬ 32 < n) (hn0 : 0 < n) (b : Int) (hb : ¬ b = 0) (A1 : Option Addr) (w : World) (hg : g < w.heap.size) (hc : w.cell? ⟨g, off, none⟩ = some (.int .u8 b)) (u0 u1 u2 u3 : Int)
    (h56 : Hid (∀ W, Below w.heap.size w W → Calls Try.prog 56 #[.slice (some ⟨g, off, none⟩) n c0] W fun e w' => e = .returned (.tuple #[.agg #[.int .u64 u0, .int .u64 u1, .int .u64 u2, .int .u64 u3], .int .i64 0]) ∧ Below W.heap.size W w')) :
    Calls Try.prog 26 #[.agg #[.int .i64 0, .slice (some ⟨g, off, none⟩) n c0, .slice A1 m c1]] w fun e w' => e = .returned (.tuple #[.agg #[.int .u64 u0, .int .u64 u1, .int .u64 u2, .int .u64 u3], .int .i64 0]) ∧ Below w.heap.size w w' := by
  have h1 : ¬ (32 : Int) < (n : Int) := by omega
  have h2 : (0 : Int) < (n : Int) := by omega
  go_enter Try.func26, Try.ntmps26
  go_wp2_with (first
    | (go_at_call 56; refine (h56.out _ (by go_grown)).mono ?_
       rintro e w1 ⟨rfl, hbl⟩
       have hx := (hbl.block (w.heap.size + 1) (by simp only [size_alloc]; omega)).trans (show _ = some (Obj.cells #[.int .u64 0, .int .u64 0, .int .u64 0, .int .u64 0] 57 (0, 0)) by rw [heap_alloc, if_pos (by rw [size_alloc])])
       have z0 : w1.cell? ⟨w.heap.size + 1, 0, none⟩ = some (.int .u64 0) := by simp [World.cell?, hx]
       have z1 : w1.cell? ⟨w.heap.size + 1, 1, none⟩ = some (.int .u64 0) := by simp [World.cell?, hx]
       have z2 : w1.cell? ⟨w.heap.size + 1, 2, none⟩ = some (.int .u64 0) := by simp [World.cell?, hx]
       have z3 : w1.cell? ⟨w.heap.size + 1, 3, none⟩ = some (.int .u64 0) := by simp [World.cell?, hx]
       have zf : ∀ o, w1.frozen? ⟨w.heap.size + 1, o, none⟩ = false := fun o => by simp [World.frozen?, hx]
       have HBL := Lib.hid hbl
       clear hbl hx))
  refine bodyPost_ret (v := .tuple #[.agg #[.int .u64 u0, .int .u64 u1, .int .u64 u2, .int .u64 u3], .int .i64 0]) (by simp [results, Try.results26, go_sem, z0, z1, z2, z3]) rfl ?_
  have hB1 : Below w.heap.size w w1 := (((Below.refl _ w).alloc (Nat.le_refl _) _).alloc (by rw [size_alloc]; omega) _).trans (HBL.out.mono (by simp only [size_alloc]; omega))
  exact ⟨rfl, (((hB1.setCell (by show _ ≤ w.heap.size + 1; omega) _).setCell (by show _ ≤ w.heap.size + 1; omega) _).setCell (by show _ ≤ w.heap.size + 1; omega) _).setCell (by show _ ≤ w.heap.size + 1; omega) _⟩
/-- AsWhole is wholeF. -/
theorem asWhole26 (x : It) (S : Nat → Prop) (c0 c1 c2 : Value) (w : World) (hx : ItemR w S x [c0, c1, c2]) (hS : ∀ b, S b → b < w.heap.size) :
    Calls Try.prog 26 #[.agg #[c0, c1, c2]] w fun e w' => e = .returned (.tuple #[wordV (wholeF x 32).1, .int .i64 ((wholeF x 32).2 : Nat)]) ∧ Below w.heap.size w w' := by
  cases x with
  | mk l bs ks =>
    simp only [ItemR] at hx
    obtain ⟨v, A, c, inner, e, hb, h1, h2, hr, hk⟩ := hx
    simp only [List.cons.injEq, and_true] at e
    obtain ⟨rfl, rfl, rfl⟩ := e
    have hbs := hb.toBs (lo := 0) (hi := w.heap.size) (fun b h => ⟨Nat.zero_le _, hS b h⟩)
    obtain ⟨Ab, cb, rfl, hb1, hb2, hbR⟩ := hb
    rw [wholeF]
    by_cases h0 : l = 0
    · subst h0
      rw [if_neg (by simp)]
      by_cases h32 : 32 < bs.length
      · rw [if_pos h32, wordV_zero]
        exact asWhole_size _ _ _ _ h32 _ _ w
      · rw [if_neg h32]
        have h56 : ∀ W, Below w.heap.size w W → Calls Try.prog 56 #[.slice Ab bs.length cb] W fun e w' => e = .returned (.tuple #[wordV (ofDigits bs), .int .i64 0]) ∧ Below W.heap.size W w' := fun W hW =>
          read_any 0 w.heap.size _ bs W (hbs.keep (Same.of_below hW (Nat.le_refl _))) (by omega) hW.size
        cases bs with
        | nil =>
          rw [if_neg (by simp)]
          have e0 : ofDigits [] = 0 := rfl
          rw [e0, wordV_zero]
          refine asWhole_empty _ _ _ _ _ w (fun W => ?_)
          have := read_any 0 0 (.slice Ab 0 cb) [] W ⟨Ab, cb, rfl, hb1, hb2, Rd.nil _ _ _ _ _⟩ (by simp) (Nat.zero_le _)
          rw [e0] at this
          simp only [limbN_zero0] at this
          exact this
        | cons b r =>
          obtain ⟨g, off, rfl, hSg, hcell⟩ := hbR.2 (by simp)
          have hg := hS g hSg
          have hc : w.cell? ⟨g, off, none⟩ = some (.int .u8 (b.toNat : Int)) := hcell 0 _ rfl
          by_cases hb0 : b = 0
          · subst hb0
            rw [if_pos ⟨by simp, rfl⟩, wordV_zero]
            exact asWhole_form g off _ _ _ _ h32 (by simp) _ w hg hc
          · rw [if_neg (by simp [hb0])]
            refine asWhole_ok g off _ _ _ _ h32 (by simp) (b.toNat : Int) (fun h => hb0 (UInt8.toNat_inj.1 (by have h0 : (0 : UInt8).toNat = 0 := rfl; omega))) _ w hg hc _ _ _ _ (fun W hW => h56 W hW)
    · rw [if_pos h0, wordV_zero]
      exact asWhole_kind l h0 _ _ _ _ _ _ w
/-- An item as a number. -/
def numF (x : It) : Nat × Nat := wholeF x 8
theorem numF_cases (x : It) : (match x with | .mk l bs _ => l = 0 ∧ 8 < bs.length) ∧ numF x = (0, 46) ∨ ¬(match x with | .mk l bs _ => l = 0 ∧ 8 < bs.length) ∧ numF x = wholeF x 32 ∧ (wholeF x 32).1 < 18446744073709551616 := by
  cases x with
  | mk l bs ks =>
    by_cases h : l = 0 ∧ 8 < bs.length
    · refine .inl ⟨h, ?_⟩
      rw [numF, wholeF, if_neg (by simp [h.1]), if_pos h.2]
    · refine .inr ⟨h, ?_, ?_⟩
      · rw [numF, wholeF, wholeF]
        by_cases h0 : l = 0
        · have h8 : ¬ 8 < bs.length := fun h8 => h ⟨h0, h8⟩
          have a1 : ¬ l ≠ 0 := fun h => h h0
          have a2 : ¬ 32 < bs.length := by omega
          simp only [if_neg a1, if_neg h8, if_neg a2]
        · rw [if_pos h0, if_pos h0]
      · rw [wholeF]
        by_cases h0 : l = 0
        · have h8 : ¬ 8 < bs.length := fun h8 => h ⟨h0, h8⟩
          rw [if_neg (by simp [h0]), if_neg (show ¬ 32 < bs.length by omega)]
          split
          · decide
          · exact Nat.lt_of_lt_of_le (ofDigits_lt bs) (Nat.le_trans (Nat.pow_le_pow_right (n := 256) (by omega) (show bs.length ≤ 8 by omega)) (by decide))
        · rw [if_pos h0]; decide
set_option maxRecDepth 100000 in
set_option maxHeartbeats 1000000 in
theorem asNumber_size (n m c0 c1 : Nat) (hn : 8 < n) (A0 A1 : Option Addr) (w : World) :
    Calls Try.prog 24 #[.agg #[.int .i64 0, .slice A0 n c0, .slice A1 m c1]] w fun e w' => e = .returned (.tuple #[.int .u64 0, .int .i64 46]) ∧ Below w.heap.size w w' := by
  have h1 : (8 : Int) < (n : Int) := by omega
  go_enter Try.func24, Try.ntmps24
  go_wp2
  go_ret2
  exact ⟨rfl, by go_grown⟩
set_option maxRecDepth 100000 in
set_option maxHeartbeats 1000000 in
theorem asNumber_rest (l : Int) (n m c0 c1 : Nat) (hn : ¬(l = 0 ∧ 8 < n)) (A0 A1 : Option Addr) (w : World) (u0 u1 u2 u3 : Int) (er : Nat)
    (h26 : Hid (∀ W, Below w.heap.size w W → Calls Try.prog 26 #[.agg #[.int .i64 l, .slice A0 n c0, .slice A1 m c1]] W fun e w' => e = .returned (.tuple #[.agg #[.int .u64 u0, .int .u64 u1, .int .u64 u2, .int .u64 u3], .int .i64 (er : Int)]) ∧ Below W.heap.size W w')) :
    Calls Try.prog 24 #[.agg #[.int .i64 l, .slice A0 n c0, .slice A1 m c1]] w fun e w' => e = .returned (.tuple #[.int .u64 (if er = 0 then u0 else 0), .int .i64 (er : Int)]) ∧ Below w.heap.size w w' := by
  by_cases her : er = 0
  · subst her
    rw [if_pos rfl]
    have h26' : Hid (∀ W, Below w.heap.size w W → Calls Try.prog 26 #[.agg #[.int .i64 l, .slice A0 n c0, .slice A1 m c1]] W fun e w' => e = .returned (.tuple #[.agg #[.int .u64 u0, .int .u64 u1, .int .u64 u2, .int .u64 u3], .int .i64 0]) ∧ Below W.heap.size W w') := h26.out
    clear h26
    by_cases h0 : l = 0
    · subst h0
      have h1 : ¬ (8 : Int) < (n : Int) := fun h => hn ⟨rfl, by omega⟩
      clear hn
      go_enter Try.func24, Try.ntmps24
      go_wp2_with (first
        | (go_at_call 26; refine (h26'.out _ (by go_grown)).mono ?_
           rintro e w1 ⟨rfl, hbl⟩
           have HB1 : Hid (Below w.heap.size w w1) := ((Below.refl _ w).alloc (Nat.le_refl _) _).trans (hbl.mono (by rw [size_alloc]; omega))
           clear hbl))
      go_ret2
      exact ⟨rfl, HB1.out.alloc HB1.out.size _⟩
    · clear hn
      go_enter Try.func24, Try.ntmps24
      go_wp2_with (first
        | (go_at_call 26; refine (h26'.out _ (by go_grown)).mono ?_
           rintro e w1 ⟨rfl, hbl⟩
           have HB1 : Hid (Below w.heap.size w w1) := ((Below.refl _ w).alloc (Nat.le_refl _) _).trans (hbl.mono (by rw [size_alloc]; omega))
           clear hbl))
      go_ret2
      exact ⟨rfl, HB1.out.alloc HB1.out.size _⟩
  · rw [if_neg her]
    have heri : ¬ (er : Int) = 0 := by omega
    by_cases h0 : l = 0
    · subst h0
      have h1 : ¬ (8 : Int) < (n : Int) := fun h => hn ⟨rfl, by omega⟩
      clear hn her
      go_enter Try.func24, Try.ntmps24
      go_wp2_with (first
        | (go_at_call 26; refine (h26.out _ (by go_grown)).mono ?_
           rintro e w1 ⟨rfl, hbl⟩
           have HB1 : Hid (Below w.heap.size w w1) := ((Below.refl _ w).alloc (Nat.le_refl _) _).trans (hbl.mono (by rw [size_alloc]; omega))
           clear hbl))
      go_ret2
      exact ⟨rfl, HB1.out.alloc HB1.out.size _⟩
    · clear hn her
      go_enter Try.func24, Try.ntmps24
      go_wp2_with (first
        | (go_at_call 26; refine (h26.out _ (by go_grown)).mono ?_
           rintro e w1 ⟨rfl, hbl⟩
           have HB1 : Hid (Below w.heap.size w w1) := ((Below.refl _ w).alloc (Nat.le_refl _) _).trans (hbl.mono (by rw [size_alloc]; omega))
           clear hbl))
      go_ret2
      exact ⟨rfl, HB1.out.alloc HB1.out.size _⟩
theorem wholeF_err (x : It) (m : Nat) (h : (wholeF x m).2 ≠ 0) : (wholeF x m).1 = 0 := by
  cases x with
  | mk l bs ks =>
    rw [wholeF] at h ⊢
    split
    · rfl
    · rename_i h1
      rw [if_neg h1] at h
      split
      · rfl
      · rename_i h2
        rw [if_neg h2] at h
        split
        · rfl
        · rename_i h3
          rw [if_neg h3] at h
          exact absurd rfl h
/-- AsNumber is numF. -/
theorem asNumber24 (x : It) (S : Nat → Prop) (c0 c1 c2 : Value) (w : World) (hx : ItemR w S x [c0, c1, c2]) (hS : ∀ b, S b → b < w.heap.size) :
    Calls Try.prog 24 #[.agg #[c0, c1, c2]] w fun e w' => e = .returned (.tuple #[.int .u64 ((numF x).1 : Nat), .int .i64 ((numF x).2 : Nat)]) ∧ Below w.heap.size w w' := by
  have h26 : Hid (∀ W, Below w.heap.size w W → Calls Try.prog 26 #[.agg #[c0, c1, c2]] W fun e w' => e = .returned (.tuple #[wordV (wholeF x 32).1, .int .i64 ((wholeF x 32).2 : Nat)]) ∧ Below W.heap.size W w') := fun W hW =>
    asWhole26 x S c0 c1 c2 W (ItemR.keep (fun b hb => hW.block b (hS b hb)) _ _ hx) (fun b hb => Nat.lt_of_lt_of_le (hS b hb) hW.size)
  have hc := numF_cases x
  have herr := wholeF_err x 32
  cases x with
  | mk l bs ks =>
    simp only [ItemR] at hx
    obtain ⟨v, A, c, inner, e, hb, h1, h2, hr, hk⟩ := hx
    simp only [List.cons.injEq, and_true] at e
    obtain ⟨rfl, rfl, rfl⟩ := e
    obtain ⟨Ab, cb, rfl, hb1, hb2, hbR⟩ := hb
    rcases hc with ⟨⟨rfl, h8⟩, e⟩ | ⟨hn, e, hlt⟩
    · rw [e]
      exact asNumber_size _ _ _ _ h8 _ _ w
    · have h := asNumber_rest l bs.length ks.length cb c hn Ab A w _ _ _ _ _ h26
      rw [e]
      refine h.mono fun e w' ⟨h1, h2⟩ => ⟨?_, h2⟩
      rw [h1]
      congr 3
      by_cases h0 : (wholeF (.mk l bs ks) 32).2 = 0
      · rw [if_pos h0, limbN_self hlt]
      · rw [if_neg h0, herr h0]; rfl
theorem info55 : (Try.prog.info? 55).map (·.size) = some 1 := by kernel_rfl
theorem cells55 : Try.prog.cellsOf 55 = 1 := by kernel_rfl
theorem equalIn_same (a b c d : Int) (W : World) : (Op.equalIn 10000 57 (.agg #[.int .u64 a, .int .u64 b, .int .u64 c, .int .u64 d]) (.agg #[.int .u64 a, .int .u64 b, .int .u64 c, .int .u64 d])).run Try.prog W = .ok true W := by
  obtain ⟨i, hi, _⟩ := Option.map_eq_some_iff.1 info55
  rw [run_equalIn_array (P := Try.prog) W 9999 _ _ Try.underlying57 hi, cells55]
  have hp : ∀ (xs : Array Value) (k : Nat) (v : Value), xs[k]? = some v → (part 55 xs k).run Try.prog W = .ok v W := fun xs k v h => by
    simp [part, isAgg, run_underlying Try.underlying55, h]
  have he : ∀ n : Int, (Op.equalIn 9999 55 (.int .u64 n) (.int .u64 n)).run Try.prog W = .ok true W := fun n => by
    rw [run_equalIn_int W 9998 55 .u64 .u64 n n Try.underlying55]; simp
  have p0 := hp #[.int .u64 a, .int .u64 b, .int .u64 c, .int .u64 d] 0 (.int .u64 a) rfl
  have p1 := hp #[.int .u64 a, .int .u64 b, .int .u64 c, .int .u64 d] 1 (.int .u64 b) rfl
  have p2 := hp #[.int .u64 a, .int .u64 b, .int .u64 c, .int .u64 d] 2 (.int .u64 c) rfl
  have p3 := hp #[.int .u64 a, .int .u64 b, .int .u64 c, .int .u64 d] 3 (.int .u64 d) rfl
  rw [show List.range 4 = [0, 1, 2, 3] from rfl]
  simp only [Op.eqItems, Sem.run_bind, Nat.mul_one, p0, p1, p2, p3, he, Result.andThen_ok, Bool.not_true, Bool.false_eq_true, if_false, Sem.run_pure]
theorem eq_same (a b c d : Int) (W : World) : (binOp .eql 57 (.agg #[.int .u64 a, .int .u64 b, .int .u64 c, .int .u64 d]) (.agg #[.int .u64 a, .int .u64 b, .int .u64 c, .int .u64 d])).run Try.prog W = .ok (.bool true) W := by
  rw [run_eql_struct, equalIn_same]; rfl
theorem neq_same (a b c d : Int) (W : World) : (binOp .neq 57 (.agg #[.int .u64 a, .int .u64 b, .int .u64 c, .int .u64 d]) (.agg #[.int .u64 a, .int .u64 b, .int .u64 c, .int .u64 d])).run Try.prog W = .ok (.bool false) W := by
  have h := equalIn_same a b c d W
  simp only [binOp]
  simp [Op.equal, Op.maxDepth, h]
end Go.Proofs.Ytkdpphcalekbdaa.T3
