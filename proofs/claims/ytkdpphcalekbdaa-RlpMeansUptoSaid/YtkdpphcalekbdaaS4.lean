/- ref.AsWhole, ref.AsNumber. -/
import Derived.Test.YtkdpphcalekbdaaT3
set_option linter.unusedVariables false
set_option linter.unusedSimpArgs false
namespace Go.Proofs.Ytkdpphcalekbdaa.S4
open Go.ChangeShapes Go.WideShapes Go.ChangeAt Go.RowKit
open M W1 T3
set_option maxRecDepth 100000 in
set_option maxHeartbeats 1000000 in
theorem rWhole_kind (l : Int) (h0 : ¬ l = 0) (n m c0 c1 : Nat) (A0 A1 : Option Addr) (q : Nat) (w : World) :
    Calls Try.prog 33 #[.agg #[.int .i64 l, .slice A0 n c0, .slice A1 m c1], .int .i64 (q : Int)] w fun e w' => e = .returned (.tuple #[.agg #[.int .u64 0, .int .u64 0, .int .u64 0, .int .u64 0], .int .i64 45]) ∧ Below w.heap.size w w' := by
  go_enter Try.func33, Try.ntmps33
  go_wp2
  go_returns
  exact ⟨rfl, by go_grown⟩
set_option maxRecDepth 100000 in
set_option maxHeartbeats 1000000 in
theorem rWhole_size (n m c0 c1 q : Nat) (hn : q < n) (A0 A1 : Option Addr) (w : World) :
    Calls Try.prog 33 #[.agg #[.int .i64 0, .slice A0 n c0, .slice A1 m c1], .int .i64 (q : Int)] w fun e w' => e = .returned (.tuple #[.agg #[.int .u64 0, .int .u64 0, .int .u64 0, .int .u64 0], .int .i64 46]) ∧ Below w.heap.size w w' := by
  have h1 : (q : Int) < (n : Int) := by omega
  go_enter Try.func33, Try.ntmps33
  go_wp2
  go_returns
  exact ⟨rfl, by go_grown⟩
set_option maxRecDepth 100000 in
set_option maxHeartbeats 1000000 in
theorem rWhole_form (g off n m c0 c1 q : Nat) (hn : ¬ q < n) (hn0 : 0 < n) (A1 : Option Addr) (w : World) (hg : g < w.heap.size) (hc : w.cell? ⟨g, off, none⟩ = some (.int .u8 0)) :
    Calls Try.prog 33 #[.agg #[.int .i64 0, .slice (some ⟨g, off, none⟩) n c0, .slice A1 m c1], .int .i64 (q : Int)] w fun e w' => e = .returned (.tuple #[.agg #[.int .u64 0, .int .u64 0, .int .u64 0, .int .u64 0], .int .i64 42]) ∧ Below w.heap.size w w' := by
  have h1 : ¬ (q : Int) < (n : Int) := by omega
  have h2 : (0 : Int) < (n : Int) := by omega
  go_enter Try.func33, Try.ntmps33
  go_wp2
  go_returns
  exact ⟨rfl, by go_grown⟩
set_option maxRecDepth 100000 in
set_option maxHeartbeats 1000000 in
theorem rWhole_empty (m c0 c1 q : Nat) (A0 A1 : Option Addr) (w : World) (h61 : Hid (∀ W, Calls Try.prog 61 #[.slice A0 0 c0] W fun e w' => e = .returned (.agg #[.int .u64 0, .int .u64 0, .int .u64 0, .int .u64 0]) ∧ Below W.heap.size W w')) :
    Calls Try.prog 33 #[.agg #[.int .i64 0, .slice A0 0 c0, .slice A1 m c1], .int .i64 (q : Int)] w fun e w' => e = .returned (.tuple #[.agg #[.int .u64 0, .int .u64 0, .int .u64 0, .int .u64 0], .int .i64 0]) ∧ Below w.heap.size w w' := by
  go_enter Try.func33, Try.ntmps33
  go_wp2_with (first
    | (go_at_call 61; refine (h61.out _).mono ?_
       rintro e w1 ⟨rfl, hbl⟩
       have hx := (hbl.block (w.heap.size + 1) (by simp only [size_alloc]; omega)).trans (show _ = some (Obj.cells #[.int .u64 0, .int .u64 0, .int .u64 0, .int .u64 0] 57 (0, 0)) by rw [heap_alloc, if_pos (by rw [size_alloc])])
       have z0 : w1.cell? ⟨w.heap.size + 1, 0, none⟩ = some (.int .u64 0) := by simp [World.cell?, hx]
       have z1 : w1.cell? ⟨w.heap.size + 1, 1, none⟩ = some (.int .u64 0) := by simp [World.cell?, hx]
       have z2 : w1.cell? ⟨w.heap.size + 1, 2, none⟩ = some (.int .u64 0) := by simp [World.cell?, hx]
       have z3 : w1.cell? ⟨w.heap.size + 1, 3, none⟩ = some (.int .u64 0) := by simp [World.cell?, hx]
       have zf : ∀ o, w1.frozen? ⟨w.heap.size + 1, o, none⟩ = false := fun o => by simp [World.frozen?, hx]
       have HBL := Lib.hid hbl
       clear hbl hx))
  refine bodyPost_ret (v := .tuple #[.agg #[.int .u64 0, .int .u64 0, .int .u64 0, .int .u64 0], .int .i64 0]) (by simp [results, Try.results33, go_sem, z0, z1, z2, z3]) rfl ?_
  have hB1 : Below w.heap.size w w1 := (((Below.refl _ w).alloc (Nat.le_refl _) _).alloc (by rw [size_alloc]; omega) _).trans (HBL.out.mono (by simp only [size_alloc]; omega))
  refine ⟨rfl, ?_⟩
  first
    | exact hB1
    | exact (((hB1.setCell (by show _ ≤ w.heap.size + 1; omega) _).setCell (by show _ ≤ w.heap.size + 1; omega) _).setCell (by show _ ≤ w.heap.size + 1; omega) _).setCell (by show _ ≤ w.heap.size + 1; omega) _
set_option maxRecDepth 100000 in
set_option maxHeartbeats 1000000 in
theorem rWhole_ok (g off n m c0 c1 q : Nat) (hn : ¬ q < n) (hn0 : 0 < n) (b : Int) (hb : ¬ b = 0) (A1 : Option Addr) (w : World) (hg : g < w.heap.size) (hc : w.cell? ⟨g, off, none⟩ = some (.int .u8 b)) (u0 u1 u2 u3 : Int)
    (h61 : Hid (∀ W, Below w.heap.size w W → Calls Try.prog 61 #[.slice (some ⟨g, off, none⟩) n c0] W fun e w' => e = .returned (.agg #[.int .u64 u0, .int .u64 u1, .int .u64 u2, .int .u64 u3]) ∧ Below W.heap.size W w')) :
    Calls Try.prog 33 #[.agg #[.int .i64 0, .slice (some ⟨g, off, none⟩) n c0, .slice A1 m c1], .int .i64 (q : Int)] w fun e w' => e = .returned (.tuple #[.agg #[.int .u64 u0, .int .u64 u1, .int .u64 u2, .int .u64 u3], .int .i64 0]) ∧ Below w.heap.size w w' := by
  have h1 : ¬ (q : Int) < (n : Int) := by omega
  have h2 : (0 : Int) < (n : Int) := by omega
  go_enter Try.func33, Try.ntmps33
  go_wp2_with (first
    | (go_at_call 61; refine (h61.out _ (by go_grown)).mono ?_
       rintro e w1 ⟨rfl, hbl⟩
       have hx := (hbl.block (w.heap.size + 1) (by simp only [size_alloc]; omega)).trans (show _ = some (Obj.cells #[.int .u64 0, .int .u64 0, .int .u64 0, .int .u64 0] 57 (0, 0)) by rw [heap_alloc, if_pos (by rw [size_alloc])])
       have z0 : w1.cell? ⟨w.heap.size + 1, 0, none⟩ = some (.int .u64 0) := by simp [World.cell?, hx]
       have z1 : w1.cell? ⟨w.heap.size + 1, 1, none⟩ = some (.int .u64 0) := by simp [World.cell?, hx]
       have z2 : w1.cell? ⟨w.heap.size + 1, 2, none⟩ = some (.int .u64 0) := by simp [World.cell?, hx]
       have z3 : w1.cell? ⟨w.heap.size + 1, 3, none⟩ = some (.int .u64 0) := by simp [World.cell?, hx]
       have zf : ∀ o, w1.frozen? ⟨w.heap.size + 1, o, none⟩ = false := fun o => by simp [World.frozen?, hx]
       have HBL := Lib.hid hbl
       clear hbl hx))
  refine bodyPost_ret (v := .tuple #[.agg #[.int .u64 u0, .int .u64 u1, .int .u64 u2, .int .u64 u3], .int .i64 0]) (by simp [results, Try.results33, go_sem, z0, z1, z2, z3]) rfl ?_
  have hB1 : Below w.heap.size w w1 := (((Below.refl _ w).alloc (Nat.le_refl _) _).alloc (by rw [size_alloc]; omega) _).trans (HBL.out.mono (by simp only [size_alloc]; omega))
  exact ⟨rfl, (((hB1.setCell (by show _ ≤ w.heap.size + 1; omega) _).setCell (by show _ ≤ w.heap.size + 1; omega) _).setCell (by show _ ≤ w.heap.size + 1; omega) _).setCell (by show _ ≤ w.heap.size + 1; omega) _⟩
/-- ref.AsWhole is wholeF. -/
theorem rWhole33 (x : It) (S : Nat → Prop) (c0 c1 c2 : Value) (q : Nat) (hq : q ≤ 32) (w : World) (hx : ItemR w S x [c0, c1, c2]) (hS : ∀ b, S b → b < w.heap.size) :
    Calls Try.prog 33 #[.agg #[c0, c1, c2], .int .i64 (q : Int)] w fun e w' => e = .returned (.tuple #[wordV (wholeF x q).1, .int .i64 ((wholeF x q).2 : Nat)]) ∧ Below w.heap.size w w' := by
  cases x with
  | mk l bs ks =>
    simp only [ItemR] at hx
    obtain ⟨v, A, c, inner, e, hb, h1, h2, hr, hk⟩ := hx
    simp only [List.cons.injEq, and_true] at e
    obtain ⟨rfl, rfl, rfl⟩ := e
    have hbs := hb.toBs (lo := 0) (hi := w.heap.size) (fun b h => ⟨Nat.zero_le _, hS b h⟩)
    obtain ⟨Ab, cb, rfl, hb1, hb2, hbR⟩ := hb
    rw [wholeF]
    by_cases h0 : l = 0
    · subst h0
      rw [if_neg (by simp)]
      by_cases h32 : q < bs.length
      · rw [if_pos h32, wordV_zero]
        exact rWhole_size _ _ _ _ q h32 _ _ w
      · rw [if_neg h32]
        have h61 : ∀ W, Below w.heap.size w W → Calls Try.prog 61 #[.slice Ab bs.length cb] W fun e w' => e = .returned (wordV (ofDigits bs)) ∧ Below W.heap.size W w' := fun W hW =>
          refRead_any 0 w.heap.size _ bs W (hbs.keep (Same.of_below hW (Nat.le_refl _))) (by omega) hW.size
        cases bs with
        | nil =>
          rw [if_neg (by simp)]
          have e0 : ofDigits [] = 0 := rfl
          rw [e0, wordV_zero]
          refine rWhole_empty _ _ _ q _ _ w (fun W => ?_)
          have := refRead_any 0 0 (.slice Ab 0 cb) [] W ⟨Ab, cb, rfl, hb1, hb2, Rd.nil _ _ _ _ _⟩ (by simp) (Nat.zero_le _)
          rw [e0] at this
          simp only [limbN_zero0] at this
          exact this
        | cons b r =>
          obtain ⟨g, off, rfl, hSg, hcell⟩ := hbR.2 (by simp)
          have hg := hS g hSg
          have hc : w.cell? ⟨g, off, none⟩ = some (.int .u8 (b.toNat : Int)) := hcell 0 _ rfl
          by_cases hb0 : b = 0
          · subst hb0
            rw [if_pos ⟨by simp, rfl⟩, wordV_zero]
            exact rWhole_form g off _ _ _ _ q h32 (by simp) _ w hg hc
          · rw [if_neg (by simp [hb0])]
            refine rWhole_ok g off _ _ _ _ q h32 (by simp) (b.toNat : Int) (fun h => hb0 (UInt8.toNat_inj.1 (by have h0 : (0 : UInt8).toNat = 0 := rfl; omega))) _ w hg hc _ _ _ _ (fun W hW => h61 W hW)
    · rw [if_pos h0, wordV_zero]
      exact rWhole_kind l h0 _ _ _ _ _ _ q w
set_option maxRecDepth 100000 in
set_option maxHeartbeats 1000000 in
theorem rNumber_any (l : Int) (n m c0 c1 : Nat) (A0 A1 : Option Addr) (w : World) (u0 u1 u2 u3 : Int) (er : Nat)
    (h33 : Hid (∀ W, Below w.heap.size w W → Calls Try.prog 33 #[.agg #[.int .i64 l, .slice A0 n c0, .slice A1 m c1], .int .i64 8] W fun e w' => e = .returned (.tuple #[.agg #[.int .u64 u0, .int .u64 u1, .int .u64 u2, .int .u64 u3], .int .i64 (er : Int)]) ∧ Below W.heap.size W w')) :
    Calls Try.prog 32 #[.agg #[.int .i64 l, .slice A0 n c0, .slice A1 m c1]] w fun e w' => e = .returned (.tuple #[.int .u64 u0, .int .i64 (er : Int)]) ∧ Below w.heap.size w w' := by
  go_enter Try.func32, Try.ntmps32
  go_wp2_with (first
    | (go_at_call 33; refine (h33.out _ (by go_grown)).mono ?_
       rintro e w1 ⟨rfl, hbl⟩
       have HBL : Hid (Below w.heap.size w w1) := ((Below.refl _ w).alloc (Nat.le_refl _) _).trans (hbl.mono (by rw [size_alloc]; omega))
       clear hbl))
  go_ret2
  exact ⟨rfl, HBL.out.alloc HBL.out.size _⟩
/-- ref.AsNumber is numF. -/
theorem rNumber32 (x : It) (S : Nat → Prop) (c0 c1 c2 : Value) (w : World) (hx : ItemR w S x [c0, c1, c2]) (hS : ∀ b, S b → b < w.heap.size) :
    Calls Try.prog 32 #[.agg #[c0, c1, c2]] w fun e w' => e = .returned (.tuple #[.int .u64 ((numF x).1 : Nat), .int .i64 ((numF x).2 : Nat)]) ∧ Below w.heap.size w w' := by
  have h33 : Hid (∀ W, Below w.heap.size w W → Calls Try.prog 33 #[.agg #[c0, c1, c2], .int .i64 8] W fun e w' => e = .returned (.tuple #[wordV (wholeF x 8).1, .int .i64 ((wholeF x 8).2 : Nat)]) ∧ Below W.heap.size W w') := fun W hW =>
    rWhole33 x S c0 c1 c2 8 (by omega) W (ItemR.keep (fun b hb => hW.block b (hS b hb)) _ _ hx) (fun b hb => Nat.lt_of_lt_of_le (hS b hb) hW.size)
  obtain ⟨⟨fl, rfl⟩, ⟨fA, fn, fc, rfl⟩, ⟨fB, fm, fd, rfl⟩⟩ := item_shape hx
  have h := rNumber_any fl fn fm fc fd fA fB w _ _ _ _ _ h33
  have hlt : (wholeF x 8).1 < 18446744073709551616 := by
    have := whole_lt x 8
    have h3 : (256 : Nat) ^ 8 = 18446744073709551616 := by decide
    omega
  rw [limbN_self hlt] at h
  exact h
end Go.Proofs.Ytkdpphcalekbdaa.S4
