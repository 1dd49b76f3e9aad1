/- rlp.check, whole. -/
import Derived.Test.YtkdpphcalekbdaaH2
set_option linter.unusedVariables false
set_option linter.unusedSimpArgs false
namespace Go.Proofs.Ytkdpphcalekbdaa.H3
open Go.ChangeShapes Go.WideShapes Go.ChangeAt Go.RowKit
open M H1 H2
set_option maxRecDepth 100000 in
set_option maxHeartbeats 1000000 in
theorem check_deep (n m c0 c1 d : Nat) (A0 A1 : Option Addr) (w : World) (hd : 64 ≤ d) (hd2 : d ≤ 64) :
    Calls Try.prog 46 #[.agg #[.int .i64 1, .slice A0 n c0, .slice A1 m c1], .int .i64 (d : Int)] w fun e w' => e = .returned (.int .i64 44) ∧ Below w.heap.size w w' := by
  have h1 : (64 : Int) ≤ (d : Int) := by omega
  go_enter Try.func46, Try.ntmps46
  go_wp2
  go_returns
  exact ⟨rfl, by go_grown⟩
set_option maxRecDepth 100000 in
set_option maxHeartbeats 1000000 in
theorem check_kind (l : Int) (h0 : ¬ l = 0) (h1 : ¬ l = 1) (n m c0 c1 d : Nat) (A0 A1 : Option Addr) (w : World) :
    Calls Try.prog 46 #[.agg #[.int .i64 l, .slice A0 n c0, .slice A1 m c1], .int .i64 (d : Int)] w fun e w' => e = .returned (.int .i64 40) ∧ Below w.heap.size w w' := by
  go_enter Try.func46, Try.ntmps46
  go_wp2
  go_returns
  exact ⟨rfl, by go_grown⟩
set_option maxRecDepth 100000 in
set_option maxHeartbeats 1000000 in
theorem check_kids (n m c0 c1 d : Nat) (hm : 0 < m) (A0 A1 : Option Addr) (w : World) :
    Calls Try.prog 46 #[.agg #[.int .i64 0, .slice A0 n c0, .slice A1 m c1], .int .i64 (d : Int)] w fun e w' => e = .returned (.int .i64 40) ∧ Below w.heap.size w w' := by
  have h1 : (0 : Int) < (m : Int) := by omega
  go_enter Try.func46, Try.ntmps46
  go_wp2
  go_returns
  exact ⟨rfl, by go_grown⟩
set_option maxRecDepth 100000 in
set_option maxHeartbeats 1000000 in
theorem check_bytes (n m c0 c1 d : Nat) (hn : 0 < n) (hd : ¬ 64 ≤ d) (A0 A1 : Option Addr) (w : World) :
    Calls Try.prog 46 #[.agg #[.int .i64 1, .slice A0 n c0, .slice A1 m c1], .int .i64 (d : Int)] w fun e w' => e = .returned (.int .i64 40) ∧ Below w.heap.size w w' := by
  have h1 : (0 : Int) < (n : Int) := by omega
  have h2 : ¬ (64 : Int) ≤ (d : Int) := by omega
  go_enter Try.func46, Try.ntmps46
  go_wp2
  go_returns
  exact ⟨rfl, by go_grown⟩
/-- check is checkF. -/
theorem check46 (x : It) : CheckSpec x := by
  refine It.ind ?_ x
  intro l bs ks ih S c0 c1 c2 d w hx hS hd hbulk
  simp only [ItemR] at hx
  obtain ⟨v, A, c, inner, e, hb, h1, h2, hr, hk⟩ := hx
  simp only [List.cons.injEq, and_true] at e
  obtain ⟨rfl, rfl, rfl⟩ := e
  obtain ⟨Ab, cb, rfl, hb1, hb2, hbR⟩ := hb
  have hbk : bulks ks ≤ 1073741824 := by simp only [bulk] at hbulk; omega
  rw [checkF]
  by_cases hA : l = 1 ∧ 64 ≤ d
  · rw [if_pos hA]
    obtain ⟨rfl, hd64⟩ := hA
    exact check_deep _ _ _ _ d _ _ w hd64 hd
  · rw [if_neg hA]
    by_cases hB : (l ≠ 0 ∧ l ≠ 1) ∨ (l = 0 ∧ 0 < ks.length) ∨ (l = 1 ∧ 0 < bs.length)
    · rw [if_pos hB]
      rcases hB with ⟨a, b⟩ | ⟨rfl, b⟩ | ⟨rfl, b⟩
      · exact check_kind l a b _ _ _ _ d _ _ w
      · exact check_kids _ _ _ _ d b _ _ w
      · exact check_bytes _ _ _ _ d b (fun h => hA ⟨rfl, h⟩) _ _ w
    · rw [if_neg hB]
      have hl : l = 0 ∧ ks = [] ∨ l = 1 ∧ bs = [] := by
        by_cases h0 : l = 0
        · refine .inl ⟨h0, List.eq_nil_of_length_eq_zero ?_⟩
          rcases Nat.eq_zero_or_pos ks.length with h | h
          · exact h
          · exact absurd (.inr (.inl ⟨h0, h⟩)) hB
        · by_cases h1 : l = 1
          · refine .inr ⟨h1, List.eq_nil_of_length_eq_zero ?_⟩
            rcases Nat.eq_zero_or_pos bs.length with h | h
            · exact h
            · exact absurd (.inr (.inr ⟨h1, h⟩)) hB
          · exact absurd (.inl ⟨h0, h1⟩) hB
      exact check_loop l bs ks hl ih S Ab A cb c d w inner hr hk hS hd hA hbk
end Go.Proofs.Ytkdpphcalekbdaa.H3
