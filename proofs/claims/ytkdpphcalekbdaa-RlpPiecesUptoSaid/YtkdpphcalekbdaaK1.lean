/- ref.Head: the first piece of bytes. (printed by gen_refhead.py) -/
import Derived.Test.YtkdpphcalekbdaaW7
import Derived.Test.YtkdpphcalekbdaaJ
set_option linter.unusedVariables false
set_option linter.unusedSimpArgs false
namespace Go.Proofs.Ytkdpphcalekbdaa.K1
open Go.ChangeShapes Go.WideShapes Go.ChangeAt Go.RowKit
open M W1
set_option maxRecDepth 100000 in
set_option maxHeartbeats 1000000 in
theorem rh_nil (A : Option Addr) (c : Nat) (w : World) : Calls Try.prog 53 #[.slice A 0 c] w fun e w' => e = .returned (hdV (.error 41)) ∧ Below w.heap.size w w' := by
  go_enter Try.func53, Try.ntmps53
  go_wp2
  go_returns
  exact ⟨rfl, by go_grown⟩
set_option maxRecDepth 100000 in
set_option maxHeartbeats 1000000 in
theorem rh_small (g off c n q : Nat) (w : World) (hgw : g < w.heap.size) (hn : n + 1 < 1099511627776) (hnc : n + 1 ≤ c) (hcell : w.cell? ⟨g, off, none⟩ = some (.int .u8 (q : Int))) (hq : q < 128) : Calls Try.prog 53 #[.slice (some ⟨g, off, none⟩) (n + 1) c] w fun e w' => e = .returned (hdV (.ok (0, 0, 1))) ∧ Below w.heap.size w w' := by
  go_enter Try.func53, Try.ntmps53
  go_wp2
  go_returns
  exact ⟨rfl, by go_grown⟩
set_option maxRecDepth 100000 in
set_option maxHeartbeats 1000000 in
theorem rh_short0 (g off c n q : Nat) (w : World) (hgw : g < w.heap.size) (hn : n + 1 < 1099511627776) (hnc : n + 1 ≤ c) (hcell : w.cell? ⟨g, off, none⟩ = some (.int .u8 (128 + (q : Int)))) (h55 : q ≤ 55) (hsh : n < q) : Calls Try.prog 53 #[.slice (some ⟨g, off, none⟩) (n + 1) c] w fun e w' => e = .returned (hdV (.error 41)) ∧ Below w.heap.size w w' := by
  go_enter Try.func53, Try.ntmps53
  go_wp2
  go_returns
  exact ⟨rfl, by go_grown⟩
set_option maxRecDepth 100000 in
set_option maxHeartbeats 1000000 in
theorem rh_one0 (g off c n q : Nat) (w : World) (hgw : g < w.heap.size) (hn : n + 1 < 1099511627776) (hnc : n + 1 ≤ c) (hcell : w.cell? ⟨g, off, none⟩ = some (.int .u8 (128 + (q : Int)))) (h55 : q ≤ 55) (h1 : q = 1) (b1 : Nat) (hn1 : 1 ≤ n) (hcell1 : w.cell? ⟨g, off + 1, none⟩ = some (.int .u8 (b1 : Int))) (hb : b1 < 128) : Calls Try.prog 53 #[.slice (some ⟨g, off, none⟩) (n + 1) c] w fun e w' => e = .returned (hdV (.error 42)) ∧ Below w.heap.size w w' := by
  subst h1
  go_enter Try.func53, Try.ntmps53
  go_wp2
  go_returns
  exact ⟨rfl, by go_grown⟩
set_option maxRecDepth 100000 in
set_option maxHeartbeats 1000000 in
theorem rh_oneOk0 (g off c n q : Nat) (w : World) (hgw : g < w.heap.size) (hn : n + 1 < 1099511627776) (hnc : n + 1 ≤ c) (hcell : w.cell? ⟨g, off, none⟩ = some (.int .u8 (128 + (q : Int)))) (h55 : q ≤ 55) (h1 : q = 1) (b1 : Nat) (hn1 : 1 ≤ n) (hcell1 : w.cell? ⟨g, off + 1, none⟩ = some (.int .u8 (b1 : Int))) (hb : ¬ b1 < 128) : Calls Try.prog 53 #[.slice (some ⟨g, off, none⟩) (n + 1) c] w fun e w' => e = .returned (hdV (.ok (0, 1, 1 + 1))) ∧ Below w.heap.size w w' := by
  subst h1
  have hb' : ¬ (b1 : Int) < 128 := by omega
  go_enter Try.func53, Try.ntmps53
  go_wp2
  go_returns
  exact ⟨rfl, by go_grown⟩
set_option maxRecDepth 100000 in
set_option maxHeartbeats 1000000 in
theorem rh_ok0 (g off c n q : Nat) (w : World) (hgw : g < w.heap.size) (hn : n + 1 < 1099511627776) (hnc : n + 1 ≤ c) (hcell : w.cell? ⟨g, off, none⟩ = some (.int .u8 (128 + (q : Int)))) (h55 : q ≤ 55) (hsh : q ≤ n) (h1 : q ≠ 1) : Calls Try.prog 53 #[.slice (some ⟨g, off, none⟩) (n + 1) c] w fun e w' => e = .returned (hdV (.ok (0, 1, 1 + q))) ∧ Below w.heap.size w w' := by
  have hne1 : ((q : Int) == 1) = false := by rw [beq_eq_false_iff_ne]; omega
  go_enter Try.func53, Try.ntmps53
  go_wp2
  go_returns
  exact ⟨by simp [hdV]; omega, by go_grown⟩
set_option maxRecDepth 100000 in
set_option maxHeartbeats 1000000 in
theorem rh_lshort0 (g off c n k : Nat)  (w : World) (hgw : g < w.heap.size) (hn : n + 1 < 1099511627776) (hnc : n + 1 ≤ c) (hk : 1 ≤ k) (hk8 : k ≤ 8) (hcell : w.cell? ⟨g, off, none⟩ = some (.int .u8 (183 + (k : Int)))) (hsh : n < k) : Calls Try.prog 53 #[.slice (some ⟨g, off, none⟩) (n + 1) c] w fun e w' => e = .returned (hdV (.error 41)) ∧ Below w.heap.size w w' := by
  go_enter Try.func53, Try.ntmps53
  go_wp2
  go_returns
  exact ⟨rfl, by go_grown⟩
set_option maxRecDepth 100000 in
set_option maxHeartbeats 1000000 in
theorem rh_lzero0 (g off c n k : Nat) (x : Int) (x1 x2 x3 : Nat) (w : World) (hgw : g < w.heap.size) (hn : n + 1 < 1099511627776) (hnc : n + 1 ≤ c) (hk : 1 ≤ k) (hk8 : k ≤ 8) (hcell : w.cell? ⟨g, off, none⟩ = some (.int .u8 (183 + (k : Int)))) (Hread : Hid (∀ w0 : World, Below w.heap.size w w0 → Calls Try.prog 61 #[.slice (some ⟨g, off + 1, none⟩) k (c - 1)] w0 fun e w' => e = .returned (.agg #[.int .u64 (x : Int), .int .u64 (x1 : Int), .int .u64 (x2 : Int), .int .u64 (x3 : Int)]) ∧ Below w0.heap.size w0 w')) (hle : k ≤ n) (b1 : Nat) (hcell1 : w.cell? ⟨g, off + 1, none⟩ = some (.int .u8 (b1 : Int))) (hb : b1 = 0) : Calls Try.prog 53 #[.slice (some ⟨g, off, none⟩) (n + 1) c] w fun e w' => e = .returned (hdV (.error 42)) ∧ Below w.heap.size w w' := by
  subst hb
  go_enter Try.func53, Try.ntmps53
  go_wp2_with fail
  rw [show (183 + (k : Int) - 128 - 55) = (k : Int) from by omega, show 183 + k - 128 - 55 = k from by omega]
  refine (Hread.out _ (by go_grown)).mono ?_
  rintro e w1 ⟨rfl, hb1⟩
  have HB1 := Lib.hid hb1
  have hz0 : w.heap.size < w1.heap.size := by have := hb1.size; simp at this; omega
  have hz1 : w.heap.size + 1 < w1.heap.size := by have := hb1.size; simp at this; omega
  have d1 : w1.cell? ⟨g, off + 1, none⟩ = some (.int .u8 0) := (hb1.cell (p := ⟨g, off + 1, none⟩) (by simp only [size_alloc]; omega)).trans ((World.cell?_of_block (w := w) (a := ⟨g, off + 1, none⟩) ((Below.heap_alloc _ _ _ (by simp only [size_alloc]; omega)).trans (Below.heap_alloc _ _ _ hgw))).trans hcell1)
  have hgw1 : g < w1.heap.size := by omega
  have B0 : w1.heap[w.heap.size]? = some (.cells #[.int .i64 0, .int .i64 0, .int .i64 0] 51 (0, 0)) := (hb1.block _ (by simp only [size_alloc]; omega)).trans (show _ = _ from by rw [heap_alloc, if_neg (by rw [size_alloc]; omega), heap_alloc, if_pos rfl])
  have B1 : w1.heap[w.heap.size + 1]? = some (.cells #[.int .i64 0, .int .i64 1, .int .i64 0] 51 (0, 0)) := (hb1.block _ (by simp only [size_alloc]; omega)).trans (show _ = _ from by rw [heap_alloc, if_pos (by rw [size_alloc])])
  obtain ⟨c00, c01, c02, c0f⟩ := block_cells B0
  obtain ⟨c10, c11, c12, c1f⟩ := block_cells B1
  clear hb1 B0 B1
  go_wp2
  have hB : Below w.heap.size w w1 := (((Below.refl _ w).alloc (Nat.le_refl _) _).alloc (by rw [size_alloc]; omega) _).trans (HB1.out.mono (by simp only [size_alloc]; omega))
  refine bodyPost_ret (v := .tuple #[.agg #[.int .i64 0, .int .i64 0, .int .i64 0], .int .i64 42]) (by simp [results, Try.results53, go_sem, hz0, hz1, c00, c01, c02, c0f, c10, c11, c12, c1f]) rfl ?_
  exact ⟨by simp [hdV] <;> omega, by go_grown⟩
set_option maxRecDepth 100000 in
set_option maxHeartbeats 1000000 in
theorem rh_lsmall0 (g off c n k : Nat) (x : Int) (x1 x2 x3 : Nat) (w : World) (hgw : g < w.heap.size) (hn : n + 1 < 1099511627776) (hnc : n + 1 ≤ c) (hk : 1 ≤ k) (hk8 : k ≤ 8) (hcell : w.cell? ⟨g, off, none⟩ = some (.int .u8 (183 + (k : Int)))) (Hread : Hid (∀ w0 : World, Below w.heap.size w w0 → Calls Try.prog 61 #[.slice (some ⟨g, off + 1, none⟩) k (c - 1)] w0 fun e w' => e = .returned (.agg #[.int .u64 (x : Int), .int .u64 (x1 : Int), .int .u64 (x2 : Int), .int .u64 (x3 : Int)]) ∧ Below w0.heap.size w0 w')) (hle : k ≤ n) (b1 : Nat) (hcell1 : w.cell? ⟨g, off + 1, none⟩ = some (.int .u8 (b1 : Int))) (hb : b1 ≠ 0) (hx : x < 56) (hx0 : 0 ≤ x) : Calls Try.prog 53 #[.slice (some ⟨g, off, none⟩) (n + 1) c] w fun e w' => e = .returned (hdV (.error 42)) ∧ Below w.heap.size w w' := by
  have hb0 : ((b1 : Int) == 0) = false := by rw [beq_eq_false_iff_ne]; omega
  go_enter Try.func53, Try.ntmps53
  go_wp2_with fail
  rw [show (183 + (k : Int) - 128 - 55) = (k : Int) from by omega, show 183 + k - 128 - 55 = k from by omega]
  refine (Hread.out _ (by go_grown)).mono ?_
  rintro e w1 ⟨rfl, hb1⟩
  have HB1 := Lib.hid hb1
  have hz0 : w.heap.size < w1.heap.size := by have := hb1.size; simp at this; omega
  have hz1 : w.heap.size + 1 < w1.heap.size := by have := hb1.size; simp at this; omega
  have d1 : w1.cell? ⟨g, off + 1, none⟩ = some (.int .u8 (b1 : Int)) := (hb1.cell (p := ⟨g, off + 1, none⟩) (by simp only [size_alloc]; omega)).trans ((World.cell?_of_block (w := w) (a := ⟨g, off + 1, none⟩) ((Below.heap_alloc _ _ _ (by simp only [size_alloc]; omega)).trans (Below.heap_alloc _ _ _ hgw))).trans hcell1)
  have hgw1 : g < w1.heap.size := by omega
  have B0 : w1.heap[w.heap.size]? = some (.cells #[.int .i64 0, .int .i64 0, .int .i64 0] 51 (0, 0)) := (hb1.block _ (by simp only [size_alloc]; omega)).trans (show _ = _ from by rw [heap_alloc, if_neg (by rw [size_alloc]; omega), heap_alloc, if_pos rfl])
  have B1 : w1.heap[w.heap.size + 1]? = some (.cells #[.int .i64 0, .int .i64 1, .int .i64 0] 51 (0, 0)) := (hb1.block _ (by simp only [size_alloc]; omega)).trans (show _ = _ from by rw [heap_alloc, if_pos (by rw [size_alloc])])
  obtain ⟨c00, c01, c02, c0f⟩ := block_cells B0
  obtain ⟨c10, c11, c12, c1f⟩ := block_cells B1
  clear hb1 B0 B1
  go_wp2
  have hB : Below w.heap.size w w1 := (((Below.refl _ w).alloc (Nat.le_refl _) _).alloc (by rw [size_alloc]; omega) _).trans (HB1.out.mono (by simp only [size_alloc]; omega))
  refine bodyPost_ret (v := .tuple #[.agg #[.int .i64 0, .int .i64 0, .int .i64 0], .int .i64 42]) (by simp [results, Try.results53, go_sem, hz0, hz1, c00, c01, c02, c0f, c10, c11, c12, c1f]) rfl ?_
  exact ⟨by simp [hdV] <;> omega, by go_grown⟩
set_option maxRecDepth 100000 in
set_option maxHeartbeats 1000000 in
theorem rh_lbig0 (g off c n k : Nat) (x : Int) (x1 x2 x3 : Nat) (w : World) (hgw : g < w.heap.size) (hn : n + 1 < 1099511627776) (hnc : n + 1 ≤ c) (hk : 1 ≤ k) (hk8 : k ≤ 8) (hcell : w.cell? ⟨g, off, none⟩ = some (.int .u8 (183 + (k : Int)))) (Hread : Hid (∀ w0 : World, Below w.heap.size w w0 → Calls Try.prog 61 #[.slice (some ⟨g, off + 1, none⟩) k (c - 1)] w0 fun e w' => e = .returned (.agg #[.int .u64 (x : Int), .int .u64 (x1 : Int), .int .u64 (x2 : Int), .int .u64 (x3 : Int)]) ∧ Below w0.heap.size w0 w')) (hle : k ≤ n) (b1 : Nat) (hcell1 : w.cell? ⟨g, off + 1, none⟩ = some (.int .u8 (b1 : Int))) (hb : b1 ≠ 0) (hx : 1099511627776 < x) : Calls Try.prog 53 #[.slice (some ⟨g, off, none⟩) (n + 1) c] w fun e w' => e = .returned (hdV (.error 42)) ∧ Below w.heap.size w w' := by
  have hb0 : ((b1 : Int) == 0) = false := by rw [beq_eq_false_iff_ne]; omega
  have hx2 : ¬ x < 56 := by omega
  go_enter Try.func53, Try.ntmps53
  go_wp2_with fail
  rw [show (183 + (k : Int) - 128 - 55) = (k : Int) from by omega, show 183 + k - 128 - 55 = k from by omega]
  refine (Hread.out _ (by go_grown)).mono ?_
  rintro e w1 ⟨rfl, hb1⟩
  have HB1 := Lib.hid hb1
  have hz0 : w.heap.size < w1.heap.size := by have := hb1.size; simp at this; omega
  have hz1 : w.heap.size + 1 < w1.heap.size := by have := hb1.size; simp at this; omega
  have d1 : w1.cell? ⟨g, off + 1, none⟩ = some (.int .u8 (b1 : Int)) := (hb1.cell (p := ⟨g, off + 1, none⟩) (by simp only [size_alloc]; omega)).trans ((World.cell?_of_block (w := w) (a := ⟨g, off + 1, none⟩) ((Below.heap_alloc _ _ _ (by simp only [size_alloc]; omega)).trans (Below.heap_alloc _ _ _ hgw))).trans hcell1)
  have hgw1 : g < w1.heap.size := by omega
  have B0 : w1.heap[w.heap.size]? = some (.cells #[.int .i64 0, .int .i64 0, .int .i64 0] 51 (0, 0)) := (hb1.block _ (by simp only [size_alloc]; omega)).trans (show _ = _ from by rw [heap_alloc, if_neg (by rw [size_alloc]; omega), heap_alloc, if_pos rfl])
  have B1 : w1.heap[w.heap.size + 1]? = some (.cells #[.int .i64 0, .int .i64 1, .int .i64 0] 51 (0, 0)) := (hb1.block _ (by simp only [size_alloc]; omega)).trans (show _ = _ from by rw [heap_alloc, if_pos (by rw [size_alloc])])
  obtain ⟨c00, c01, c02, c0f⟩ := block_cells B0
  obtain ⟨c10, c11, c12, c1f⟩ := block_cells B1
  clear hb1 B0 B1
  go_wp2
  have hB : Below w.heap.size w w1 := (((Below.refl _ w).alloc (Nat.le_refl _) _).alloc (by rw [size_alloc]; omega) _).trans (HB1.out.mono (by simp only [size_alloc]; omega))
  refine bodyPost_ret (v := .tuple #[.agg #[.int .i64 0, .int .i64 0, .int .i64 0], .int .i64 42]) (by simp [results, Try.results53, go_sem, hz0, hz1, c00, c01, c02, c0f, c10, c11, c12, c1f]) rfl ?_
  exact ⟨by simp [hdV] <;> omega, by go_grown⟩
set_option maxRecDepth 100000 in
set_option maxHeartbeats 1000000 in
theorem rh_lto0 (g off c n k : Nat) (x : Int) (x1 x2 x3 : Nat) (w : World) (hgw : g < w.heap.size) (hn : n + 1 < 1099511627776) (hnc : n + 1 ≤ c) (hk : 1 ≤ k) (hk8 : k ≤ 8) (hcell : w.cell? ⟨g, off, none⟩ = some (.int .u8 (183 + (k : Int)))) (Hread : Hid (∀ w0 : World, Below w.heap.size w w0 → Calls Try.prog 61 #[.slice (some ⟨g, off + 1, none⟩) k (c - 1)] w0 fun e w' => e = .returned (.agg #[.int .u64 (x : Int), .int .u64 (x1 : Int), .int .u64 (x2 : Int), .int .u64 (x3 : Int)]) ∧ Below w0.heap.size w0 w')) (hle : k ≤ n) (b1 : Nat) (hcell1 : w.cell? ⟨g, off + 1, none⟩ = some (.int .u8 (b1 : Int))) (hb : b1 ≠ 0) (hx : 56 ≤ x) (hx4 : x ≤ 1099511627776) (hs : (n : Int) < k + x) : Calls Try.prog 53 #[.slice (some ⟨g, off, none⟩) (n + 1) c] w fun e w' => e = .returned (hdV (.error 41)) ∧ Below w.heap.size w w' := by
  have hb0 : ((b1 : Int) == 0) = false := by rw [beq_eq_false_iff_ne]; omega
  have hx2 : ¬ x < 56 := by omega
  have hx3 : ¬ (1099511627776 : Int) < x := by omega
  go_enter Try.func53, Try.ntmps53
  go_wp2_with fail
  rw [show (183 + (k : Int) - 128 - 55) = (k : Int) from by omega, show 183 + k - 128 - 55 = k from by omega]
  refine (Hread.out _ (by go_grown)).mono ?_
  rintro e w1 ⟨rfl, hb1⟩
  have HB1 := Lib.hid hb1
  have hz0 : w.heap.size < w1.heap.size := by have := hb1.size; simp at this; omega
  have hz1 : w.heap.size + 1 < w1.heap.size := by have := hb1.size; simp at this; omega
  have d1 : w1.cell? ⟨g, off + 1, none⟩ = some (.int .u8 (b1 : Int)) := (hb1.cell (p := ⟨g, off + 1, none⟩) (by simp only [size_alloc]; omega)).trans ((World.cell?_of_block (w := w) (a := ⟨g, off + 1, none⟩) ((Below.heap_alloc _ _ _ (by simp only [size_alloc]; omega)).trans (Below.heap_alloc _ _ _ hgw))).trans hcell1)
  have hgw1 : g < w1.heap.size := by omega
  have B0 : w1.heap[w.heap.size]? = some (.cells #[.int .i64 0, .int .i64 0, .int .i64 0] 51 (0, 0)) := (hb1.block _ (by simp only [size_alloc]; omega)).trans (show _ = _ from by rw [heap_alloc, if_neg (by rw [size_alloc]; omega), heap_alloc, if_pos rfl])
  have B1 : w1.heap[w.heap.size + 1]? = some (.cells #[.int .i64 0, .int .i64 1, .int .i64 0] 51 (0, 0)) := (hb1.block _ (by simp only [size_alloc]; omega)).trans (show _ = _ from by rw [heap_alloc, if_pos (by rw [size_alloc])])
  obtain ⟨c00, c01, c02, c0f⟩ := block_cells B0
  obtain ⟨c10, c11, c12, c1f⟩ := block_cells B1
  clear hb1 B0 B1
  go_wp2
  have hB : Below w.heap.size w w1 := (((Below.refl _ w).alloc (Nat.le_refl _) _).alloc (by rw [size_alloc]; omega) _).trans (HB1.out.mono (by simp only [size_alloc]; omega))
  refine bodyPost_ret (v := .tuple #[.agg #[.int .i64 0, .int .i64 0, .int .i64 0], .int .i64 41]) (by simp [results, Try.results53, go_sem, hz0, hz1, c00, c01, c02, c0f, c10, c11, c12, c1f]) rfl ?_
  exact ⟨by simp [hdV] <;> omega, by go_grown⟩
set_option maxRecDepth 100000 in
set_option maxHeartbeats 1000000 in
theorem rh_lok0 (g off c n k : Nat) (x : Int) (x1 x2 x3 : Nat) (w : World) (hgw : g < w.heap.size) (hn : n + 1 < 1099511627776) (hnc : n + 1 ≤ c) (hk : 1 ≤ k) (hk8 : k ≤ 8) (hcell : w.cell? ⟨g, off, none⟩ = some (.int .u8 (183 + (k : Int)))) (Hread : Hid (∀ w0 : World, Below w.heap.size w w0 → Calls Try.prog 61 #[.slice (some ⟨g, off + 1, none⟩) k (c - 1)] w0 fun e w' => e = .returned (.agg #[.int .u64 (x : Int), .int .u64 (x1 : Int), .int .u64 (x2 : Int), .int .u64 (x3 : Int)]) ∧ Below w0.heap.size w0 w')) (hle : k ≤ n) (b1 : Nat) (hcell1 : w.cell? ⟨g, off + 1, none⟩ = some (.int .u8 (b1 : Int))) (hb : b1 ≠ 0) (hx : 56 ≤ x) (hx4 : x ≤ 1099511627776) (hs : k + x ≤ (n : Int)) : Calls Try.prog 53 #[.slice (some ⟨g, off, none⟩) (n + 1) c] w fun e w' => e = .returned (hdV (.ok (0, 1 + k, 1 + k + x.toNat))) ∧ Below w.heap.size w w' := by
  have hb0 : ((b1 : Int) == 0) = false := by rw [beq_eq_false_iff_ne]; omega
  have hx2 : ¬ x < 56 := by omega
  have hx3 : ¬ (1099511627776 : Int) < x := by omega
  have hne1 : ((x : Int) == 1) = false := by rw [beq_eq_false_iff_ne]; omega
  go_enter Try.func53, Try.ntmps53
  go_wp2_with fail
  rw [show (183 + (k : Int) - 128 - 55) = (k : Int) from by omega, show 183 + k - 128 - 55 = k from by omega]
  refine (Hread.out _ (by go_grown)).mono ?_
  rintro e w1 ⟨rfl, hb1⟩
  have HB1 := Lib.hid hb1
  have hz0 : w.heap.size < w1.heap.size := by have := hb1.size; simp at this; omega
  have hz1 : w.heap.size + 1 < w1.heap.size := by have := hb1.size; simp at this; omega
  have d1 : w1.cell? ⟨g, off + 1, none⟩ = some (.int .u8 (b1 : Int)) := (hb1.cell (p := ⟨g, off + 1, none⟩) (by simp only [size_alloc]; omega)).trans ((World.cell?_of_block (w := w) (a := ⟨g, off + 1, none⟩) ((Below.heap_alloc _ _ _ (by simp only [size_alloc]; omega)).trans (Below.heap_alloc _ _ _ hgw))).trans hcell1)
  have hgw1 : g < w1.heap.size := by omega
  have B0 : w1.heap[w.heap.size]? = some (.cells #[.int .i64 0, .int .i64 0, .int .i64 0] 51 (0, 0)) := (hb1.block _ (by simp only [size_alloc]; omega)).trans (show _ = _ from by rw [heap_alloc, if_neg (by rw [size_alloc]; omega), heap_alloc, if_pos rfl])
  have B1 : w1.heap[w.heap.size + 1]? = some (.cells #[.int .i64 0, .int .i64 1, .int .i64 0] 51 (0, 0)) := (hb1.block _ (by simp only [size_alloc]; omega)).trans (show _ = _ from by rw [heap_alloc, if_pos (by rw [size_alloc])])
  obtain ⟨c00, c01, c02, c0f⟩ := block_cells B0
  obtain ⟨c10, c11, c12, c1f⟩ := block_cells B1
  clear hb1 B0 B1
  go_wp2
  have hB : Below w.heap.size w w1 := (((Below.refl _ w).alloc (Nat.le_refl _) _).alloc (by rw [size_alloc]; omega) _).trans (HB1.out.mono (by simp only [size_alloc]; omega))
  refine bodyPost_ret (v := .tuple #[.agg #[.int .i64 0, .int .i64 (1 + (k : Int)), .int .i64 (1 + (k : Int) + (x : Int))], .int .i64 0]) (by simp [results, Try.results53, go_sem, hz0, hz1, c00, c01, c02, c0f, c10, c11, c12, c1f]) rfl ?_
  exact ⟨by simp [hdV] <;> omega, by go_grown⟩
set_option maxRecDepth 100000 in
set_option maxHeartbeats 1000000 in
theorem rh_short1 (g off c n q : Nat) (w : World) (hgw : g < w.heap.size) (hn : n + 1 < 1099511627776) (hnc : n + 1 ≤ c) (hcell : w.cell? ⟨g, off, none⟩ = some (.int .u8 (192 + (q : Int)))) (h55 : q ≤ 55) (hsh : n < q) : Calls Try.prog 53 #[.slice (some ⟨g, off, none⟩) (n + 1) c] w fun e w' => e = .returned (hdV (.error 41)) ∧ Below w.heap.size w w' := by
  go_enter Try.func53, Try.ntmps53
  go_wp2
  go_returns
  exact ⟨rfl, by go_grown⟩
set_option maxRecDepth 100000 in
set_option maxHeartbeats 1000000 in
theorem rh_ok1 (g off c n q : Nat) (w : World) (hgw : g < w.heap.size) (hn : n + 1 < 1099511627776) (hnc : n + 1 ≤ c) (hcell : w.cell? ⟨g, off, none⟩ = some (.int .u8 (192 + (q : Int)))) (h55 : q ≤ 55) (hsh : q ≤ n) : Calls Try.prog 53 #[.slice (some ⟨g, off, none⟩) (n + 1) c] w fun e w' => e = .returned (hdV (.ok (1, 1, 1 + q))) ∧ Below w.heap.size w w' := by
  go_enter Try.func53, Try.ntmps53
  go_wp2
  go_returns
  exact ⟨by simp [hdV]; omega, by go_grown⟩
set_option maxRecDepth 100000 in
set_option maxHeartbeats 1000000 in
theorem rh_lshort1 (g off c n k : Nat)  (w : World) (hgw : g < w.heap.size) (hn : n + 1 < 1099511627776) (hnc : n + 1 ≤ c) (hk : 1 ≤ k) (hk8 : k ≤ 8) (hcell : w.cell? ⟨g, off, none⟩ = some (.int .u8 (247 + (k : Int)))) (hsh : n < k) : Calls Try.prog 53 #[.slice (some ⟨g, off, none⟩) (n + 1) c] w fun e w' => e = .returned (hdV (.error 41)) ∧ Below w.heap.size w w' := by
  go_enter Try.func53, Try.ntmps53
  go_wp2
  go_returns
  exact ⟨rfl, by go_grown⟩
set_option maxRecDepth 100000 in
set_option maxHeartbeats 1000000 in
theorem rh_lzero1 (g off c n k : Nat) (x : Int) (x1 x2 x3 : Nat) (w : World) (hgw : g < w.heap.size) (hn : n + 1 < 1099511627776) (hnc : n + 1 ≤ c) (hk : 1 ≤ k) (hk8 : k ≤ 8) (hcell : w.cell? ⟨g, off, none⟩ = some (.int .u8 (247 + (k : Int)))) (Hread : Hid (∀ w0 : World, Below w.heap.size w w0 → Calls Try.prog 61 #[.slice (some ⟨g, off + 1, none⟩) k (c - 1)] w0 fun e w' => e = .returned (.agg #[.int .u64 (x : Int), .int .u64 (x1 : Int), .int .u64 (x2 : Int), .int .u64 (x3 : Int)]) ∧ Below w0.heap.size w0 w')) (hle : k ≤ n) (b1 : Nat) (hcell1 : w.cell? ⟨g, off + 1, none⟩ = some (.int .u8 (b1 : Int))) (hb : b1 = 0) : Calls Try.prog 53 #[.slice (some ⟨g, off, none⟩) (n + 1) c] w fun e w' => e = .returned (hdV (.error 42)) ∧ Below w.heap.size w w' := by
  subst hb
  go_enter Try.func53, Try.ntmps53
  go_wp2_with fail
  rw [show (247 + (k : Int) - 64 - 128 - 55) = (k : Int) from by omega, show 247 + k - 64 - 128 - 55 = k from by omega]
  refine (Hread.out _ (by go_grown)).mono ?_
  rintro e w1 ⟨rfl, hb1⟩
  have HB1 := Lib.hid hb1
  have hz0 : w.heap.size < w1.heap.size := by have := hb1.size; simp at this; omega
  have hz1 : w.heap.size + 1 < w1.heap.size := by have := hb1.size; simp at this; omega
  have d1 : w1.cell? ⟨g, off + 1, none⟩ = some (.int .u8 0) := (hb1.cell (p := ⟨g, off + 1, none⟩) (by simp only [size_alloc]; omega)).trans ((World.cell?_of_block (w := w) (a := ⟨g, off + 1, none⟩) ((Below.heap_alloc _ _ _ (by simp only [size_alloc]; omega)).trans (Below.heap_alloc _ _ _ hgw))).trans hcell1)
  have hgw1 : g < w1.heap.size := by omega
  have B0 : w1.heap[w.heap.size]? = some (.cells #[.int .i64 0, .int .i64 0, .int .i64 0] 51 (0, 0)) := (hb1.block _ (by simp only [size_alloc]; omega)).trans (show _ = _ from by rw [heap_alloc, if_neg (by rw [size_alloc]; omega), heap_alloc, if_pos rfl])
  have B1 : w1.heap[w.heap.size + 1]? = some (.cells #[.int .i64 1, .int .i64 1, .int .i64 0] 51 (0, 0)) := (hb1.block _ (by simp only [size_alloc]; omega)).trans (show _ = _ from by rw [heap_alloc, if_pos (by rw [size_alloc])])
  obtain ⟨c00, c01, c02, c0f⟩ := block_cells B0
  obtain ⟨c10, c11, c12, c1f⟩ := block_cells B1
  clear hb1 B0 B1
  go_wp2
  have hB : Below w.heap.size w w1 := (((Below.refl _ w).alloc (Nat.le_refl _) _).alloc (by rw [size_alloc]; omega) _).trans (HB1.out.mono (by simp only [size_alloc]; omega))
  refine bodyPost_ret (v := .tuple #[.agg #[.int .i64 0, .int .i64 0, .int .i64 0], .int .i64 42]) (by simp [results, Try.results53, go_sem, hz0, hz1, c00, c01, c02, c0f, c10, c11, c12, c1f]) rfl ?_
  exact ⟨by simp [hdV] <;> omega, by go_grown⟩
set_option maxRecDepth 100000 in
set_option maxHeartbeats 1000000 in
theorem rh_lsmall1 (g off c n k : Nat) (x : Int) (x1 x2 x3 : Nat) (w : World) (hgw : g < w.heap.size) (hn : n + 1 < 1099511627776) (hnc : n + 1 ≤ c) (hk : 1 ≤ k) (hk8 : k ≤ 8) (hcell : w.cell? ⟨g, off, none⟩ = some (.int .u8 (247 + (k : Int)))) (Hread : Hid (∀ w0 : World, Below w.heap.size w w0 → Calls Try.prog 61 #[.slice (some ⟨g, off + 1, none⟩) k (c - 1)] w0 fun e w' => e = .returned (.agg #[.int .u64 (x : Int), .int .u64 (x1 : Int), .int .u64 (x2 : Int), .int .u64 (x3 : Int)]) ∧ Below w0.heap.size w0 w')) (hle : k ≤ n) (b1 : Nat) (hcell1 : w.cell? ⟨g, off + 1, none⟩ = some (.int .u8 (b1 : Int))) (hb : b1 ≠ 0) (hx : x < 56) (hx0 : 0 ≤ x) : Calls Try.prog 53 #[.slice (some ⟨g, off, none⟩) (n + 1) c] w fun e w' => e = .returned (hdV (.error 42)) ∧ Below w.heap.size w w' := by
  have hb0 : ((b1 : Int) == 0) = false := by rw [beq_eq_false_iff_ne]; omega
  go_enter Try.func53, Try.ntmps53
  go_wp2_with fail
  rw [show (247 + (k : Int) - 64 - 128 - 55) = (k : Int) from by omega, show 247 + k - 64 - 128 - 55 = k from by omega]
  refine (Hread.out _ (by go_grown)).mono ?_
  rintro e w1 ⟨rfl, hb1⟩
  have HB1 := Lib.hid hb1
  have hz0 : w.heap.size < w1.heap.size := by have := hb1.size; simp at this; omega
  have hz1 : w.heap.size + 1 < w1.heap.size := by have := hb1.size; simp at this; omega
  have d1 : w1.cell? ⟨g, off + 1, none⟩ = some (.int .u8 (b1 : Int)) := (hb1.cell (p := ⟨g, off + 1, none⟩) (by simp only [size_alloc]; omega)).trans ((World.cell?_of_block (w := w) (a := ⟨g, off + 1, none⟩) ((Below.heap_alloc _ _ _ (by simp only [size_alloc]; omega)).trans (Below.heap_alloc _ _ _ hgw))).trans hcell1)
  have hgw1 : g < w1.heap.size := by omega
  have B0 : w1.heap[w.heap.size]? = some (.cells #[.int .i64 0, .int .i64 0, .int .i64 0] 51 (0, 0)) := (hb1.block _ (by simp only [size_alloc]; omega)).trans (show _ = _ from by rw [heap_alloc, if_neg (by rw [size_alloc]; omega), heap_alloc, if_pos rfl])
  have B1 : w1.heap[w.heap.size + 1]? = some (.cells #[.int .i64 1, .int .i64 1, .int .i64 0] 51 (0, 0)) := (hb1.block _ (by simp only [size_alloc]; omega)).trans (show _ = _ from by rw [heap_alloc, if_pos (by rw [size_alloc])])
  obtain ⟨c00, c01, c02, c0f⟩ := block_cells B0
  obtain ⟨c10, c11, c12, c1f⟩ := block_cells B1
  clear hb1 B0 B1
  go_wp2
  have hB : Below w.heap.size w w1 := (((Below.refl _ w).alloc (Nat.le_refl _) _).alloc (by rw [size_alloc]; omega) _).trans (HB1.out.mono (by simp only [size_alloc]; omega))
  refine bodyPost_ret (v := .tuple #[.agg #[.int .i64 0, .int .i64 0, .int .i64 0], .int .i64 42]) (by simp [results, Try.results53, go_sem, hz0, hz1, c00, c01, c02, c0f, c10, c11, c12, c1f]) rfl ?_
  exact ⟨by simp [hdV] <;> omega, by go_grown⟩
set_option maxRecDepth 100000 in
set_option maxHeartbeats 1000000 in
theorem rh_lbig1 (g off c n k : Nat) (x : Int) (x1 x2 x3 : Nat) (w : World) (hgw : g < w.heap.size) (hn : n + 1 < 1099511627776) (hnc : n + 1 ≤ c) (hk : 1 ≤ k) (hk8 : k ≤ 8) (hcell : w.cell? ⟨g, off, none⟩ = some (.int .u8 (247 + (k : Int)))) (Hread : Hid (∀ w0 : World, Below w.heap.size w w0 → Calls Try.prog 61 #[.slice (some ⟨g, off + 1, none⟩) k (c - 1)] w0 fun e w' => e = .returned (.agg #[.int .u64 (x : Int), .int .u64 (x1 : Int), .int .u64 (x2 : Int), .int .u64 (x3 : Int)]) ∧ Below w0.heap.size w0 w')) (hle : k ≤ n) (b1 : Nat) (hcell1 : w.cell? ⟨g, off + 1, none⟩ = some (.int .u8 (b1 : Int))) (hb : b1 ≠ 0) (hx : 1099511627776 < x) : Calls Try.prog 53 #[.slice (some ⟨g, off, none⟩) (n + 1) c] w fun e w' => e = .returned (hdV (.error 42)) ∧ Below w.heap.size w w' := by
  have hb0 : ((b1 : Int) == 0) = false := by rw [beq_eq_false_iff_ne]; omega
  have hx2 : ¬ x < 56 := by omega
  go_enter Try.func53, Try.ntmps53
  go_wp2_with fail
  rw [show (247 + (k : Int) - 64 - 128 - 55) = (k : Int) from by omega, show 247 + k - 64 - 128 - 55 = k from by omega]
  refine (Hread.out _ (by go_grown)).mono ?_
  rintro e w1 ⟨rfl, hb1⟩
  have HB1 := Lib.hid hb1
  have hz0 : w.heap.size < w1.heap.size := by have := hb1.size; simp at this; omega
  have hz1 : w.heap.size + 1 < w1.heap.size := by have := hb1.size; simp at this; omega
  have d1 : w1.cell? ⟨g, off + 1, none⟩ = some (.int .u8 (b1 : Int)) := (hb1.cell (p := ⟨g, off + 1, none⟩) (by simp only [size_alloc]; omega)).trans ((World.cell?_of_block (w := w) (a := ⟨g, off + 1, none⟩) ((Below.heap_alloc _ _ _ (by simp only [size_alloc]; omega)).trans (Below.heap_alloc _ _ _ hgw))).trans hcell1)
  have hgw1 : g < w1.heap.size := by omega
  have B0 : w1.heap[w.heap.size]? = some (.cells #[.int .i64 0, .int .i64 0, .int .i64 0] 51 (0, 0)) := (hb1.block _ (by simp only [size_alloc]; omega)).trans (show _ = _ from by rw [heap_alloc, if_neg (by rw [size_alloc]; omega), heap_alloc, if_pos rfl])
  have B1 : w1.heap[w.heap.size + 1]? = some (.cells #[.int .i64 1, .int .i64 1, .int .i64 0] 51 (0, 0)) := (hb1.block _ (by simp only [size_alloc]; omega)).trans (show _ = _ from by rw [heap_alloc, if_pos (by rw [size_alloc])])
  obtain ⟨c00, c01, c02, c0f⟩ := block_cells B0
  obtain ⟨c10, c11, c12, c1f⟩ := block_cells B1
  clear hb1 B0 B1
  go_wp2
  have hB : Below w.heap.size w w1 := (((Below.refl _ w).alloc (Nat.le_refl _) _).alloc (by rw [size_alloc]; omega) _).trans (HB1.out.mono (by simp only [size_alloc]; omega))
  refine bodyPost_ret (v := .tuple #[.agg #[.int .i64 0, .int .i64 0, .int .i64 0], .int .i64 42]) (by simp [results, Try.results53, go_sem, hz0, hz1, c00, c01, c02, c0f, c10, c11, c12, c1f]) rfl ?_
  exact ⟨by simp [hdV] <;> omega, by go_grown⟩
set_option maxRecDepth 100000 in
set_option maxHeartbeats 1000000 in
theorem rh_lto1 (g off c n k : Nat) (x : Int) (x1 x2 x3 : Nat) (w : World) (hgw : g < w.heap.size) (hn : n + 1 < 1099511627776) (hnc : n + 1 ≤ c) (hk : 1 ≤ k) (hk8 : k ≤ 8) (hcell : w.cell? ⟨g, off, none⟩ = some (.int .u8 (247 + (k : Int)))) (Hread : Hid (∀ w0 : World, Below w.heap.size w w0 → Calls Try.prog 61 #[.slice (some ⟨g, off + 1, none⟩) k (c - 1)] w0 fun e w' => e = .returned (.agg #[.int .u64 (x : Int), .int .u64 (x1 : Int), .int .u64 (x2 : Int), .int .u64 (x3 : Int)]) ∧ Below w0.heap.size w0 w')) (hle : k ≤ n) (b1 : Nat) (hcell1 : w.cell? ⟨g, off + 1, none⟩ = some (.int .u8 (b1 : Int))) (hb : b1 ≠ 0) (hx : 56 ≤ x) (hx4 : x ≤ 1099511627776) (hs : (n : Int) < k + x) : Calls Try.prog 53 #[.slice (some ⟨g, off, none⟩) (n + 1) c] w fun e w' => e = .returned (hdV (.error 41)) ∧ Below w.heap.size w w' := by
  have hb0 : ((b1 : Int) == 0) = false := by rw [beq_eq_false_iff_ne]; omega
  have hx2 : ¬ x < 56 := by omega
  have hx3 : ¬ (1099511627776 : Int) < x := by omega
  go_enter Try.func53, Try.ntmps53
  go_wp2_with fail
  rw [show (247 + (k : Int) - 64 - 128 - 55) = (k : Int) from by omega, show 247 + k - 64 - 128 - 55 = k from by omega]
  refine (Hread.out _ (by go_grown)).mono ?_
  rintro e w1 ⟨rfl, hb1⟩
  have HB1 := Lib.hid hb1
  have hz0 : w.heap.size < w1.heap.size := by have := hb1.size; simp at this; omega
  have hz1 : w.heap.size + 1 < w1.heap.size := by have := hb1.size; simp at this; omega
  have d1 : w1.cell? ⟨g, off + 1, none⟩ = some (.int .u8 (b1 : Int)) := (hb1.cell (p := ⟨g, off + 1, none⟩) (by simp only [size_alloc]; omega)).trans ((World.cell?_of_block (w := w) (a := ⟨g, off + 1, none⟩) ((Below.heap_alloc _ _ _ (by simp only [size_alloc]; omega)).trans (Below.heap_alloc _ _ _ hgw))).trans hcell1)
  have hgw1 : g < w1.heap.size := by omega
  have B0 : w1.heap[w.heap.size]? = some (.cells #[.int .i64 0, .int .i64 0, .int .i64 0] 51 (0, 0)) := (hb1.block _ (by simp only [size_alloc]; omega)).trans (show _ = _ from by rw [heap_alloc, if_neg (by rw [size_alloc]; omega), heap_alloc, if_pos rfl])
  have B1 : w1.heap[w.heap.size + 1]? = some (.cells #[.int .i64 1, .int .i64 1, .int .i64 0] 51 (0, 0)) := (hb1.block _ (by simp only [size_alloc]; omega)).trans (show _ = _ from by rw [heap_alloc, if_pos (by rw [size_alloc])])
  obtain ⟨c00, c01, c02, c0f⟩ := block_cells B0
  obtain ⟨c10, c11, c12, c1f⟩ := block_cells B1
  clear hb1 B0 B1
  go_wp2
  have hB : Below w.heap.size w w1 := (((Below.refl _ w).alloc (Nat.le_refl _) _).alloc (by rw [size_alloc]; omega) _).trans (HB1.out.mono (by simp only [size_alloc]; omega))
  refine bodyPost_ret (v := .tuple #[.agg #[.int .i64 0, .int .i64 0, .int .i64 0], .int .i64 41]) (by simp [results, Try.results53, go_sem, hz0, hz1, c00, c01, c02, c0f, c10, c11, c12, c1f]) rfl ?_
  exact ⟨by simp [hdV] <;> omega, by go_grown⟩
set_option maxRecDepth 100000 in
set_option maxHeartbeats 1000000 in
theorem rh_lok1 (g off c n k : Nat) (x : Int) (x1 x2 x3 : Nat) (w : World) (hgw : g < w.heap.size) (hn : n + 1 < 1099511627776) (hnc : n + 1 ≤ c) (hk : 1 ≤ k) (hk8 : k ≤ 8) (hcell : w.cell? ⟨g, off, none⟩ = some (.int .u8 (247 + (k : Int)))) (Hread : Hid (∀ w0 : World, Below w.heap.size w w0 → Calls Try.prog 61 #[.slice (some ⟨g, off + 1, none⟩) k (c - 1)] w0 fun e w' => e = .returned (.agg #[.int .u64 (x : Int), .int .u64 (x1 : Int), .int .u64 (x2 : Int), .int .u64 (x3 : Int)]) ∧ Below w0.heap.size w0 w')) (hle : k ≤ n) (b1 : Nat) (hcell1 : w.cell? ⟨g, off + 1, none⟩ = some (.int .u8 (b1 : Int))) (hb : b1 ≠ 0) (hx : 56 ≤ x) (hx4 : x ≤ 1099511627776) (hs : k + x ≤ (n : Int)) : Calls Try.prog 53 #[.slice (some ⟨g, off, none⟩) (n + 1) c] w fun e w' => e = .returned (hdV (.ok (1, 1 + k, 1 + k + x.toNat))) ∧ Below w.heap.size w w' := by
  have hb0 : ((b1 : Int) == 0) = false := by rw [beq_eq_false_iff_ne]; omega
  have hx2 : ¬ x < 56 := by omega
  have hx3 : ¬ (1099511627776 : Int) < x := by omega
  have hne1 : ((x : Int) == 1) = false := by rw [beq_eq_false_iff_ne]; omega
  go_enter Try.func53, Try.ntmps53
  go_wp2_with fail
  rw [show (247 + (k : Int) - 64 - 128 - 55) = (k : Int) from by omega, show 247 + k - 64 - 128 - 55 = k from by omega]
  refine (Hread.out _ (by go_grown)).mono ?_
  rintro e w1 ⟨rfl, hb1⟩
  have HB1 := Lib.hid hb1
  have hz0 : w.heap.size < w1.heap.size := by have := hb1.size; simp at this; omega
  have hz1 : w.heap.size + 1 < w1.heap.size := by have := hb1.size; simp at this; omega
  have d1 : w1.cell? ⟨g, off + 1, none⟩ = some (.int .u8 (b1 : Int)) := (hb1.cell (p := ⟨g, off + 1, none⟩) (by simp only [size_alloc]; omega)).trans ((World.cell?_of_block (w := w) (a := ⟨g, off + 1, none⟩) ((Below.heap_alloc _ _ _ (by simp only [size_alloc]; omega)).trans (Below.heap_alloc _ _ _ hgw))).trans hcell1)
  have hgw1 : g < w1.heap.size := by omega
  have B0 : w1.heap[w.heap.size]? = some (.cells #[.int .i64 0, .int .i64 0, .int .i64 0] 51 (0, 0)) := (hb1.block _ (by simp only [size_alloc]; omega)).trans (show _ = _ from by rw [heap_alloc, if_neg (by rw [size_alloc]; omega), heap_alloc, if_pos rfl])
  have B1 : w1.heap[w.heap.size + 1]? = some (.cells #[.int .i64 1, .int .i64 1, .int .i64 0] 51 (0, 0)) := (hb1.block _ (by simp only [size_alloc]; omega)).trans (show _ = _ from by rw [heap_alloc, if_pos (by rw [size_alloc])])
  obtain ⟨c00, c01, c02, c0f⟩ := block_cells B0
  obtain ⟨c10, c11, c12, c1f⟩ := block_cells B1
  clear hb1 B0 B1
  go_wp2
  have hB : Below w.heap.size w w1 := (((Below.refl _ w).alloc (Nat.le_refl _) _).alloc (by rw [size_alloc]; omega) _).trans (HB1.out.mono (by simp only [size_alloc]; omega))
  refine bodyPost_ret (v := .tuple #[.agg #[.int .i64 1, .int .i64 (1 + (k : Int)), .int .i64 (1 + (k : Int) + (x : Int))], .int .i64 0]) (by simp [results, Try.results53, go_sem, hz0, hz1, c00, c01, c02, c0f, c10, c11, c12, c1f]) rfl ?_
  exact ⟨by simp [hdV] <;> omega, by go_grown⟩
end Go.Proofs.Ytkdpphcalekbdaa.K1
