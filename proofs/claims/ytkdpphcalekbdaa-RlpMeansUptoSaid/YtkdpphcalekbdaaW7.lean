/- rlp.Head: the first piece of bytes. -/
import Derived.Test.YtkdpphcalekbdaaW6
set_option linter.unusedVariables false
set_option linter.unusedSimpArgs false
namespace Go.Proofs.Ytkdpphcalekbdaa.W1
open Go.ChangeShapes Go.WideShapes Go.ChangeAt Go.RowKit
open M
def hdV : Except Nat (Nat × Nat × Nat) → Value
  | .ok (l, f, t) => .tuple #[.agg #[.int .i64 (l : Nat), .int .i64 (f : Nat), .int .i64 (t : Nat)], .int .i64 0]
  | .error e => .tuple #[.agg #[.int .i64 0, .int .i64 0, .int .i64 0], .int .i64 (e : Nat)]
theorem longP_le (bs : List UInt8) (k : Nat) : (longP bs k).1 ≤ 1099511627776 ∧ ((longP bs k).2 = 0 → 55 < (longP bs k).1) := by
  unfold longP
  (repeat' split) <;> simp <;> omega
theorem info5s : (Try.prog.info? 5).map (·.size) = some 1 := by kernel_rfl
set_option maxRecDepth 100000 in
set_option maxHeartbeats 1000000 in
theorem head_short0 (g off c n q : Nat) (w : World) (hgw : g < w.heap.size) (hn : n + 1 < 1099511627776) (hnc : n + 1 ≤ c) (hcell : w.cell? ⟨g, off, none⟩ = some (.int .u8 (128 + (q : Int)))) (h55 : q ≤ 55) (hsh : n < q) : Calls Try.prog 23 #[.slice (some ⟨g, off, none⟩) (n + 1) c] w fun e w' => e = .returned (hdV (.error 41)) ∧ Below w.heap.size w w' := by
  go_enter Try.func23, Try.ntmps23
  go_wp2
  go_returns
  exact ⟨rfl, by go_grown⟩
set_option maxRecDepth 100000 in
set_option maxHeartbeats 1000000 in
theorem head_one0 (g off c n b1 : Nat) (w : World) (hgw : g < w.heap.size) (hn : n + 1 < 1099511627776) (hnc : n + 1 ≤ c) (hcell : w.cell? ⟨g, off, none⟩ = some (.int .u8 (128 + 1))) (hn1 : 1 ≤ n) (hcell1 : w.cell? ⟨g, off + 1, none⟩ = some (.int .u8 (b1 : Int))) (hb : b1 < 128) : Calls Try.prog 23 #[.slice (some ⟨g, off, none⟩) (n + 1) c] w fun e w' => e = .returned (hdV (.error 42)) ∧ Below w.heap.size w w' := by
  go_enter Try.func23, Try.ntmps23
  go_wp2
  go_returns
  exact ⟨rfl, by go_grown⟩
set_option maxRecDepth 100000 in
set_option maxHeartbeats 1000000 in
theorem head_oneOk0 (g off c n b1 : Nat) (w : World) (hgw : g < w.heap.size) (hn : n + 1 < 1099511627776) (hnc : n + 1 ≤ c) (hcell : w.cell? ⟨g, off, none⟩ = some (.int .u8 (128 + 1))) (hn1 : 1 ≤ n) (hcell1 : w.cell? ⟨g, off + 1, none⟩ = some (.int .u8 (b1 : Int))) (hb : 128 ≤ b1) : Calls Try.prog 23 #[.slice (some ⟨g, off, none⟩) (n + 1) c] w fun e w' => e = .returned (hdV (.ok (0, 1, 1 + 1))) ∧ Below w.heap.size w w' := by
  have hb' : ¬ (b1 : Int) < 128 := by omega
  go_enter Try.func23, Try.ntmps23
  go_wp2
  go_returns
  exact ⟨rfl, by go_grown⟩
set_option maxRecDepth 100000 in
set_option maxHeartbeats 1000000 in
theorem head_ok0 (g off c n q : Nat) (w : World) (hgw : g < w.heap.size) (hn : n + 1 < 1099511627776) (hnc : n + 1 ≤ c) (hcell : w.cell? ⟨g, off, none⟩ = some (.int .u8 (128 + (q : Int)))) (h55 : q ≤ 55) (hsh : q ≤ n) (h1 : q ≠ 1) : Calls Try.prog 23 #[.slice (some ⟨g, off, none⟩) (n + 1) c] w fun e w' => e = .returned (hdV (.ok (0, 1, 1 + q))) ∧ Below w.heap.size w w' := by
  have hne1 : ((q : Int) == 1) = false := by rw [beq_eq_false_iff_ne]; omega
  go_enter Try.func23, Try.ntmps23
  go_wp2
  go_returns
  exact ⟨by simp [hdV]; omega, by go_grown⟩
set_option maxRecDepth 100000 in
set_option maxHeartbeats 1000000 in
theorem head_lerr0 (g off c n k x er : Nat) (A1 : Option Addr) (w : World) (hgw : g < w.heap.size) (hn : n + 1 < 1099511627776) (hnc : n + 1 ≤ c) (hk : 1 ≤ k) (hk8 : k ≤ 8) (hcell : w.cell? ⟨g, off, none⟩ = some (.int .u8 (183 + (k : Int))))
    (hcut : ∀ W : World, (Instr.slice 23 (.slice (some ⟨g, off, none⟩) (n + 1) c) (some (.int .i64 1)) none none).run Try.prog W = .ok (.slice A1 n (c - 1)) W)
    (Hlong : Hid (∀ w0 : World, Below w.heap.size w w0 → Calls Try.prog 54 #[.slice A1 n (c - 1), .int .i64 (k : Int)] w0 fun e w' => e = .returned (.tuple #[.int .i64 (x : Int), .int .i64 (er : Int)]) ∧ Below w0.heap.size w0 w')) (hx : x ≤ 1099511627776) (her : er ≠ 0) : Calls Try.prog 23 #[.slice (some ⟨g, off, none⟩) (n + 1) c] w fun e w' => e = .returned (hdV (.error er)) ∧ Below w.heap.size w w' := by
  have hne' : ((er : Int) != 0) = true := by rw [bne_iff_ne]; omega
  go_enter Try.func23, Try.ntmps23
  go_wp2_with fail
  rw [show (183 + (k : Int) - 128 - 55) = (k : Int) from by omega]
  refine (Hlong.out _ (by go_grown)).mono ?_
  rintro e w1 ⟨rfl, hb1⟩
  obtain ⟨hc1, hf1⟩ := bcell hb1
  have hB := (((Below.refl w.heap.size w).alloc (Nat.le_refl _) _).alloc (by simp) _).trans (hb1.mono (by simp; omega))
  have hz1 : w.heap.size + 1 < w1.heap.size := by have := hb1.size; simp at this; omega
  have c00 : w1.cell? ⟨w.heap.size, 0, none⟩ = some (.int .i64 0) := by simp [go_sem, hc1]
  have c01 : w1.cell? ⟨w.heap.size, 1, none⟩ = some (.int .i64 0) := by simp [go_sem, hc1]
  have c02 : w1.cell? ⟨w.heap.size, 2, none⟩ = some (.int .i64 0) := by simp [go_sem, hc1]
  have c10 : w1.cell? ⟨w.heap.size + 1, 0, none⟩ = some (.int .i64 0) := by simp [go_sem, hc1]
  have c11 : w1.cell? ⟨w.heap.size + 1, 1, none⟩ = some (.int .i64 1) := by simp [go_sem, hc1]
  have c12 : w1.cell? ⟨w.heap.size + 1, 2, none⟩ = some (.int .i64 0) := by simp [go_sem, hc1]
  go_wp2
  refine bodyPost_ret (v := .tuple #[.agg #[.int .i64 0, .int .i64 0, .int .i64 0], .int .i64 (er : Int)]) (by simp [results, Try.results23, go_sem, hc1, hf1, hz1, c00, c01, c02, c10, c11, c12]) rfl ?_
  exact ⟨rfl, by go_grown⟩
set_option maxRecDepth 100000 in
set_option maxHeartbeats 1000000 in
theorem head_lshort0 (g off c n k x er : Nat) (A1 : Option Addr) (w : World) (hgw : g < w.heap.size) (hn : n + 1 < 1099511627776) (hnc : n + 1 ≤ c) (hk : 1 ≤ k) (hk8 : k ≤ 8) (hcell : w.cell? ⟨g, off, none⟩ = some (.int .u8 (183 + (k : Int))))
    (hcut : ∀ W : World, (Instr.slice 23 (.slice (some ⟨g, off, none⟩) (n + 1) c) (some (.int .i64 1)) none none).run Try.prog W = .ok (.slice A1 n (c - 1)) W)
    (Hlong : Hid (∀ w0 : World, Below w.heap.size w w0 → Calls Try.prog 54 #[.slice A1 n (c - 1), .int .i64 (k : Int)] w0 fun e w' => e = .returned (.tuple #[.int .i64 (x : Int), .int .i64 (er : Int)]) ∧ Below w0.heap.size w0 w')) (hx : x ≤ 1099511627776) (her : er = 0) (hsh : n < k + x) : Calls Try.prog 23 #[.slice (some ⟨g, off, none⟩) (n + 1) c] w fun e w' => e = .returned (hdV (.error 41)) ∧ Below w.heap.size w w' := by
  subst her
  go_enter Try.func23, Try.ntmps23
  go_wp2_with fail
  rw [show (183 + (k : Int) - 128 - 55) = (k : Int) from by omega]
  refine (Hlong.out _ (by go_grown)).mono ?_
  rintro e w1 ⟨rfl, hb1⟩
  obtain ⟨hc1, hf1⟩ := bcell hb1
  have hB := (((Below.refl w.heap.size w).alloc (Nat.le_refl _) _).alloc (by simp) _).trans (hb1.mono (by simp; omega))
  have hz1 : w.heap.size + 1 < w1.heap.size := by have := hb1.size; simp at this; omega
  have c00 : w1.cell? ⟨w.heap.size, 0, none⟩ = some (.int .i64 0) := by simp [go_sem, hc1]
  have c01 : w1.cell? ⟨w.heap.size, 1, none⟩ = some (.int .i64 0) := by simp [go_sem, hc1]
  have c02 : w1.cell? ⟨w.heap.size, 2, none⟩ = some (.int .i64 0) := by simp [go_sem, hc1]
  have c10 : w1.cell? ⟨w.heap.size + 1, 0, none⟩ = some (.int .i64 0) := by simp [go_sem, hc1]
  have c11 : w1.cell? ⟨w.heap.size + 1, 1, none⟩ = some (.int .i64 1) := by simp [go_sem, hc1]
  have c12 : w1.cell? ⟨w.heap.size + 1, 2, none⟩ = some (.int .i64 0) := by simp [go_sem, hc1]
  go_wp2
  refine bodyPost_ret (v := .tuple #[.agg #[.int .i64 0, .int .i64 0, .int .i64 0], .int .i64 41]) (by simp [results, Try.results23, go_sem, hc1, hf1, hz1, c00, c01, c02, c10, c11, c12]) rfl ?_
  exact ⟨rfl, by go_grown⟩
set_option maxRecDepth 100000 in
set_option maxHeartbeats 1000000 in
theorem head_lok0 (g off c n k x er : Nat) (A1 : Option Addr) (w : World) (hgw : g < w.heap.size) (hn : n + 1 < 1099511627776) (hnc : n + 1 ≤ c) (hk : 1 ≤ k) (hk8 : k ≤ 8) (hcell : w.cell? ⟨g, off, none⟩ = some (.int .u8 (183 + (k : Int))))
    (hcut : ∀ W : World, (Instr.slice 23 (.slice (some ⟨g, off, none⟩) (n + 1) c) (some (.int .i64 1)) none none).run Try.prog W = .ok (.slice A1 n (c - 1)) W)
    (Hlong : Hid (∀ w0 : World, Below w.heap.size w w0 → Calls Try.prog 54 #[.slice A1 n (c - 1), .int .i64 (k : Int)] w0 fun e w' => e = .returned (.tuple #[.int .i64 (x : Int), .int .i64 (er : Int)]) ∧ Below w0.heap.size w0 w')) (hx : x ≤ 1099511627776) (her : er = 0) (hsh : k + x ≤ n) (hx1 : 55 < x) : Calls Try.prog 23 #[.slice (some ⟨g, off, none⟩) (n + 1) c] w fun e w' => e = .returned (hdV (.ok (0, 1 + k, 1 + k + x))) ∧ Below w.heap.size w w' := by
  subst her
  have hne1 : ((x : Int) == 1) = false := by rw [beq_eq_false_iff_ne]; omega
  go_enter Try.func23, Try.ntmps23
  go_wp2_with fail
  rw [show (183 + (k : Int) - 128 - 55) = (k : Int) from by omega]
  refine (Hlong.out _ (by go_grown)).mono ?_
  rintro e w1 ⟨rfl, hb1⟩
  obtain ⟨hc1, hf1⟩ := bcell hb1
  have hB := (((Below.refl w.heap.size w).alloc (Nat.le_refl _) _).alloc (by simp) _).trans (hb1.mono (by simp; omega))
  have hz1 : w.heap.size + 1 < w1.heap.size := by have := hb1.size; simp at this; omega
  have c00 : w1.cell? ⟨w.heap.size, 0, none⟩ = some (.int .i64 0) := by simp [go_sem, hc1]
  have c01 : w1.cell? ⟨w.heap.size, 1, none⟩ = some (.int .i64 0) := by simp [go_sem, hc1]
  have c02 : w1.cell? ⟨w.heap.size, 2, none⟩ = some (.int .i64 0) := by simp [go_sem, hc1]
  have c10 : w1.cell? ⟨w.heap.size + 1, 0, none⟩ = some (.int .i64 0) := by simp [go_sem, hc1]
  have c11 : w1.cell? ⟨w.heap.size + 1, 1, none⟩ = some (.int .i64 1) := by simp [go_sem, hc1]
  have c12 : w1.cell? ⟨w.heap.size + 1, 2, none⟩ = some (.int .i64 0) := by simp [go_sem, hc1]
  go_wp2
  refine bodyPost_ret (v := .tuple #[.agg #[.int .i64 0, .int .i64 (1 + (k : Int)), .int .i64 (1 + (k : Int) + x)], .int .i64 0]) (by simp [results, Try.results23, go_sem, hc1, hf1, hz1, c00, c01, c02, c10, c11, c12]) rfl ?_
  exact ⟨by simp [hdV], by go_grown⟩
set_option maxRecDepth 100000 in
set_option maxHeartbeats 1000000 in
theorem head_short1 (g off c n q : Nat) (w : World) (hgw : g < w.heap.size) (hn : n + 1 < 1099511627776) (hnc : n + 1 ≤ c) (hcell : w.cell? ⟨g, off, none⟩ = some (.int .u8 (192 + (q : Int)))) (h55 : q ≤ 55) (hsh : n < q) : Calls Try.prog 23 #[.slice (some ⟨g, off, none⟩) (n + 1) c] w fun e w' => e = .returned (hdV (.error 41)) ∧ Below w.heap.size w w' := by
  go_enter Try.func23, Try.ntmps23
  go_wp2
  go_returns
  exact ⟨rfl, by go_grown⟩
set_option maxRecDepth 100000 in
set_option maxHeartbeats 1000000 in
theorem head_ok1 (g off c n q : Nat) (w : World) (hgw : g < w.heap.size) (hn : n + 1 < 1099511627776) (hnc : n + 1 ≤ c) (hcell : w.cell? ⟨g, off, none⟩ = some (.int .u8 (192 + (q : Int)))) (h55 : q ≤ 55) (hsh : q ≤ n) : Calls Try.prog 23 #[.slice (some ⟨g, off, none⟩) (n + 1) c] w fun e w' => e = .returned (hdV (.ok (1, 1, 1 + q))) ∧ Below w.heap.size w w' := by
  have hgap : True := trivial
  go_enter Try.func23, Try.ntmps23
  go_wp2
  go_returns
  exact ⟨by simp [hdV]; omega, by go_grown⟩
set_option maxRecDepth 100000 in
set_option maxHeartbeats 1000000 in
theorem head_lerr1 (g off c n k x er : Nat) (A1 : Option Addr) (w : World) (hgw : g < w.heap.size) (hn : n + 1 < 1099511627776) (hnc : n + 1 ≤ c) (hk : 1 ≤ k) (hk8 : k ≤ 8) (hcell : w.cell? ⟨g, off, none⟩ = some (.int .u8 (247 + (k : Int))))
    (hcut : ∀ W : World, (Instr.slice 23 (.slice (some ⟨g, off, none⟩) (n + 1) c) (some (.int .i64 1)) none none).run Try.prog W = .ok (.slice A1 n (c - 1)) W)
    (Hlong : Hid (∀ w0 : World, Below w.heap.size w w0 → Calls Try.prog 54 #[.slice A1 n (c - 1), .int .i64 (k : Int)] w0 fun e w' => e = .returned (.tuple #[.int .i64 (x : Int), .int .i64 (er : Int)]) ∧ Below w0.heap.size w0 w')) (hx : x ≤ 1099511627776) (her : er ≠ 0) : Calls Try.prog 23 #[.slice (some ⟨g, off, none⟩) (n + 1) c] w fun e w' => e = .returned (hdV (.error er)) ∧ Below w.heap.size w w' := by
  have hne' : ((er : Int) != 0) = true := by rw [bne_iff_ne]; omega
  go_enter Try.func23, Try.ntmps23
  go_wp2_with fail
  rw [show (247 + (k : Int) - 192 - 55) = (k : Int) from by omega]
  refine (Hlong.out _ (by go_grown)).mono ?_
  rintro e w1 ⟨rfl, hb1⟩
  obtain ⟨hc1, hf1⟩ := bcell hb1
  have hB := (((Below.refl w.heap.size w).alloc (Nat.le_refl _) _).alloc (by simp) _).trans (hb1.mono (by simp; omega))
  have hz1 : w.heap.size + 1 < w1.heap.size := by have := hb1.size; simp at this; omega
  have c00 : w1.cell? ⟨w.heap.size, 0, none⟩ = some (.int .i64 0) := by simp [go_sem, hc1]
  have c01 : w1.cell? ⟨w.heap.size, 1, none⟩ = some (.int .i64 0) := by simp [go_sem, hc1]
  have c02 : w1.cell? ⟨w.heap.size, 2, none⟩ = some (.int .i64 0) := by simp [go_sem, hc1]
  have c10 : w1.cell? ⟨w.heap.size + 1, 0, none⟩ = some (.int .i64 1) := by simp [go_sem, hc1]
  have c11 : w1.cell? ⟨w.heap.size + 1, 1, none⟩ = some (.int .i64 1) := by simp [go_sem, hc1]
  have c12 : w1.cell? ⟨w.heap.size + 1, 2, none⟩ = some (.int .i64 0) := by simp [go_sem, hc1]
  go_wp2
  refine bodyPost_ret (v := .tuple #[.agg #[.int .i64 0, .int .i64 0, .int .i64 0], .int .i64 (er : Int)]) (by simp [results, Try.results23, go_sem, hc1, hf1, hz1, c00, c01, c02, c10, c11, c12]) rfl ?_
  exact ⟨rfl, by go_grown⟩
set_option maxRecDepth 100000 in
set_option maxHeartbeats 1000000 in
theorem head_lshort1 (g off c n k x er : Nat) (A1 : Option Addr) (w : World) (hgw : g < w.heap.size) (hn : n + 1 < 1099511627776) (hnc : n + 1 ≤ c) (hk : 1 ≤ k) (hk8 : k ≤ 8) (hcell : w.cell? ⟨g, off, none⟩ = some (.int .u8 (247 + (k : Int))))
    (hcut : ∀ W : World, (Instr.slice 23 (.slice (some ⟨g, off, none⟩) (n + 1) c) (some (.int .i64 1)) none none).run Try.prog W = .ok (.slice A1 n (c - 1)) W)
    (Hlong : Hid (∀ w0 : World, Below w.heap.size w w0 → Calls Try.prog 54 #[.slice A1 n (c - 1), .int .i64 (k : Int)] w0 fun e w' => e = .returned (.tuple #[.int .i64 (x : Int), .int .i64 (er : Int)]) ∧ Below w0.heap.size w0 w')) (hx : x ≤ 1099511627776) (her : er = 0) (hsh : n < k + x) : Calls Try.prog 23 #[.slice (some ⟨g, off, none⟩) (n + 1) c] w fun e w' => e = .returned (hdV (.error 41)) ∧ Below w.heap.size w w' := by
  subst her
  go_enter Try.func23, Try.ntmps23
  go_wp2_with fail
  rw [show (247 + (k : Int) - 192 - 55) = (k : Int) from by omega]
  refine (Hlong.out _ (by go_grown)).mono ?_
  rintro e w1 ⟨rfl, hb1⟩
  obtain ⟨hc1, hf1⟩ := bcell hb1
  have hB := (((Below.refl w.heap.size w).alloc (Nat.le_refl _) _).alloc (by simp) _).trans (hb1.mono (by simp; omega))
  have hz1 : w.heap.size + 1 < w1.heap.size := by have := hb1.size; simp at this; omega
  have c00 : w1.cell? ⟨w.heap.size, 0, none⟩ = some (.int .i64 0) := by simp [go_sem, hc1]
  have c01 : w1.cell? ⟨w.heap.size, 1, none⟩ = some (.int .i64 0) := by simp [go_sem, hc1]
  have c02 : w1.cell? ⟨w.heap.size, 2, none⟩ = some (.int .i64 0) := by simp [go_sem, hc1]
  have c10 : w1.cell? ⟨w.heap.size + 1, 0, none⟩ = some (.int .i64 1) := by simp [go_sem, hc1]
  have c11 : w1.cell? ⟨w.heap.size + 1, 1, none⟩ = some (.int .i64 1) := by simp [go_sem, hc1]
  have c12 : w1.cell? ⟨w.heap.size + 1, 2, none⟩ = some (.int .i64 0) := by simp [go_sem, hc1]
  go_wp2
  refine bodyPost_ret (v := .tuple #[.agg #[.int .i64 0, .int .i64 0, .int .i64 0], .int .i64 41]) (by simp [results, Try.results23, go_sem, hc1, hf1, hz1, c00, c01, c02, c10, c11, c12]) rfl ?_
  exact ⟨rfl, by go_grown⟩
set_option maxRecDepth 100000 in
set_option maxHeartbeats 1000000 in
theorem head_lok1 (g off c n k x er : Nat) (A1 : Option Addr) (w : World) (hgw : g < w.heap.size) (hn : n + 1 < 1099511627776) (hnc : n + 1 ≤ c) (hk : 1 ≤ k) (hk8 : k ≤ 8) (hcell : w.cell? ⟨g, off, none⟩ = some (.int .u8 (247 + (k : Int))))
    (hcut : ∀ W : World, (Instr.slice 23 (.slice (some ⟨g, off, none⟩) (n + 1) c) (some (.int .i64 1)) none none).run Try.prog W = .ok (.slice A1 n (c - 1)) W)
    (Hlong : Hid (∀ w0 : World, Below w.heap.size w w0 → Calls Try.prog 54 #[.slice A1 n (c - 1), .int .i64 (k : Int)] w0 fun e w' => e = .returned (.tuple #[.int .i64 (x : Int), .int .i64 (er : Int)]) ∧ Below w0.heap.size w0 w')) (hx : x ≤ 1099511627776) (her : er = 0) (hsh : k + x ≤ n) (hx1 : 55 < x) : Calls Try.prog 23 #[.slice (some ⟨g, off, none⟩) (n + 1) c] w fun e w' => e = .returned (hdV (.ok (1, 1 + k, 1 + k + x))) ∧ Below w.heap.size w w' := by
  subst her
  have hne1 : ((x : Int) == 1) = false := by rw [beq_eq_false_iff_ne]; omega
  go_enter Try.func23, Try.ntmps23
  go_wp2_with fail
  rw [show (247 + (k : Int) - 192 - 55) = (k : Int) from by omega]
  refine (Hlong.out _ (by go_grown)).mono ?_
  rintro e w1 ⟨rfl, hb1⟩
  obtain ⟨hc1, hf1⟩ := bcell hb1
  have hB := (((Below.refl w.heap.size w).alloc (Nat.le_refl _) _).alloc (by simp) _).trans (hb1.mono (by simp; omega))
  have hz1 : w.heap.size + 1 < w1.heap.size := by have := hb1.size; simp at this; omega
  have c00 : w1.cell? ⟨w.heap.size, 0, none⟩ = some (.int .i64 0) := by simp [go_sem, hc1]
  have c01 : w1.cell? ⟨w.heap.size, 1, none⟩ = some (.int .i64 0) := by simp [go_sem, hc1]
  have c02 : w1.cell? ⟨w.heap.size, 2, none⟩ = some (.int .i64 0) := by simp [go_sem, hc1]
  have c10 : w1.cell? ⟨w.heap.size + 1, 0, none⟩ = some (.int .i64 1) := by simp [go_sem, hc1]
  have c11 : w1.cell? ⟨w.heap.size + 1, 1, none⟩ = some (.int .i64 1) := by simp [go_sem, hc1]
  have c12 : w1.cell? ⟨w.heap.size + 1, 2, none⟩ = some (.int .i64 0) := by simp [go_sem, hc1]
  go_wp2
  refine bodyPost_ret (v := .tuple #[.agg #[.int .i64 1, .int .i64 (1 + (k : Int)), .int .i64 (1 + (k : Int) + x)], .int .i64 0]) (by simp [results, Try.results23, go_sem, hc1, hf1, hz1, c00, c01, c02, c10, c11, c12]) rfl ?_
  exact ⟨by simp [hdV], by go_grown⟩
theorem head_part0 (lo hi g off c : Nat) (A1 : Option Addr) (b : UInt8) (r : List UInt8) (w : World) (hhi : hi ≤ w.heap.size) (hgw : g < w.heap.size) (hn : r.length + 1 < 1099511627776) (hnc : r.length + 1 ≤ c) (q : Nat) (hq : b.toNat = 128 + q) (hq64 : q < 64)
    (hcell' : ∀ j (hj : j < (b :: r).length), w.cell? ⟨g, off + j, none⟩ = some (.int .u8 (((b :: r)[j]'hj).toNat : Int)))
    (hcut : ∀ W : World, (Instr.slice 23 (.slice (some ⟨g, off, none⟩) (r.length + 1) c) (some (.int .i64 1)) none none).run Try.prog W = .ok (.slice A1 r.length (c - 1)) W)
    (hBr : Bs w lo hi (.slice A1 r.length (c - 1)) r) : Calls Try.prog 23 #[.slice (some ⟨g, off, none⟩) (r.length + 1) c] w fun e w' => e = .returned (hdV (hd (b :: r))) ∧ Below w.heap.size w w' := by
  have hcell : w.cell? ⟨g, off, none⟩ = some (.int .u8 (128 + (q : Int))) := by
    have := hcell' 0 (by simp)
    simp only [Nat.add_zero, List.getElem_cons_zero] at this
    rw [this, hq]; simp
  have hbody : hd (b :: r) = hdBody r 0 q := by rw [hd_cons, if_neg (by omega), if_pos (by omega), show b.toNat - 128 = q from by omega]
  by_cases h55 : q ≤ 55
  · by_cases hsh : r.length < q
    · rw [hbody, show hdBody r 0 q = .error 41 from by unfold hdBody; rw [if_pos h55, if_pos hsh]]
      exact head_short0 g off c _ q w hgw hn hnc hcell h55 hsh
    · have _hgap := hsh
      by_cases h1 : q = 1
      · subst h1
        obtain ⟨b1, r1, rfl⟩ : ∃ b1 r1, r = b1 :: r1 := by
          cases r with
          | nil => simp at hsh
          | cons b1 r1 => exact ⟨b1, r1, rfl⟩
        have hcell1 := hcell' 1 (by simp)
        have hcell1 : w.cell? ⟨g, off + 1, none⟩ = some (.int .u8 (b1.toNat : Int)) := by simpa using hcell1
        by_cases hb : b1.toNat < 128
        · rw [hbody, show hdBody (b1 :: r1) 0 1 = .error 42 from by unfold hdBody; rw [if_pos h55, if_neg (by omega), if_pos ⟨rfl, rfl, hb⟩]]
          exact head_one0 g off c _ b1.toNat w hgw hn hnc hcell (by omega) hcell1 hb
        · rw [hbody, show hdBody (b1 :: r1) 0 1 = .ok (0, 1, 1 + 1) from by unfold hdBody; rw [if_pos h55, if_neg (by omega), if_neg (fun h => hb h.2.2)]]
          exact head_oneOk0 g off c _ b1.toNat w hgw hn hnc hcell (by omega) hcell1 (by omega)
      · rw [hbody, show hdBody r 0 q = .ok (0, 1, 1 + q) from by unfold hdBody; rw [if_pos h55, if_neg hsh, if_neg (fun h => h1 h.2.1)]]
        exact head_ok0 g off c _ q w hgw hn hnc hcell h55 (by omega) h1
  · obtain ⟨k, rfl⟩ : ∃ k, q = 55 + k := ⟨q - 55, by omega⟩
    have hcellk : w.cell? ⟨g, off, none⟩ = some (.int .u8 (183 + (k : Int))) := by rw [hcell]; congr 2; omega
    have Hlong : Hid (∀ w0 : World, Below w.heap.size w w0 → Calls Try.prog 54 #[.slice A1 r.length (c - 1), .int .i64 (k : Int)] w0 fun e w' => e = .returned (.tuple #[.int .i64 ((longP r k).1 : Int), .int .i64 ((longP r k).2 : Int)]) ∧ Below w0.heap.size w0 w') :=
      fun w0 hw0 => long_any lo hi _ r w0 (hBr.keep (Same.of_below hw0 hhi)) (Nat.le_trans hhi hw0.size) k (by omega) (by omega)
    obtain ⟨hx, hx1⟩ := longP_le r k
    have hbody2 : hdBody r 0 (55 + k) = if (longP r k).2 ≠ 0 then .error (longP r k).2 else if r.length < k + (longP r k).1 then .error 41 else .ok (0, 1 + k, 1 + k + (longP r k).1) := by
      unfold hdBody; rw [if_neg h55, show 55 + k - 55 = k from by omega]
    by_cases her : (longP r k).2 = 0
    · by_cases hsh : r.length < k + (longP r k).1
      · rw [hbody, hbody2, if_neg (by omega), if_pos hsh]
        exact head_lshort0 g off c _ k _ _ A1 w hgw hn hnc (by omega) (by omega) hcellk hcut Hlong hx her hsh
      · rw [hbody, hbody2, if_neg (by omega), if_neg hsh]
        exact head_lok0 g off c _ k _ _ A1 w hgw hn hnc (by omega) (by omega) hcellk hcut Hlong hx her (by omega) (hx1 her)
    · rw [hbody, hbody2, if_pos her]
      exact head_lerr0 g off c _ k _ _ A1 w hgw hn hnc (by omega) (by omega) hcellk hcut Hlong hx her
theorem head_part1 (lo hi g off c : Nat) (A1 : Option Addr) (b : UInt8) (r : List UInt8) (w : World) (hhi : hi ≤ w.heap.size) (hgw : g < w.heap.size) (hn : r.length + 1 < 1099511627776) (hnc : r.length + 1 ≤ c) (q : Nat) (hq : b.toNat = 192 + q) (hq64 : q < 64)
    (hcell' : ∀ j (hj : j < (b :: r).length), w.cell? ⟨g, off + j, none⟩ = some (.int .u8 (((b :: r)[j]'hj).toNat : Int)))
    (hcut : ∀ W : World, (Instr.slice 23 (.slice (some ⟨g, off, none⟩) (r.length + 1) c) (some (.int .i64 1)) none none).run Try.prog W = .ok (.slice A1 r.length (c - 1)) W)
    (hBr : Bs w lo hi (.slice A1 r.length (c - 1)) r) : Calls Try.prog 23 #[.slice (some ⟨g, off, none⟩) (r.length + 1) c] w fun e w' => e = .returned (hdV (hd (b :: r))) ∧ Below w.heap.size w w' := by
  have hcell : w.cell? ⟨g, off, none⟩ = some (.int .u8 (192 + (q : Int))) := by
    have := hcell' 0 (by simp)
    simp only [Nat.add_zero, List.getElem_cons_zero] at this
    rw [this, hq]; simp
  have hbody : hd (b :: r) = hdBody r 1 q := by rw [hd_cons, if_neg (by omega), if_neg (by omega), show b.toNat - 192 = q from by omega]
  by_cases h55 : q ≤ 55
  · by_cases hsh : r.length < q
    · rw [hbody, show hdBody r 1 q = .error 41 from by unfold hdBody; rw [if_pos h55, if_pos hsh]]
      exact head_short1 g off c _ q w hgw hn hnc hcell h55 hsh
    · have _hgap := hsh
      rw [hbody, show hdBody r 1 q = .ok (1, 1, 1 + q) from by unfold hdBody; rw [if_pos h55, if_neg hsh, if_neg (fun h => absurd h.1 (by omega))]]
      exact head_ok1 g off c _ q w hgw hn hnc hcell h55 (by omega)
  · obtain ⟨k, rfl⟩ : ∃ k, q = 55 + k := ⟨q - 55, by omega⟩
    have hcellk : w.cell? ⟨g, off, none⟩ = some (.int .u8 (247 + (k : Int))) := by rw [hcell]; congr 2; omega
    have Hlong : Hid (∀ w0 : World, Below w.heap.size w w0 → Calls Try.prog 54 #[.slice A1 r.length (c - 1), .int .i64 (k : Int)] w0 fun e w' => e = .returned (.tuple #[.int .i64 ((longP r k).1 : Int), .int .i64 ((longP r k).2 : Int)]) ∧ Below w0.heap.size w0 w') :=
      fun w0 hw0 => long_any lo hi _ r w0 (hBr.keep (Same.of_below hw0 hhi)) (Nat.le_trans hhi hw0.size) k (by omega) (by omega)
    obtain ⟨hx, hx1⟩ := longP_le r k
    have hbody2 : hdBody r 1 (55 + k) = if (longP r k).2 ≠ 0 then .error (longP r k).2 else if r.length < k + (longP r k).1 then .error 41 else .ok (1, 1 + k, 1 + k + (longP r k).1) := by
      unfold hdBody; rw [if_neg h55, show 55 + k - 55 = k from by omega]
    by_cases her : (longP r k).2 = 0
    · by_cases hsh : r.length < k + (longP r k).1
      · rw [hbody, hbody2, if_neg (by omega), if_pos hsh]
        exact head_lshort1 g off c _ k _ _ A1 w hgw hn hnc (by omega) (by omega) hcellk hcut Hlong hx her hsh
      · rw [hbody, hbody2, if_neg (by omega), if_neg hsh]
        exact head_lok1 g off c _ k _ _ A1 w hgw hn hnc (by omega) (by omega) hcellk hcut Hlong hx her (by omega) (hx1 her)
    · rw [hbody, hbody2, if_pos her]
      exact head_lerr1 g off c _ k _ _ A1 w hgw hn hnc (by omega) (by omega) hcellk hcut Hlong hx her
set_option maxRecDepth 100000 in
set_option maxHeartbeats 1000000 in
/-- rlp.Head answers 'hd'. -/
theorem head23_any (lo hi : Nat) (v : Value) (bs : List UInt8) (w : World) (hb : Bs w lo hi v bs) (hhi : hi ≤ w.heap.size) (hlen : bs.length < 1099511627776) :
    Calls Try.prog 23 #[v] w fun e w' => e = .returned (hdV (hd bs)) ∧ Below w.heap.size w w' := by
  obtain ⟨A, c, rfl, h1, h2, hR⟩ := hb
  cases bs with
  | nil =>
    go_enter Try.func23, Try.ntmps23
    go_wp2
    go_returns
    exact ⟨rfl, by go_grown⟩
  | cons b r =>
    obtain ⟨A1, hcut, hcutR⟩ := cut_slice (P := Try.prog) 23 5 1 Try.underlying23 info5s A (b :: r).length c 1 1 rfl (by simp)
    have hrl : (b :: r).length = r.length + 1 := by simp
    have hBr : Bs w lo hi (.slice A1 r.length (c - 1)) r := by
      refine ⟨A1, c - 1, rfl, by omega, by omega, ?_⟩
      have := hcutR w lo hi _ h1 hR
      simpa [nums] using this
    obtain ⟨g, off, rfl, hg1, hg2, hcell⟩ := hR.2 (by simp)
    have hcell' : ∀ j (hj : j < (b :: r).length), w.cell? ⟨g, off + j, none⟩ = some (.int .u8 (((b :: r)[j]'hj).toNat : Int)) := fun j hj => hcell j _ (nums_get _ _ hj)
    rw [hrl] at h1 hlen hcut ⊢
    rw [show r.length + 1 - 1 = r.length from rfl] at hcut
    by_cases h128 : b.toNat < 128
    · have hc0 : w.cell? ⟨g, off, none⟩ = some (.int .u8 (b.toNat : Int)) := by
        have := hcell' 0 (by simp)
        simpa only [Nat.add_zero, List.getElem_cons_zero] using this
      have hgw : g < w.heap.size := by omega
      rw [hd_cons, if_pos h128]
      clear hcell hcell' hcut hcutR hBr hR hrl hlen
      generalize r.length = n at *
      go_enter Try.func23, Try.ntmps23
      go_wp2
      go_returns
      exact ⟨rfl, by go_grown⟩
    by_cases h192 : b.toNat < 192
    · exact head_part0 lo hi g off c A1 b r w hhi (by omega) hlen h1 (b.toNat - 128) (by omega) (by omega) hcell' hcut hBr
    · exact head_part1 lo hi g off c A1 b r w hhi (by omega) hlen h1 (b.toNat - 192) (by omega) (by have := b.toNat_lt; omega) hcell' hcut hBr
end Go.Proofs.Ytkdpphcalekbdaa.W1
