/- rlp.decode of a text. -/
import Derived.Test.YtkdpphcalekbdaaG5
set_option linter.unusedVariables false
set_option linter.unusedSimpArgs false
namespace Go.Proofs.Ytkdpphcalekbdaa.G6
open Go.ChangeShapes Go.WideShapes Go.ChangeAt Go.RowKit
open M F1 W1 G5
set_option maxRecDepth 100000 in
set_option maxHeartbeats 1000000 in
theorem dec_text (dp : Int) (lo hi : Nat) (v : Value) (bs : List UInt8) (w : World) (hb : Bs w lo hi v bs) (hhi : hi ≤ w.heap.size) (hn : bs.length ≤ 1073741824) (f t : Nat) (hh : hd bs = .ok (0, f, t)) :
  Calls Try.prog 48 #[v, .int .i64 dp] w fun e w' => Below w.heap.size w w' ∧ ∃ d1, e = .returned (.tuple #[.agg #[.int .i64 0, d1, .slice none 0 0], .int .i64 (t : Int), .int .i64 0]) ∧ ItemR w' (Btw w.heap.size w'.heap.size) (.mk 0 ((bs.take t).drop f) []) [.int .i64 0, d1, .slice none 0 0] := by
  obtain ⟨_, hft, htl, ht1, _⟩ := hd_ok hh
  have HH : Hid (∀ W, Below w.heap.size w W → Calls Try.prog 23 #[v] W fun e w' => e = .returned (.tuple #[.agg #[.int .i64 0, .int .i64 (f : Int), .int .i64 (t : Int)], .int .i64 0]) ∧ Below W.heap.size W w') := fun W hW => by
    have := head23_any lo hi v bs W (hb.keep (Same.of_below hW hhi)) (Nat.le_trans hhi hW.size) (by omega)
    rw [hh] at this
    exact this
  clear hh
  obtain ⟨A, c, rfl, h1, h2, hR⟩ := hb
  obtain ⟨A', hcut, hBp⟩ := cut_mid h1 h2 hR f t hft htl
  have hpl : ((bs.take t).drop f).length = t - f := by rw [List.length_drop, List.length_take]; omega
  have HT : Hid (∀ W, Below w.heap.size w W → Calls Try.prog 41 #[.slice A' (t - f) (c - f)] W fun e w' => ∃ d1, e = .returned (.agg #[.int .i64 0, d1, .slice none 0 0]) ∧ ItemR w' (Btw W.heap.size w'.heap.size) (.mk 0 ((bs.take t).drop f) []) [.int .i64 0, d1, .slice none 0 0] ∧ Below W.heap.size W w') :=
    fun W hW => text41 lo hi _ _ W (hBp.keep (Same.of_below hW hhi)) (Nat.le_trans hhi hW.size) (by rw [hpl]; omega)
  clear hR hBp hpl
  go_enter Try.func48, Try.ntmps48
  go_wp2
  go_step3
  go_wp2_with (first
    | (go_at_call 23; refine (HH.out _ (by go_grown)).mono ?_
       rintro e w1 ⟨rfl, hbl⟩
       have hx := (hbl.block w.heap.size (by rw [size_alloc]; omega)).trans (show _ = some (Obj.cells #[.int .i64 0, .slice none 0 0, .slice none 0 0] 27 (0, 0)) by rw [heap_alloc, if_pos rfl])
       obtain ⟨y0, y1, y2, y3⟩ := block_cells hx
       have hz : w.heap.size < w1.heap.size := Nat.lt_of_lt_of_le (by rw [size_alloc]; omega) hbl.size
       have hz1 : w.heap.size < w1.heap.size + 1 := by omega
       have hB1 : Hid (Below w.heap.size w w1) := ((Below.refl _ w).alloc (Nat.le_refl _) _).trans (hbl.mono (by rw [size_alloc]; omega))
       have HX := Lib.hid hx
       clear hbl hx))
  have HK : Hid (∀ W : World, W.heap[w1.heap.size]? = some (.cells #[.int .i64 0, .int .i64 (f : Int), .int .i64 (t : Int)] 51 (0, 0)) → W.cell? ⟨w1.heap.size, 2, none⟩ = some (.int .i64 (t : Int))) := fun W hW => (block_cells hW).2.2.1
  have hne : w.heap.size ≠ w1.heap.size := by omega
  go_region_held3 (fun w' => w'.cell? ⟨w1.heap.size, 2, none⟩ = some (.int .i64 (t : Int))) ((refine HK.out _ ?_; first | (with_reducible exact X2.out) | (with_reducible refine (heap_set _ _ _ _ _ hne).trans ((heap_set _ _ _ _ _ hne).trans ((heap_set _ _ _ _ _ hne).trans ?_)); with_reducible exact X2.out) | (rw [heap_drew, heap_alloc, if_pos rfl])))
    (first
      | (go_at_call 41; refine (HT.out _ (hB1.out.alloc hB1.out.size _).drew).mono ?_
         rintro e w2 ⟨d1, rfl, hit, hbl2⟩
         obtain ⟨_, ⟨dA, dn, dc, rfl⟩, _⟩ := item_shape hit
         have hbl3 := undrew hbl2
         have X2 : Hid (w2.heap[w1.heap.size]? = some (.cells #[.int .i64 0, .int .i64 (f : Int), .int .i64 (t : Int)] 51 (0, 0))) := (hbl3.block w1.heap.size (by show _ < (w1.alloc _).heap.size; rw [size_alloc]; omega)).trans (by rw [heap_alloc, if_pos rfl])
         have hx2 := (hbl3.block w.heap.size (by show _ < (w1.alloc _).heap.size; rw [size_alloc]; omega)).trans ((Below.heap_alloc _ _ _ hz).trans HX.out)
         obtain ⟨z0, z1, z2, z3⟩ := block_cells hx2
         have hB2 : Hid (Below w.heap.size w w2) := (hB1.out.alloc hB1.out.size _).trans (hbl3.mono (by show _ ≤ (w1.alloc _).heap.size; rw [size_alloc]; omega))
         have HIT := Lib.hid hit
         have hz4 : w.heap.size + 1 ≤ (w1.alloc (.cells #[.int .i64 0, .int .i64 (f : Int), .int .i64 (t : Int)] 51)).heap.size := by rw [size_alloc]; omega
         clear hit hbl2 hbl3 hx2))
  all_goals
    go_wp2_with fail
    rw [Exit.noGoto_ret]
    refine bodyPost_ret (v := .tuple #[.agg #[.int .i64 0, .slice dA dn dc, .slice none 0 0], .int .i64 (t : Int), .int .i64 0]) (by simp [results, Try.results48, go_sem, z0, z1, z2]) rfl ?_
    refine ⟨((hB2.out.setCell (Nat.le_refl _) _).setCell (Nat.le_refl _) _).setCell (Nat.le_refl _) _, _, rfl, ItemR.wide (fun b hb => ⟨by have := hb.1; have h9 : w.heap.size + 1 ≤ b := Nat.le_trans hz4 this; omega, by simpa [World.setCell] using hb.2⟩) _ _ (ItemR.keep (fun b hb => ?_) _ _ HIT.out)⟩
    have hb1 : w.heap.size ≠ b := by have := hb.1; have h9 : w.heap.size + 1 ≤ b := Nat.le_trans hz4 this; omega
    simp (disch := exact hb1) only [heap_set]
end Go.Proofs.Ytkdpphcalekbdaa.G6
