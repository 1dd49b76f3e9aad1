/- Item. -/
import Derived.Test.YtkdpphcalekbdaaF2
set_option linter.unusedVariables false
set_option linter.unusedSimpArgs false
namespace Go.Proofs.Ytkdpphcalekbdaa.F3
open Go.ChangeShapes Go.WideShapes Go.ChangeAt Go.RowKit
open M F2
set_option maxRecDepth 100000 in
set_option maxHeartbeats 1000000 in
/-- Item is itemF 200. -/
theorem item13 (S : Nat → Prop) (v : Value) (l : List Nd) (w : World) (hv : Nds w S v l) (hS : ∀ b, S b → b < w.heap.size) (hb : nbulk l ≤ 1073741824) :
    Calls Try.prog 13 #[v] w fun e w' => ∃ d0 d1 d2, e = .returned (.agg #[d0, d1, d2]) ∧ ItemR w' (Btw w.heap.size w'.heap.size) (itemF 200 l).1 [d0, d1, d2] ∧ Below w.heap.size w w' := by
  have HV := Lib.hid hv
  have HS := Lib.hid hS
  obtain ⟨A, c, inner, rfl, h1, h2, hr, hn⟩ := hv
  clear hS hr hn
  have HI := Lib.hid (item45 200 (by omega))
  have K1 : Hid (∀ W : World, Below w.heap.size w W → Nds W S (.slice A l.length c) l) := fun W hW => HV.out.keep (fun b hb => hW.block b (HS.out b hb))
  have K2 : Hid (∀ W : World, Below w.heap.size w W → ∀ b, S b → b < W.heap.size) := fun W hW b hb => Nat.lt_of_lt_of_le (HS.out b hb) hW.size
  go_enter Try.func13, Try.ntmps13
  go_wp2_with (first
    | (go_at_call 45; refine (HI.out S _ l _ (K1.out _ (by go_grown)) (K2.out _ (by go_grown)) hb).mono ?_
       rintro e w1 ⟨d0, d1, d2, v', rfl, hit, hnd1, hbl⟩
       obtain ⟨⟨fl, rfl⟩, ⟨fA, fn, fc, rfl⟩, ⟨fB, fm, fd, rfl⟩⟩ := item_shape hit
       obtain ⟨Ar, cr, inlr, rfl, hr1, hr2, hrr, hrn⟩ := hnd1
       have hx := (hbl.block w.heap.size (by rw [size_alloc]; omega)).trans (show _ = some (Obj.cells #[.int .i64 0, .slice none 0 0, .slice none 0 0] 27 (0, 0)) by rw [heap_alloc, if_pos rfl])
       obtain ⟨y0, y1, y2, y3⟩ := block_cells hx
       have hz1 : w.heap.size + 1 ≤ w1.heap.size := by have := hbl.size; rw [size_alloc] at this; exact this
       have hz2 : w.heap.size < w1.heap.size := by omega
       have HIT := Lib.hid hit
       have HBL := Lib.hid hbl
       clear hit hbl hrr hrn hx))
  have hl1 := hz2
  refine bodyPost_ret (v := .agg #[.int .i64 fl, .slice fA fn fc, .slice fB fm fd]) (by simp [results, Try.results13, go_sem, y0, y1, y2, hz2]) rfl ?_
  have hsz : (((w1.setCell ⟨w.heap.size, 0, none⟩ (.int .i64 fl)).setCell ⟨w.heap.size, 1, none⟩ (.slice fA fn fc)).setCell ⟨w.heap.size, 2, none⟩ (.slice fB fm fd)).heap.size = w1.heap.size := by simp [World.setCell]
  have hB1 : Below w.heap.size w w1 := ((Below.refl _ w).alloc (Nat.le_refl _) _).trans (HBL.out.mono (by rw [size_alloc]; omega))
  refine ⟨_, _, _, rfl, ItemR.wide (fun b hb => ⟨by have := hb.1; rw [size_alloc] at this; omega, by rw [size_alloc, hsz]; have := hb.2; omega⟩) _ _ (ItemR.keep (fun b hb => ?_) _ _ HIT.out), ?_⟩
  · have hb1 : w.heap.size ≠ b := by have := hb.1; rw [size_alloc] at this; omega
    rw [heap_alloc, if_neg (by rw [hsz]; have := hb.2; omega)]
    simp (disch := exact hb1) only [heap_set]
  · exact (((hB1.setCell (Nat.le_refl _) _).setCell (Nat.le_refl _) _).setCell (Nat.le_refl _) _).alloc (by rw [hsz]; omega) _
end Go.Proofs.Ytkdpphcalekbdaa.F3
