/- rlp.encode of a text. -/
import Derived.Test.YtkdpphcalekbdaaG2
import Derived.Test.YtkdpphcalekbdaaH4
import Derived.Test.YtkdpphcalekbdaaR
import Derived.Deep.RegionHeld3
set_option linter.unusedVariables false
set_option linter.unusedSimpArgs false
namespace Go.Proofs.Ytkdpphcalekbdaa.E1
open Go.ChangeShapes Go.WideShapes Go.ChangeAt Go.RowKit
open M W1 G2
/-- What encode makes: the form behind the bytes. -/
def EncSpec (x : It) : Prop := ∀ (S : Nat → Prop) (c0 c1 c2 bv : Value) (bs : List UInt8) (base : Nat) (w : World), wfI x → ItemR w S x [c0, c1, c2] → (∀ b, S b → b < w.heap.size) → M.Own w base bv bs → base ≤ w.heap.size → (∀ b, S b → bv.ownBlock ≠ some b) → bulk x ≤ 2097152 → bs.length + 7 * (bulk x * bulk x) ≤ 140737488355000 →
  Calls Try.prog 47 #[bv, .agg #[c0, c1, c2]] w fun e w' => ∃ v', e = .returned v' ∧ M.Own w' base v' (bs ++ formF x) ∧ w.grownBy w' bv.ownBlock ∧ (v'.ownBlock = bv.ownBlock ∨ ∃ k, w.heap.size ≤ k ∧ v'.ownBlock = some k)
/-- What is as it was but for a row, by steps. -/
theorem grown_below {w W w' : World} {r : Option Nat} (h : Below w.heap.size w W) (hg : W.grownBy w' r) : w.grownBy w' r :=
  ⟨hg.os.trans h.os, hg.tape.trans h.tape, hg.output.trans h.output, Nat.le_trans h.size hg.size, fun k hk hr => (hg.block k (Nat.lt_of_lt_of_le hk h.size) hr).trans (h.block k hk)⟩
set_option maxRecDepth 100000 in
set_option maxHeartbeats 1000000 in
theorem enc_small (b0 : UInt8) (hb0 : b0.toNat < 128) : EncSpec (.mk 0 [b0] []) := by
  intro S c0 c1 c2 bv bs base w hwf hx hS hown hbase hne hbulk hlen
  have hx' := hx
  simp only [ItemR] at hx
  obtain ⟨v, A, c, inner, e, hb, h1, h2, hr, hk⟩ := hx
  simp only [List.cons.injEq, and_true] at e
  obtain ⟨rfl, rfl, rfl⟩ := e
  obtain ⟨Ab, cb, rfl, hb1, hb2, hbR⟩ := hb
  have hf1 : (formF (.mk 0 [b0] [])).length = 1 := by simp [formF, hb0]
  have hf2 : (payF (.mk 0 [b0] [])).length = 1 := by simp [payF]
  have hf3 : formF (.mk 0 [b0] []) = [b0] := by simp [formF, hb0]
  have HS : Hid (∀ W, Below w.heap.size w W → Calls Try.prog 49 #[.agg #[.int .i64 0, .slice Ab 1 cb, .slice A 0 c]] W fun e w' => e = .returned (.tuple #[.int .i64 1, .int .i64 1]) ∧ Below W.heap.size W w') := fun W hW => by
    have := size49 _ S _ _ _ W hwf (ItemR.keep (fun b hb => hW.block b (hS b hb)) _ _ hx') (fun b hb => Nat.lt_of_lt_of_le (hS b hb) hW.size) (by omega)
    rw [hf1, hf2] at this
    exact this
  have HF3 := Lib.hid hf3
  have HRd : Hid (∀ W, Below w.heap.size w W → Rd W 0 w.heap.size 1 Ab 1 (nums [b0])) := fun W hW => (hbR.toRd fun b hb => ⟨Nat.zero_le _, hS b hb⟩).keep (Same.of_below hW (Nat.le_refl _))
  have HOwn : Hid (∀ W, Below w.heap.size w W → W.ownsRow base 5 1 bv bs.length (nums bs)) := fun W hW => own_keep hown fun k hk => hW.block k (World.ownsRow.lt hown k hk).2
  obtain ⟨Av, cv, rfl⟩ : ∃ A c, bv = .slice A bs.length c := by obtain ⟨A, c, e, _⟩ := hown.bs; exact ⟨A, c, e⟩
  have hl2 : Hid (bs.length ≤ 140737488355000) := (show _ ≤ _ from by omega)
  clear hx' hbR hr hk hS hown hne hf1 hf2 hf3 hwf hbulk hlen
  go_enter Try.func47, Try.ntmps47
  go_wp2_with (first
    | (go_at_call 49; refine (HS.out _ (by go_grown)).mono ?_
       rintro e w1 ⟨rfl, hbl⟩
       have hx0 := (hbl.block w.heap.size (by simp only [size_alloc]; omega)).trans (show _ = some (Obj.cells #[.slice Av bs.length cv] 23 (0, 0)) from by rw [heap_alloc, if_neg (by rw [size_alloc]; omega), heap_alloc, if_pos rfl])
       have hx1 := (hbl.block (w.heap.size + 1) (by simp only [size_alloc]; omega)).trans (show _ = some (Obj.cells #[.int .i64 0, .slice Ab 1 cb, .slice A 0 c] 27 (0, 0)) from by rw [heap_alloc, if_pos (by rw [size_alloc])])
       obtain ⟨y0, y1, y2, y3⟩ := block_cells hx1
       have z0 : w1.cell? ⟨w.heap.size, 0, none⟩ = some (.slice Av bs.length cv) := by simp [World.cell?, hx0]
       have HB1 : Hid (Below w.heap.size w w1) := (((Below.refl _ w).alloc (Nat.le_refl _) _).alloc (by rw [size_alloc]; omega) _).trans (hbl.mono (by simp only [size_alloc]; omega))
       clear hbl hx0 hx1)
    | (at_builtin; refine wp_append rfl (.tmp 23) (.tmp 25) 23 5 (.int .u8 0) 1 1 rfl Try.underlying23 M.info5 rfl (by omega) base 0 w.heap.size _ bs.length (nums bs) Ab 1 cb (nums [b0]) rfl rfl (HOwn.out _ HB1.out) (HRd.out _ HB1.out) (nums_one _) (by have := hl2.out; simp only [maxLen]; omega) (by have := hl2.out; omega) (Nat.le_trans hbase HB1.out.size) ?_; intro v' w2 hown2 hgrow2 hat2))
  go_ret
  rw [HF3.out]
  have e : bs.length + 1 = (bs ++ [b0]).length := by simp
  refine ⟨v', rfl, ?_, grown_below HB1.out hgrow2, ?_⟩
  · unfold M.Own
    rw [← e, nums_append]
    exact hown2
  · rcases hat2 with h | h
    · exact .inl h
    · exact .inr ⟨_, HB1.out.size, h⟩
end Go.Proofs.Ytkdpphcalekbdaa.E1
