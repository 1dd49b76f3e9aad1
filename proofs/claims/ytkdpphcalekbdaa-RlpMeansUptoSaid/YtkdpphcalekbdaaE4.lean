/- rlp.encode, whole; rlp.Encode. -/
import Derived.Test.YtkdpphcalekbdaaE3
set_option linter.unusedVariables false
set_option linter.unusedSimpArgs false
namespace Go.Proofs.Ytkdpphcalekbdaa.E4
open Go.ChangeShapes Go.WideShapes Go.ChangeAt Go.RowKit
open M W1 G2 E1 H2
/-- encode is formF. -/
theorem encode47 (x : It) : EncSpec x := by
  refine It.ind ?_ x
  intro l bs ks ih
  by_cases hw : wfI (.mk l bs ks)
  · have hw' := hw
    simp only [wfI] at hw
    rcases hw with ⟨rfl, rfl⟩ | ⟨rfl, rfl, h⟩
    · by_cases hs : bs.length = 1 ∧ (bs.headD 0).toNat < 128
      · obtain ⟨h1, h2⟩ := hs
        match bs, h1 with
        | [b0], _ => exact E1.enc_small b0 h2
      · exact E2.enc_text bs hs
    · exact E3.enc_list ks ih
  · intro S c0 c1 c2 bv bs' base w hwf
    exact absurd hwf hw
mutual
theorem check_wf : ∀ (x : It) (d : Nat), checkF d x = 0 → wfI x
  | .mk l bs ks, d, h => by
    rw [checkF] at h
    split at h
    · cases h
    · split at h
      · cases h
      · rename_i h1 h2
        have h3 := checks_wf ks (d + 1) h
        simp only [wfI]
        by_cases h0 : l = 0
        · refine .inl ⟨h0, List.eq_nil_of_length_eq_zero ?_⟩
          rcases Nat.eq_zero_or_pos ks.length with h | h
          · exact h
          · exact absurd (.inr (.inl ⟨h0, h⟩)) h2
        · by_cases h1 : l = 1
          · refine .inr ⟨h1, List.eq_nil_of_length_eq_zero ?_, h3⟩
            rcases Nat.eq_zero_or_pos bs.length with h | h
            · exact h
            · exact absurd (.inr (.inr ⟨h1, h⟩)) h2
          · exact absurd (.inl ⟨h0, h1⟩) h2
theorem checks_wf : ∀ (ks : List It) (d : Nat), checksF d ks = 0 → wfIs ks
  | [], d, _ => trivial
  | k :: ks, d, h => by
    rw [checksF] at h
    split at h
    · rename_i h1; exact absurd h h1
    · rename_i h1
      simp only [wfIs]
      exact ⟨check_wf k d (by omega), checks_wf ks d h⟩
end
theorem below_of_grown {w w' : World} (h : w.grownBy w' none) : Below w.heap.size w w' := ⟨h.os, h.tape, h.output, h.size, fun k hk => h.block k hk (by simp)⟩
set_option maxRecDepth 100000 in
set_option maxHeartbeats 1000000 in
theorem encode14_err (x : It) (S : Nat → Prop) (c0 c1 c2 : Value) (w : World) (hx : ItemR w S x [c0, c1, c2]) (hS : ∀ b, S b → b < w.heap.size) (hb : bulk x ≤ 2097152) (h : checkF 0 x ≠ 0) :
    Calls Try.prog 14 #[.agg #[c0, c1, c2]] w fun e w' => Below w.heap.size w w' ∧ e = .returned (.tuple #[.slice none 0 0, .int .i64 (checkF 0 x : Int)]) := by
  have HC : Hid (∀ W, Below w.heap.size w W → Calls Try.prog 46 #[.agg #[c0, c1, c2], .int .i64 0] W fun e w' => e = .returned (.int .i64 (checkF 0 x : Int)) ∧ Below W.heap.size W w') := fun W hW =>
    H3.check46 x S c0 c1 c2 0 W (ItemR.keep (fun b hb => hW.block b (hS b hb)) _ _ hx) (fun b hb => Nat.lt_of_lt_of_le (hS b hb) hW.size) (by omega) (by omega)
  obtain ⟨⟨fl, rfl⟩, ⟨fA, fn, fc, rfl⟩, ⟨fB, fm, fd, rfl⟩⟩ := item_shape hx
  have hzi : ¬ ((checkF 0 x : Nat) : Int) = 0 := by omega
  clear hx hS hb h
  generalize checkF 0 x = r at HC hzi ⊢
  go_enter Try.func14, Try.ntmps14
  go_wp2_with (first
    | (go_at_call 46; refine (HC.out _ (by go_grown)).mono ?_
       rintro e w1 ⟨rfl, hbl⟩
       have HB1 : Hid (Below w.heap.size w w1) := ((Below.refl _ w).alloc (Nat.le_refl _) _).trans (hbl.mono (by rw [size_alloc]; omega))
       clear hbl))
  go_ret2
  exact ⟨HB1.out, rfl⟩
set_option maxRecDepth 100000 in
set_option maxHeartbeats 1000000 in
theorem encode14_ok (x : It) (S : Nat → Prop) (c0 c1 c2 : Value) (w : World) (hx : ItemR w S x [c0, c1, c2]) (hS : ∀ b, S b → b < w.heap.size) (hb : bulk x ≤ 2097152) (h : checkF 0 x = 0) :
    Calls Try.prog 14 #[.agg #[c0, c1, c2]] w fun e w' => Below w.heap.size w w' ∧ ∃ v, e = .returned (.tuple #[v, .int .i64 0]) ∧ M.Own w' w.heap.size v (formF x) := by
  have hq : 7 * (bulk x * bulk x) ≤ 140737488355000 := by have := Nat.mul_le_mul hb hb; omega
  have HC : Hid (∀ W, Below w.heap.size w W → Calls Try.prog 46 #[.agg #[c0, c1, c2], .int .i64 0] W fun e w' => e = .returned (.int .i64 0) ∧ Below W.heap.size W w') := fun W hW => by
    have := H3.check46 x S c0 c1 c2 0 W (ItemR.keep (fun b hb => hW.block b (hS b hb)) _ _ hx) (fun b hb => Nat.lt_of_lt_of_le (hS b hb) hW.size) (by omega) (by omega)
    rw [h] at this
    exact this
  have HE : Hid (∀ W, Below w.heap.size w W → Calls Try.prog 47 #[.slice none 0 0, .agg #[c0, c1, c2]] W fun e w' => ∃ A n c, e = .returned (.slice A n c) ∧ M.Own w' w.heap.size (.slice A n c) (formF x) ∧ Below W.heap.size W w') := fun W hW => by
    refine (encode47 x S c0 c1 c2 (.slice none 0 0) [] w.heap.size W (check_wf x 0 h) (ItemR.keep (fun b hb => hW.block b (hS b hb)) _ _ hx) (fun b hb => Nat.lt_of_lt_of_le (hS b hb) hW.size) (World.ownsRow_nil _ _ _ _) hW.size (fun b _ e => by simp [Value.ownBlock] at e) hb (by simpa using hq)).mono ?_
    rintro e w' ⟨v, rfl, ho, hg, _⟩
    obtain ⟨A, c, rfl, _⟩ := ho.bs
    exact ⟨A, _, c, rfl, by simpa using ho, below_of_grown hg⟩
  obtain ⟨⟨fl, rfl⟩, ⟨fA, fn, fc, rfl⟩, ⟨fB, fm, fd, rfl⟩⟩ := item_shape hx
  clear hx hS hb h hq
  go_enter Try.func14, Try.ntmps14
  go_wp2_with (first
    | (go_at_call 46; refine (HC.out _ (by go_grown)).mono ?_
       rintro e w1 ⟨rfl, hbl⟩
       have hx0 := (hbl.block w.heap.size (by rw [size_alloc]; omega)).trans (show _ = some (Obj.cells #[.int .i64 fl, .slice fA fn fc, .slice fB fm fd] 27 (0, 0)) by rw [heap_alloc, if_pos rfl])
       obtain ⟨y0, y1, y2, y3⟩ := block_cells hx0
       have HB1 : Hid (Below w.heap.size w w1) := ((Below.refl _ w).alloc (Nat.le_refl _) _).trans (hbl.mono (by rw [size_alloc]; omega))
       clear hbl hx0)
    | (go_at_call 47; refine (HE.out _ HB1.out).mono ?_
       rintro e w2 ⟨A5, n5, c5, rfl, ho5, hbl⟩
       have HO5 := Lib.hid ho5
       have HB2 : Hid (Below w.heap.size w w2) := HB1.out.trans (hbl.mono HB1.out.size)
       clear hbl ho5))
  go_ret2
  exact ⟨HB2.out, _, rfl, HO5.out⟩
end Go.Proofs.Ytkdpphcalekbdaa.E4
