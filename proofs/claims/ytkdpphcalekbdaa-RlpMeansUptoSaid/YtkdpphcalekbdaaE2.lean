/- rlp.encode of a text with a head. -/
import Derived.Test.YtkdpphcalekbdaaE1
import Derived.Test.YtkdpphcalekbdaaH4
import Derived.Test.YtkdpphcalekbdaaR
import Derived.Deep.RegionHeld3
import Derived.Deep.RegionLaw
set_option linter.unusedVariables false
set_option linter.unusedSimpArgs false
namespace Go.Proofs.Ytkdpphcalekbdaa.E2
open Go.ChangeShapes Go.WideShapes Go.ChangeAt Go.RowKit
open M W1 G2 E1
set_option maxRecDepth 100000 in
set_option maxHeartbeats 1000000 in
theorem enc_text (xs : List UInt8) (hxs : ¬(xs.length = 1 ∧ (xs.headD 0).toNat < 128)) : EncSpec (.mk 0 xs []) := by
  intro S c0 c1 c2 bv bs base w hwf hx hS hown hbase hne hbulk hlen
  have hx' := hx
  simp only [ItemR] at hx
  obtain ⟨v, A, c, inner, e, hb, h1, h2, hr, hk⟩ := hx
  simp only [List.cons.injEq, and_true] at e
  obtain ⟨rfl, rfl, rfl⟩ := e
  obtain ⟨Ab, cb, rfl, hb1, hb2, hbR⟩ := hb
  have hxl : xs.length ≤ 1073741824 := by simp only [bulk] at hbulk; omega
  have hf3 : formF (.mk 0 xs []) = headF 128 xs.length ++ xs := by simp only [formF, if_pos, if_neg hxs]
  have hf1 : (formF (.mk 0 xs [])).length = (headF 128 xs.length).length + xs.length := by rw [hf3, List.length_append]
  have hf2 : (payF (.mk 0 xs [])).length = xs.length := by simp [payF]
  have hh1 := headF_pos 128 xs.length
  have hh2 := headF_le 128 xs.length (by omega)
  have hgt : (xs.length : Int) < (((headF 128 xs.length).length + xs.length : Nat) : Int) := by omega
  have HH : Hid (∀ w, Calls Try.prog 66 #[.int .u8 128, .int .i64 (xs.length : Int)] w fun e w' => ∃ v, e = .returned v ∧ M.Own w' w.heap.size v (headF 128 xs.length) ∧ Below w.heap.size w w') := fun w => head_any 128 xs.length (by omega) (by omega) w
  have HS : Hid (∀ W, Below w.heap.size w W → Calls Try.prog 49 #[.agg #[.int .i64 0, .slice Ab xs.length cb, .slice A 0 c]] W fun e w' => e = .returned (.tuple #[.int .i64 (((headF 128 xs.length).length + xs.length : Nat) : Int), .int .i64 (xs.length : Int)]) ∧ Below W.heap.size W w') := fun W hW => by
    have := size49 _ S _ _ _ W hwf (ItemR.keep (fun b hb => hW.block b (hS b hb)) _ _ hx') (fun b hb => Nat.lt_of_lt_of_le (hS b hb) hW.size) (by omega)
    rw [hf1, hf2] at this
    exact this
  have HF3 := Lib.hid hf3
  have HRd : Hid (∀ W, (∀ b, S b → W.heap[b]? = w.heap[b]?) → Rd W 0 w.heap.size 1 Ab xs.length (nums xs)) := fun W hW => (hbR.keep hW).toRd fun b hb => ⟨Nat.zero_le _, hS b hb⟩
  have HSS := Lib.hid hS
  have HNE := Lib.hid hne
  have HOwn : Hid (∀ W, Below w.heap.size w W → W.ownsRow base 5 1 bv bs.length (nums bs)) := fun W hW => own_keep hown fun k hk => hW.block k (World.ownsRow.lt hown k hk).2
  obtain ⟨Av, cv, rfl⟩ : ∃ A c, bv = .slice A bs.length c := by obtain ⟨A, c, e, _⟩ := hown.bs; exact ⟨A, c, e⟩
  have hnb : Hid (∀ k, (Value.slice Av bs.length cv).ownBlock = some k → k < w.heap.size) := fun k hk => (World.ownsRow.lt hown k hk).2
  have hl2 : Hid (bs.length + 7 * xs.length + 7 ≤ 140737488355000) := (show _ ≤ _ from by
    simp only [bulk, bulks, Nat.add_zero] at hlen
    have := Nat.le_mul_self (xs.length + 1)
    omega)
  clear hx' hbR hr hk hS hown hne hf1 hf2 hf3 hwf hbulk hlen hxs
  go_enter Try.func47, Try.ntmps47
  go_wp2_with (first
    | (go_at_call 49; refine (HS.out _ (by go_grown)).mono ?_
       rintro e w1 ⟨rfl, hbl⟩
       have hx0 := (hbl.block w.heap.size (by simp only [size_alloc]; omega)).trans (show _ = some (Obj.cells #[.slice Av bs.length cv] 23 (0, 0)) from by rw [heap_alloc, if_neg (by rw [size_alloc]; omega), heap_alloc, if_pos rfl])
       have hx1 := (hbl.block (w.heap.size + 1) (by simp only [size_alloc]; omega)).trans (show _ = some (Obj.cells #[.int .i64 0, .slice Ab xs.length cb, .slice A 0 c] 27 (0, 0)) from by rw [heap_alloc, if_pos (by rw [size_alloc])])
       obtain ⟨y0, y1, y2, y3⟩ := block_cells hx1
       have HX1 := Lib.hid (show _ ∧ w.heap.size + 1 < w1.heap.size from ⟨hx1, (Array.getElem?_eq_some_iff.1 hx1).1⟩)
       have zf : w1.frozen? ⟨w.heap.size, 0, none⟩ = false := by simp [World.frozen?, hx0]
       have z0 : w1.cell? ⟨w.heap.size, 0, none⟩ = some (.slice Av bs.length cv) := by simp [World.cell?, hx0]
       have HB1 : Hid (Below w.heap.size w w1) := (((Below.refl _ w).alloc (Nat.le_refl _) _).alloc (by rw [size_alloc]; omega) _).trans (hbl.mono (by simp only [size_alloc]; omega))
       clear hbl hx0 hx1))
  go_region_law
    (first
      | (go_simp; go_at_call 66; refine (HH.out _).mono ?_
         rintro e w2 ⟨hv, rfl, ho, hbl2⟩
         obtain ⟨Ah, ch, rfl, hq1, hq2, hq3⟩ := ho.bs
         have hbl3 := undrew hbl2
         have hz1 := HB1.out.size
         have hx2 := (hbl3.block (w.heap.size + 1) (by show _ < w1.heap.size; exact HX1.out.2)).trans HX1.out.1
         obtain ⟨x0, x1, x2, x3⟩ := block_cells hx2
         have z1 := (hbl3.cell (p := ⟨w.heap.size, 0, none⟩) (show w.heap.size < w1.heap.size by have := HX1.out.2; omega)).trans z0
         have z2 := (hbl3.frozen (p := ⟨w.heap.size, 0, none⟩) (show w.heap.size < w1.heap.size by have := HX1.out.2; omega)).trans zf
         have HB2 : Hid (Below w.heap.size w w2) := HB1.out.trans (hbl3.mono (by show w.heap.size ≤ w1.heap.size; omega))
         have HRH := Lib.hid hq3
         have HX2 := Lib.hid hx2
         clear ho hq3 hbl2 hbl3 hx2)
      | (refine step_append_any _ rfl (.tmp 19) (.tmp 21) 23 5 (.int .u8 0) 1 1 rfl Try.underlying23 M.info5 rfl (Nat.succ_pos _) base _ _ (.slice Av bs.length cv) bs.length (nums bs) Ah (headF 128 xs.length).length ch (nums (headF 128 xs.length)) rfl rfl (HOwn.out _ HB2.out) HRH.out (nums_one _) (by have := hl2.out; simp only [maxLen]; omega) (by have := hl2.out; omega) (Nat.le_trans hbase HB2.out.size) ?_
         intro v' w3 hown3 hgrow3 hat3
         obtain ⟨A3, c3, rfl⟩ : ∃ A c, v' = .slice A (bs.length + (headF 128 xs.length).length) c := by
           rcases hown3.2 with ⟨hv, h0⟩ | ⟨b, cap, cur, hv, _⟩
           · exact ⟨none, 0, by rw [hv, h0]⟩
           · exact ⟨_, _, hv⟩
         have hw2 := (Array.getElem?_eq_some_iff.1 HX2.out).1
         have t0 : w3.cell? ⟨w.heap.size, 0, none⟩ = some (.slice Av bs.length cv) := (World.cell?_of_block (w := w2) (a := ⟨w.heap.size, 0, none⟩) (hgrow3.block w.heap.size (by omega) (fun e => by have := hnb.out _ e.symm; omega))).trans z1
         have t1 : w3.frozen? ⟨w.heap.size, 0, none⟩ = false := (World.frozen?_of_block (w := w2) (a := ⟨w.heap.size, 0, none⟩) (hgrow3.block w.heap.size (by omega) (fun e => by have := hnb.out _ e.symm; omega))).trans z2
         have hx3 := (hgrow3.block (w.heap.size + 1) (by omega) (fun e => by have := hnb.out _ e.symm; omega)).trans HX2.out
         obtain ⟨u0, u1, u2, u3⟩ := block_cells hx3
         have HX3 := Lib.hid hx3
         clear hx3
         have HOWN3 := Lib.hid hown3
         have HGROW3 := Lib.hid hgrow3
         have HAT3 := Lib.hid hat3
         clear hown3 hgrow3 hat3))
  all_goals
    have N5 : Hid ((Value.slice A3 (bs.length + (headF 128 xs.length).length) c3).ownBlock ≠ some w.heap.size) := fun e => by
      rcases HAT3.out with h | h
      · have := hnb.out _ (h.symm.trans e); omega
      · have h9 : w2.heap.size = w.heap.size := Option.some.inj (h.symm.trans e); omega
    go_wp2_with (first
      | (at_builtin
         refine wp_append rfl (.tmp 23) (.tmp 25) 23 5 (.int .u8 0) 1 1 rfl Try.underlying23 M.info5 rfl (by omega) base 0 w.heap.size _ (bs.length + (headF 128 xs.length).length) (nums bs ++ nums (headF 128 xs.length)) Ab xs.length cb (nums xs) rfl rfl (own_keep HOWN3.out fun k hk => heap_set _ _ _ _ _ (fun e => N5.out (hk.trans (congrArg some e.symm)))) (HRd.out _ (fun b hb => (heap_set _ _ _ _ _ (fun e => by have := HSS.out b hb; omega)).trans ((HGROW3.out.block b (Nat.lt_of_lt_of_le (HSS.out b hb) HB2.out.size) (fun e => HNE.out b hb e.symm)).trans (HB2.out.block b (HSS.out b hb))))) (nums_one _) (by have := hl2.out; simp only [maxLen]; omega) (by have := hl2.out; omega) (Nat.le_trans hbase (Nat.le_trans HB2.out.size (by simpa [World.setCell] using HGROW3.out.size))) ?_
         intro v5 w5 hown5 hgrow5 hat5))
    go_ret
    rw [HF3.out]
    refine ⟨v5, rfl, ?_, ?_, ?_⟩
    · unfold M.Own
      have e : (bs ++ (headF 128 xs.length ++ xs)).length = bs.length + (headF 128 xs.length).length + xs.length := by simp; omega
      rw [e, nums_append, nums_append, ← List.append_assoc]
      exact hown5
    · have hs4 : (w3.setCell ⟨w.heap.size, 0, none⟩ (.slice A3 (bs.length + (headF 128 xs.length).length) c3)).heap.size = w3.heap.size := by simp [World.setCell]
      have hs2 := HB2.out.size
      have hs3 := HGROW3.out.size
      have hs5 := hgrow5.size
      refine ⟨hgrow5.os.trans (HGROW3.out.os.trans HB2.out.os), hgrow5.tape.trans (HGROW3.out.tape.trans HB2.out.tape), hgrow5.output.trans (HGROW3.out.output.trans HB2.out.output), by omega, fun k hk hr => ?_⟩
      refine (hgrow5.block k (by omega) (fun e => ?_)).trans ((heap_set _ _ _ _ _ (by omega)).trans ((HGROW3.out.block k (by omega) hr).trans (HB2.out.block k hk)))
      rcases HAT3.out with h | h
      · exact hr (e.trans h)
      · have h9 : k = w2.heap.size := Option.some.inj (e.trans h)
        omega
    · have hs4 : (w3.setCell ⟨w.heap.size, 0, none⟩ (.slice A3 (bs.length + (headF 128 xs.length).length) c3)).heap.size = w3.heap.size := by simp [World.setCell]
      have hs2 := HB2.out.size
      have hs3 := HGROW3.out.size
      rcases hat5 with h | h
      · rcases HAT3.out with h' | h'
        · exact .inl (h.trans h')
        · exact .inr ⟨_, hs2, h.trans h'⟩
      · exact .inr ⟨_, by omega, h⟩
end Go.Proofs.Ytkdpphcalekbdaa.E2
