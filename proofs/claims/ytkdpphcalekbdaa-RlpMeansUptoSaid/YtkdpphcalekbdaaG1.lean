/- ref.Same. -/
import Derived.Test.YtkdpphcalekbdaaF1
import Derived.Lib.SlBytesRow
import Derived.Laws.BytesString
set_option linter.unusedVariables false
set_option linter.unusedSimpArgs false
namespace Go.Proofs.Ytkdpphcalekbdaa.G1
open Go.ChangeShapes Go.WideShapes Go.ChangeAt Go.RowKit
open M
/-- Bytes as a string. -/
def strOf (bs : List UInt8) : ByteArray := ⟨bs.toArray⟩
theorem strOf_list (a : List UInt8) : (strOf a).toList = a := by rw [ByteArray.toList_eq]; simp [strOf]
theorem strOf_size (a : List UInt8) : (strOf a).size = a.length := by show a.toArray.size = _; simp
theorem strOf_inj {a b : List UInt8} : strOf a = strOf b ↔ a = b := by
  constructor
  · intro h
    have : (strOf a).data = (strOf b).data := by rw [h]
    simpa [strOf] using this
  · intro h; rw [h]
theorem str_of {w : World} {lo hi : Nat} {A : Option Addr} {n c : Nat} {bs : List UInt8} (hn : n = bs.length) (h : Rd w lo hi 1 A n (nums bs)) :
    (convert 23 9 (.slice A n c)).run Try.prog w = .ok (.string (strOf bs)) w := by
  subst hn
  rcases Nat.eq_zero_or_pos bs.length with h0 | h0
  · have hb : bs = [] := List.eq_nil_of_length_eq_zero h0
    subst hb
    rw [run_convert_bytes_string w 23 9 5 _ _ c Try.underlying23 Try.underlying5 Try.underlying9]
    cases A with
    | none => simp [Conv.bytesToString]; rfl
    | some a => simp [Conv.bytesToString, loadCells, loadCellsFrom]; rfl
  · obtain ⟨g, off, rfl, _, _, hc⟩ := h.2 h0
    have := Lib.run_convert_whole (P := Try.prog) w 23 5 9 Try.underlying23 Try.underlying5 Try.underlying9 g off (strOf bs) (fun i hi => by
      have hi' : i < bs.length := by rw [strOf_size] at hi; exact hi
      exact hc i _ (by rw [nums_get bs i hi']; rfl)) c
    rw [strOf_size] at this
    exact this
/-- ref.Same tells equal items. -/
def SameSpec (f : Nat) (x : It) : Prop := ∀ (y : It) (S S' : Nat → Prop) (c0 c1 c2 e0 e1 e2 : Value) (w : World), ItemR w S x [c0, c1, c2] → ItemR w S' y [e0, e1, e2] → (∀ b, S b → b < w.heap.size) → (∀ b, S' b → b < w.heap.size) →
  Calls Try.prog f #[.agg #[c0, c1, c2], .agg #[e0, e1, e2]] w fun e w' => ∃ b : Bool, e = .returned (.bool b) ∧ (b = true ↔ x = y) ∧ Below w.heap.size w w'
set_option maxRecDepth 100000 in
set_option maxHeartbeats 2000000 in
theorem same17 (x : It) : SameSpec 17 x := by
  refine It.ind ?_ x
  intro l bs ks ih y S S' c0 c1 c2 e0 e1 e2 w hx hy hS hS'
  obtain ⟨l', bs', ks', rfl⟩ : ∃ l' bs' ks', y = .mk l' bs' ks' := by cases y; exact ⟨_, _, _, rfl⟩
  simp only [ItemR] at hx hy
  obtain ⟨v, A, c, inner, e, hb, h1, h2, hr, hk⟩ := hx
  simp only [List.cons.injEq, and_true] at e
  obtain ⟨rfl, rfl, rfl⟩ := e
  obtain ⟨Ab, cb, rfl, hb1, hb2, hbR⟩ := hb
  obtain ⟨v, A', c', inner', e, hb', h1', h2', hr', hk'⟩ := hy
  simp only [List.cons.injEq, and_true] at e
  obtain ⟨rfl, rfl, rfl⟩ := e
  obtain ⟨Ab', cb', rfl, hb1', hb2', hbR'⟩ := hb'
  have q1 : ∀ W : World, Below w.heap.size w W → (convert 23 9 (.slice Ab bs.length cb)).run Try.prog W = .ok (.string (strOf bs)) W := fun W hW => str_of rfl ((hbR.toRd fun b hb => ⟨Nat.zero_le _, hS b hb⟩).keep (Same.of_below hW (Nat.le_refl _)))
  have q2 : ∀ W : World, Below w.heap.size w W → (convert 23 9 (.slice Ab' bs'.length cb')).run Try.prog W = .ok (.string (strOf bs')) W := fun W hW => str_of rfl ((hbR'.toRd fun b hb => ⟨Nat.zero_le _, hS' b hb⟩).keep (Same.of_below hW (Nat.le_refl _)))
  have q3 := q1 ((w.alloc (.cells #[.int .i64 l, .slice Ab bs.length cb, .slice A ks.length c] 27)).alloc (.cells #[.int .i64 l', .slice Ab' bs'.length cb', .slice A' ks'.length c'] 27)) (by go_grown)
  have q4 := q2 ((w.alloc (.cells #[.int .i64 l, .slice Ab bs.length cb, .slice A ks.length c] 27)).alloc (.cells #[.int .i64 l', .slice Ab' bs'.length cb', .slice A' ks'.length c'] 27)) (by go_grown)
  have Hr := Lib.hid hr
  have Hk := Lib.hid hk
  have HS := Lib.hid hS
  have Hr' := Lib.hid hr'
  have Hk' := Lib.hid hk'
  have HS' := Lib.hid hS'
  have Hih := Lib.hid ih
  clear hbR hbR' hr hk hS hr' hk' hS' ih q1 q2
  by_cases hl : l = l'
  · subst hl
    by_cases hbs : bs = bs'
    · have hst : ((strOf bs).toList == (strOf bs').toList) = true := by simp [strOf_list, hbs]
      have Hbs := Lib.hid hbs
      clear hbs
      by_cases hlen : ks.length = ks'.length
      · have Hlen := Lib.hid hlen
        rw [← hlen] at q3 q4 h1' ⊢
        clear hlen
        go_enter Try.func17, Try.ntmps17
        go_wp2_with fail
        go_loopw [5] (fun i wr => ∃ k : Nat, k ≤ ks.length ∧ i = .int .i64 k ∧ Below (w.heap.size + 2) ((w.alloc (.cells #[.int .i64 l, .slice Ab bs.length cb, .slice A ks.length c] 27)).alloc (.cells #[.int .i64 l, .slice Ab' bs'.length cb', .slice A' ks.length c'] 27)) wr ∧ ∀ j (hj : j < ks.length) (hj' : j < ks'.length), j < k → ks[j]'hj = ks'[j]'hj') (fun i _ => ks.length - (intOf i).toNat)
        case atStart => exact ⟨0, by omega, rfl, Below.refl _ _, fun j _ _ h => absurd h (by omega)⟩
        case round =>
          obtain ⟨k, hk, rfl, hB, hsame⟩ := hrel
          have Hx := Lib.hid (hB.block w.heap.size (by omega))
          have Hy := Lib.hid (hB.block (w.heap.size + 1) (by omega))
          have ex : Hid (wr.heap[w.heap.size]? = some (.cells #[.int .i64 l, .slice Ab bs.length cb, .slice A ks.length c] 27 (0, 0))) := Hx.out.trans (by rw [heap_alloc, if_neg (by rw [size_alloc]; omega), heap_alloc, if_pos rfl])
          have ey : Hid (wr.heap[w.heap.size + 1]? = some (.cells #[.int .i64 l, .slice Ab' bs'.length cb', .slice A' ks.length c'] 27 (0, 0))) := Hy.out.trans (by rw [heap_alloc, if_pos (by rw [size_alloc])])
          clear Hx Hy
          have x2 := (block_cells ex.out).2.2.1
          have y2 := (block_cells ey.out).2.2.1
          have HB := Lib.hid hB
          have Hsame := Lib.hid hsame
          clear hB hsame
          by_cases hlt : k < ks.length
          · have hlt' : k < ks'.length := by rw [← Hlen.out]; exact hlt
            obtain ⟨ga, offa, rfl, hSa, hcell⟩ := Hr.out.2 (by omega)
            obtain ⟨d0, d1, d2, hd0, hd1, hd2, hit⟩ := Hk.out.at_ k hlt
            obtain ⟨gb, offb, rfl, hSb, hcell'⟩ := Hr'.out.2 (by rw [← Hlen.out]; omega)
            obtain ⟨f0, f1, f2, hf0, hf1, hf2, hit'⟩ := Hk'.out.at_ k hlt'
            have hw1 : Hid (∀ W, Below wr.heap.size wr W → Below w.heap.size w W) := fun W hW => ((((Below.refl _ w).alloc (Nat.le_refl _) _).alloc (by rw [size_alloc]; omega) _).trans (HB.out.mono (by omega))).trans (hW.mono (Nat.le_trans (by simp only [size_alloc]; omega) HB.out.size))
            have hz := HB.out.size
            simp only [size_alloc] at hz
            have HK : Hid (∀ W, Below wr.heap.size wr W → W.cell? ⟨w.heap.size, 2, none⟩ = some (.slice (some ⟨ga, offa, none⟩) ks.length c) ∧ W.cell? ⟨w.heap.size + 1, 2, none⟩ = some (.slice (some ⟨gb, offb, none⟩) ks.length c') ∧ W.cell? ⟨ga, offa + k * 3, none⟩ = some d0 ∧ W.cell? ⟨ga, offa + k * 3 + 1, none⟩ = some d1 ∧ W.cell? ⟨ga, offa + k * 3 + 2, none⟩ = some d2 ∧ W.cell? ⟨gb, offb + k * 3, none⟩ = some f0 ∧ W.cell? ⟨gb, offb + k * 3 + 1, none⟩ = some f1 ∧ W.cell? ⟨gb, offb + k * 3 + 2, none⟩ = some f2) := fun W hW => by
              have a1 := fun o => (hw1.out W hW).cell (p := ⟨ga, o, none⟩) (HS.out ga hSa)
              have a2 := fun o => (hw1.out W hW).cell (p := ⟨gb, o, none⟩) (HS'.out gb hSb)
              refine ⟨(hW.cell (p := ⟨w.heap.size, 2, none⟩) (show w.heap.size < wr.heap.size by omega)).trans x2, (hW.cell (p := ⟨w.heap.size + 1, 2, none⟩) (show w.heap.size + 1 < wr.heap.size by omega)).trans y2, ?_, ?_, ?_, ?_, ?_, ?_⟩
              · rw [a1, ← hcell _ _ hd0, Nat.mul_comm]
              · rw [a1, ← hcell _ _ hd1, Nat.mul_comm, Nat.add_assoc]
              · rw [a1, ← hcell _ _ hd2, Nat.mul_comm, Nat.add_assoc]
              · rw [a2, ← hcell' _ _ hf0, Nat.mul_comm]
              · rw [a2, ← hcell' _ _ hf1, Nat.mul_comm, Nat.add_assoc]
              · rw [a2, ← hcell' _ _ hf2, Nat.mul_comm, Nat.add_assoc]
            have K1 : Hid (∀ W, Below wr.heap.size wr W → ItemR W S (ks[k]'hlt) [d0, d1, d2]) := fun W hW => ItemR.keep (fun b hb => (hw1.out W hW).block b (HS.out b hb)) _ _ hit
            have K2 : Hid (∀ W, Below wr.heap.size wr W → ItemR W S' (ks'[k]'hlt') [f0, f1, f2]) := fun W hW => ItemR.keep (fun b hb => (hw1.out W hW).block b (HS'.out b hb)) _ _ hit'
            have K3 : Hid (∀ W, Below wr.heap.size wr W → (∀ b, S b → b < W.heap.size) ∧ ∀ b, S' b → b < W.heap.size) := fun W hW => ⟨fun b hb => Nat.lt_of_lt_of_le (HS.out b hb) (hw1.out W hW).size, fun b hb => Nat.lt_of_lt_of_le (HS'.out b hb) (hw1.out W hW).size⟩
            clear hcell hd0 hd1 hd2 hcell' hf0 hf1 hf2 hit hit'
            go_wp2_with fail
            go_region_held3 (fun w' => w'.cell? ⟨w.heap.size, 2, none⟩ = some (.slice (some ⟨ga, offa, none⟩) ks.length c) ∧ w'.cell? ⟨w.heap.size + 1, 2, none⟩ = some (.slice (some ⟨gb, offb, none⟩) ks.length c') ∧ w'.cell? ⟨ga, offa + k * 3, none⟩ = some d0 ∧ w'.cell? ⟨ga, offa + k * 3 + 1, none⟩ = some d1 ∧ w'.cell? ⟨ga, offa + k * 3 + 2, none⟩ = some d2 ∧ w'.cell? ⟨gb, offb + k * 3, none⟩ = some f0 ∧ w'.cell? ⟨gb, offb + k * 3 + 1, none⟩ = some f1 ∧ w'.cell? ⟨gb, offb + k * 3 + 2, none⟩ = some f2)
              ((refine HK.out _ ?_; first | (with_reducible exact Below.refl _ _) | (with_reducible exact HB2.out) | (with_reducible exact (Below.refl _ _).drew)))
              (first
                | (go_at_call 17; refine (Hih.out (ks[k]'hlt) (List.getElem_mem hlt) (ks'[k]'hlt') S S' d0 d1 d2 f0 f1 f2 _ (K1.out _ (Below.drew (Below.refl _ _))) (K2.out _ (Below.drew (Below.refl _ _))) (K3.out _ (Below.drew (Below.refl _ _))).1 (K3.out _ (Below.drew (Below.refl _ _))).2).mono ?_
                   rintro e w1 ⟨b, rfl, hb, hbl⟩
                   have Hb := Lib.hid hb
                   have HB2 : Hid (Below wr.heap.size wr w1) := undrew hbl
                   clear hb hbl))
            cases b with
            | false =>
              have Hno : Hid (¬ It.mk l bs ks = It.mk l bs' ks') := fun h => by
                injection h with _ _ h
                have : ks[k]'hlt = ks'[k]'hlt' := by simp only [h]
                exact absurd (Hb.out.2 this) (by decide)
              go_wp2_with fail
              go_ret
              exact ⟨false, rfl, by simp [Hno.out], hw1.out _ HB2.out⟩
            | true =>
              have hkk := Hb.out.1 rfl
              have Hkk := Lib.hid hkk
              clear hkk
              go_wp2_with fail
              go_roundw
              case rel =>
                refine ⟨k + 1, by omega, by go_num, HB.out.trans (HB2.out.mono (by omega)), fun j hj hj' hjk => ?_⟩
                rcases Nat.lt_or_ge j k with h | h
                · exact Hsame.out j hj hj' h
                · obtain rfl : j = k := by omega
                  exact Hkk.out
              case measure => simp [intOf]; omega
          · obtain rfl : k = ks.length := by omega
            have Heq : Hid (It.mk l bs ks = It.mk l bs' ks') := (show _ = _ from by
              rw [Hbs.out, show ks = ks' from List.ext_getElem Hlen.out (fun j h h' => Hsame.out j h h' h)])
            go_wp2_with fail
            go_ret
            exact ⟨true, rfl, by simp [Heq.out], (((Below.refl _ w).alloc (Nat.le_refl _) _).alloc (by rw [size_alloc]; omega) _).trans (HB.out.mono (by omega))⟩
      · have Hno : Hid (¬ It.mk l bs ks = It.mk l bs' ks') := fun h => hlen (by injection h with _ _ h; rw [h])
        have hlen' : ¬ ((ks.length : Int) = (ks'.length : Int)) := by omega
        go_enter Try.func17, Try.ntmps17
        go_wp2_with fail
        go_ret
        exact ⟨false, rfl, by simp [Hno.out], by go_grown⟩
    · have hst : ((strOf bs).toList == (strOf bs').toList) = false := by simp [strOf_list, hbs]
      have Hno : Hid (¬ It.mk l bs ks = It.mk l bs' ks') := fun h => hbs (by injection h)
      clear hbs
      go_enter Try.func17, Try.ntmps17
      go_wp2_with fail
      go_ret
      exact ⟨false, rfl, by simp [Hno.out], by go_grown⟩
  · have Hno : Hid (¬ It.mk l bs ks = It.mk l' bs' ks') := fun h => hl (by injection h)
    go_enter Try.func17, Try.ntmps17
    go_wp2_with fail
    go_ret
    exact ⟨false, rfl, by simp [Hno.out], by go_grown⟩
end Go.Proofs.Ytkdpphcalekbdaa.G1
