/- rlp.Size; ref.Check, ref.form, ref.Encode. -/
import Derived.Test.YtkdpphcalekbdaaL1
import Derived.Deep.RegionHeld3
set_option linter.unusedVariables false
set_option linter.unusedSimpArgs false
namespace Go.Proofs.Ytkdpphcalekbdaa.T1
open Go.ChangeShapes Go.WideShapes Go.ChangeAt Go.RowKit
open M W1 G2 H2 E4 L1
set_option maxRecDepth 100000 in
set_option maxHeartbeats 1000000 in
theorem rcheck_deep (n m c0 c1 d : Nat) (A0 A1 : Option Addr) (w : World) (hd : 64 ≤ d) (hd2 : d ≤ 64) :
    Calls Try.prog 50 #[.agg #[.int .i64 1, .slice A0 n c0, .slice A1 m c1], .int .i64 (d : Int)] w fun e w' => e = .returned (.int .i64 44) ∧ Below w.heap.size w w' := by
  have h1 : (64 : Int) ≤ (d : Int) := by omega
  go_enter Try.func50, Try.ntmps50
  go_wp2
  go_returns
  exact ⟨rfl, by go_grown⟩
set_option maxRecDepth 100000 in
set_option maxHeartbeats 1000000 in
theorem rcheck_low (l : Int) (h0 : l < 0) (n m c0 c1 d : Nat) (A0 A1 : Option Addr) (w : World) :
    Calls Try.prog 50 #[.agg #[.int .i64 l, .slice A0 n c0, .slice A1 m c1], .int .i64 (d : Int)] w fun e w' => e = .returned (.int .i64 40) ∧ Below w.heap.size w w' := by
  have h1 : ¬ l = 1 := by omega
  go_enter Try.func50, Try.ntmps50
  go_wp2
  go_returns
  exact ⟨rfl, by go_grown⟩
set_option maxRecDepth 100000 in
set_option maxHeartbeats 1000000 in
theorem rcheck_high (l : Int) (h0 : 1 < l) (n m c0 c1 d : Nat) (A0 A1 : Option Addr) (w : World) :
    Calls Try.prog 50 #[.agg #[.int .i64 l, .slice A0 n c0, .slice A1 m c1], .int .i64 (d : Int)] w fun e w' => e = .returned (.int .i64 40) ∧ Below w.heap.size w w' := by
  have h1 : ¬ l = 1 := by omega
  have h2 : ¬ l < 0 := by omega
  go_enter Try.func50, Try.ntmps50
  go_wp2
  go_returns
  exact ⟨rfl, by go_grown⟩
set_option maxRecDepth 100000 in
set_option maxHeartbeats 1000000 in
theorem rcheck_kids (n m c0 c1 d : Nat) (hm : 0 < m) (A0 A1 : Option Addr) (w : World) :
    Calls Try.prog 50 #[.agg #[.int .i64 0, .slice A0 n c0, .slice A1 m c1], .int .i64 (d : Int)] w fun e w' => e = .returned (.int .i64 40) ∧ Below w.heap.size w w' := by
  have h1 : (0 : Int) < (m : Int) := by omega
  go_enter Try.func50, Try.ntmps50
  go_wp2
  go_returns
  exact ⟨rfl, by go_grown⟩
set_option maxRecDepth 100000 in
set_option maxHeartbeats 1000000 in
theorem rcheck_bytes (n m c0 c1 d : Nat) (hn : 0 < n) (hd : ¬ 64 ≤ d) (A0 A1 : Option Addr) (w : World) :
    Calls Try.prog 50 #[.agg #[.int .i64 1, .slice A0 n c0, .slice A1 m c1], .int .i64 (d : Int)] w fun e w' => e = .returned (.int .i64 40) ∧ Below w.heap.size w w' := by
  have h1 : (0 : Int) < (n : Int) := by omega
  have h2 : ¬ (64 : Int) ≤ (d : Int) := by omega
  go_enter Try.func50, Try.ntmps50
  go_wp2
  go_returns
  exact ⟨rfl, by go_grown⟩
def RCheckSpec (x : It) : Prop := ∀ (S : Nat → Prop) (c0 c1 c2 : Value) (d : Nat) (w : World), ItemR w S x [c0, c1, c2] → (∀ b, S b → b < w.heap.size) → d ≤ 64 → bulk x ≤ 1073741824 →
  Calls Try.prog 50 #[.agg #[c0, c1, c2], .int .i64 (d : Int)] w fun e w' => e = .returned (.int .i64 (checkF d x : Int)) ∧ Below w.heap.size w w'
set_option maxRecDepth 100000 in
set_option maxHeartbeats 2000000 in
theorem rcheck_text (bs : List UInt8) (A Ab : Option Addr) (c cb d : Nat) (w : World) :
    Calls Try.prog 50 #[.agg #[.int .i64 0, .slice Ab bs.length cb, .slice A 0 c], .int .i64 (d : Int)] w fun e w' => e = .returned (.int .i64 0) ∧ Below w.heap.size w w' := by
  go_enter Try.func50, Try.ntmps50
  go_wp2_with fail
  go_loopw [5] (fun i wr => i = .int .i64 0 ∧ wr = w.alloc (.cells #[.int .i64 0, .slice Ab bs.length cb, .slice A 0 c] 27)) (fun _ _ => 0)
  case atStart => exact ⟨rfl, rfl⟩
  case round =>
    obtain ⟨rfl, rfl⟩ := hrel
    go_wp2_with fail
    go_ret
    exact ⟨rfl, by go_grown⟩
set_option maxRecDepth 100000 in
set_option maxHeartbeats 2000000 in
theorem rcheck_loop (ks : List It) (ih : ∀ k ∈ ks, RCheckSpec k) (S : Nat → Prop) (Ab A : Option Addr) (cb c : Nat) (d : Nat) (w : World)
    (inner : List Value) (hr : RdS w S 3 A ks.length inner) (hk : KidsR w S ks inner) (hS : ∀ b, S b → b < w.heap.size) (hd : d < 64) (hbulk : bulks ks ≤ 1073741824) :
    Calls Try.prog 50 #[.agg #[.int .i64 1, .slice Ab 0 cb, .slice A ks.length c], .int .i64 (d : Int)] w fun e w' => e = .returned (.int .i64 (checksF (d + 1) ks : Int)) ∧ Below w.heap.size w w' := by
  have hkl := bulks_length ks
  have Hr := Lib.hid hr
  have Hk := Lib.hid hk
  have HS := Lib.hid hS
  have Hih := Lib.hid ih
  have Hbk := Lib.hid hbulk
  have hdi : ¬ (64 : Int) ≤ (d : Int) := by omega
  have hll : ks.length ≤ 1073741824 := by omega
  clear hr hk hS ih hbulk hkl
  go_enter Try.func50, Try.ntmps50
  go_wp2_with fail
  go_loopw [5] (fun i wr => ∃ k : Nat, k ≤ ks.length ∧ i = .int .i64 (k : Int) ∧ Below (w.heap.size + 1) (w.alloc (.cells #[.int .i64 1, .slice Ab 0 cb, .slice A ks.length c] 27)) wr ∧ ∀ j (hj : j < ks.length), j < k → checkF (d + 1) (ks[j]'hj) = 0) (fun i _ => ks.length - (intOf i).toNat)
  case atStart => exact ⟨0, by omega, rfl, Below.refl _ _, fun j _ h => absurd h (by omega)⟩
  case round =>
    obtain ⟨k, hk, rfl, hB, hpre⟩ := hrel
    have ex : Hid (wr.heap[w.heap.size]? = some (.cells #[.int .i64 1, .slice Ab 0 cb, .slice A ks.length c] 27 (0, 0))) := (hB.block w.heap.size (by omega)).trans (by rw [heap_alloc, if_pos rfl])
    have x2 := (block_cells ex.out).2.2.1
    have hw : Below w.heap.size w wr := ((Below.refl _ w).alloc (Nat.le_refl _) _).trans (hB.mono (by omega))
    have HB := Lib.hid hw
    have HBB := Lib.hid hB
    have Hpre := Lib.hid hpre
    clear hpre hB
    by_cases hlt : k < ks.length
    · obtain ⟨ga, offa, rfl, hSa, hcell⟩ := Hr.out.2 (by omega)
      obtain ⟨d0, d1, d2, hd0, hd1, hd2, hit⟩ := Hk.out.at_ k hlt
      have hga := HS.out ga hSa
      have e0 := (hw.cell (p := ⟨ga, offa + 3 * k, none⟩) hga).trans (hcell _ _ hd0)
      have e1 := (hw.cell (p := ⟨ga, offa + (3 * k + 1), none⟩) hga).trans (hcell _ _ hd1)
      have e2 := (hw.cell (p := ⟨ga, offa + (3 * k + 2), none⟩) hga).trans (hcell _ _ hd2)
      rw [show 3 * k = k * 3 from Nat.mul_comm _ _, ← Nat.add_assoc] at e1 e2
      rw [show 3 * k = k * 3 from Nat.mul_comm _ _] at e0
      obtain ⟨⟨fl, rfl⟩, ⟨fA, fn, fc, rfl⟩, ⟨fB, fm, fd, rfl⟩⟩ := item_shape hit
      have HC : Hid (∀ dd : Int, dd = ((d + 1 : Nat) : Int) → Calls Try.prog 50 #[.agg #[.int .i64 fl, .slice fA fn fc, .slice fB fm fd], .int .i64 dd] wr fun e w' => e = .returned (.int .i64 (checkF (d + 1) (ks[k]'hlt) : Int)) ∧ Below wr.heap.size wr w') := fun dd hdd => by
        subst hdd
        exact Hih.out _ (List.getElem_mem hlt) S _ _ _ (d + 1) wr (ItemR.keep (fun b hb => HB.out.block b (HS.out b hb)) _ _ hit) (fun b hb => Nat.lt_of_lt_of_le (HS.out b hb) HB.out.size) (by omega) (Nat.le_trans (bulks_mem (List.getElem_mem hlt)) Hbk.out)
      clear hcell hd0 hd1 hd2 hit hw
      by_cases hz : checkF (d + 1) (ks[k]'hlt) = 0
      · have HC0 : Hid (∀ dd : Int, dd = ((d + 1 : Nat) : Int) → Calls Try.prog 50 #[.agg #[.int .i64 fl, .slice fA fn fc, .slice fB fm fd], .int .i64 dd] wr fun e w' => e = .returned (.int .i64 0) ∧ Below wr.heap.size wr w') := fun dd hdd => by
          have := HC.out dd hdd
          rw [hz] at this
          exact this
        have Hz := Lib.hid hz
        clear hz HC
        go_wp2_with (first | (go_at_call 50; refine (HC0.out _ (by omega)).mono ?_; rintro e w1 ⟨rfl, hbl⟩))
        go_roundw
        case rel =>
          refine ⟨k + 1, by omega, by go_num, HBB.out.trans (hbl.mono (by have := HBB.out.size; rw [size_alloc] at this; omega)), fun j hj hjk => ?_⟩
          rcases Nat.lt_or_ge j k with h | h
          · exact Hpre.out j hj h
          · obtain rfl : j = k := by omega
            exact Hz.out
        case measure => simp [intOf]; omega
      · have Hfin : Hid (checksF (d + 1) ks = checkF (d + 1) (ks[k]'hlt)) := checksF_first ks (d + 1) k hlt (fun j hj h => Hpre.out j hj h) hz
        have hzi : ¬ ((checkF (d + 1) (ks[k]'hlt) : Nat) : Int) = 0 := by omega
        clear hz
        go_wp2_with (first | (go_at_call 50; refine (HC.out _ (by omega)).mono ?_; rintro e w1 ⟨rfl, hbl⟩))
        go_ret
        exact ⟨by rw [Hfin.out]; rfl, HB.out.trans (hbl.mono HB.out.size)⟩
    · obtain rfl : k = ks.length := by omega
      have Hfin : Hid (checksF (d + 1) ks = 0) := checksF_zero ks (d + 1) (fun y hy => by
        obtain ⟨j, hj, rfl⟩ := List.getElem_of_mem hy
        exact Hpre.out j hj hj)
      clear hw
      go_wp2_with fail
      go_ret
      exact ⟨by rw [Hfin.out]; rfl, HB.out⟩
/-- ref.Check is checkF. -/
theorem rcheck50 (x : It) : RCheckSpec x := by
  refine It.ind ?_ x
  intro l bs ks ih S c0 c1 c2 d w hx hS hd hbulk
  simp only [ItemR] at hx
  obtain ⟨v, A, c, inner, e, hb, h1, h2, hr, hk⟩ := hx
  simp only [List.cons.injEq, and_true] at e
  obtain ⟨rfl, rfl, rfl⟩ := e
  obtain ⟨Ab, cb, rfl, hb1, hb2, hbR⟩ := hb
  have hbk : bulks ks ≤ 1073741824 := by simp only [bulk] at hbulk; omega
  rw [checkF]
  by_cases hA : l = 1 ∧ 64 ≤ d
  · rw [if_pos hA]
    obtain ⟨rfl, hd64⟩ := hA
    exact rcheck_deep _ _ _ _ d _ _ w hd64 hd
  · rw [if_neg hA]
    by_cases hB : (l ≠ 0 ∧ l ≠ 1) ∨ (l = 0 ∧ 0 < ks.length) ∨ (l = 1 ∧ 0 < bs.length)
    · rw [if_pos hB]
      rcases hB with ⟨a, b⟩ | ⟨rfl, b⟩ | ⟨rfl, b⟩
      · rcases Int.lt_or_gt_of_ne a with h | h
        · exact rcheck_low l h _ _ _ _ d _ _ w
        · exact rcheck_high l (by omega) _ _ _ _ d _ _ w
      · exact rcheck_kids _ _ _ _ d b _ _ w
      · exact rcheck_bytes _ _ _ _ d b (fun h => hA ⟨rfl, h⟩) _ _ w
    · rw [if_neg hB]
      by_cases h0 : l = 0
      · subst h0
        have hks : ks = [] := List.eq_nil_of_length_eq_zero (by
          rcases Nat.eq_zero_or_pos ks.length with h | h
          · exact h
          · exact absurd (.inr (.inl ⟨rfl, h⟩)) hB)
        subst hks
        exact rcheck_text bs A Ab c cb d w
      · have h9 : l = 1 := by
          by_cases h1 : l = 1
          · exact h1
          · exact absurd (.inl ⟨h0, h1⟩) hB
        subst h9
        have hbs : bs = [] := List.eq_nil_of_length_eq_zero (by
          rcases Nat.eq_zero_or_pos bs.length with h | h
          · exact h
          · exact absurd (.inr (.inr ⟨rfl, h⟩)) hB)
        subst hbs
        exact rcheck_loop ks ih S Ab A cb c d w inner hr hk hS (by
          rcases Nat.lt_or_ge d 64 with h | h
          · exact h
          · exact absurd ⟨rfl, h⟩ hA) hbk
set_option maxRecDepth 100000 in
set_option maxHeartbeats 1000000 in
theorem size19_err (x : It) (S : Nat → Prop) (c0 c1 c2 : Value) (w : World) (hx : ItemR w S x [c0, c1, c2]) (hS : ∀ b, S b → b < w.heap.size) (hb : bulk x ≤ 2097152) (h : checkF 0 x ≠ 0) :
    Calls Try.prog 19 #[.agg #[c0, c1, c2]] w fun e w' => e = .returned (.tuple #[.int .i64 0, .int .i64 (checkF 0 x : Int)]) ∧ Below w.heap.size w w' := by
  have HC : Hid (∀ W, Below w.heap.size w W → Calls Try.prog 46 #[.agg #[c0, c1, c2], .int .i64 0] W fun e w' => e = .returned (.int .i64 (checkF 0 x : Int)) ∧ Below W.heap.size W w') := fun W hW =>
    H3.check46 x S c0 c1 c2 0 W (ItemR.keep (fun b hb => hW.block b (hS b hb)) _ _ hx) (fun b hb => Nat.lt_of_lt_of_le (hS b hb) hW.size) (by omega) (by omega)
  obtain ⟨⟨fl, rfl⟩, ⟨fA, fn, fc, rfl⟩, ⟨fB, fm, fd, rfl⟩⟩ := item_shape hx
  have hzi : ¬ ((checkF 0 x : Nat) : Int) = 0 := by omega
  clear hx hS hb h
  generalize checkF 0 x = r at HC hzi ⊢
  go_enter Try.func19, Try.ntmps19
  go_wp2_with (first
    | (go_at_call 46; refine (HC.out _ (by go_grown)).mono ?_
       rintro e w1 ⟨rfl, hbl⟩
       have HB1 : Hid (Below w.heap.size w w1) := ((Below.refl _ w).alloc (Nat.le_refl _) _).trans (hbl.mono (by rw [size_alloc]; omega))
       clear hbl))
  go_ret2
  exact ⟨rfl, HB1.out⟩
set_option maxRecDepth 100000 in
set_option maxHeartbeats 1000000 in
theorem size19_ok (x : It) (S : Nat → Prop) (c0 c1 c2 : Value) (w : World) (hx : ItemR w S x [c0, c1, c2]) (hS : ∀ b, S b → b < w.heap.size) (hb : bulk x ≤ 2097152) (h : checkF 0 x = 0) :
    Calls Try.prog 19 #[.agg #[c0, c1, c2]] w fun e w' => e = .returned (.tuple #[.int .i64 ((formF x).length : Int), .int .i64 0]) ∧ Below w.heap.size w w' := by
  have HC : Hid (∀ W, Below w.heap.size w W → Calls Try.prog 46 #[.agg #[c0, c1, c2], .int .i64 0] W fun e w' => e = .returned (.int .i64 0) ∧ Below W.heap.size W w') := fun W hW => by
    have := H3.check46 x S c0 c1 c2 0 W (ItemR.keep (fun b hb => hW.block b (hS b hb)) _ _ hx) (fun b hb => Nat.lt_of_lt_of_le (hS b hb) hW.size) (by omega) (by omega)
    rw [h] at this
    exact this
  have HE : Hid (∀ W, Below w.heap.size w W → Calls Try.prog 49 #[.agg #[c0, c1, c2]] W fun e w' => e = .returned (.tuple #[.int .i64 ((formF x).length : Int), .int .i64 ((payF x).length : Int)]) ∧ Below W.heap.size W w') := fun W hW =>
    size49 x S c0 c1 c2 W (check_wf x 0 h) (ItemR.keep (fun b hb => hW.block b (hS b hb)) _ _ hx) (fun b hb => Nat.lt_of_lt_of_le (hS b hb) hW.size) (by omega)
  obtain ⟨⟨fl, rfl⟩, ⟨fA, fn, fc, rfl⟩, ⟨fB, fm, fd, rfl⟩⟩ := item_shape hx
  clear hx hS hb h
  generalize (formF x).length = fx at *
  generalize (payF x).length = px at *
  go_enter Try.func19, Try.ntmps19
  go_wp2_with (first
    | (go_at_call 46; refine (HC.out _ (by go_grown)).mono ?_
       rintro e w1 ⟨rfl, hbl⟩
       have hx0 := (hbl.block w.heap.size (by rw [size_alloc]; omega)).trans (show _ = some (Obj.cells #[.int .i64 fl, .slice fA fn fc, .slice fB fm fd] 27 (0, 0)) by rw [heap_alloc, if_pos rfl])
       obtain ⟨y0, y1, y2, y3⟩ := block_cells hx0
       have HB1 : Hid (Below w.heap.size w w1) := ((Below.refl _ w).alloc (Nat.le_refl _) _).trans (hbl.mono (by rw [size_alloc]; omega))
       clear hbl hx0)
    | (go_at_call 49; refine (HE.out _ HB1.out).mono ?_
       rintro e w2 ⟨rfl, hbl⟩
       have HB2 : Hid (Below w.heap.size w w2) := HB1.out.trans (hbl.mono HB1.out.size)
       clear hbl))
  go_ret2
  exact ⟨rfl, HB2.out⟩
/-- What ref.form makes. -/
def RFormSpec (x : It) : Prop := ∀ (S : Nat → Prop) (c0 c1 c2 : Value) (w : World), wfI x → ItemR w S x [c0, c1, c2] → (∀ b, S b → b < w.heap.size) → bulk x ≤ 2097152 →
  Calls Try.prog 51 #[.agg #[c0, c1, c2]] w fun e w' => ∃ v, e = .returned v ∧ M.Own w' w.heap.size v (formF x) ∧ Below w.heap.size w w'
theorem own_grow {w2 : World} {base : Nat} {v' : Value} {a b : List UInt8} (h : w2.ownsRow base 5 1 v' (a.length + b.length) (nums a ++ nums b)) : M.Own w2 base v' (a ++ b) := by
  unfold M.Own
  rw [List.length_append, nums_append]
  exact h
set_option maxRecDepth 100000 in
set_option maxHeartbeats 1000000 in
theorem rform_small (b0 : UInt8) (hb0 : b0.toNat < 128) : RFormSpec (.mk 0 [b0] []) := by
  intro S c0 c1 c2 w hwf hx hS hbulk
  simp only [ItemR] at hx
  obtain ⟨v, A, c, inner, e, hb, h1, h2, hr, hk⟩ := hx
  simp only [List.cons.injEq, and_true] at e
  obtain ⟨rfl, rfl, rfl⟩ := e
  obtain ⟨Ab, cb, rfl, hb1, hb2, hbR⟩ := hb
  have HF3 := Lib.hid (show formF (.mk 0 [b0] []) = [b0] from by simp [formF, hb0])
  have HRd : Hid (∀ W, Below w.heap.size w W → Rd W 0 w.heap.size 1 Ab 1 (nums [b0])) := fun W hW => (hbR.toRd fun b hb => ⟨Nat.zero_le _, hS b hb⟩).keep (Same.of_below hW (Nat.le_refl _))
  obtain ⟨g, off, rfl, hSg, hcell⟩ := hbR.2 (by simp)
  have hg := hS g hSg
  have hc : w.cell? ⟨g, off, none⟩ = some (.int .u8 (b0.toNat : Int)) := hcell 0 _ rfl
  have hbi : (b0.toNat : Int) < 128 := by omega
  have HO1 : Hid (((w.alloc (.cells #[.int .i64 0, .slice (some ⟨g, off, none⟩) 1 cb, .slice A 0 c] 27)).alloc (.cells #[] 5)).ownsRow w.heap.size 5 1 (.slice (some ⟨w.heap.size + 1, 0, none⟩) 0 0) 0 []) := by
    have := own_empty (w.alloc (.cells #[.int .i64 0, .slice (some ⟨g, off, none⟩) 1 cb, .slice A 0 c] 27)) w.heap.size (by rw [size_alloc]; omega)
    rwa [size_alloc] at this
  have HB2 : Hid (Below w.heap.size w ((w.alloc (.cells #[.int .i64 0, .slice (some ⟨g, off, none⟩) 1 cb, .slice A 0 c] 27)).alloc (.cells #[] 5))) := ((Below.refl _ w).alloc (Nat.le_refl _) _).alloc (by rw [size_alloc]; omega) _
  clear hcell hbR hS hr hk hwf hbulk
  go_enter Try.func51, Try.ntmps51
  go_wp2_with (first
    | (at_builtin; refine wp_append rfl (.tmp 19) (.tmp 21) 23 5 (.int .u8 0) 1 1 rfl Try.underlying23 M.info5 rfl (by omega) w.heap.size 0 w.heap.size _ 0 [] (some ⟨g, off, none⟩) 1 cb (nums [b0]) rfl rfl HO1.out (HRd.out _ HB2.out) (nums_one _) (by simp [maxLen]) (by omega) HB2.out.size ?_; intro v' w2 hown2 hgrow2 hat2))
  go_ret
  rw [HF3.out]
  refine ⟨v', rfl, ?_, HB2.out.grown hgrow2 HB2.out.size (fun b hb => (World.ownsRow.lt HO1.out b hb).1)⟩
  exact own_grow (a := []) hown2
end Go.Proofs.Ytkdpphcalekbdaa.T1
