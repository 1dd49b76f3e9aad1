/- rlp.Same (bytes.Equal, slices.EqualFunc), Envelope, Open; ref.Open. -/
import Derived.Test.YtkdpphcalekbdaaL1
import Derived.Deep.RegionHeld3
set_option linter.unusedVariables false
set_option linter.unusedSimpArgs false
namespace Go.Proofs.Ytkdpphcalekbdaa.T4
open Go.ChangeShapes Go.WideShapes Go.ChangeAt Go.RowKit
open M W1 G1 L1
set_option maxRecDepth 100000 in
set_option maxHeartbeats 1000000 in
theorem equal59 {lo hi lo' hi' : Nat} {A A' : Option Addr} {c c' : Nat} {bs bs' : List UInt8} (w : World) (h : Bs w lo hi (.slice A bs.length c) bs) (h' : Bs w lo' hi' (.slice A' bs'.length c') bs') :
    Calls Try.prog 59 #[.slice A bs.length c, .slice A' bs'.length c'] w fun e w' => ∃ b : Bool, e = .returned (.bool b) ∧ (b = true ↔ bs = bs') ∧ Below w.heap.size w w' := by
  have k1 := str_bs h
  have k2 := str_bs h'
  have hq : Hid ((((strOf bs).toList == (strOf bs').toList) = true) ↔ bs = bs') := by
    have h : (((strOf bs).toList == (strOf bs').toList) = true) ↔ bs = bs' := by rw [beq_iff_eq, strOf_list, strOf_list]
    exact h
  generalize strOf bs = q1 at *
  generalize strOf bs' = q2 at *
  clear h h'
  go_enter Try.func59, Try.ntmps59
  go_wp2
  go_ret
  exact ⟨_, rfl, hq.out, by go_grown⟩
set_option maxRecDepth 100000 in
set_option maxHeartbeats 2000000 in
theorem equalFunc60 (ks ks' : List It) (ih : ∀ k ∈ ks, SameSpec 31 k) (S S' : Nat → Prop) (A A' : Option Addr) (c c' : Nat) (inner inner' : List Value) (w : World) (hr : RdS w S 3 A ks.length inner) (hk : KidsR w S ks inner) (hr' : RdS w S' 3 A' ks'.length inner') (hk' : KidsR w S' ks' inner')
    (hS : ∀ b, S b → b < w.heap.size) (hS' : ∀ b, S' b → b < w.heap.size) (hl1 : ks.length ≤ 9223372036854775807) :
    Calls Try.prog 60 #[.slice A ks.length c, .slice A' ks'.length c', .func (.func 31) #[] #[]] w fun e w' => ∃ b : Bool, e = .returned (.bool b) ∧ (b = true ↔ ks = ks') ∧ Below w.heap.size w w' := by
  have Hr := Lib.hid hr
  have Hk := Lib.hid hk
  have HS := Lib.hid hS
  have Hr' := Lib.hid hr'
  have Hk' := Lib.hid hk'
  have HS' := Lib.hid hS'
  have Hih := Lib.hid ih
  clear hr hk hr' hk' hS hS' ih
  by_cases hlen : ks.length = ks'.length
  · have Hlen := Lib.hid hlen
    rw [← hlen]
    clear hlen
    go_enter Try.func60, Try.ntmps60
    go_wp2_with fail
    go_loopw [17] (fun i wr => ∃ k : Nat, k ≤ ks.length ∧ i = .int .i64 k ∧ Below w.heap.size w wr ∧ ∀ j (hj : j < ks.length) (hj' : j < ks'.length), j < k → ks[j]'hj = ks'[j]'hj') (fun i _ => ks.length - (intOf i).toNat)
    case atStart => exact ⟨0, by omega, rfl, Below.refl _ _, fun j _ _ h => absurd h (by omega)⟩
    case round =>
      obtain ⟨k, hk, rfl, hB, hsame⟩ := hrel
      have Hsame := Lib.hid hsame
      clear hsame
      by_cases hlt : k < ks.length
      · have hlt' : k < ks'.length := by rw [← Hlen.out]; exact hlt
        obtain ⟨ga, offa, rfl, hSa, hcell⟩ := Hr.out.2 (by omega)
        obtain ⟨d0, d1, d2, hd0, hd1, hd2, hit⟩ := Hk.out.at_ k hlt
        obtain ⟨gb, offb, rfl, hSb, hcell'⟩ := Hr'.out.2 (by rw [← Hlen.out]; omega)
        obtain ⟨f0, f1, f2, hf0, hf1, hf2, hit'⟩ := Hk'.out.at_ k hlt'
        have hga := HS.out ga hSa
        have hgb := HS'.out gb hSb
        have hz := hB.size
        have e0 := (hB.cell (p := ⟨ga, offa + 3 * k, none⟩) hga).trans (hcell _ _ hd0)
        have e1 := (hB.cell (p := ⟨ga, offa + (3 * k + 1), none⟩) hga).trans (hcell _ _ hd1)
        have e2 := (hB.cell (p := ⟨ga, offa + (3 * k + 2), none⟩) hga).trans (hcell _ _ hd2)
        rw [show 3 * k = k * 3 from Nat.mul_comm _ _, ← Nat.add_assoc] at e1 e2
        rw [show 3 * k = k * 3 from Nat.mul_comm _ _] at e0
        have u0 := (hB.cell (p := ⟨gb, offb + 3 * k, none⟩) hgb).trans (hcell' _ _ hf0)
        have u1 := (hB.cell (p := ⟨gb, offb + (3 * k + 1), none⟩) hgb).trans (hcell' _ _ hf1)
        have u2 := (hB.cell (p := ⟨gb, offb + (3 * k + 2), none⟩) hgb).trans (hcell' _ _ hf2)
        rw [show 3 * k = k * 3 from Nat.mul_comm _ _, ← Nat.add_assoc] at u1 u2
        rw [show 3 * k = k * 3 from Nat.mul_comm _ _] at u0
        obtain ⟨⟨fl, rfl⟩, ⟨fA, fn, fc, rfl⟩, ⟨fB, fm, fd, rfl⟩⟩ := item_shape hit
        obtain ⟨⟨gl, rfl⟩, ⟨gA, gn, gc, rfl⟩, ⟨gB, gm, gd, rfl⟩⟩ := item_shape hit'
        have hgaw : ga < wr.heap.size := by omega
        have hgbw : gb < wr.heap.size := by omega
        have HB := Lib.hid hB
        have HC : Hid (∀ W, Below wr.heap.size wr W → Calls Try.prog 31 #[.agg #[.int .i64 fl, .slice fA fn fc, .slice fB fm fd], .agg #[.int .i64 gl, .slice gA gn gc, .slice gB gm gd]] W fun e w' => ∃ b : Bool, e = .returned (.bool b) ∧ (b = true ↔ ks[k]'hlt = ks'[k]'hlt') ∧ Below W.heap.size W w') := fun W hW => by
          have hw := HB.out.trans (hW.mono HB.out.size)
          exact Hih.out _ (List.getElem_mem hlt) (ks'[k]'hlt') S S' _ _ _ _ _ _ W (ItemR.keep (fun b hb => hw.block b (HS.out b hb)) _ _ hit) (ItemR.keep (fun b hb => hw.block b (HS'.out b hb)) _ _ hit') (fun b hb => Nat.lt_of_lt_of_le (HS.out b hb) hw.size) (fun b hb => Nat.lt_of_lt_of_le (HS'.out b hb) hw.size)
        clear hcell hd0 hd1 hd2 hit hcell' hf0 hf1 hf2 hit' hB
        by_cases heq : ks[k]'hlt = ks'[k]'hlt'
        · have HC1 : Hid (∀ W, Below wr.heap.size wr W → Calls Try.prog 31 #[.agg #[.int .i64 fl, .slice fA fn fc, .slice fB fm fd], .agg #[.int .i64 gl, .slice gA gn gc, .slice gB gm gd]] W fun e w' => e = .returned (.bool true) ∧ Below W.heap.size W w') := fun W hW =>
            (HC.out W hW).mono fun e w' ⟨b, h1, h2, h3⟩ => ⟨by rw [h1, h2.2 heq], h3⟩
          have Heq := Lib.hid heq
          clear heq HC
          go_wp2_with (first
            | (go_at_call 31; refine (HC1.out _ (by go_grown)).mono ?_
               rintro e w1 ⟨rfl, hbl⟩
               have HB2 : Hid (Below wr.heap.size wr w1) := (((Below.refl _ wr).alloc (Nat.le_refl _) _).alloc (by rw [size_alloc]; omega) _).trans (hbl.mono (by simp only [size_alloc]; omega))
               clear hbl))
          go_roundw
          case rel =>
            refine ⟨k + 1, by omega, by go_num, HB.out.trans (HB2.out.mono HB.out.size), fun j hj hj' hjk => ?_⟩
            rcases Nat.lt_or_ge j k with h | h
            · exact Hsame.out j hj hj' h
            · obtain rfl : j = k := by omega
              exact Heq.out
          case measure => simp [intOf]; omega
        · have HC1 : Hid (∀ W, Below wr.heap.size wr W → Calls Try.prog 31 #[.agg #[.int .i64 fl, .slice fA fn fc, .slice fB fm fd], .agg #[.int .i64 gl, .slice gA gn gc, .slice gB gm gd]] W fun e w' => e = .returned (.bool false) ∧ Below W.heap.size W w') := fun W hW =>
            (HC.out W hW).mono fun e w' ⟨b, h1, h2, h3⟩ => ⟨by rw [h1]; cases b; rfl; exact absurd (h2.1 rfl) heq, h3⟩
          have Hno : Hid (¬ ks = ks') := fun h => heq (by simp only [h])
          clear heq HC
          go_wp2_with (first
            | (go_at_call 31; refine (HC1.out _ (by go_grown)).mono ?_
               rintro e w1 ⟨rfl, hbl⟩
               have HB2 : Hid (Below wr.heap.size wr w1) := (((Below.refl _ wr).alloc (Nat.le_refl _) _).alloc (by rw [size_alloc]; omega) _).trans (hbl.mono (by simp only [size_alloc]; omega))
               clear hbl))
          go_ret
          exact ⟨false, rfl, by simp [Hno.out], HB.out.trans (HB2.out.mono HB.out.size)⟩
      · obtain rfl : k = ks.length := by omega
        have Heq : Hid (ks = ks') := List.ext_getElem Hlen.out (fun j h h' => Hsame.out j h h' h)
        have HB := Lib.hid hB
        clear hB
        go_wp2_with fail
        go_ret
        exact ⟨true, rfl, by simp [← Heq.out], HB.out⟩
  · have Hno : Hid (¬ ks = ks') := fun h => hlen (by rw [h])
    have hlen' : ¬ ((ks.length : Int) = (ks'.length : Int)) := by omega
    clear hlen
    go_enter Try.func60, Try.ntmps60
    go_wp2_with fail
    go_ret
    exact ⟨false, rfl, by simp [Hno.out], Below.refl _ _⟩
set_option maxRecDepth 100000 in
set_option maxHeartbeats 2000000 in
/-- rlp.Same. -/
theorem same31 (x : It) : SameSpec 31 x := by
  refine It.ind ?_ x
  intro l bs ks ih y S S' c0 c1 c2 e0 e1 e2 w hx hy hS hS'
  obtain ⟨l', bs', ks', rfl⟩ : ∃ l' bs' ks', y = .mk l' bs' ks' := by cases y; exact ⟨_, _, _, rfl⟩
  simp only [ItemR] at hx hy
  obtain ⟨v, A, c, inner, e, hb, h1, h2, hr, hk⟩ := hx
  simp only [List.cons.injEq, and_true] at e
  obtain ⟨rfl, rfl, rfl⟩ := e
  have hbs := hb.toBs (lo := 0) (hi := w.heap.size) (fun b h => ⟨Nat.zero_le _, hS b h⟩)
  obtain ⟨Ab, cb, rfl, hb1, hb2, hbR⟩ := hb
  obtain ⟨v, A', c', inner', e, hb', h1', h2', hr', hk'⟩ := hy
  simp only [List.cons.injEq, and_true] at e
  obtain ⟨rfl, rfl, rfl⟩ := e
  have hbs' := hb'.toBs (lo := 0) (hi := w.heap.size) (fun b h => ⟨Nat.zero_le _, hS' b h⟩)
  obtain ⟨Ab', cb', rfl, hb1', hb2', hbR'⟩ := hb'
  have HE : Hid (∀ W, Below w.heap.size w W → Calls Try.prog 59 #[.slice Ab bs.length cb, .slice Ab' bs'.length cb'] W fun e w' => ∃ b : Bool, e = .returned (.bool b) ∧ (b = true ↔ bs = bs') ∧ Below W.heap.size W w') := fun W hW =>
    equal59 W (hbs.keep (Same.of_below hW (Nat.le_refl _))) (hbs'.keep (Same.of_below hW (Nat.le_refl _)))
  have HF : Hid (∀ W, Below w.heap.size w W → Calls Try.prog 60 #[.slice A ks.length c, .slice A' ks'.length c', .func (.func 31) #[] #[]] W fun e w' => ∃ b : Bool, e = .returned (.bool b) ∧ (b = true ↔ ks = ks') ∧ Below W.heap.size W w') := fun W hW =>
    equalFunc60 ks ks' ih S S' A A' c c' inner inner' W (hr.keep (fun b hb => hW.block b (hS b hb))) (KidsR.keep (fun b hb => hW.block b (hS b hb)) _ _ hk) (hr'.keep (fun b hb => hW.block b (hS' b hb))) (KidsR.keep (fun b hb => hW.block b (hS' b hb)) _ _ hk') (fun b hb => Nat.lt_of_lt_of_le (hS b hb) hW.size) (fun b hb => Nat.lt_of_lt_of_le (hS' b hb) hW.size) (by omega)
  clear hbR hbR' hr hk hr' hk' hS hS' ih hbs hbs'
  by_cases hl : l = l'
  · subst hl
    by_cases hbq : bs = bs'
    · have HE1 : Hid (∀ W, Below w.heap.size w W → Calls Try.prog 59 #[.slice Ab bs.length cb, .slice Ab' bs'.length cb'] W fun e w' => e = .returned (.bool true) ∧ Below W.heap.size W w') := fun W hW => (HE.out W hW).mono fun e w' ⟨b, h1, h2, h3⟩ => ⟨by rw [h1, h2.2 hbq], h3⟩
      have Hbq := Lib.hid hbq
      clear hbq HE
      go_enter Try.func31, Try.ntmps31
      go_wp2_with (first
        | (go_at_call 59; refine (HE1.out _ (by go_grown)).mono ?_
           rintro e w1 ⟨rfl, hbl⟩
           have hx1 := (hbl.block w.heap.size (by simp only [size_alloc]; omega)).trans (show _ = some (Obj.cells #[.int .i64 l, .slice Ab bs.length cb, .slice A ks.length c] 27 (0, 0)) by rw [heap_alloc, if_neg (by rw [size_alloc]; omega), heap_alloc, if_pos rfl])
           have hy1 := (hbl.block (w.heap.size + 1) (by simp only [size_alloc]; omega)).trans (show _ = some (Obj.cells #[.int .i64 l, .slice Ab' bs'.length cb', .slice A' ks'.length c'] 27 (0, 0)) by rw [heap_alloc, if_pos (by rw [size_alloc])])
           obtain ⟨_, _, x2, _⟩ := block_cells hx1
           obtain ⟨_, _, z2, _⟩ := block_cells hy1
           have HB1 : Hid (Below w.heap.size w w1) := (((Below.refl _ w).alloc (Nat.le_refl _) _).alloc (by rw [size_alloc]; omega) _).trans (hbl.mono (by simp only [size_alloc]; omega))
           clear hbl hx1 hy1)
        | (go_at_call 60; refine (HF.out _ HB1.out).mono ?_
           rintro e w2 ⟨b, rfl, hb, hbl⟩
           have Hb := Lib.hid hb
           have HB2 : Hid (Below w.heap.size w w2) := HB1.out.trans (hbl.mono HB1.out.size)
           clear hb hbl))
      go_ret
      refine ⟨b, rfl, ?_, HB2.out⟩
      rw [Hb.out, Hbq.out]
      simp
    · have HE1 : Hid (∀ W, Below w.heap.size w W → Calls Try.prog 59 #[.slice Ab bs.length cb, .slice Ab' bs'.length cb'] W fun e w' => e = .returned (.bool false) ∧ Below W.heap.size W w') := fun W hW => (HE.out W hW).mono fun e w' ⟨b, h1, h2, h3⟩ => ⟨by rw [h1]; cases b; rfl; exact absurd (h2.1 rfl) hbq, h3⟩
      have Hno : Hid (¬ It.mk l bs ks = It.mk l bs' ks') := fun h => hbq (by injection h)
      clear hbq HE
      go_enter Try.func31, Try.ntmps31
      go_wp2_with (first
        | (go_at_call 59; refine (HE1.out _ (by go_grown)).mono ?_
           rintro e w1 ⟨rfl, hbl⟩
           have HB1 : Hid (Below w.heap.size w w1) := (((Below.refl _ w).alloc (Nat.le_refl _) _).alloc (by rw [size_alloc]; omega) _).trans (hbl.mono (by simp only [size_alloc]; omega))
           clear hbl))
      go_ret
      exact ⟨false, rfl, by simp [Hno.out], HB1.out⟩
  · have Hno : Hid (¬ It.mk l bs ks = It.mk l' bs' ks') := fun h => hl (by injection h)
    go_enter Try.func31, Try.ntmps31
    go_wp2_with fail
    go_ret
    exact ⟨false, rfl, by simp [Hno.out], by go_grown⟩
set_option maxRecDepth 100000 in
set_option maxHeartbeats 1000000 in
theorem envelope_big (k : Int) (hk : 127 < k) (A : Option Addr) (n c : Nat) (w : World) :
    Calls Try.prog 28 #[.int .u8 k, .slice A n c] w fun e w' => e = .returned (.tuple #[.slice none 0 0, .int .i64 45]) ∧ Below w.heap.size w w' := by
  go_enter Try.func28, Try.ntmps28
  go_wp2
  go_ret2
  exact ⟨rfl, by go_grown⟩
theorem bs_cons {k : Int} (h0 : 0 ≤ k) (h1 : k < 256) (bs : List UInt8) : nums (UInt8.ofNat k.toNat :: bs) = [Value.int .u8 k] ++ nums bs := by
  have e : ((UInt8.ofNat k.toNat).toNat : Int) = k := by rw [toNat_ofNat_mod]; omega
  simp only [nums, List.map_cons]
  rw [e]
  rfl
set_option maxRecDepth 100000 in
set_option maxHeartbeats 1000000 in
theorem envelope_ok (k : Int) (h0 : 0 ≤ k) (hk : k < 128) (v : Value) (bs : List UInt8) (w : World) (lo hi : Nat) (hb : Bs w lo hi v bs) (hhi : hi ≤ w.heap.size) (hn : bs.length ≤ 1048576) :
    Calls Try.prog 28 #[.int .u8 k, v] w fun e w' => ∃ v', e = .returned (.tuple #[v', .int .i64 0]) ∧ M.Own w' w.heap.size v' (UInt8.ofNat k.toNat :: bs) ∧ Below w.heap.size w w' := by
  obtain ⟨A, c, rfl, h1, h2, hR⟩ := hb
  have HC := Lib.hid (bs_cons h0 (by omega) bs)
  have HR := Lib.hid (hR.keep (w' := w.alloc (.cells #[.int .u8 k] 5)) (fun b h1 h2 => Below.heap_alloc _ _ _ (by omega)))
  have HO : Hid ((w.alloc (.cells #[.int .u8 k] 5)).ownsRow w.heap.size 5 1 (.slice (some ⟨w.heap.size, 0, none⟩) 1 1) 1 [.int .u8 k]) := by
    have := own_one w w.heap.size (UInt8.ofNat k.toNat) k (by rw [toNat_ofNat_mod]; omega) (Nat.le_refl _)
    unfold M.Own at this
    have e : nums [UInt8.ofNat k.toNat] = [Value.int .u8 k] := by have := bs_cons h0 (show k < 256 by omega) []; simpa [nums] using this
    rw [e] at this
    exact this
  have HL : Hid (1 + bs.length ≤ maxLen ∧ (1 + bs.length) * 1 ≤ 140737488355328) := by
    have h : 1 + bs.length ≤ maxLen ∧ (1 + bs.length) * 1 ≤ 140737488355328 := ⟨by unfold maxLen; omega, by omega⟩
    exact h
  clear hR
  go_enter Try.func28, Try.ntmps28
  go_wp2_with (first
    | (at_builtin; refine wp_append rfl (.tmp 9) (.tmp 10) 23 5 (.int .u8 0) 1 1 rfl Try.underlying23 M.info5 rfl (by omega) w.heap.size _ _ (.slice (some ⟨w.heap.size, 0, none⟩) 1 1) 1 [.int .u8 k] A bs.length c (nums bs) rfl rfl HO.out HR.out (nums_one _) HL.out.1 HL.out.2 (by rw [size_alloc]; omega) ?_
       intro v' w2 hown2 hgrow2 hat2
       have HO2 : Hid (M.Own w2 w.heap.size v' (UInt8.ofNat k.toNat :: bs)) := by
         have e : M.Own w2 w.heap.size v' (UInt8.ofNat k.toNat :: bs) := by
           unfold M.Own
           rw [HC.out, List.length_cons, Nat.add_comm]
           exact hown2
         exact e
       have HG2 := Lib.hid hgrow2
       clear hown2 hgrow2 hat2))
  go_ret2
  exact ⟨v', rfl, HO2.out, (below_new _ _).grown HG2.out (by rw [size_alloc]; omega) (fun b hb => (World.ownsRow.lt HO.out b hb).1)⟩
/-- What Open tells: the kind, the rest, the error. -/
def openF : List UInt8 → Nat × List UInt8 × Nat
  | [] => (0, [], 41)
  | b :: r => if b.toNat < 128 then (b.toNat, r, 0) else if 192 ≤ b.toNat then (0, b :: r, 0) else (0, [], 45)
def OpenSpec (f : Nat) (bs : List UInt8) : Prop := ∀ (v : Value) (w : World) (lo hi : Nat), Bs w lo hi v bs → hi ≤ w.heap.size → bs.length ≤ 1048576 →
  Calls Try.prog f #[v] w fun e w' => ∃ A n c, e = .returned (.tuple #[.int .u8 ((openF bs).1 : Nat), .slice A n c, .int .i64 ((openF bs).2.2 : Nat)]) ∧ Bs w' 0 w'.heap.size (.slice A n c) (openF bs).2.1 ∧ Below w.heap.size w w'
theorem bs_nil (w : World) (lo hi : Nat) : Bs w lo hi (.slice none 0 0) [] := ⟨none, 0, rfl, by simp, by omega, Rd.nil _ _ _ _ _⟩
theorem own_bs0 {w : World} {base : Nat} {v : Value} {bs : List UInt8} (h : M.Own w base v bs) : ∃ A c, v = .slice A bs.length c ∧ Bs w 0 w.heap.size (.slice A bs.length c) bs := by
  have hb := h.bs
  obtain ⟨A, c, rfl, _⟩ := h.bs
  exact ⟨A, c, rfl, hb.wide (Nat.zero_le _) (Nat.le_refl _)⟩
set_option maxRecDepth 100000 in
set_option maxHeartbeats 1000000 in
theorem open29_nil : OpenSpec 29 [] := by
  intro v w lo hi hb hhi hn
  obtain ⟨A, c, rfl, h1, h2, hR⟩ := hb
  go_enter Try.func29, Try.ntmps29
  go_wp2
  go_ret3
  exact ⟨none, 0, 0, rfl, bs_nil _ _ _, by go_grown⟩
set_option maxRecDepth 100000 in
set_option maxHeartbeats 1000000 in
theorem open30_nil : OpenSpec 30 [] := by
  intro v w lo hi hb hhi hn
  obtain ⟨A, c, rfl, h1, h2, hR⟩ := hb
  go_enter Try.func30, Try.ntmps30
  go_wp2
  go_ret3
  exact ⟨none, 0, 0, rfl, bs_nil _ _ _, by go_grown⟩
/-- What a slice of at least one byte gives. -/
theorem open_cut {w : World} {lo hi : Nat} {v : Value} {b : UInt8} {r : List UInt8} (hb : Bs w lo hi v (b :: r)) (hhi : hi ≤ w.heap.size) :
    ∃ g off c A1, v = .slice (some ⟨g, off, none⟩) (r.length + 1) c ∧ g < w.heap.size ∧ w.cell? ⟨g, off, none⟩ = some (.int .u8 (b.toNat : Int)) ∧
      (∀ W : World, (Instr.slice 23 (.slice (some ⟨g, off, none⟩) (r.length + 1) c) (some (.int .i64 1)) none none).run Try.prog W = .ok (.slice A1 r.length (c - 1)) W) ∧
      Bs w lo hi (.slice A1 r.length (c - 1)) r := by
  obtain ⟨A, c, rfl, h1, h2, hR⟩ := hb
  obtain ⟨g, off, rfl, hg1, hg2, hc⟩ := hR.2 (by simp)
  have hl : (b :: r).length = r.length + 1 := rfl
  obtain ⟨A1, hcut, hrd⟩ := cut_slice (P := Try.prog) 23 5 1 Try.underlying23 (by kernel_rfl) (some ⟨g, off, none⟩) (r.length + 1) c 1 1 rfl (by omega)
  rw [hl] at h1 hR ⊢
  refine ⟨g, off, c, A1, rfl, by omega, hc 0 _ rfl, hcut, A1, c - 1, rfl, by omega, by omega, ?_⟩
  have := hrd w lo hi _ h1 hR
  rw [show r.length + 1 - 1 = r.length from by omega] at this
  simpa [nums] using this
set_option maxRecDepth 100000 in
set_option maxHeartbeats 1000000 in
theorem open29_cons (b : UInt8) (r : List UInt8) : OpenSpec 29 (b :: r) := by
  intro v w lo hi hb hhi hn
  have HBB : Hid (∀ W, Below w.heap.size w W → Bs W lo hi v (b :: r)) := fun W hW => hb.keep (Same.of_below hW hhi)
  obtain ⟨g, off, c, A1, rfl, hg, hc, hcut, hb1⟩ := open_cut hb hhi
  have HB1 : Hid (∀ W, Below w.heap.size w W → Bs W lo hi (.slice A1 r.length (c - 1)) r) := fun W hW => hb1.keep (Same.of_below hW hhi)
  have HH := Lib.hid hhi
  have HN : Hid (r.length ≤ 140737488355328 ∧ (b :: r).length ≤ 140737488355328) := by
    have h : r.length ≤ 140737488355328 ∧ (b :: r).length ≤ 140737488355328 := by simp only [List.length_cons] at hn ⊢; exact ⟨by omega, by omega⟩
    exact h
  have HK : Hid (∀ W, Below w.heap.size w W → W.cell? ⟨g, off, none⟩ = some (.int .u8 (b.toNat : Int))) := fun W hW => (hW.cell (p := ⟨g, off, none⟩) hg).trans hc
  have hz : ((r.length : Int) + 1 == 0) = false := by rw [beq_eq_false_iff_ne]; omega
  have hb256 : (b.toNat : Int) < 256 := by have := b.toNat_lt; omega
  clear hb hb1 hhi hn
  by_cases h128 : b.toNat < 128
  · have HF := Lib.hid (show openF (b :: r) = (b.toNat, r, 0) from by simp only [openF]; rw [if_pos h128])
    rw [HF.out]
    have hi128 : (b.toNat : Int) < 128 := by omega
    go_enter Try.func29, Try.ntmps29
    go_wp2_with fail
    go_region_held3 (fun w' => w'.cell? ⟨g, off, none⟩ = some (.int .u8 (b.toNat : Int))) ((refine HK.out _ ?_; first | exact (Below.refl _ _).drew | (with_reducible exact KB1.out)))
      (first
        | (go_at_call 58; refine (F1.clone58 lo hi _ r _ (HB1.out _ ((Below.refl _ _).drew)) HH.out HN.out.1).mono ?_
           rintro e w1 ⟨v', rfl, ho, hbl⟩
           obtain ⟨A2, c2, rfl, hs2⟩ := own_bs0 ho
           have KB1 : Hid (Below w.heap.size w w1) := undrew hbl
           have HS2 := Lib.hid hs2
           clear ho hbl hs2))
    all_goals go_wp2_with fail
    all_goals go_ret3
    all_goals exact ⟨A2, r.length, c2, rfl, HS2.out, KB1.out⟩
  · have hi128 : ¬ (b.toNat : Int) < 128 := by omega
    by_cases h192 : 192 ≤ b.toNat
    · have HF := Lib.hid (show openF (b :: r) = (0, b :: r, 0) from by simp only [openF]; rw [if_neg h128, if_pos h192])
      rw [HF.out]
      have hi192 : (192 : Int) ≤ (b.toNat : Int) := by omega
      go_enter Try.func29, Try.ntmps29
      go_wp2_with (first
        | (go_at_call 58; refine (F1.clone58 lo hi _ (b :: r) _ (HBB.out _ (Below.refl _ _)) HH.out HN.out.2).mono ?_
           rintro e w1 ⟨v', rfl, ho, hbl⟩
           obtain ⟨A2, c2, rfl, hs2⟩ := own_bs0 ho
           have KB1 : Hid (Below w.heap.size w w1) := hbl
           have HS2 := Lib.hid hs2
           clear ho hbl hs2))
      go_ret3
      exact ⟨A2, _, c2, rfl, HS2.out, KB1.out⟩
    · have HF := Lib.hid (show openF (b :: r) = (0, [], 45) from by simp only [openF]; rw [if_neg h128, if_neg h192])
      rw [HF.out]
      have hi192 : ¬ (192 : Int) ≤ (b.toNat : Int) := by omega
      go_enter Try.func29, Try.ntmps29
      go_wp2
      go_ret3
      exact ⟨none, 0, 0, rfl, bs_nil _ _ _, by go_grown⟩
set_option maxRecDepth 100000 in
set_option maxHeartbeats 1000000 in
theorem open30_cons (b : UInt8) (r : List UInt8) : OpenSpec 30 (b :: r) := by
  intro v w lo hi hb hhi hn
  have HBB : Hid (∀ W, Below w.heap.size w W → Bs W lo hi v (b :: r)) := fun W hW => hb.keep (Same.of_below hW hhi)
  obtain ⟨g, off, c, A1, rfl, hg, hc, hcut, hb1⟩ := open_cut hb hhi
  have HB1 : Hid (∀ W, Below w.heap.size w W → Bs W lo hi (.slice A1 r.length (c - 1)) r) := fun W hW => hb1.keep (Same.of_below hW hhi)
  have HH := Lib.hid hhi
  have HK : Hid (∀ W, Below w.heap.size w W → W.cell? ⟨g, off, none⟩ = some (.int .u8 (b.toNat : Int))) := fun W hW => (hW.cell (p := ⟨g, off, none⟩) hg).trans hc
  have hz : ((r.length : Int) + 1 == 0) = false := by rw [beq_eq_false_iff_ne]; omega
  have hb256 : (b.toNat : Int) < 256 := by have := b.toNat_lt; omega
  clear hb hb1 hhi hn
  by_cases h128 : b.toNat < 128
  · have HF := Lib.hid (show openF (b :: r) = (b.toNat, r, 0) from by simp only [openF]; rw [if_pos h128])
    rw [HF.out]
    have hi128 : (b.toNat : Int) < 128 := by omega
    go_enter Try.func30, Try.ntmps30
    go_wp2_with fail
    go_region_held3 (fun w' => w'.cell? ⟨g, off, none⟩ = some (.int .u8 (b.toNat : Int))) ((refine HK.out _ ?_; first | exact (Below.refl _ _).drew)) (fail)
    all_goals go_wp2_with fail
    all_goals go_ret3
    all_goals exact ⟨A1, r.length, c - 1, rfl, (HB1.out _ ((Below.refl _ _).drew)).wide (Nat.zero_le _) HH.out, (Below.refl _ _).drew⟩
  · have hi128 : ¬ (b.toNat : Int) < 128 := by omega
    by_cases h192 : 192 ≤ b.toNat
    · have HF := Lib.hid (show openF (b :: r) = (0, b :: r, 0) from by simp only [openF]; rw [if_neg h128, if_pos h192])
      rw [HF.out]
      have hi192 : (192 : Int) ≤ (b.toNat : Int) := by omega
      go_enter Try.func30, Try.ntmps30
      go_wp2
      go_ret3
      exact ⟨_, _, c, rfl, (HBB.out _ (Below.refl _ _)).wide (Nat.zero_le _) HH.out, Below.refl _ _⟩
    · have HF := Lib.hid (show openF (b :: r) = (0, [], 45) from by simp only [openF]; rw [if_neg h128, if_neg h192])
      rw [HF.out]
      have hi192 : ¬ (192 : Int) ≤ (b.toNat : Int) := by omega
      go_enter Try.func30, Try.ntmps30
      go_wp2
      go_ret3
      exact ⟨none, 0, 0, rfl, bs_nil _ _ _, by go_grown⟩
theorem open29 (bs : List UInt8) : OpenSpec 29 bs := by cases bs with | nil => exact open29_nil | cons b r => exact open29_cons b r
theorem open30 (bs : List UInt8) : OpenSpec 30 bs := by cases bs with | nil => exact open30_nil | cons b r => exact open30_cons b r
end Go.Proofs.Ytkdpphcalekbdaa.T4
