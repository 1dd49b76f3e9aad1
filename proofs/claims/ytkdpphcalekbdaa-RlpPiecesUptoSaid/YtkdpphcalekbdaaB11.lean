/- RlpOpens, walked. -/
import Derived.Test.YtkdpphcalekbdaaT4
import Derived.Deep.RegionLaw
set_option linter.unusedVariables false
set_option linter.unusedSimpArgs false
namespace Go.Proofs.Ytkdpphcalekbdaa.B11
open Go.ChangeShapes Go.WideShapes Go.ChangeAt Go.RowKit
open M W1 G1 L1 T4
section
variable {P : Program} {ops : Array Oper} {w : World}
/-- The text's walk of a region that only reads where it runs: what is guarded away is passed over. -/
def wpS2 (P : Program) (ops : Array Oper) (w : World) (Q : Act → Prop) : List Oper → Act → Prop
  | [], a => Q a
  | o :: rest, a => if Region.wanted o (yielded ops a.tmps) then valOp o.op = true ∧ o.wp P a w (fun a' w' => w' = w ∧ wpS2 P ops w Q rest a') (fun _ _ _ => False) else wpS2 P ops w Q rest (a.put o.dst undef)
theorem wpS2_nil {Q : Act → Prop} {a : Act} (h : Q a) : wpS2 P ops w Q [] a := h
theorem wpS2_run {Q : Act → Prop} {a : Act} {o : Oper} {rest : List Oper} (hw : Region.wanted o (yielded ops a.tmps) = true) (hv : valOp o.op = true)
    (h : ∀ K : Act → World → Prop, (∀ a, wpS2 P ops w Q rest a → K a w) → o.wp P a w K (fun _ _ _ => False)) : wpS2 P ops w Q (o :: rest) a := by
  unfold wpS2
  rw [if_pos hw]
  exact ⟨hv, h _ (fun _ h => ⟨rfl, h⟩)⟩
theorem wpS2_skip {Q : Act → Prop} {a : Act} {o : Oper} {rest : List Oper} (hw : Region.wanted o (yielded ops a.tmps) = false) (h : wpS2 P ops w Q rest (a.put o.dst undef)) : wpS2 P ops w Q (o :: rest) a := by
  unfold wpS2
  rw [if_neg (by rw [hw]; simp)]
  exact h
theorem wpS2_step {Q : Act → Prop} {a : Act} {o : Oper} {rest : List Oper} (hv : valOp o.op = true)
    (h : ∀ K : Act → World → Prop, (∀ a, wpS2 P ops w Q rest a → K a w) → if Region.wanted o (yielded ops a.tmps) then o.wp P a w K (fun _ _ _ => False) else K (a.put o.dst undef) w) : wpS2 P ops w Q (o :: rest) a := by
  have := h (fun a' w' => w' = w ∧ wpS2 P ops w Q rest a') (fun _ h => ⟨rfl, h⟩)
  unfold wpS2
  split
  · rename_i hw; rw [if_pos hw] at this; exact ⟨hv, this⟩
  · rename_i hw; rw [if_neg hw] at this; exact this.2
theorem still_of_wpS2 {Q : Act → Prop} : ∀ (l : List Oper) (a : Act), wpS2 P ops w Q l a → wpStill P ops w Q l a
  | [], a, h => h
  | o :: rest, a, h => by
    unfold wpS2 at h
    unfold wpStill
    split
    · rename_i hw
      rw [if_pos hw] at h
      have hp := plain_of (P := P) h.1 a.eval w
      have h2 := h.2
      unfold Oper.wp at h2
      unfold Oper.still
      generalize (execOp a.eval o).run P w = r at h2 hp
      cases r with
      | ok n w' =>
        cases n <;> simp only [Plain] at hp <;> simp only [Oper.upon] at h2 <;> simp only [Oper.stillUpon]
        all_goals exact ⟨h2.1, still_of_wpS2 rest _ h2.2⟩
      | halt x w' => cases x <;> simp only [Oper.upon] at h2
    · rename_i hw
      rw [if_neg hw] at h
      exact still_of_wpS2 rest _ h
theorem wp_region_reads2 {id : Nat} {Q : Exit → Act → World → Prop} {a : Act} {w : World} {l : List Oper} (hm : P.follows .mixedOrders = true) (hB : Region.lexB .any l.toArray = true)
    (h : wpS2 P l.toArray w.drew (fun a' => Q .normal a' w.drew) l a) : (Code.region id l.toArray true).wp P Q a w :=
  wp_region_still_lit hm hB (still_of_wpS2 _ _ h)
attribute [irreducible] wpS2
end
theorem op_append_any {P : Program} (w : World) {o : Oper} {a : Act} {K : Act → World → Prop} {Q : Exit → Act → World → Prop} (s x : Operand) (t e : TypeId) (z : Value) (size bytes : Nat)
    (ho : o.op = .call { callee := .builtin .append, args := #[s, x], argTypes := #[t, t] })
    (ht : P.underlying t = some (.slice e)) (hinfo : (P.info? e).map (fun i => (i.zero, i.size, i.bytes)) = some (some z, size, bytes)) (hz : z.cells.size = size) (hs0 : 0 < size)
    (base lo hi : Nat) (v : Value) (n : Nat) (xs : List Value) (A : Option Addr) (m c : Nat) (ys : List Value) (hs : a.eval s = v) (hx : a.eval x = .slice A m c)
    (HO : w.ownsRow base e size v n xs) (HR : Rd w lo hi size A m ys) (h1 : ∀ u ∈ ys, u.oneCell' = true) (h63 : n + m ≤ maxLen) (hl : (n + m) * bytes ≤ 140737488355328) (hbase : base ≤ w.heap.size)
    (h : ∀ v' w', w'.ownsRow base e size v' (n + m) (xs ++ ys) → w.grownBy w' v.ownBlock → (v'.ownBlock = v.ownBlock ∨ v'.ownBlock = some w.heap.size) → K (a.put o.dst v') w') :
    Oper.wp P o a w K Q := by
  have h' := step_append_any (P := P) w (ops := #[]) (o := { o with guard := none }) (a := a) (K := K) (Q := Q) (E := True) rfl s x t e z size bytes ho ht hinfo hz hs0 base lo hi v n xs A m c ys hs hx HO HR h1 h63 hl hbase h
  rw [if_pos (by simp [Region.wanted])] at h'
  exact h'
theorem own_kb {w : World} {base : Nat} {v : Value} {kb b : List UInt8} {k : Int} (h1 : nums kb = [Value.int .u8 k] ++ nums b) (h2 : kb.length = 1 + b.length) (h : w.ownsRow base 5 1 v (1 + b.length) ([.int .u8 k] ++ nums b)) : Bs w base w.heap.size v kb := by
  have e : M.Own w base v kb := by
    unfold M.Own
    rw [h1, h2]
    exact h
  exact e.bs
theorem same_as {f : Nat} {x y : It} (h : SameSpec f x) {r : Bool} (hr : r = true ↔ x = y) (W : World) (S S' : Nat → Prop) (c0 c1 c2 e0 e1 e2 : Value) (hi : ItemR W S x [c0, c1, c2]) (hi' : ItemR W S' y [e0, e1, e2]) (hS : ∀ b, S b → b < W.heap.size) (hS' : ∀ b, S' b → b < W.heap.size) :
    Calls Try.prog f #[.agg #[c0, c1, c2], .agg #[e0, e1, e2]] W fun e w' => e = .returned (.bool r) ∧ Below W.heap.size W w' :=
  (h y S S' c0 c1 c2 e0 e1 e2 W hi hi' hS hS').mono fun e w' ⟨b, h1, h2, h3⟩ => ⟨by rw [h1, Bool.eq_iff_iff.2 (h2.trans hr.symm)], h3⟩
section
variable (S : Nat → Prop) (k : Int) (v1 : Value) (b : List UInt8) (v2 v3 : Value) (l m : List Nd) (w : World)
set_option maxRecDepth 100000 in
set_option maxHeartbeats 1000000 in
theorem opens_big (h0 : 0 ≤ k) (hk : 127 < k) (hk2 : k < 256) (hb : Bs w 0 w.heap.size v1 b) (hbl : b.length ≤ 1048576) (hv : Nds w S v2 l) (hu : Nds w S v3 m) (hS : ∀ b, S b → b < w.heap.size) (hn : nbulk l ≤ 1048576) (hm : nbulk m ≤ 1048576) :
    Calls Try.prog 10 #[.int .u8 k, v1, v2, v3] w fun e w' => e = .returned (.bool true) ∧ Below w.heap.size w w' := by
  have C18 := Lib.hid (c18 hb (Nat.le_refl _) (by omega))
  have C28 := Lib.hid (envelope_big k hk)
  have C12 := Lib.hid A1.awake12
  have C13 := Lib.hid (c13 hv hS (by omega))
  have D13 := Lib.hid (c13 hu hS (by omega))
  have E13 := Lib.hid (c13 hv hS (by omega))
  have G13 := Lib.hid (c13 hu hS (by omega))
  have C29 := Lib.hid (open29 b)
  have C30 := Lib.hid (open30 b)
  have HBL := Lib.hid hbl
  have HBB : Hid (∀ W, Below w.heap.size w W → Bs W 0 w.heap.size v1 b) := fun W hW => hb.keep (Same.of_below hW (Nat.le_refl _))
  obtain ⟨r, hr⟩ : ∃ r : Bool, r = true ↔ (itemF 200 l).1 = (itemF 200 m).1 := by
    by_cases h : (itemF 200 l).1 = (itemF 200 m).1
    · exact ⟨true, by simp [h]⟩
    · exact ⟨false, by simp [h]⟩
  have C31 := Lib.hid (same_as (same31 _) hr)
  have C17 := Lib.hid (same_as (same17 _) hr)
  clear hr
  have hk3 : ¬ k < 128 := by omega
  have HK4 : Hid (decide (k < 128) = false) := by
    have h : decide (k < 128) = false := by simpa using hk3
    exact h
  obtain ⟨vA, vn, vc, rfl⟩ : ∃ A n c, v2 = .slice A n c := by obtain ⟨A, c, inner, rfl, _⟩ := hv; exact ⟨_, _, _, rfl⟩
  obtain ⟨uA, un, uc, rfl⟩ : ∃ A n c, v3 = .slice A n c := by obtain ⟨A, c, inner, rfl, _⟩ := hu; exact ⟨_, _, _, rfl⟩
  obtain ⟨bA, bc, rfl⟩ : ∃ A c, v1 = .slice A b.length c := by obtain ⟨A, c, rfl, _⟩ := hb; exact ⟨_, _, rfl⟩
  generalize (itemF 200 l).1 = x at *
  generalize (itemF 200 m).1 = y at *
  generalize openF b = ob at *
  clear hb hv hu hS hn hm hbl
  go_enter Try.func10, Try.ntmps10
  go_wp2_with (first
    | (go_at_call 18; refine (C18.out _ (Below.refl _ _)).mono ?_
       rintro e w1 ⟨A1, c1, rfl, hs1, hb1⟩
       have HB1 := Lib.hid hb1
       clear hb1 hs1)
    | (go_at_call 28; refine (C28.out _ _ _ _).mono ?_
       rintro e w2 ⟨rfl, hb2⟩
       have HB2 : Hid (Below w.heap.size w w2) := HB1.out.trans (hb2.mono HB1.out.size)
       clear hb2))
  refine wp_region_reads2 (by kernel_rfl) (by decide +kernel) ?_
  have hk4 := HK4.out
  iterate 15 (refine wpS2_run (by rfl) rfl (fun K hK => ?_); go_wp2)
  iterate 12 (refine wpS2_skip (by rfl) ?_; simp only [Act.put, List.setIfInBounds_toArray, List.set_cons_zero, List.set_cons_succ])
  iterate 2 (refine wpS2_run (by rfl) rfl (fun K hK => ?_); go_wp2)
  refine wpS2_nil ?_
  go_wp2_with (first
    | (go_at_call 18; refine (C18.out _ HB2.out.drew).mono ?_
       rintro e w3 ⟨A3, c3, rfl, hs3, hb3⟩
       have HB3 : Hid (Below w.heap.size w w3) := HB2.out.trans ((undrew hb3).mono HB2.out.size)
       have HS3 := Lib.hid hs3
       clear hb3 hs3)
    | (go_at_call 29; refine (C29.out _ _ _ _ HS3.out (Nat.le_refl _) HBL.out).mono ?_
       rintro e w4 ⟨A4, n4, c4, rfl, hs4, hb4⟩
       have HB4 : Hid (Below w.heap.size w w4) := HB3.out.trans (hb4.mono HB3.out.size)
       have HS4 := Lib.hid hs4
       clear hb4 hs4)
    | (go_at_call 30; refine (C30.out _ _ _ _ (HBB.out _ HB4.out) HB4.out.size HBL.out).mono ?_
       rintro e w5 ⟨A5, n5, c5, rfl, hs5, hb5⟩
       have HB5 : Hid (Below w.heap.size w w5) := HB4.out.trans (hb5.mono HB4.out.size)
       have k1 := str_bs (HS4.out.keep (Same.of_below hb5 (Nat.le_refl _)))
       have k2 := str_bs hs5
       clear hb5 hs5)
    | (go_at_call 13; refine (C13.out _ HB5.out).mono ?_
       rintro e w6 ⟨l6, A6, n6, c6, B6, m6, d6, rfl, hi6, hb6⟩
       have HB6 : Hid (Below w.heap.size w w6) := HB5.out.trans (hb6.mono HB5.out.size)
       have HI6 := Lib.hid hi6
       clear hb6 hi6 C13)
    | (go_at_call 13; refine (D13.out _ HB6.out).mono ?_
       rintro e w7 ⟨l7, A7, n7, c7, B7, m7, d7, rfl, hi7, hb7⟩
       have HB7 : Hid (Below w.heap.size w w7) := HB6.out.trans (hb7.mono HB6.out.size)
       have HI7 := Lib.hid hi7
       have HI67 := Lib.hid (item_later HI6.out (fun b hb => hb.2) hb7)
       have HS67 : Hid (w6.heap.size ≤ w7.heap.size) := hb7.size
       clear hb7 hi7 D13)
    | (go_at_call 31; refine (C31.out _ _ _ _ _ _ _ _ _ HI67.out HI7.out (fun b hb => Nat.lt_of_lt_of_le hb.2 HS67.out) (fun b hb => hb.2)).mono ?_
       rintro e w8 ⟨rfl, hb8⟩
       have HB8 : Hid (Below w.heap.size w w8) := HB7.out.trans (hb8.mono HB7.out.size)
       clear hb8 C31)
    | (go_at_call 13; refine (E13.out _ HB8.out).mono ?_
       rintro e w9 ⟨l9, A9, n9, c9, B9, m9, d9, rfl, hi9, hb9⟩
       have HB9 : Hid (Below w.heap.size w w9) := HB8.out.trans (hb9.mono HB8.out.size)
       have HI9 := Lib.hid hi9
       clear hb9 hi9 E13)
    | (go_at_call 13; refine (G13.out _ HB9.out).mono ?_
       rintro e w10 ⟨l10, A10, n10, c10, B10, m10, d10, rfl, hi10, hb10⟩
       have HB10 : Hid (Below w.heap.size w w10) := HB9.out.trans (hb10.mono HB9.out.size)
       have HI10 := Lib.hid hi10
       have HI910 := Lib.hid (item_later HI9.out (fun b hb => hb.2) hb10)
       have HS910 : Hid (w9.heap.size ≤ w10.heap.size) := hb10.size
       clear hb10 hi10 G13)
    | (go_at_call 17; refine (C17.out _ _ _ _ _ _ _ _ _ HI910.out HI10.out (fun b hb => Nat.lt_of_lt_of_le hb.2 HS910.out) (fun b hb => hb.2)).mono ?_
       rintro e w11 ⟨rfl, hb11⟩
       have HB11 : Hid (Below w.heap.size w w11) := HB10.out.trans (hb11.mono HB10.out.size)
       clear hb11 C17)
    | (go_at_call 12; refine (C12.out _).mono ?_
       rintro e w12 ⟨rfl, hb12⟩
       have HB12 : Hid (Below w.heap.size w w12) := HB11.out.trans (hb12.mono HB11.out.size)
       clear hb12))
  go_ret
  exact ⟨rfl, HB12.out⟩
set_option maxRecDepth 100000 in
set_option maxHeartbeats 1000000 in
theorem opens_small (h0 : 0 ≤ k) (hk : k < 128) (hb : Bs w 0 w.heap.size v1 b) (hbl : b.length ≤ 1048576) (hv : Nds w S v2 l) (hu : Nds w S v3 m) (hS : ∀ b, S b → b < w.heap.size) (hn : nbulk l ≤ 1048576) (hm : nbulk m ≤ 1048576) :
    Calls Try.prog 10 #[.int .u8 k, v1, v2, v3] w fun e w' => e = .returned (.bool true) ∧ Below w.heap.size w w' := by
  have C18 := Lib.hid (c18 hb (Nat.le_refl _) (by omega))
  have C28 : Hid (∀ W lo hi v, Bs W lo hi v b → hi ≤ W.heap.size → Calls Try.prog 28 #[.int .u8 k, v] W fun e w' => ∃ v', e = .returned (.tuple #[v', .int .i64 0]) ∧ M.Own w' W.heap.size v' (UInt8.ofNat k.toNat :: b) ∧ Below W.heap.size W w') := fun W lo hi v h1 h2 => envelope_ok k h0 hk v b W lo hi h1 h2 hbl
  have HNU := Lib.hid (bs_cons h0 (show k < 256 by omega) b)
  have HONE : Hid (∀ W : World, (W.alloc (.cells #[.int .u8 k] 5)).ownsRow W.heap.size 5 1 (.slice (some ⟨W.heap.size, 0, none⟩) 1 1) 1 [.int .u8 k]) := fun W => by
    have := own_one W W.heap.size (UInt8.ofNat k.toNat) k (by rw [toNat_ofNat_mod]; omega) (Nat.le_refl _)
    unfold M.Own at this
    have e : nums [UInt8.ofNat k.toNat] = [Value.int .u8 k] := by have := bs_cons h0 (show k < 256 by omega) []; simpa [nums] using this
    rw [e] at this
    exact this
  have HKB : Hid ((UInt8.ofNat k.toNat :: b).length = 1 + b.length) := (show _ = _ from by simp; omega)
  have HL : Hid (1 + b.length ≤ maxLen ∧ (1 + b.length) * 1 ≤ 140737488355328) := by
    have h : 1 + b.length ≤ maxLen ∧ (1 + b.length) * 1 ≤ 140737488355328 := ⟨by unfold maxLen; omega, by omega⟩
    exact h
  have C12 := Lib.hid A1.awake12
  have C13 := Lib.hid (c13 hv hS (by omega))
  have D13 := Lib.hid (c13 hu hS (by omega))
  have E13 := Lib.hid (c13 hv hS (by omega))
  have G13 := Lib.hid (c13 hu hS (by omega))
  have C29 := Lib.hid (open29 b)
  have C30 := Lib.hid (open30 b)
  have HBL := Lib.hid hbl
  have HBB : Hid (∀ W, Below w.heap.size w W → Bs W 0 w.heap.size v1 b) := fun W hW => hb.keep (Same.of_below hW (Nat.le_refl _))
  obtain ⟨r, hr⟩ : ∃ r : Bool, r = true ↔ (itemF 200 l).1 = (itemF 200 m).1 := by
    by_cases h : (itemF 200 l).1 = (itemF 200 m).1
    · exact ⟨true, by simp [h]⟩
    · exact ⟨false, by simp [h]⟩
  have C31 := Lib.hid (same_as (same31 _) hr)
  have C17 := Lib.hid (same_as (same17 _) hr)
  clear hr
  have hk3 : ¬ 127 < k := by omega
  obtain ⟨vA, vn, vc, rfl⟩ : ∃ A n c, v2 = .slice A n c := by obtain ⟨A, c, inner, rfl, _⟩ := hv; exact ⟨_, _, _, rfl⟩
  obtain ⟨uA, un, uc, rfl⟩ : ∃ A n c, v3 = .slice A n c := by obtain ⟨A, c, inner, rfl, _⟩ := hu; exact ⟨_, _, _, rfl⟩
  obtain ⟨bA, bc, rfl⟩ : ∃ A c, v1 = .slice A b.length c := by obtain ⟨A, c, rfl, _⟩ := hb; exact ⟨_, _, rfl⟩
  generalize (itemF 200 l).1 = x at *
  generalize (itemF 200 m).1 = y at *
  generalize openF b = ob at *
  generalize UInt8.ofNat k.toNat :: b = kb at *
  clear hb hv hu hS hn hm hbl
  go_enter Try.func10, Try.ntmps10
  go_wp2_with (first
    | (go_at_call 18; refine (C18.out _ (Below.refl _ _)).mono ?_
       rintro e w1 ⟨A1, c1, rfl, hs1, hb1⟩
       have HB1 := Lib.hid hb1
       have HS1 := Lib.hid hs1
       clear hb1 hs1)
    | (go_at_call 28; refine (C28.out _ _ _ _ HS1.out (Nat.le_refl _)).mono ?_
       rintro e w2 ⟨hv2, rfl, ho2, hb2⟩
       have HS2 := Lib.hid ho2.bs
       obtain ⟨A2, c2, rfl, _⟩ := ho2.bs
       have HB2 : Hid (Below w.heap.size w w2) := HB1.out.trans (hb2.mono HB1.out.size)
       clear hb2 ho2))
  have HR2 : Hid (Rd ((w2.drew).alloc (.cells #[.int .u8 k] 5)) 0 w.heap.size 1 bA b.length (nums b)) := by
    obtain ⟨A, c, e, h1, h2, h3⟩ := HBB.out _ (HB2.out.drew.alloc HB2.out.size (.cells #[.int .u8 k] 5))
    obtain ⟨rfl, _, rfl⟩ := (Value.slice.injEq _ _ _ _ _ _).mp e
    exact h3
  have HZ2 : Hid (w2.heap.size ≤ ((w2.drew).alloc (.cells #[.int .u8 k] 5)).heap.size) := Nat.le_succ_of_le (Nat.le_refl _) |> fun h => by rw [size_alloc]; exact h
  have HZ3 : Hid (w2.heap.size ≤ ((w2.drew).alloc (.cells #[.int .u8 k] 5)).heap.size) := HZ2
  have kc1 := str_bs (HS2.out.keep (w' := w2.drew) (fun _ _ _ => rfl))
  have kc2 := str_bs (HS2.out.keep (w' := (w2.drew).alloc (.cells #[.int .u8 k] 5)) (fun b h1 h2 => Below.heap_alloc _ _ _ (by show _ < w2.heap.size; exact h2)))
  generalize hq1 : strOf kb = q1 at *
  have HQ1 := Lib.hid hq1
  clear hq1
  refine wp_region_noPanic ?_
  refine wp_region_held_drew (S := fun w' => (convert 23 9 (.slice A2 kb.length c2)).run Try.prog w' = .ok (.string q1) w') (by kernel_rfl) kc1 (fun hHeld => ?_)
  refine wpAnyH_take (i := 0) (oi := { dst := some 23, op := Op.move (Operand.tmp 0), type := 5, pos := "law.go:147", after := #[], guard := none }) (v := .int .u8 k) rfl (by kernel_rfl) (by kernel_rfl) (by kernel_rfl) (fun _ _ _ h => h) (Or.inl ⟨by rfl, fun W hSw => by go_simp⟩) (by assumption) ?_
  try simp only [Act.put, List.setIfInBounds_toArray, List.set_cons_zero, List.set_cons_succ]
  refine wpAnyH_take (i := 1) (oi := { dst := some 24, op := Op.binOp BinOp.gtr 5 (Operand.tmp 23) (Operand.const (Value.int IntKind.u8 127)) 5, type := 4, pos := "law.go:147", after := #[{ on := 0, ground := Ground.data }], guard := none }) (v := .bool false) rfl (by kernel_rfl) (by kernel_rfl) (by kernel_rfl) (fun _ _ _ h => h) (Or.inl ⟨by rfl, fun W hSw => by go_simp⟩) (by assumption) ?_
  try simp only [Act.put, List.setIfInBounds_toArray, List.set_cons_zero, List.set_cons_succ]
  refine wpAnyH_take (i := 2) (oi := { dst := some 25, op := Op.move (Operand.tmp 24), type := 4, pos := "law.go:147", after := #[{ on := 1, ground := Ground.data }], guard := none }) (v := .bool false) rfl (by kernel_rfl) (by kernel_rfl) (by kernel_rfl) (fun _ _ _ h => h) (Or.inl ⟨by rfl, fun W hSw => by go_simp⟩) (by assumption) ?_
  try simp only [Act.put, List.setIfInBounds_toArray, List.set_cons_zero, List.set_cons_succ]
  refine wpAnyH_take (i := 3) (oi := { dst := some 26, op := Op.move (Operand.tmp 10), type := 29, pos := "law.go:147", after := #[{ on := 2, ground := Ground.guard }], guard := some (2, true) }) (v := undef) rfl (by kernel_rfl) (by kernel_rfl) (by kernel_rfl) (fun _ _ _ h => h) (Or.inr ⟨by rfl, rfl⟩) (by assumption) ?_
  try simp only [Act.put, List.setIfInBounds_toArray, List.set_cons_zero, List.set_cons_succ]
  refine wpAnyH_take (i := 4) (oi := { dst := some 27, op := Op.binOp BinOp.neq 29 (Operand.tmp 26) (Operand.const (Value.int IntKind.i64 45)) 29, type := 4, pos := "law.go:147", after := #[{ on := 3, ground := Ground.data }, { on := 2, ground := Ground.guard }], guard := some (2, true) }) (v := undef) rfl (by kernel_rfl) (by kernel_rfl) (by kernel_rfl) (fun _ _ _ h => h) (Or.inr ⟨by rfl, rfl⟩) (by assumption) ?_
  try simp only [Act.put, List.setIfInBounds_toArray, List.set_cons_zero, List.set_cons_succ]
  refine wpAnyH_take (i := 5) (oi := { dst := some 28, op := Op.move (Operand.tmp 27), type := 4, pos := "law.go:147", after := #[{ on := 4, ground := Ground.data }, { on := 2, ground := Ground.chain }, { on := 2, ground := Ground.guard }], guard := some (2, true) }) (v := undef) rfl (by kernel_rfl) (by kernel_rfl) (by kernel_rfl) (fun _ _ _ h => h) (Or.inr ⟨by rfl, rfl⟩) (by assumption) ?_
  try simp only [Act.put, List.setIfInBounds_toArray, List.set_cons_zero, List.set_cons_succ]
  refine wpAnyH_take (i := 6) (oi := { dst := some 29, op := Op.move (Operand.tmp 9), type := 23, pos := "law.go:147", after := #[{ on := 5, ground := Ground.guard }], guard := some (5, false) }) (v := undef) rfl (by kernel_rfl) (by kernel_rfl) (by kernel_rfl) (fun _ _ _ h => h) (Or.inr ⟨by rfl, rfl⟩) (by assumption) ?_
  try simp only [Act.put, List.setIfInBounds_toArray, List.set_cons_zero, List.set_cons_succ]
  refine wpAnyH_take (i := 7) (oi := { dst := some 30, op := Op.call { callee := Callee.builtin Builtin.len, args := #[Operand.tmp 29], argTypes := #[23] }, type := 3, pos := "law.go:147", after := #[{ on := 6, ground := Ground.data }, { on := 5, ground := Ground.guard }], guard := some (5, false) }) (v := undef) rfl (by kernel_rfl) (by kernel_rfl) (by kernel_rfl) (fun _ _ _ h => h) (Or.inr ⟨by rfl, rfl⟩) (by assumption) ?_
  try simp only [Act.put, List.setIfInBounds_toArray, List.set_cons_zero, List.set_cons_succ]
  refine wpAnyH_take (i := 8) (oi := { dst := some 31, op := Op.binOp BinOp.neq 3 (Operand.tmp 30) (Operand.const (Value.int IntKind.i64 0)) 3, type := 4, pos := "law.go:147", after := #[{ on := 7, ground := Ground.data }, { on := 5, ground := Ground.guard }], guard := some (5, false) }) (v := undef) rfl (by kernel_rfl) (by kernel_rfl) (by kernel_rfl) (fun _ _ _ h => h) (Or.inr ⟨by rfl, rfl⟩) (by assumption) ?_
  try simp only [Act.put, List.setIfInBounds_toArray, List.set_cons_zero, List.set_cons_succ]
  refine wpAnyH_take (i := 9) (oi := { dst := some 32, op := Op.pick (Operand.tmp 28) (Operand.const (Value.bool true)) (Operand.tmp 31), type := 4, pos := "law.go:147", after := #[{ on := 5, ground := Ground.data }, { on := 8, ground := Ground.data }, { on := 2, ground := Ground.guard }], guard := some (2, true) }) (v := undef) rfl (by kernel_rfl) (by kernel_rfl) (by kernel_rfl) (fun _ _ _ h => h) (Or.inr ⟨by rfl, rfl⟩) (by assumption) ?_
  try simp only [Act.put, List.setIfInBounds_toArray, List.set_cons_zero, List.set_cons_succ]
  refine wpAnyH_take (i := 10) (oi := { dst := some 33, op := Op.pick (Operand.tmp 25) (Operand.tmp 32) (Operand.const (Value.bool false)), type := 4, pos := "law.go:147", after := #[{ on := 2, ground := Ground.data }, { on := 9, ground := Ground.data }], guard := none }) (v := .bool false) rfl (by kernel_rfl) (by kernel_rfl) (by kernel_rfl) (fun _ _ _ h => h) (Or.inl ⟨by rfl, fun W hSw => by go_simp⟩) (by assumption) ?_
  try simp only [Act.put, List.setIfInBounds_toArray, List.set_cons_zero, List.set_cons_succ]
  refine wpAnyH_take (i := 11) (oi := { dst := some 34, op := Op.move (Operand.tmp 33), type := 4, pos := "law.go:147", after := #[{ on := 10, ground := Ground.data }, { on := 5, ground := Ground.chain }], guard := none }) (v := .bool false) rfl (by kernel_rfl) (by kernel_rfl) (by kernel_rfl) (fun _ _ _ h => h) (Or.inl ⟨by rfl, fun W hSw => by go_simp⟩) (by assumption) ?_
  try simp only [Act.put, List.setIfInBounds_toArray, List.set_cons_zero, List.set_cons_succ]
  refine wpAnyH_take (i := 12) (oi := { dst := some 35, op := Op.move (Operand.tmp 0), type := 5, pos := "law.go:147", after := #[{ on := 11, ground := Ground.guard }], guard := some (11, false) }) (v := .int .u8 k) rfl (by kernel_rfl) (by kernel_rfl) (by kernel_rfl) (fun _ _ _ h => h) (Or.inl ⟨by rfl, fun W hSw => by go_simp⟩) (by assumption) ?_
  try simp only [Act.put, List.setIfInBounds_toArray, List.set_cons_zero, List.set_cons_succ]
  refine wpAnyH_take (i := 13) (oi := { dst := some 36, op := Op.binOp BinOp.lss 5 (Operand.tmp 35) (Operand.const (Value.int IntKind.u8 128)) 5, type := 4, pos := "law.go:147", after := #[{ on := 12, ground := Ground.data }, { on := 11, ground := Ground.guard }], guard := some (11, false) }) (v := .bool true) rfl (by kernel_rfl) (by kernel_rfl) (by kernel_rfl) (fun _ _ _ h => h) (Or.inl ⟨by rfl, fun W hSw => by go_simp⟩) (by assumption) ?_
  try simp only [Act.put, List.setIfInBounds_toArray, List.set_cons_zero, List.set_cons_succ]
  refine wpAnyH_take (i := 14) (oi := { dst := some 37, op := Op.move (Operand.tmp 36), type := 4, pos := "law.go:147", after := #[{ on := 13, ground := Ground.data }, { on := 11, ground := Ground.chain }, { on := 11, ground := Ground.guard }], guard := some (11, false) }) (v := .bool true) rfl (by kernel_rfl) (by kernel_rfl) (by kernel_rfl) (fun _ _ _ h => h) (Or.inl ⟨by rfl, fun W hSw => by go_simp⟩) (by assumption) ?_
  try simp only [Act.put, List.setIfInBounds_toArray, List.set_cons_zero, List.set_cons_succ]
  refine wpAnyH_take (i := 15) (oi := { dst := some 38, op := Op.move (Operand.tmp 10), type := 29, pos := "law.go:147", after := #[{ on := 14, ground := Ground.guard }], guard := some (14, true) }) (v := .int .i64 0) rfl (by kernel_rfl) (by kernel_rfl) (by kernel_rfl) (fun _ _ _ h => h) (Or.inl ⟨by rfl, fun W hSw => by go_simp⟩) (by assumption) ?_
  try simp only [Act.put, List.setIfInBounds_toArray, List.set_cons_zero, List.set_cons_succ]
  refine wpAnyH_take (i := 16) (oi := { dst := some 39, op := Op.binOp BinOp.neq 29 (Operand.tmp 38) (Operand.const (Value.int IntKind.i64 0)) 29, type := 4, pos := "law.go:147", after := #[{ on := 15, ground := Ground.data }, { on := 14, ground := Ground.guard }], guard := some (14, true) }) (v := .bool false) rfl (by kernel_rfl) (by kernel_rfl) (by kernel_rfl) (fun _ _ _ h => h) (Or.inl ⟨by rfl, fun W hSw => by go_simp⟩) (by assumption) ?_
  try simp only [Act.put, List.setIfInBounds_toArray, List.set_cons_zero, List.set_cons_succ]
  refine wpAnyH_take (i := 17) (oi := { dst := some 40, op := Op.move (Operand.tmp 39), type := 4, pos := "law.go:147", after := #[{ on := 16, ground := Ground.data }, { on := 14, ground := Ground.chain }, { on := 14, ground := Ground.guard }], guard := some (14, true) }) (v := .bool false) rfl (by kernel_rfl) (by kernel_rfl) (by kernel_rfl) (fun _ _ _ h => h) (Or.inl ⟨by rfl, fun W hSw => by go_simp⟩) (by assumption) ?_
  try simp only [Act.put, List.setIfInBounds_toArray, List.set_cons_zero, List.set_cons_succ]
  refine wpAnyH_take (i := 18) (oi := { dst := some 41, op := Op.move (Operand.tmp 9), type := 23, pos := "law.go:147", after := #[{ on := 17, ground := Ground.guard }], guard := some (17, false) }) (v := .slice A2 kb.length c2) rfl (by kernel_rfl) (by kernel_rfl) (by kernel_rfl) (fun _ _ _ h => h) (Or.inl ⟨by rfl, fun W hSw => by go_simp⟩) (by assumption) ?_
  try simp only [Act.put, List.setIfInBounds_toArray, List.set_cons_zero, List.set_cons_succ]
  refine wpAnyH_take (i := 19) (oi := { dst := some 42, op := Op.convert 23 9 (Operand.tmp 41), type := 9, pos := "law.go:147", after := #[{ on := 18, ground := Ground.data }, { on := 17, ground := Ground.guard }], guard := some (17, false) }) (v := .string q1) rfl (by kernel_rfl) (by kernel_rfl) (by kernel_rfl) (fun _ _ _ h => h) (Or.inl ⟨by rfl, fun W hSw => by go_simp⟩) (by assumption) ?_
  try simp only [Act.put, List.setIfInBounds_toArray, List.set_cons_zero, List.set_cons_succ]
  refine wpAnyH_take (i := 20) (oi := { dst := some 43, op := Op.move (Operand.tmp 0), type := 5, pos := "law.go:147", after := #[{ on := 17, ground := Ground.guard }], guard := some (17, false) }) (v := .int .u8 k) rfl (by kernel_rfl) (by kernel_rfl) (by kernel_rfl) (fun _ _ _ h => h) (Or.inl ⟨by rfl, fun W hSw => by go_simp⟩) (by assumption) ?_
  try simp only [Act.put, List.setIfInBounds_toArray, List.set_cons_zero, List.set_cons_succ]
  refine wpAnyH_take (i := 22) (oi := { dst := some 45, op := Op.move (Operand.tmp 1), type := 23, pos := "law.go:147", after := #[{ on := 17, ground := Ground.guard }], guard := some (17, false) }) (v := .slice bA b.length bc) rfl (by kernel_rfl) (by kernel_rfl) (by kernel_rfl) (fun _ _ _ h => h) (Or.inl ⟨by rfl, fun W hSw => by go_simp⟩) (by assumption) ?_
  try simp only [Act.put, List.setIfInBounds_toArray, List.set_cons_zero, List.set_cons_succ]
  refine wpAnyH_ready (rs := [21]) (by kernel_rfl) (by simp) ?_
  refine AllReadyH.cons (o := { dst := some 44, op := Op.buildSlice 23 1 #[(0, Operand.tmp 43)], type := 23, pos := "law.go:147", after := #[{ on := 20, ground := Ground.data }, { on := 17, ground := Ground.guard }], guard := some (17, false) }) rfl (fun K hK => ?_) AllReadyH.nil
  go_simp
  refine hK.out _ _ kc2 (fun hHeld2 => ?_)
  clear hK K hHeld
  try simp only [Act.put, List.setIfInBounds_toArray, List.set_cons_zero, List.set_cons_succ]
  refine wpAnyH_ready (rs := [23]) (by kernel_rfl) (by simp) ?_
  refine AllReadyH.cons (o := { dst := some 46, op := Op.call { callee := Callee.builtin Builtin.append, args := #[Operand.tmp 44, Operand.tmp 45], argTypes := #[23, 23] }, type := 23, pos := "law.go:147", after := #[{ on := 21, ground := Ground.data }, { on := 22, ground := Ground.data }, { on := 17, ground := Ground.chain }, { on := 17, ground := Ground.guard }], guard := some (17, false) }) rfl (fun K hK => ?_) AllReadyH.nil
  rw [if_pos (by rfl)]
  refine op_append_any _ (.tmp 44) (.tmp 45) 23 5 (.int .u8 0) 1 1 rfl Try.underlying23 M.info5 rfl (Nat.succ_pos _) w2.heap.size 0 w.heap.size (.slice (some ⟨w2.heap.size, 0, none⟩) 1 1) 1 [.int .u8 k] bA b.length bc (nums b) (by rfl) (by rfl) (own_keep (HONE.out w2) (fun _ _ => rfl)) (HR2.out) (nums_one _) HL.out.1 HL.out.2 HZ2.out ?_
  intro v4 w4 hown4 hgrow4 hat4
  have ho4 : Bs w4 w2.heap.size w4.heap.size v4 kb := own_kb HNU.out HKB.out hown4
  obtain ⟨A4, c4, rfl, _⟩ : ∃ A c, v4 = .slice A kb.length c ∧ True := by obtain ⟨A, c, e, _⟩ := ho4; exact ⟨A, c, e, trivial⟩
  have kd2 := str_bs ho4
  rw [HQ1.out] at kd2
  have hs4 : Same 0 w2.heap.size w2 w4 := fun q _ h2 => (hgrow4.block q (by show q < (w2.alloc _).heap.size; rw [size_alloc]; omega) (fun e => by have e' : q = w2.heap.size := Option.some.inj e; omega)).trans (Below.heap_alloc _ _ _ h2)
  have kd1 := str_bs (HS2.out.keep (hs4.sub (Nat.zero_le _) (Nat.le_refl _)))
  rw [HQ1.out] at kd1
  have HB4 := Lib.hid hgrow4
  clear hown4 hgrow4 hat4 ho4 hs4
  refine hK.out _ _ kd1 (fun hHeld3 => ?_)
  clear hK K hHeld2
  try simp only [Act.put, List.setIfInBounds_toArray, List.set_cons_zero, List.set_cons_succ]
  refine wpAnyH_ready (rs := [24]) (by kernel_rfl) (by simp) ?_
  refine AllReadyH.cons (o := { dst := some 47, op := Op.convert 23 9 (Operand.tmp 46), type := 9, pos := "law.go:147", after := #[{ on := 23, ground := Ground.data }, { on := 17, ground := Ground.guard }], guard := some (17, false) }) rfl (fun K hK => ?_) AllReadyH.nil
  go_simp
  refine hK.out _ _ kd1 (fun hHeld4 => ?_)
  clear hK K hHeld3
  try simp only [Act.put, List.setIfInBounds_toArray, List.set_cons_zero, List.set_cons_succ]
  refine wpAnyH_take (i := 25) (oi := { dst := some 48, op := Op.binOp BinOp.neq 9 (Operand.tmp 42) (Operand.tmp 47) 9, type := 4, pos := "law.go:147", after := #[{ on := 19, ground := Ground.data }, { on := 24, ground := Ground.data }, { on := 17, ground := Ground.guard }], guard := some (17, false) }) (v := .bool false) rfl (by kernel_rfl) (by kernel_rfl) (by kernel_rfl) (fun _ _ _ h => h) (Or.inl ⟨by rfl, fun W hSw => by go_simp⟩) (by assumption) ?_
  try simp only [Act.put, List.setIfInBounds_toArray, List.set_cons_zero, List.set_cons_succ]
  refine wpAnyH_take (i := 26) (oi := { dst := some 49, op := Op.pick (Operand.tmp 40) (Operand.const (Value.bool true)) (Operand.tmp 48), type := 4, pos := "law.go:147", after := #[{ on := 17, ground := Ground.data }, { on := 25, ground := Ground.data }, { on := 14, ground := Ground.guard }], guard := some (14, true) }) (v := .bool false) rfl (by kernel_rfl) (by kernel_rfl) (by kernel_rfl) (fun _ _ _ h => h) (Or.inl ⟨by rfl, fun W hSw => by go_simp⟩) (by assumption) ?_
  try simp only [Act.put, List.setIfInBounds_toArray, List.set_cons_zero, List.set_cons_succ]
  refine wpAnyH_take (i := 27) (oi := { dst := some 50, op := Op.pick (Operand.tmp 37) (Operand.tmp 49) (Operand.const (Value.bool false)), type := 4, pos := "law.go:147", after := #[{ on := 14, ground := Ground.data }, { on := 26, ground := Ground.data }, { on := 11, ground := Ground.guard }], guard := some (11, false) }) (v := .bool false) rfl (by kernel_rfl) (by kernel_rfl) (by kernel_rfl) (fun _ _ _ h => h) (Or.inl ⟨by rfl, fun W hSw => by go_simp⟩) (by assumption) ?_
  try simp only [Act.put, List.setIfInBounds_toArray, List.set_cons_zero, List.set_cons_succ]
  refine wpAnyH_take (i := 28) (oi := { dst := some 51, op := Op.pick (Operand.tmp 34) (Operand.const (Value.bool true)) (Operand.tmp 50), type := 4, pos := "law.go:147", after := #[{ on := 11, ground := Ground.data }, { on := 27, ground := Ground.data }], guard := none }) (v := .bool false) rfl (by kernel_rfl) (by kernel_rfl) (by kernel_rfl) (fun _ _ _ h => h) (Or.inl ⟨by rfl, fun W hSw => by go_simp⟩) (by assumption) ?_
  try simp only [Act.put, List.setIfInBounds_toArray, List.set_cons_zero, List.set_cons_succ]
  refine wpAnyH_done (by kernel_rfl) ?_ _
  refine NoPanic.normal ?_
  have HB2' : Hid (Below w.heap.size w w4) := ((HB2.out.alloc HB2.out.size (.cells #[.int .u8 k] 5)).drew).grown HB4.out (Nat.le_trans HB2.out.size (by show w2.heap.size ≤ (w2.alloc _).heap.size; rw [size_alloc]; omega)) (fun q hq => by have e' : q = w2.heap.size := (Option.some.inj hq).symm; subst e'; exact HB2.out.size)
  go_wp2_with (first
    | (go_at_call 18; refine (C18.out _ HB2'.out).mono ?_
       rintro e w3 ⟨A3, c3, rfl, hs3, hb3⟩
       have HB3 : Hid (Below w.heap.size w w3) := HB2'.out.trans (hb3.mono HB2'.out.size)
       have HS3 := Lib.hid hs3
       clear hb3 hs3)
    | (go_at_call 29; refine (C29.out _ _ _ _ HS3.out (Nat.le_refl _) HBL.out).mono ?_
       rintro e w4 ⟨A4, n4, c4, rfl, hs4, hb4⟩
       have HB4 : Hid (Below w.heap.size w w4) := HB3.out.trans (hb4.mono HB3.out.size)
       have HS4 := Lib.hid hs4
       clear hb4 hs4)
    | (go_at_call 30; refine (C30.out _ _ _ _ (HBB.out _ HB4.out) HB4.out.size HBL.out).mono ?_
       rintro e w5 ⟨A5, n5, c5, rfl, hs5, hb5⟩
       have HB5 : Hid (Below w.heap.size w w5) := HB4.out.trans (hb5.mono HB4.out.size)
       have k1 := str_bs (HS4.out.keep (Same.of_below hb5 (Nat.le_refl _)))
       have k2 := str_bs hs5
       clear hb5 hs5)
    | (go_at_call 13; refine (C13.out _ HB5.out).mono ?_
       rintro e w6 ⟨l6, A6, n6, c6, B6, m6, d6, rfl, hi6, hb6⟩
       have HB6 : Hid (Below w.heap.size w w6) := HB5.out.trans (hb6.mono HB5.out.size)
       have HI6 := Lib.hid hi6
       clear hb6 hi6 C13)
    | (go_at_call 13; refine (D13.out _ HB6.out).mono ?_
       rintro e w7 ⟨l7, A7, n7, c7, B7, m7, d7, rfl, hi7, hb7⟩
       have HB7 : Hid (Below w.heap.size w w7) := HB6.out.trans (hb7.mono HB6.out.size)
       have HI7 := Lib.hid hi7
       have HI67 := Lib.hid (item_later HI6.out (fun b hb => hb.2) hb7)
       have HS67 : Hid (w6.heap.size ≤ w7.heap.size) := hb7.size
       clear hb7 hi7 D13)
    | (go_at_call 31; refine (C31.out _ _ _ _ _ _ _ _ _ HI67.out HI7.out (fun b hb => Nat.lt_of_lt_of_le hb.2 HS67.out) (fun b hb => hb.2)).mono ?_
       rintro e w8 ⟨rfl, hb8⟩
       have HB8 : Hid (Below w.heap.size w w8) := HB7.out.trans (hb8.mono HB7.out.size)
       clear hb8 C31)
    | (go_at_call 13; refine (E13.out _ HB8.out).mono ?_
       rintro e w9 ⟨l9, A9, n9, c9, B9, m9, d9, rfl, hi9, hb9⟩
       have HB9 : Hid (Below w.heap.size w w9) := HB8.out.trans (hb9.mono HB8.out.size)
       have HI9 := Lib.hid hi9
       clear hb9 hi9 E13)
    | (go_at_call 13; refine (G13.out _ HB9.out).mono ?_
       rintro e w10 ⟨l10, A10, n10, c10, B10, m10, d10, rfl, hi10, hb10⟩
       have HB10 : Hid (Below w.heap.size w w10) := HB9.out.trans (hb10.mono HB9.out.size)
       have HI10 := Lib.hid hi10
       have HI910 := Lib.hid (item_later HI9.out (fun b hb => hb.2) hb10)
       have HS910 : Hid (w9.heap.size ≤ w10.heap.size) := hb10.size
       clear hb10 hi10 G13)
    | (go_at_call 17; refine (C17.out _ _ _ _ _ _ _ _ _ HI910.out HI10.out (fun b hb => Nat.lt_of_lt_of_le hb.2 HS910.out) (fun b hb => hb.2)).mono ?_
       rintro e w11 ⟨rfl, hb11⟩
       have HB11 : Hid (Below w.heap.size w w11) := HB10.out.trans (hb11.mono HB10.out.size)
       clear hb11 C17)
    | (go_at_call 12; refine (C12.out _).mono ?_
       rintro e w12 ⟨rfl, hb12⟩
       have HB12 : Hid (Below w.heap.size w w12) := HB11.out.trans (hb12.mono HB11.out.size)
       clear hb12))
  go_ret
  exact ⟨rfl, HB12.out⟩
/-- RlpOpens is true of whatever byte, bytes and nodes. -/
theorem opens10 (h0 : 0 ≤ k) (hk : k < 256) (hb : Bs w 0 w.heap.size v1 b) (hbl : b.length ≤ 1048576) (hv : Nds w S v2 l) (hu : Nds w S v3 m) (hS : ∀ b, S b → b < w.heap.size) (hn : nbulk l ≤ 1048576) (hm : nbulk m ≤ 1048576) :
    Calls Try.prog 10 #[.int .u8 k, v1, v2, v3] w fun e w' => e = .returned (.bool true) ∧ Below w.heap.size w w' := by
  by_cases h : k < 128
  · exact opens_small S k v1 b v2 v3 l m w h0 h hb hbl hv hu hS hn hm
  · exact opens_big S k v1 b v2 v3 l m w h0 (by omega) hk hb hbl hv hu hS hn hm
end
end Go.Proofs.Ytkdpphcalekbdaa.B11
