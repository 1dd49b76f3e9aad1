/- AsBytes, AsList: the program's and the document's. (printed by gen_s5.py) -/
import Derived.Test.YtkdpphcalekbdaaS4
import Derived.Test.YtkdpphcalekbdaaG3
set_option linter.unusedVariables false
set_option linter.unusedSimpArgs false
namespace Go.Proofs.Ytkdpphcalekbdaa.S5
open Go.ChangeShapes Go.WideShapes Go.ChangeAt Go.RowKit
open M W1 F1
theorem field2 (a b c : Value) (W : World) : (Instr.field 27 (.agg #[a, b, c]) 2).run Try.prog W = .ok c W := by
  simp [Instr.field, part, asAgg, isAgg, Sem.run_bind, Sem.run_pure, run_underlying Try.underlying27, run_underlying Try.underlying25, Result.andThen]
def bytesF (l : Int) (bs : List UInt8) (least most : Int) : List UInt8 × Nat :=
  if l ≠ 0 then ([], 45) else if (bs.length : Int) < least ∨ most < (bs.length : Int) then ([], 46) else (bs, 0)
def listF (l : Int) (ks : List It) (least most : Int) : List It × Nat :=
  if l ≠ 1 then ([], 45) else if (ks.length : Int) < least ∨ most < (ks.length : Int) then ([], 46) else (ks, 0)
set_option maxRecDepth 100000 in
set_option maxHeartbeats 1000000 in
theorem ab_kind (l : Int) (h0 : ¬ l = 0) (n m c0 c1 : Nat) (A0 A1 : Option Addr) (least most : Int) (w : World) :
    Calls Try.prog 34 #[.agg #[.int .i64 l, .slice A0 n c0, .slice A1 m c1], .int .i64 least, .int .i64 most] w fun e w' => e = .returned (.tuple #[.slice none 0 0, .int .i64 45]) ∧ Below w.heap.size w w' := by
  go_enter Try.func34, Try.ntmps34
  go_wp2
  go_ret2
  exact ⟨rfl, by go_grown⟩
set_option maxRecDepth 100000 in
set_option maxHeartbeats 1000000 in
theorem ab_low (n m c0 c1 : Nat) (A0 A1 : Option Addr) (least most : Int) (w : World) (h1 : (n : Int) < least) :
    Calls Try.prog 34 #[.agg #[.int .i64 0, .slice A0 n c0, .slice A1 m c1], .int .i64 least, .int .i64 most] w fun e w' => e = .returned (.tuple #[.slice none 0 0, .int .i64 46]) ∧ Below w.heap.size w w' := by
  go_enter Try.func34, Try.ntmps34
  go_wp2
  go_ret2
  exact ⟨rfl, by go_grown⟩
set_option maxRecDepth 100000 in
set_option maxHeartbeats 1000000 in
theorem ab_high (n m c0 c1 : Nat) (A0 A1 : Option Addr) (least most : Int) (w : World) (h1 : ¬ (n : Int) < least) (h2 : most < (n : Int)) :
    Calls Try.prog 34 #[.agg #[.int .i64 0, .slice A0 n c0, .slice A1 m c1], .int .i64 least, .int .i64 most] w fun e w' => e = .returned (.tuple #[.slice none 0 0, .int .i64 46]) ∧ Below w.heap.size w w' := by
  go_enter Try.func34, Try.ntmps34
  go_wp2
  go_ret2
  exact ⟨rfl, by go_grown⟩
set_option maxRecDepth 100000 in
set_option maxHeartbeats 1000000 in
theorem rb_kind (l : Int) (h0 : ¬ l = 0) (n m c0 c1 : Nat) (A0 A1 : Option Addr) (least most : Int) (w : World) :
    Calls Try.prog 35 #[.agg #[.int .i64 l, .slice A0 n c0, .slice A1 m c1], .int .i64 least, .int .i64 most] w fun e w' => e = .returned (.tuple #[.slice none 0 0, .int .i64 45]) ∧ Below w.heap.size w w' := by
  go_enter Try.func35, Try.ntmps35
  go_wp2
  go_ret2
  exact ⟨rfl, by go_grown⟩
set_option maxRecDepth 100000 in
set_option maxHeartbeats 1000000 in
theorem rb_low (n m c0 c1 : Nat) (A0 A1 : Option Addr) (least most : Int) (w : World) (h1 : (n : Int) < least) :
    Calls Try.prog 35 #[.agg #[.int .i64 0, .slice A0 n c0, .slice A1 m c1], .int .i64 least, .int .i64 most] w fun e w' => e = .returned (.tuple #[.slice none 0 0, .int .i64 46]) ∧ Below w.heap.size w w' := by
  go_enter Try.func35, Try.ntmps35
  go_wp2
  go_ret2
  exact ⟨rfl, by go_grown⟩
set_option maxRecDepth 100000 in
set_option maxHeartbeats 1000000 in
theorem rb_high (n m c0 c1 : Nat) (A0 A1 : Option Addr) (least most : Int) (w : World) (h1 : ¬ (n : Int) < least) (h2 : most < (n : Int)) :
    Calls Try.prog 35 #[.agg #[.int .i64 0, .slice A0 n c0, .slice A1 m c1], .int .i64 least, .int .i64 most] w fun e w' => e = .returned (.tuple #[.slice none 0 0, .int .i64 46]) ∧ Below w.heap.size w w' := by
  go_enter Try.func35, Try.ntmps35
  go_wp2
  go_ret2
  exact ⟨rfl, by go_grown⟩
set_option maxRecDepth 100000 in
set_option maxHeartbeats 1000000 in
theorem al_kind (l : Int) (h0 : ¬ l = 1) (n m c0 c1 : Nat) (A0 A1 : Option Addr) (least most : Int) (w : World) :
    Calls Try.prog 36 #[.agg #[.int .i64 l, .slice A0 n c0, .slice A1 m c1], .int .i64 least, .int .i64 most] w fun e w' => e = .returned (.tuple #[.slice none 0 0, .int .i64 45]) ∧ Below w.heap.size w w' := by
  go_enter Try.func36, Try.ntmps36
  go_wp2
  go_ret2
  exact ⟨rfl, by go_grown⟩
set_option maxRecDepth 100000 in
set_option maxHeartbeats 1000000 in
theorem al_low (n m c0 c1 : Nat) (A0 A1 : Option Addr) (least most : Int) (w : World) (h1 : (m : Int) < least) :
    Calls Try.prog 36 #[.agg #[.int .i64 1, .slice A0 n c0, .slice A1 m c1], .int .i64 least, .int .i64 most] w fun e w' => e = .returned (.tuple #[.slice none 0 0, .int .i64 46]) ∧ Below w.heap.size w w' := by
  go_enter Try.func36, Try.ntmps36
  go_wp2
  go_ret2
  exact ⟨rfl, by go_grown⟩
set_option maxRecDepth 100000 in
set_option maxHeartbeats 1000000 in
theorem al_high (n m c0 c1 : Nat) (A0 A1 : Option Addr) (least most : Int) (w : World) (h1 : ¬ (m : Int) < least) (h2 : most < (m : Int)) :
    Calls Try.prog 36 #[.agg #[.int .i64 1, .slice A0 n c0, .slice A1 m c1], .int .i64 least, .int .i64 most] w fun e w' => e = .returned (.tuple #[.slice none 0 0, .int .i64 46]) ∧ Below w.heap.size w w' := by
  go_enter Try.func36, Try.ntmps36
  go_wp2
  go_ret2
  exact ⟨rfl, by go_grown⟩
set_option maxRecDepth 100000 in
set_option maxHeartbeats 1000000 in
theorem rl_kind (l : Int) (h0 : ¬ l = 1) (n m c0 c1 : Nat) (A0 A1 : Option Addr) (least most : Int) (w : World) :
    Calls Try.prog 37 #[.agg #[.int .i64 l, .slice A0 n c0, .slice A1 m c1], .int .i64 least, .int .i64 most] w fun e w' => e = .returned (.tuple #[.slice none 0 0, .int .i64 45]) ∧ Below w.heap.size w w' := by
  go_enter Try.func37, Try.ntmps37
  go_wp2
  go_ret2
  exact ⟨rfl, by go_grown⟩
set_option maxRecDepth 100000 in
set_option maxHeartbeats 1000000 in
theorem rl_low (n m c0 c1 : Nat) (A0 A1 : Option Addr) (least most : Int) (w : World) (h1 : (m : Int) < least) :
    Calls Try.prog 37 #[.agg #[.int .i64 1, .slice A0 n c0, .slice A1 m c1], .int .i64 least, .int .i64 most] w fun e w' => e = .returned (.tuple #[.slice none 0 0, .int .i64 46]) ∧ Below w.heap.size w w' := by
  go_enter Try.func37, Try.ntmps37
  go_wp2
  go_ret2
  exact ⟨rfl, by go_grown⟩
set_option maxRecDepth 100000 in
set_option maxHeartbeats 1000000 in
theorem rl_high (n m c0 c1 : Nat) (A0 A1 : Option Addr) (least most : Int) (w : World) (h1 : ¬ (m : Int) < least) (h2 : most < (m : Int)) :
    Calls Try.prog 37 #[.agg #[.int .i64 1, .slice A0 n c0, .slice A1 m c1], .int .i64 least, .int .i64 most] w fun e w' => e = .returned (.tuple #[.slice none 0 0, .int .i64 46]) ∧ Below w.heap.size w w' := by
  go_enter Try.func37, Try.ntmps37
  go_wp2
  go_ret2
  exact ⟨rfl, by go_grown⟩
set_option maxRecDepth 100000 in
set_option maxHeartbeats 1000000 in
theorem ab_ok (n m c0 c1 : Nat) (A0 A1 : Option Addr) (least most : Int) (w : World) (bs : List UInt8) (hn : n = bs.length) (h1 : ¬ (n : Int) < least) (h2 : ¬ most < (n : Int))
    (h58 : Hid (∀ W, Below w.heap.size w W → Calls Try.prog 58 #[.slice A0 n c0] W fun e w' => ∃ v', e = .returned v' ∧ M.Own w' W.heap.size v' bs ∧ Below W.heap.size W w')) :
    Calls Try.prog 34 #[.agg #[.int .i64 0, .slice A0 n c0, .slice A1 m c1], .int .i64 least, .int .i64 most] w fun e w' => ∃ v, e = .returned (.tuple #[v, .int .i64 0]) ∧ Bs w' w.heap.size w'.heap.size v bs ∧ Below w.heap.size w w' := by
  have HN := Lib.hid hn
  clear hn
  go_enter Try.func34, Try.ntmps34
  go_wp2_with (first
    | (go_at_call 58; refine (h58.out _ (by go_grown)).mono ?_
       rintro e w1 ⟨v', rfl, ho, hbl⟩
       have HS : Hid (Bs w1 w.heap.size w1.heap.size v' bs) := ho.bs.wide (by rw [size_alloc]; omega) (Nat.le_refl _)
       have HBL : Hid (Below w.heap.size w w1) := ((Below.refl _ w).alloc (Nat.le_refl _) _).trans (hbl.mono (by rw [size_alloc]; omega))
       clear hbl ho))
  go_ret2
  exact ⟨_, rfl, HS.out, HBL.out⟩
set_option maxRecDepth 100000 in
set_option maxHeartbeats 1000000 in
theorem rb_ok (n m c0 c1 : Nat) (A0 A1 : Option Addr) (least most : Int) (w : World) (bs : List UInt8) (hn : n = bs.length) (hl : n ≤ 140737488355328) (h1 : ¬ (n : Int) < least) (h2 : ¬ most < (n : Int))
    (hR : Hid (∀ W, Below w.heap.size w W → Rd W 0 w.heap.size 1 A0 n (nums bs))) :
    Calls Try.prog 35 #[.agg #[.int .i64 0, .slice A0 n c0, .slice A1 m c1], .int .i64 least, .int .i64 most] w fun e w' => ∃ v, e = .returned (.tuple #[v, .int .i64 0]) ∧ Bs w' w.heap.size w'.heap.size v bs ∧ Below w.heap.size w w' := by
  have HN := Lib.hid hn
  have HL := Lib.hid hl
  clear hn hl
  have HO : Hid (((w.alloc (.cells #[.int .i64 0, .slice A0 n c0, .slice A1 m c1] 27)).alloc (.cells #[] 5)).ownsRow w.heap.size 5 1 (.slice (some ⟨w.heap.size + 1, 0, none⟩) 0 0) 0 []) := by
    have h := own_empty (w.alloc (.cells #[.int .i64 0, .slice A0 n c0, .slice A1 m c1] 27)) w.heap.size (by rw [size_alloc]; omega)
    rwa [size_alloc] at h
  go_enter Try.func35, Try.ntmps35
  go_wp2_with (first
    | (at_builtin
       refine wp_append rfl (.tmp 23) (.tmp 25) 23 5 (.int .u8 0) 1 1 rfl Try.underlying23 M.info5 rfl (by omega) w.heap.size 0 w.heap.size _ 0 [] A0 n c0 (nums bs) rfl rfl HO.out (hR.out _ (by go_grown)) (nums_one _) (by have := HL.out; simp only [maxLen]; omega) (by have := HL.out; omega) (by simp only [size_alloc]; omega) ?_
       intro v' w2 hown2 hgrow2 hat2
       have HO2 : Hid (M.Own w2 w.heap.size v' bs) := (show M.Own w2 w.heap.size v' bs from by
         have e := HN.out
         simp only [Nat.zero_add, List.nil_append] at hown2
         rw [e] at hown2
         exact hown2)
       have HB2 : Hid (Below w.heap.size w w2) := (((Below.refl _ w).alloc (Nat.le_refl _) _).alloc (by rw [size_alloc]; omega) _).grown hgrow2 (by simp only [size_alloc]; omega) (fun b hb => (World.ownsRow.lt HO.out b hb).1)
       clear hown2 hgrow2 hat2))
  go_ret2
  exact ⟨_, rfl, HO2.out.bs, HB2.out⟩
set_option maxRecDepth 100000 in
set_option maxHeartbeats 1000000 in
theorem al_ok (n m c0 c1 : Nat) (A0 A1 : Option Addr) (least most : Int) (w : World) (x : It) (ks : List It) (hm : m = ks.length) (h1 : ¬ (m : Int) < least) (h2 : ¬ most < (m : Int)) (hx : ∃ l bs, x = .mk l bs ks)
    (h62 : Hid (∀ W, Below w.heap.size w W → Calls Try.prog 62 #[.agg #[.int .i64 1, .slice A0 n c0, .slice A1 m c1]] W fun e w' => ∃ d0 d1 d2, e = .returned (.agg #[d0, d1, d2]) ∧ ItemR w' (Btw W.heap.size w'.heap.size) x [d0, d1, d2] ∧ Below W.heap.size W w')) :
    Calls Try.prog 36 #[.agg #[.int .i64 1, .slice A0 n c0, .slice A1 m c1], .int .i64 least, .int .i64 most] w fun e w' => ∃ A c inner, e = .returned (.tuple #[.slice A ks.length c, .int .i64 0]) ∧ ks.length ≤ c ∧ c ≤ 9223372036854775807 ∧ RdS w' (Btw w.heap.size w'.heap.size) 3 A ks.length inner ∧ KidsR w' (Btw w.heap.size w'.heap.size) ks inner ∧ Below w.heap.size w w' := by
  have HM := Lib.hid hm
  have HX := Lib.hid hx
  clear hm hx
  go_enter Try.func36, Try.ntmps36
  go_wp2_with (first
    | (go_at_call 62; refine (h62.out _ (by go_grown)).mono ?_
       rintro e w1 ⟨d0, d1, d2, rfl, hit, hbl⟩
       obtain ⟨⟨fl, rfl⟩, ⟨fA, fn, fc, rfl⟩, ⟨fB, fm, fd, rfl⟩⟩ := item_shape hit
       have HI := Lib.hid hit
       have hf := field2 (.int .i64 fl) (.slice fA fn fc) (.slice fB fm fd) w1
       have HBL : Hid (Below w.heap.size w w1) := ((Below.refl _ w).alloc (Nat.le_refl _) _).trans (hbl.mono (by rw [size_alloc]; omega))
       clear hbl hit))
  go_ret2
  obtain ⟨l, bs, rfl⟩ := HX.out
  have hi := HI.out
  simp only [ItemR] at hi
  obtain ⟨v, A, c, inner, e, hb, a1, a2, hr, hk⟩ := hi
  simp only [List.cons.injEq, and_true] at e
  obtain ⟨_, _, e3⟩ := e
  rw [e3]
  have hw : ∀ b, Btw (w.alloc (.cells #[.int .i64 1, .slice A0 n c0, .slice A1 m c1] 27)).heap.size w1.heap.size b → Btw w.heap.size w1.heap.size b := fun b hb => ⟨by have := hb.1; rw [size_alloc] at this; omega, hb.2⟩
  exact ⟨A, c, inner, rfl, a1, a2, hr.wide hw, KidsR.wide hw _ _ hk, HBL.out⟩
set_option maxRecDepth 100000 in
set_option maxHeartbeats 1000000 in
theorem rl_ok (n m c0 c1 : Nat) (A0 A1 : Option Addr) (least most : Int) (w : World) (h1 : ¬ (m : Int) < least) (h2 : ¬ most < (m : Int)) :
    Calls Try.prog 37 #[.agg #[.int .i64 1, .slice A0 n c0, .slice A1 m c1], .int .i64 least, .int .i64 most] w fun e w' => e = .returned (.tuple #[.slice A1 m c1, .int .i64 0]) ∧ Below w.heap.size w w' := by
  go_enter Try.func37, Try.ntmps37
  go_wp2
  go_ret2
  exact ⟨rfl, by go_grown⟩
theorem bs_nil (w : World) (lo hi : Nat) : Bs w lo hi (.slice none 0 0) [] := ⟨none, 0, rfl, by simp, by omega, Rd.nil _ _ _ _ _⟩
/-- AsBytes is bytesF, in memory of its own. -/
theorem asBytes34 (l : Int) (bs : List UInt8) (ks : List It) (S : Nat → Prop) (c0 c1 c2 : Value) (least most : Int) (w : World) (hx : ItemR w S (.mk l bs ks) [c0, c1, c2]) (hS : ∀ b, S b → b < w.heap.size) (hn : bs.length ≤ 140737488355328) :
    Calls Try.prog 34 #[.agg #[c0, c1, c2], .int .i64 least, .int .i64 most] w fun e w' => ∃ v, e = .returned (.tuple #[v, .int .i64 ((bytesF l bs least most).2 : Nat)]) ∧ Bs w' w.heap.size w'.heap.size v (bytesF l bs least most).1 ∧ Below w.heap.size w w' := by
  simp only [ItemR] at hx
  obtain ⟨v, A, c, inner, e, hb, h1, h2, hr, hk⟩ := hx
  simp only [List.cons.injEq, and_true] at e
  obtain ⟨rfl, rfl, rfl⟩ := e
  have hbs := hb.toBs (lo := 0) (hi := w.heap.size) (fun b h => ⟨Nat.zero_le _, hS b h⟩)
  obtain ⟨Ab, cb, rfl, hb1, hb2, hbR⟩ := hb
  unfold bytesF
  by_cases h0 : l = 0
  · subst h0
    rw [if_neg (by simp)]
    by_cases hl : (bs.length : Int) < least
    · rw [if_pos (.inl hl)]
      exact (ab_low _ _ _ _ _ _ _ _ w hl).mono fun e w' ⟨h1, h2⟩ => ⟨_, h1, bs_nil _ _ _, h2⟩
    · by_cases hm : most < (bs.length : Int)
      · rw [if_pos (.inr hm)]
        exact (ab_high _ _ _ _ _ _ _ _ w hl hm).mono fun e w' ⟨h1, h2⟩ => ⟨_, h1, bs_nil _ _ _, h2⟩
      · rw [if_neg (by omega)]
        exact ab_ok _ _ _ _ _ _ _ _ w bs rfl hl hm (fun W hW => clone58 0 w.heap.size _ bs W (hbs.keep (Same.of_below hW (Nat.le_refl _))) hW.size hn)
  · rw [if_pos h0]
    exact (ab_kind l h0 _ _ _ _ _ _ _ _ w).mono fun e w' ⟨h1, h2⟩ => ⟨_, h1, bs_nil _ _ _, h2⟩
/-- ref.AsBytes is bytesF, in memory of its own. -/
theorem rBytes35 (l : Int) (bs : List UInt8) (ks : List It) (S : Nat → Prop) (c0 c1 c2 : Value) (least most : Int) (w : World) (hx : ItemR w S (.mk l bs ks) [c0, c1, c2]) (hS : ∀ b, S b → b < w.heap.size) (hn : bs.length ≤ 140737488355328) :
    Calls Try.prog 35 #[.agg #[c0, c1, c2], .int .i64 least, .int .i64 most] w fun e w' => ∃ v, e = .returned (.tuple #[v, .int .i64 ((bytesF l bs least most).2 : Nat)]) ∧ Bs w' w.heap.size w'.heap.size v (bytesF l bs least most).1 ∧ Below w.heap.size w w' := by
  simp only [ItemR] at hx
  obtain ⟨v, A, c, inner, e, hb, h1, h2, hr, hk⟩ := hx
  simp only [List.cons.injEq, and_true] at e
  obtain ⟨rfl, rfl, rfl⟩ := e
  obtain ⟨Ab, cb, rfl, hb1, hb2, hbR⟩ := hb
  have hR := hbR.toRd (lo := 0) (hi := w.heap.size) (fun b h => ⟨Nat.zero_le _, hS b h⟩)
  unfold bytesF
  by_cases h0 : l = 0
  · subst h0
    rw [if_neg (by simp)]
    by_cases hl : (bs.length : Int) < least
    · rw [if_pos (.inl hl)]
      exact (rb_low _ _ _ _ _ _ _ _ w hl).mono fun e w' ⟨h1, h2⟩ => ⟨_, h1, bs_nil _ _ _, h2⟩
    · by_cases hm : most < (bs.length : Int)
      · rw [if_pos (.inr hm)]
        exact (rb_high _ _ _ _ _ _ _ _ w hl hm).mono fun e w' ⟨h1, h2⟩ => ⟨_, h1, bs_nil _ _ _, h2⟩
      · rw [if_neg (by omega)]
        exact rb_ok _ _ _ _ _ _ _ _ w bs rfl hn hl hm (fun W hW => hR.keep (Same.of_below hW (Nat.le_refl _)))
  · rw [if_pos h0]
    exact (rb_kind l h0 _ _ _ _ _ _ _ _ w).mono fun e w' ⟨h1, h2⟩ => ⟨_, h1, bs_nil _ _ _, h2⟩
/-- A slice of items. -/
def Ks (w : World) (S : Nat → Prop) (v : Value) (ks : List It) : Prop := ∃ A c inner, v = .slice A ks.length c ∧ ks.length ≤ c ∧ c ≤ 9223372036854775807 ∧ RdS w S 3 A ks.length inner ∧ KidsR w S ks inner
theorem ks_nil (w : World) (S : Nat → Prop) : Ks w S (.slice none 0 0) [] := ⟨none, 0, [], rfl, by simp, by omega, ⟨rfl, fun h => absurd h (by simp)⟩, rfl⟩
/-- AsList is listF, in memory of its own. -/
theorem asList36 (l : Int) (bs : List UInt8) (ks : List It) (S : Nat → Prop) (c0 c1 c2 : Value) (least most : Int) (w : World) (hx : ItemR w S (.mk l bs ks) [c0, c1, c2]) (hS : ∀ b, S b → b < w.heap.size) (hn : bulk (.mk l bs ks) ≤ 1073741824) :
    Calls Try.prog 36 #[.agg #[c0, c1, c2], .int .i64 least, .int .i64 most] w fun e w' => ∃ v, e = .returned (.tuple #[v, .int .i64 ((listF l ks least most).2 : Nat)]) ∧ Ks w' (Btw w.heap.size w'.heap.size) v (listF l ks least most).1 ∧ Below w.heap.size w w' := by
  have h62 : ∀ W, Below w.heap.size w W → Calls Try.prog 62 #[.agg #[c0, c1, c2]] W fun e w' => ∃ d0 d1 d2, e = .returned (.agg #[d0, d1, d2]) ∧ ItemR w' (Btw W.heap.size w'.heap.size) (.mk l bs ks) [d0, d1, d2] ∧ Below W.heap.size W w' := fun W hW =>
    G3.twin62 (.mk l bs ks) S c0 c1 c2 W (ItemR.keep (fun b hb => hW.block b (hS b hb)) _ _ hx) (fun b hb => Nat.lt_of_lt_of_le (hS b hb) hW.size) hn
  simp only [ItemR] at hx
  obtain ⟨v, A, c, inner, e, hb, h1, h2, hr, hk⟩ := hx
  simp only [List.cons.injEq, and_true] at e
  obtain ⟨rfl, rfl, rfl⟩ := e
  obtain ⟨Ab, cb, rfl, hb1, hb2, hbR⟩ := hb
  unfold listF
  by_cases h0 : l = 1
  · subst h0
    rw [if_neg (by simp)]
    by_cases hl : (ks.length : Int) < least
    · rw [if_pos (.inl hl)]
      exact (al_low _ _ _ _ _ _ _ _ w hl).mono fun e w' ⟨h1, h2⟩ => ⟨_, h1, ks_nil _ _, h2⟩
    · by_cases hm : most < (ks.length : Int)
      · rw [if_pos (.inr hm)]
        exact (al_high _ _ _ _ _ _ _ _ w hl hm).mono fun e w' ⟨h1, h2⟩ => ⟨_, h1, ks_nil _ _, h2⟩
      · rw [if_neg (by omega)]
        exact (al_ok _ _ _ _ _ _ _ _ w _ ks rfl hl hm ⟨_, _, rfl⟩ h62).mono fun e w' ⟨A, c, inner, h1, h2, h3, h4, h5, h6⟩ => ⟨_, h1, ⟨A, c, inner, rfl, h2, h3, h4, h5⟩, h6⟩
  · rw [if_pos h0]
    exact (al_kind l h0 _ _ _ _ _ _ _ _ w).mono fun e w' ⟨h1, h2⟩ => ⟨_, h1, ks_nil _ _, h2⟩
/-- ref.AsList is listF: the item's own kids. -/
theorem rList37 (l : Int) (bs : List UInt8) (ks : List It) (S : Nat → Prop) (c0 c1 c2 : Value) (least most : Int) (w : World) (hx : ItemR w S (.mk l bs ks) [c0, c1, c2]) (hS : ∀ b, S b → b < w.heap.size) :
    Calls Try.prog 37 #[.agg #[c0, c1, c2], .int .i64 least, .int .i64 most] w fun e w' => ∃ v, e = .returned (.tuple #[v, .int .i64 ((listF l ks least most).2 : Nat)]) ∧ Ks w' S v (listF l ks least most).1 ∧ Below w.heap.size w w' := by
  simp only [ItemR] at hx
  obtain ⟨v, A, c, inner, e, hb, h1, h2, hr, hk⟩ := hx
  simp only [List.cons.injEq, and_true] at e
  obtain ⟨rfl, rfl, rfl⟩ := e
  obtain ⟨Ab, cb, rfl, hb1, hb2, hbR⟩ := hb
  unfold listF
  by_cases h0 : l = 1
  · subst h0
    rw [if_neg (by simp)]
    by_cases hl : (ks.length : Int) < least
    · rw [if_pos (.inl hl)]
      exact (rl_low _ _ _ _ _ _ _ _ w hl).mono fun e w' ⟨h1, h2⟩ => ⟨_, h1, ks_nil _ _, h2⟩
    · by_cases hm : most < (ks.length : Int)
      · rw [if_pos (.inr hm)]
        exact (rl_high _ _ _ _ _ _ _ _ w hl hm).mono fun e w' ⟨h1, h2⟩ => ⟨_, h1, ks_nil _ _, h2⟩
      · rw [if_neg (by omega)]
        exact (rl_ok _ _ _ _ _ _ _ _ w hl hm).mono fun e w' ⟨h3, h4⟩ => ⟨_, h3, ⟨A, c, inner, rfl, h1, h2, hr.keep (fun b hb => h4.block b (hS b hb)), KidsR.keep (fun b hb => h4.block b (hS b hb)) _ _ hk⟩, h4⟩
  · rw [if_pos h0]
    exact (rl_kind l h0 _ _ _ _ _ _ _ _ w).mono fun e w' ⟨h1, h2⟩ => ⟨_, h1, ks_nil _ _, h2⟩
end Go.Proofs.Ytkdpphcalekbdaa.S5
