/- RlpKids of a list, walked. -/
import Derived.Test.YtkdpphcalekbdaaB13
import Derived.Test.YtkdpphcalekbdaaJ3
import Derived.Test.YtkdpphcalekbdaaE3
set_option linter.unusedVariables false
set_option linter.unusedSimpArgs false
namespace Go.Proofs.Ytkdpphcalekbdaa.B14
open Go.ChangeShapes Go.WideShapes Go.ChangeAt Go.RowKit Go.Shelf
open M W1 G1 L1 J1 J3 B11 J2
attribute [local go_sem] Oper.semAt_some
section
variable (S : Nat → Prop) (v : Value) (l : List Nd) (w : World)
/-- What a round keeps. -/
def Keeps (n b : Nat) (k : Nat) : Prop := k < b + 4 ∧ k ≠ n ∧ k ≠ b + 1 ∧ k ≠ b + 1 + 1
/-- Between two rounds. -/
def Mid (w wr : World) (b : Nat) (at_ i : Nat) (W : World) : Prop :=
  W.heap[w.heap.size]? = some (.cells #[.bool false] 4 (0, 0)) ∧ W.heap[b + 1]? = some (.cells #[.int .i64 (at_ : Int)] 3 (0, 0)) ∧ W.heap[b + 1 + 1]? = some (.cells #[.int .i64 (i : Int)] 3 (0, 0)) ∧ H4.KeepT (Keeps w.heap.size b) wr W ∧ Below w.heap.size w W
theorem mid_own {β : Type} (w wr : World) (b : Nat) (f g : β → Nat) (hr : wr.heap.size = b + 4) (hw : w.heap.size < b) : OwnFrom (b + 4) (fun (x : β) W => Mid w wr b (f x) (g x) W) :=
  own_blocks _ _ fun s W W' hs hz ho ht hu hk => by
    obtain ⟨h0, h1, h2, h3, h4⟩ := hs
    have z0 := (Array.getElem?_eq_some_iff.1 h0).1
    have z1 := (Array.getElem?_eq_some_iff.1 h1).1
    have z2 := (Array.getElem?_eq_some_iff.1 h2).1
    have z3 := h3.1
    refine ⟨(hk _ z0 (by omega)).trans h0, (hk _ z1 (by omega)).trans h1, (hk _ z2 (by omega)).trans h2, ⟨by omega, fun k hK => (hk k (by have := hK.1; omega) hK.1).trans (h3.2 k hK)⟩, ⟨ho.trans h4.os, ht.trans h4.tape, hu.trans h4.output, Nat.le_trans h4.size hz, fun k hK => (hk k (Nat.lt_of_lt_of_le hK h4.size) (by omega)).trans (h4.block k hK)⟩⟩
theorem mid_alloc {w wr : World} {b a i : Nat} (hr : wr.heap.size = b + 4) (hw : w.heap.size < b) {W : World} (hI : Mid w wr b a i W) (o : Obj) : Mid w wr b a i (W.alloc o) :=
  mid_own w wr b (fun _ : Unit => a) (fun _ => i) hr hw () W _ none hI ⟨rfl, rfl, rfl, by rw [size_alloc]; omega, fun k hk _ => Below.heap_alloc _ _ _ hk⟩ (fun r e => by cases e)
theorem set2_size (W : World) (b : Nat) (u v : Value) : ((W.setCell ⟨b + 1, 0, none⟩ u).setCell ⟨b + 1 + 1, 0, none⟩ v).heap.size = W.heap.size := by simp [World.setCell]
theorem set2_heap (W : World) (b : Nat) (u v : Value) (k : Nat) (h1 : k ≠ b + 1) (h2 : k ≠ b + 1 + 1) : ((W.setCell ⟨b + 1, 0, none⟩ u).setCell ⟨b + 1 + 1, 0, none⟩ v).heap[k]? = W.heap[k]? :=
  (heap_set _ _ _ _ _ (Ne.symm h2)).trans (heap_set _ _ _ _ _ (Ne.symm h1))
theorem mid_next {w wr W W2 : World} {b a i : Nat} {u v : Int} {a' i' : Nat} (hu : u = (a' : Int)) (hv : v = (i' : Int)) (hr : wr.heap.size = b + 4) (hw : w.heap.size < b) (hI : Mid w wr b a i W) (hb : Below W.heap.size W W2) :
    Mid w wr b a' i' ((W2.setCell ⟨b + 1, 0, none⟩ (.int .i64 u)).setCell ⟨b + 1 + 1, 0, none⟩ (.int .i64 v)) := by
  subst hu hv
  obtain ⟨h0, h1, h2, h3, h4⟩ := hI
  have z0 := (Array.getElem?_eq_some_iff.1 h0).1
  have z1 := (Array.getElem?_eq_some_iff.1 h1).1
  have z2 := (Array.getElem?_eq_some_iff.1 h2).1
  have k1 := (hb.block _ z1).trans h1
  have k2 := (hb.block _ z2).trans h2
  have hs := hb.size
  refine ⟨(set2_heap _ _ _ _ _ (by omega) (by omega)).trans ((hb.block _ z0).trans h0), ?_, ?_, ⟨by rw [set2_size]; have := h3.1; omega, fun k hk => (set2_heap _ _ _ _ _ hk.2.2.1 hk.2.2.2).trans ((hb.block k (by have := h3.1; have := hk.1; omega)).trans (h3.2 k hk))⟩,
    ⟨hb.os.trans h4.os, hb.tape.trans h4.tape, hb.output.trans h4.output, by rw [set2_size]; have := h4.size; omega, fun k hk => (set2_heap _ _ _ _ _ (by omega) (by omega)).trans ((hb.block k (by have := h4.size; omega)).trans (h4.block k hk))⟩⟩
  · rw [heap_set _ _ _ _ _ (by omega)]
    simp [World.setCell, Array.getElem?_modify, k1]
  · have k2' : (W2.setCell ⟨b + 1, 0, none⟩ (.int .i64 (a' : Int))).heap[b + 1 + 1]? = some (.cells #[.int .i64 (i : Int)] 3 (0, 0)) := (heap_set _ _ _ _ _ (by omega)).trans k2
    generalize W2.setCell ⟨b + 1, 0, none⟩ (.int .i64 (a' : Int)) = W3 at k2'
    simp [World.setCell, Array.getElem?_modify, k2']
set_option maxRecDepth 100000 in
set_option maxHeartbeats 1000000 in
theorem kids_list (hv : Nds w S v l) (hS : ∀ b, S b → b < w.heap.size) (hl : nbulk l ≤ 1048576) (ks : List It) (hx : (itemF 200 l).1 = .mk 1 [] ks) (hc : checkF 0 (.mk 1 [] ks) = 0) :
    Calls Try.prog 8 #[v] w fun e w' => e = .returned (.bool true) ∧ Below w.heap.size w w' := by
  have hxb := item_bulk l
  rw [hx] at hxb
  have hlen : (formF (.mk 1 [] ks)).length ≤ 10995116 := by
    have := formF_le (.mk 1 [] ks) (by omega)
    omega
  have hbk : bulks ks ≤ 1048577 := by simp only [bulk] at hxb; omega
  have hks : ks.length ≤ 1048577 := Nat.le_trans (bulks_length ks) hbk
  have hck : ∀ k ∈ ks, checkF 1 k = 0 := by
    rcases check_list hc with ⟨h, _⟩ | ⟨_, _, _, h⟩
    · cases h
    · exact checks_mem h
  have C12 := Lib.hid A1.awake12
  have C13 : Hid (∀ W, Below w.heap.size w W → Calls Try.prog 13 #[v] W fun e w' => ∃ A c B d inner, e = .returned (.agg #[.int .i64 1, .slice A 0 c, .slice B ks.length d]) ∧ RdS w' (Btw W.heap.size w'.heap.size) 3 B ks.length inner ∧ KidsR w' (Btw W.heap.size w'.heap.size) ks inner ∧ ItemR w' (Btw W.heap.size w'.heap.size) (.mk 1 [] ks) [.int .i64 1, .slice A 0 c, .slice B ks.length d] ∧ Below W.heap.size W w') := fun W hW => by
    refine (c13 hv hS (by omega) W hW).mono ?_
    rintro e w' ⟨l0, A0, n0, c0, B0, m0, d0, rfl, hi, hb⟩
    rw [hx] at hi
    have hi' := hi
    simp only [ItemR] at hi
    obtain ⟨v, A, c, inner, e, hb1, h1, h2, hr, hk⟩ := hi
    simp only [List.cons.injEq, and_true, Value.int.injEq, true_and, Value.slice.injEq] at e
    obtain ⟨rfl, rfl, rfl, rfl, rfl⟩ := e
    obtain ⟨A', c', e4, _⟩ := hb1
    obtain ⟨rfl, e5, rfl⟩ := (Value.slice.injEq _ _ _ _ _ _).mp e4
    simp only [List.length_nil] at e5
    subst e5
    exact ⟨_, _, _, _, _, rfl, hr, hk, hi', hb⟩
  have C15 := Lib.hid (c15 (.mk 1 [] ks) (by omega))
  have C14 := Lib.hid (c14 (.mk 1 [] ks) (by omega) hc)
  have K15 : Hid (∀ k ∈ ks, ∀ (W : World) (S : Nat → Prop) (c0 c1 c2 : Value), ItemR W S k [c0, c1, c2] → (∀ b, S b → b < W.heap.size) → Calls Try.prog 15 #[.agg #[c0, c1, c2]] W fun e w' => ∃ l0 A0 n0 c0 B0 m0 d0, e = .returned (.agg #[.int .i64 l0, .slice A0 n0 c0, .slice B0 m0 d0]) ∧ ItemR w' (Btw W.heap.size w'.heap.size) k [.int .i64 l0, .slice A0 n0 c0, .slice B0 m0 d0] ∧ Below W.heap.size W w') := fun k hk => c15 k (by have := bulks_mem hk; omega)
  have K14 : Hid (∀ k ∈ ks, ∀ (W : World) (S : Nat → Prop) (c0 c1 c2 : Value), ItemR W S k [c0, c1, c2] → (∀ b, S b → b < W.heap.size) → Calls Try.prog 14 #[.agg #[c0, c1, c2]] W fun e w' => ∃ A n c, e = .returned (.tuple #[.slice A n c, .int .i64 0]) ∧ n = (formF k).length ∧ Bs w' W.heap.size w'.heap.size (.slice A n c) (formF k) ∧ Below W.heap.size W w') := fun k hk W S c0 c1 c2 hi hS =>
    (c14 k (by have := bulks_mem hk; omega) (check_mono k 0 (hck k hk)) W S c0 c1 c2 hi hS).mono fun e w' ⟨A, c, h1, h2, h3⟩ => ⟨A, _, c, h1, rfl, h2, h3⟩
  obtain ⟨li, f, hhd, hpay, hf, hli⟩ := hd_of_form (x := .mk 1 [] ks) hc (by omega) []
  rw [List.append_nil] at hhd
  have hli' : li = 1 := by simp only at hli; omega
  subst hli'
  have C23 : Hid (∀ W lo hi v, Bs W lo hi v (formF (.mk 1 [] ks)) → hi ≤ W.heap.size → Calls Try.prog 23 #[v] W fun e w' => e = .returned (.tuple #[.agg #[.int .i64 1, .int .i64 (f : Nat), .int .i64 ((formF (.mk 1 [] ks)).length : Nat)], .int .i64 0]) ∧ Below W.heap.size W w') := fun W lo hi v hb hh => by
    have := head23_any lo hi v _ W hb hh (by omega)
    rw [hhd] at this
    exact this
  have HPAY : Hid ((formF (.mk 1 [] ks)).drop f = formsF ks) := by
    have : payF (.mk 1 [] ks) = formsF ks := rfl
    rw [this] at hpay
    exact hpay.symm
  have hfk : ∀ k ∈ ks, checkF 1 k = 0 ∧ (formF k).length ≤ 1099511627776 := fun k hk => ⟨hck k hk, by have := formF_le k (by have := bulks_mem hk; omega); have := bulks_mem hk; omega⟩
  have HEK := Lib.hid (each_kids 1 ks hfk)
  have HKS := Lib.hid hks
  have HF := Lib.hid hf
  have HLEN := Lib.hid hlen
  have hzn : Hid ((formsF ks).length = (formF (.mk 1 [] ks)).length - f) := (show _ = _ by rw [← HPAY.out, List.length_drop])
  obtain ⟨vA, vn, vc, rfl⟩ : ∃ A n c, v = .slice A n c := by obtain ⟨A, c, inner, rfl, _⟩ := hv; exact ⟨_, _, _, rfl⟩
  clear hv hS hl hx hxb hc hlen hhd hpay hli hfk hck hbk hks
  generalize It.mk 1 [] ks = x at *
  generalize formF x = out at *
  generalize hN : out.length = N at *
  have HN := Lib.hid hN
  generalize hL : (formsF ks).length = L at *
  have HL := Lib.hid hL
  generalize hm : ks.length = m at *
  have HM := Lib.hid hm
  clear hN hL hm hf
  have hfi : ¬ (N : Int) < (f : Int) := by have := HF.out; omega
  have hf0 : ¬ (f : Int) < 0 := by omega
  refine (callsIn_wide (n := 6)).1 ?_
  refine callsIn_of_wp_marks Try.func8 rfl trivial ?_ rfl
  refine wpIn_wide.2 ?_
  simp only [Try.ntmps8, List.size_toArray, List.length_cons, List.length_nil, Nat.reduceAdd, Nat.reduceSub, Array.replicate_succ, Array.replicate_zero, List.push_toArray, List.append_toArray, List.nil_append, List.cons_append]
  go_wp2_with (first
    | (go_at_call 12; refine (C12.out _).mono ?_
       rintro e w1 ⟨rfl, hb1⟩
       have hx1 := block_later hb1 (block_new w _) (by rw [size_alloc]; omega)
       have HB1 : Hid (Below w.heap.size w w1) := (below_new _ _).trans (hb1.mono (by rw [size_alloc]; omega))
       have HX1 := Lib.hid hx1
       clear hb1 hx1)
    | (go_at_call 13; refine (C13.out _ HB1.out).mono ?_
       rintro e w2 ⟨A2, c2, B2, d2, inner, rfl, hr2, hk2, hi2, hb2⟩
       have HI2 := Lib.hid hi2
       have HR2 := Lib.hid hr2
       have HK2 := Lib.hid hk2
       have HB2 : Hid (Below w1.heap.size w1 w2) := hb2
       clear hi2 hb2 hr2 hk2)
    | (go_at_call 15; refine (C15.out _ _ _ _ _ (item_later HI2.out (fun b hb => hb.2) (below_new _ _)) (fun b hb => by have := hb.2; rw [size_alloc]; omega)).mono ?_
       rintro e w3 ⟨l3, A3, n3, c3, B3, m3, d3, rfl, hi3, hb3⟩
       have HI3 := Lib.hid hi3
       have HX3 := Lib.hid (block_later hb3 (block_new w2 _) (by rw [size_alloc]; omega))
       have HB3 : Hid (Below w2.heap.size w2 w3) := (below_new _ _).trans (hb3.mono (by rw [size_alloc]; omega))
       clear hi3 hb3)
    | (go_at_call 14; refine (C14.out _ _ _ _ _ HI3.out (fun b hb => hb.2)).mono ?_
       rintro e w4 ⟨A4, c4, rfl, hs4, hb4⟩
       have HB4 : Hid (Below w3.heap.size w3 w4) := hb4
       have HS4 := Lib.hid hs4
       clear hb4 hs4)
    | (go_at_call 23; refine (C23.out _ _ _ _ (HS4.out.keep (Same.of_below (below_new _ _) (Nat.le_refl _))) (by rw [size_alloc]; omega)).mono ?_
       rintro e w5 ⟨rfl, hb5⟩
       have HX4 := Lib.hid (block_later hb5 (block_new w4 _) (by rw [size_alloc]; omega))
       have HB5 : Hid (Below w4.heap.size w4 w5) := (below_new _ _).trans (hb5.mono (by rw [size_alloc]; omega))
       have hB35 : Below w2.heap.size w2 w5 := HB3.out.trans ((HB4.out.trans (HB5.out.mono HB4.out.size)).mono HB3.out.size)
       have hB15 : Below w1.heap.size w1 w5 := HB2.out.trans (hB35.mono HB2.out.size)
       have z1 := (Array.getElem?_eq_some_iff.1 HX1.out).1
       have z2 := HB2.out.size
       have z3 := HB3.out.size
       have z4 := HB4.out.size
       have z5 := HB5.out.size
       have z6 := (Array.getElem?_eq_some_iff.1 HX3.out).1
       have z7 := (Array.getElem?_eq_some_iff.1 HX4.out).1
       have hr1 := block_later hB15 HX1.out (by omega)
       have hr3 := (HB4.out.trans (HB5.out.mono HB4.out.size)).block w2.heap.size (by omega) |>.trans HX3.out
       obtain ⟨x0, x1, x2, x3⟩ := block_cells hr3
       have b0 : w5.cell? ⟨w4.heap.size, 0, none⟩ = some (.slice A4 N c4) := by simp [World.cell?, HX4.out]
       have hz0 : w.heap.size < w5.heap.size := by omega
       have hz2 : w2.heap.size < w5.heap.size := by omega
       have hz4 : w4.heap.size < w5.heap.size := by omega
       have hz4a : w4.heap.size < w5.heap.size + 1 := by omega
       have hz4b : w4.heap.size < w5.heap.size + 1 + 1 := by omega
       have HY1 := Lib.hid hr1
       have HY3 := Lib.hid hr3
       have HB15 := Lib.hid hB15
       have HB35 := Lib.hid hB35
       have HSS4 : Hid (Bs w5 w3.heap.size w4.heap.size (.slice A4 N c4) out) := HS4.out.keep (Same.of_below HB5.out (Nat.le_refl _))
       have hcut : ∃ A', (∀ W : World, (Instr.slice 23 (.slice A4 N c4) (some (.int .i64 (f : Int))) (some (.int .i64 (N : Int))) none).run Try.prog W = .ok (.slice A' L (c4 - f)) W) ∧ Bs w5 w3.heap.size w4.heap.size (.slice A' L (c4 - f)) (formsF ks) := by
         obtain ⟨A', c', e, h1, h2, h3⟩ := HSS4.out
         rw [HN.out] at e h1 h3
         obtain ⟨rfl, _, rfl⟩ := (Value.slice.injEq _ _ _ _ _ _).mp e
         have h := G5.cut_mid (bs := out) (w := w5) (by rw [HN.out]; exact h1) h2 (by rw [HN.out]; exact h3) f N HF.out (by rw [HN.out]; exact Nat.le_refl _)
         rw [HN.out] at h
         have e9 : (out.take N).drop f = formsF ks := by rw [← HN.out, List.take_length]; exact HPAY.out
         rw [e9, ← hzn.out] at h
         exact h
       obtain ⟨A6, hcut, hsc⟩ := hcut
       have HSC := Lib.hid hsc
       clear hr1 hr3 hB15 hB35 z1 z2 z3 z4 z5 z6 z7 hsc)
    | (go_at_call 21; refine (each21 _ _ _ _).mono ?_; rintro e w6 ⟨rfl, rfl⟩))
  obtain ⟨wr, hwr⟩ : ∃ wr, wr = ((((w5.alloc (.cells #[.int .i64 1, .int .i64 (f : Int), .int .i64 (N : Int)] 51)).alloc (.cells #[.int .i64 0] 3)).alloc (.cells #[.int .i64 0] 3)).alloc (.cells #[.slice A6 L (c4 - f)] 23)) := ⟨_, rfl⟩
  rw [← hwr]
  have hsz : wr.heap.size = w5.heap.size + 4 := by rw [hwr]; simp only [size_alloc]
  have hqk : ∀ k, k < w5.heap.size → wr.heap[k]? = w5.heap[k]? := fun k hk => by
    rw [hwr, heap_alloc, if_neg (by simp only [size_alloc]; omega), heap_alloc, if_neg (by simp only [size_alloc]; omega), heap_alloc, if_neg (by simp only [size_alloc]; omega), heap_alloc, if_neg (by omega)]
  have hqp : wr.heap[w5.heap.size]? = some (.cells #[.int .i64 1, .int .i64 (f : Int), .int .i64 (N : Int)] 51 (0, 0)) := by
    rw [hwr, heap_alloc, if_neg (by simp only [size_alloc]; omega), heap_alloc, if_neg (by simp only [size_alloc]; omega), heap_alloc, if_neg (by simp only [size_alloc]; omega), heap_alloc, if_pos rfl]
  have hqa : wr.heap[w5.heap.size + 1]? = some (.cells #[.int .i64 0] 3 (0, 0)) := by
    rw [hwr, heap_alloc, if_neg (by simp only [size_alloc]; omega), heap_alloc, if_neg (by simp only [size_alloc]; omega), heap_alloc, if_pos (by simp only [size_alloc])]
  have hqi : wr.heap[w5.heap.size + 1 + 1]? = some (.cells #[.int .i64 0] 3 (0, 0)) := by
    rw [hwr, heap_alloc, if_neg (by simp only [size_alloc]; omega), heap_alloc, if_pos (by simp only [size_alloc])]
  have hqe : wr.heap[w5.heap.size + 1 + 1 + 1]? = some (.cells #[.slice A6 L (c4 - f)] 23 (0, 0)) := by
    rw [hwr, heap_alloc, if_pos (by simp only [size_alloc])]
  have hbw : Below w.heap.size w wr := by
    have h : Below w.heap.size w w5 := HB1.out.trans (HB15.out.mono HB1.out.size)
    rw [hwr]
    exact (((h.alloc h.size _).alloc (by rw [size_alloc]; have := h.size; omega) _).alloc (by simp only [size_alloc]; have := h.size; omega) _).alloc (by simp only [size_alloc]; have := h.size; omega) _
  have hZ : w.heap.size < w1.heap.size ∧ w1.heap.size ≤ w2.heap.size ∧ w2.heap.size < w3.heap.size ∧ w3.heap.size ≤ w4.heap.size ∧ w4.heap.size < w5.heap.size := ⟨(Array.getElem?_eq_some_iff.1 HX1.out).1, HB2.out.size, (Array.getElem?_eq_some_iff.1 HX3.out).1, HB4.out.size, (Array.getElem?_eq_some_iff.1 HX4.out).1⟩
  have hq0 := (hqk _ hz0).trans HY1.out
  have hqx := (hqk _ hz2).trans HY3.out
  have hqb := (hqk _ hz4).trans HX4.out
  obtain ⟨pl, pf, hseq⟩ := HEK.out
  obtain ⟨raw, hraw⟩ := H2.kids_raws HK2.out
  have hTs : ∀ k, Keeps w.heap.size w5.heap.size k → k < wr.heap.size := fun k hk => by rw [hsz]; exact hk.1
  have hs1 : L ≤ c4 - f ∧ c4 - f ≤ 9223372036854775807 ∧ RdS wr (Keeps w.heap.size w5.heap.size) 1 A6 L (nums (formsF ks)) := by
    obtain ⟨A', c', e, h1, h2, h3⟩ := HSC.out
    rw [HL.out] at e h1 h3
    obtain ⟨rfl, _, rfl⟩ := (Value.slice.injEq _ _ _ _ _ _).mp e
    exact ⟨h1, h2, ((h3.toS (S := fun k => w3.heap.size ≤ k ∧ k < w4.heap.size) (fun b hb1 hb2 => ⟨hb1, hb2⟩)).keep (fun k hk => hqk k (by have := hk.2; omega))).wide (fun b hb => ⟨by have := hb.2; omega, by have := hb.1; omega, by have := hb.2; omega, by have := hb.2; omega⟩)⟩
  clear hfi hf0 hwr b0 x0 x1 x2 x3 hz0 hz2 hz4 hz4a hz4b hcut
  have HQK := Lib.hid hqk
  have HSEQ := Lib.hid (hseq 5 (by omega) (w5.heap.size + 1 + 1 + 1) A6 L (c4 - f) (Keeps w.heap.size w5.heap.size) rfl (by have := HLEN.out; have := hzn.out; omega) hs1.1 hs1.2.1 wr hTs ⟨by omega, by omega, by omega, by omega⟩ (by simp [World.cell?, hqe]) hs1.2.2)
  have HRAW := Lib.hid hraw
  have HBW := Lib.hid hbw
  have HQ := Lib.hid (show _ ∧ _ ∧ _ ∧ _ ∧ _ ∧ _ from ⟨hq0, hqx, hqb, hqp, hqa, hqi⟩)
  have HZ := Lib.hid hZ
  have HTs := Lib.hid hTs
  have HSZ := Lib.hid hsz
  clear hseq hraw hqk hqp hqa hqi hqe hbw hZ hq0 hqx hqb hs1 hTs hsz HEK
  refine (wpIn_wide (n := 6)).1 ?_
  refine wpIn_rangeFunc_ownH rfl (by omega) (gf := 52) (lb := #[.pointer (some ⟨w5.heap.size + 1 + 1 + 1, 0, none⟩)]) rfl trivial (enters_of Try.func52 (by kernel_rfl) rfl)
    HSEQ.out (fun h k => h.trans k) (H4.keepT_b HTs.out) (Below.refl _ _) (fun _ => rfl)
    (fun pre W => Mid w wr w5.heap.size (formsF (ks.take pre.length)).length pre.length W)
    (fun c (pre : List (Fin m)) W => c = .ret ∧ ∃ (pre' : List (Fin m)) (x : Fin m), pre = pre' ++ [x] ∧ x.1 ≠ pre'.length)
    (by rw [HSZ.out]; exact mid_own w wr w5.heap.size _ _ HSZ.out (by have := HZ.out; omega))
    (fun c s A B row hs hg hr => hs)
    ?start
    (fun j a' W => ∃ Bx, w5.heap.size + 4 ≤ Bx ∧ W.heap[Bx]? = some (.cells #[.int .i64 (pl j : Int), .int .i64 (pf j : Int), .int .i64 ((formsF (ks.take (j.1 + 1))).length : Int)] 51 (0, 0)) ∧ a' = { tmps := #[.slice vA vn vc, undef, .pointer (some ⟨w.heap.size, 0, none⟩), .pointer (some ⟨w2.heap.size, 0, none⟩), .pointer (some ⟨w4.heap.size, 0, none⟩), .int .i64 0, .pointer (some ⟨w5.heap.size, 0, none⟩), .pointer (some ⟨w5.heap.size + 1, 0, none⟩), .pointer (some ⟨w5.heap.size + 1 + 1, 0, none⟩), .int .i64 (j.1 : Int), .pointer (some ⟨Bx, 0, none⟩), undef, undef, .bool true, .bool false, .slice vA vn vc, .agg #[.int .i64 1, .slice A2 0 c2, .slice B2 m d2], .tuple #[.slice A4 N c4, .int .i64 0], .agg #[.int .i64 1, .slice A2 0 c2, .slice B2 m d2], .agg #[.int .i64 l3, .slice A3 n3 c3, .slice B3 m3 d3], .tuple #[.slice A4 N c4, .int .i64 0], .slice A4 N c4, .int .i64 0, .int .i64 0, .bool false, .tuple #[.agg #[.int .i64 1, .int .i64 (f : Int), .int .i64 (N : Int)], .int .i64 0], .slice A4 N c4, .tuple #[.agg #[.int .i64 1, .int .i64 (f : Int), .int .i64 (N : Int)], .int .i64 0], .agg #[.int .i64 1, .int .i64 (f : Int), .int .i64 (N : Int)], .int .i64 0, .int .i64 0, .bool false, .bool false, .pointer (some ⟨w5.heap.size, 0, none⟩), .int .i64 1, .pointer (some ⟨w2.heap.size, 0, none⟩), .int .i64 1, .bool false, .bool false, .bool false, .pointer (some ⟨w5.heap.size, 2, none⟩), .int .i64 (N : Int), .slice A4 N c4, .int .i64 (N : Int), .bool false, .bool false, .bool false, .pointer (some ⟨w5.heap.size, 1, none⟩), .int .i64 (f : Int), .bool (decide ((f : Int) < 0)), .bool (decide ((f : Int) < 0)), .bool (decide ((f : Int) < 0)), .pointer (some ⟨w5.heap.size, 1, none⟩), .int .i64 (f : Int), .pointer (some ⟨w5.heap.size, 2, none⟩), .int .i64 (N : Int), .bool false, .bool (decide ((f : Int) < 0)), .pointer (some ⟨w2.heap.size, 0, none⟩), .int .i64 1, .bool false, undef, undef, undef, undef, undef, undef, undef, undef, undef, undef, undef, .slice A4 N c4, .pointer (some ⟨w5.heap.size, 1, none⟩), .int .i64 (f : Int), .pointer (some ⟨w5.heap.size, 2, none⟩), .int .i64 (N : Int), .slice A6 L (c4 - f), .func (.func 52) #[] #[.pointer (some ⟨w5.heap.size + 1 + 1 + 1, 0, none⟩)], .int .i64 (j.1 : Int), .agg #[.int .i64 (pl j : Int), .int .i64 (pf j : Int), .int .i64 ((formsF (ks.take (j.1 + 1))).length : Int)], undef, undef, undef, undef, undef, undef, undef, undef, undef, undef, undef, undef, undef, undef, undef, undef, undef, undef, undef, undef, undef, undef, undef, undef, undef, undef, undef, undef, undef, undef, undef, undef, undef, undef, undef, undef, undef, undef, undef, undef, undef, undef, undef, undef, undef, undef, undef, undef, undef, undef, undef, undef, undef, undef, undef, undef, undef, undef, undef, undef, undef, undef, undef, undef, undef, undef, undef, undef, undef, undef, undef, undef, undef], defers := [] })
    (fun x a' s A B row hs hg hr => by obtain ⟨Bx, h0, h1, h2⟩ := hs; exact ⟨Bx, h0, E3.kept_block hg (fun q e => (hr q e).2) h1, h2⟩) ?assign ?body ?done ?stop
  case start =>
    refine ⟨HQ.out.1, ?_, HQ.out.2.2.2.2.2, H4.KeepT.refl _ _, HBW.out⟩
    rw [HQ.out.2.2.2.2.1]
    simp [formsF]
  case assign =>
    rintro l pre x W K hI hK
    have hzW : w5.heap.size + 4 ≤ W.heap.size := by have := hI.2.2.2.1.1; have := HSZ.out; omega
    gi_wp2
    refine hK _ _ ((KeepsOthers.alloc _ _).from _) ((H4.KeepT.refl _ W).alloc (fun k hk => Nat.lt_of_lt_of_le hk.1 hzW) _) (mid_alloc HSZ.out (by have := HZ.out; omega) hI _) ⟨W.heap.size, hzW, block_new _ _, rfl⟩
  case body =>
    rintro l pre x a' W hl ⟨rl, hrl⟩ hI ⟨Bx, hBx, hblkx, rfl⟩ hlt
    have hzW : w5.heap.size + 4 ≤ W.heap.size := by have := hI.2.2.2.1.1; have := HSZ.out; omega
    have hKT := hI.2.2.2.1
    obtain ⟨q0, qx, qb, qp, qa, qi⟩ := HQ.out
    have hZ := HZ.out
    have r0 := hI.1
    have ra := hI.2.1
    have ri := hI.2.2.1
    have rx := (hKT.2 w2.heap.size ⟨by omega, by omega, by omega, by omega⟩).trans qx
    have rb := (hKT.2 w4.heap.size ⟨by omega, by omega, by omega, by omega⟩).trans qb
    have rp := (hKT.2 w5.heap.size ⟨by omega, by omega, by omega, by omega⟩).trans qp
    have ci : W.cell? ⟨w5.heap.size + 1 + 1, 0, none⟩ = some (.int .i64 (pre.length : Int)) := by simp [World.cell?, ri]
    have fi : W.frozen? ⟨w5.heap.size + 1 + 1, 0, none⟩ = false := by simp [World.frozen?, ri]
    have ca : W.cell? ⟨w5.heap.size + 1, 0, none⟩ = some (.int .i64 ((formsF (ks.take pre.length)).length : Int)) := by simp [World.cell?, ra]
    have fa : W.frozen? ⟨w5.heap.size + 1, 0, none⟩ = false := by simp [World.frozen?, ra]
    have c0 : W.cell? ⟨w.heap.size, 0, none⟩ = some (.bool false) := by simp [World.cell?, r0]
    have f0 : W.frozen? ⟨w.heap.size, 0, none⟩ = false := by simp [World.frozen?, r0]
    obtain ⟨x0, x1, x2, x3⟩ := block_cells rx
    obtain ⟨p0, p1, p2, p3⟩ := block_cells rp
    obtain ⟨t0, t1, t2, t3⟩ := block_cells hblkx
    have b0 : W.cell? ⟨w4.heap.size, 0, none⟩ = some (.slice A4 N c4) := by simp [World.cell?, rb]
    have HI := Lib.hid hI
    have HKT := Lib.hid hKT
    have HBLX := Lib.hid hblkx
    have HR0 := Lib.hid (show _ ∧ _ ∧ _ from ⟨r0, ra, ri⟩)
    have HRX := Lib.hid (show _ ∧ _ ∧ _ from ⟨rx, rb, rp⟩)
    have HZW := Lib.hid hzW
    have HZB := Lib.hid hBx
    clear hI hKT hblkx r0 ra ri rx rb rp q0 qx qb qp qa qi hZ hzW hBx
    by_cases hxi : x.1 = pre.length
    · obtain ⟨xi, hxm⟩ := x
      simp only at hxi
      subst hxi
      have hi : pre.length < ks.length := by rw [HM.out]; exact hxm
      have hmem := List.getElem_mem hi
      obtain ⟨j0, j1, j2, hit⟩ := HRAW.out ⟨pre.length, hi⟩
      obtain ⟨g, off, hB2, hg, hcs⟩ := HR2.out.2 (by omega)
      have hkW : ∀ k, k < w2.heap.size → w1.heap.size ≤ k → W.heap[k]? = w2.heap[k]? := fun k h1 h2 => by
        have hZ := HZ.out
        exact (HKT.out.2 k ⟨by omega, by omega, by omega, by omega⟩).trans ((HQK.out k (by omega)).trans (HB35.out.block k h1))
      have hitW : ItemR W (Btw w1.heap.size w2.heap.size) (ks[pre.length]'hi) _ := ItemR.keep (fun k hk => hkW k hk.2 hk.1) _ _ hit
      have e0 : W.cell? ⟨g, off + pre.length * 3, none⟩ = some (.int .i64 (raw ⟨pre.length, hi⟩).l) := by
        have := (World.cell?_of_block (w := w2) (a := ⟨g, off + 3 * pre.length, none⟩) (hkW g hg.2 hg.1)).trans (hcs _ _ j0)
        rwa [Nat.mul_comm] at this
      have e1 : W.cell? ⟨g, off + pre.length * 3 + 1, none⟩ = some (.slice (raw ⟨pre.length, hi⟩).A (raw ⟨pre.length, hi⟩).n (raw ⟨pre.length, hi⟩).c) := by
        have := (World.cell?_of_block (w := w2) (a := ⟨g, off + (3 * pre.length + 1), none⟩) (hkW g hg.2 hg.1)).trans (hcs _ _ j1)
        rwa [Nat.mul_comm, ← Nat.add_assoc] at this
      have e2 : W.cell? ⟨g, off + pre.length * 3 + 2, none⟩ = some (.slice (raw ⟨pre.length, hi⟩).B (raw ⟨pre.length, hi⟩).m (raw ⟨pre.length, hi⟩).d) := by
        have := (World.cell?_of_block (w := w2) (a := ⟨g, off + (3 * pre.length + 2), none⟩) (hkW g hg.2 hg.1)).trans (hcs _ _ j2)
        rwa [Nat.mul_comm, ← Nat.add_assoc] at this
      have HC15 := Lib.hid (K15.out _ hmem W _ _ _ _ hitW (fun b hb => by have := hb.2; have := HZ.out; have := HZW.out; omega))
      have HC14 := Lib.hid (K14.out _ hmem)
      have hfc := forms_cut ks pre.length hi out f HPAY.out (by rw [HN.out]; exact HF.out)
      have hle1 : (formsF (ks.take pre.length)).length ≤ (formsF (ks.take (pre.length + 1))).length := by rw [formsF_take_succ ks pre.length hi, List.length_append]; omega
      have hle2 : (formsF (ks.take (pre.length + 1))).length ≤ L := by rw [← HL.out]; exact forms_take_le ks _
      have hNL : N = f + L := by have := HF.out; have := hzn.out; omega
      have hN9 := HLEN.out
      have hm1 : pre.length < m := hxm
      have hat : Hid ((formsF (ks.take pre.length)).length = (formsF (ks.take pre.length)).length) := (show _ = _ from rfl)
      generalize hxk : ks[pre.length]'hi = xk at *
      generalize hrj : raw ⟨pre.length, hi⟩ = rj at *
      generalize ha : (formsF (ks.take pre.length)).length = at_ at *
      generalize ht : (formsF (ks.take (pre.length + 1))).length = tt at *
      have HFC := Lib.hid hfc
      have HT := Lib.hid ht
      have HA := Lib.hid ha
      subst hB2
      have hn1 : ¬ (m : Int) ≤ (pre.length : Int) := by omega
      have hn2 : ¬ (tt : Int) < (at_ : Int) := by omega
      have hn3 : ¬ (N : Int) - (f : Int) < (tt : Int) := by omega
      have HNL := Lib.hid hNL
      clear j0 j1 j2 hit hcs hkW hitW hmem hfc hrj hxk ha ht hat hNL
      gi_wp2_with (first
        | (refine ⟨trivial, ?_⟩; gi_at_call 15; refine (CallsIn.inRound l (callsIn_wide.2 HC15.out)).mono ?_
           rintro e w6 ⟨l6, A7, n6, c6, B6, m6, d6, rfl, hi6, hb6⟩
           have HI6 := Lib.hid hi6
           have HB6 := Lib.hid hb6
           clear hi6 hb6)
        | (refine ⟨trivial, ?_⟩; gi_at_call 14; refine (CallsIn.inRound l (callsIn_wide.2 (HC14.out _ _ _ _ _ HI6.out (fun b hb => hb.2)))).mono ?_
           rintro e w7 ⟨A8, n8, c8, rfl, hn8, hs8, hb8⟩
           have HB8 : Hid (Below W.heap.size W w7) := HB6.out.trans (hb8.mono HB6.out.size)
           have HS8 := Lib.hid hs8
           clear hb8 hs8 hn8))
      have hZ := HZ.out
      have hZW := HZW.out
      have hZB := HZB.out
      have hBW := (Array.getElem?_eq_some_iff.1 HBLX.out).1
      have u_b : w7.cell? ⟨w4.heap.size, 0, none⟩ = some (.slice A4 N c4) := (HB8.out.cell (p := ⟨w4.heap.size, 0, none⟩) (show w4.heap.size < W.heap.size by omega)).trans b0
      have u_p1 : w7.cell? ⟨w5.heap.size, 1, none⟩ = some (.int .i64 (f : Int)) := (HB8.out.cell (p := ⟨w5.heap.size, 1, none⟩) (show w5.heap.size < W.heap.size by omega)).trans p1
      have u_k2 : w7.cell? ⟨Bx, 2, none⟩ = some (.int .i64 (tt : Int)) := (HB8.out.cell (p := ⟨Bx, 2, none⟩) hBW).trans t2
      have u_at : w7.cell? ⟨w5.heap.size + 1, 0, none⟩ = some (.int .i64 (at_ : Int)) := (HB8.out.cell (p := ⟨w5.heap.size + 1, 0, none⟩) (show w5.heap.size + 1 < W.heap.size by omega)).trans ca
      have g_at : w7.frozen? ⟨w5.heap.size + 1, 0, none⟩ = false := (HB8.out.frozen (p := ⟨w5.heap.size + 1, 0, none⟩) (show w5.heap.size + 1 < W.heap.size by omega)).trans fa
      have u_i : w7.cell? ⟨w5.heap.size + 1 + 1, 0, none⟩ = some (.int .i64 (pre.length : Int)) := (HB8.out.cell (p := ⟨w5.heap.size + 1 + 1, 0, none⟩) (show w5.heap.size + 1 + 1 < W.heap.size by omega)).trans ci
      have g_i : w7.frozen? ⟨w5.heap.size + 1 + 1, 0, none⟩ = false := (HB8.out.frozen (p := ⟨w5.heap.size + 1 + 1, 0, none⟩) (show w5.heap.size + 1 + 1 < W.heap.size by omega)).trans fi
      have k1 : (convert 23 9 (.slice A8 n8 c8)).run Try.prog w7.drew = .ok (.string (strOf (formF xk))) w7.drew := str_bs (HS8.out.keep (w' := w7.drew) (fun _ _ _ => rfl))
      have hkc : ∀ k, k < w4.heap.size → w3.heap.size ≤ k → w7.heap[k]? = w5.heap[k]? := fun k h1 h2 =>
        (HB8.out.block k (by omega)).trans ((HKT.out.2 k ⟨by omega, by omega, by omega, by omega⟩).trans (HQK.out k (by omega)))
      have hcut2 : ∃ A', (∀ W : World, (Instr.slice 23 (.slice A4 N c4) (some (.int .i64 ((f : Int) + (at_ : Int)))) (some (.int .i64 ((f : Int) + (tt : Int)))) none).run Try.prog W = .ok (.slice A' (f + tt - (f + at_)) (c4 - (f + at_))) W) ∧ Bs w7 w3.heap.size w4.heap.size (.slice A' (f + tt - (f + at_)) (c4 - (f + at_))) (formF xk) := by
        obtain ⟨A', c', e, h1, h2, h3⟩ := HSS4.out.keep (w' := w7) (fun k h1 h2 => hkc k h2 h1)
        rw [HN.out] at e h1 h3
        obtain ⟨rfl, _, rfl⟩ := (Value.slice.injEq _ _ _ _ _ _).mp e
        have h := G5.cut_mid (bs := out) (w := w7) (by rw [HN.out]; exact h1) h2 (by rw [HN.out]; exact h3) (f + at_) (f + tt) (by omega) (by rw [HN.out]; have := HNL.out; omega)
        rw [HN.out, HFC.out] at h
        simpa only [Int.natCast_add] using h
      obtain ⟨A9, hcut2, hs9⟩ := hcut2
      have k2 : (convert 23 9 (.slice A9 (f + tt - (f + at_)) (c4 - (f + at_)))).run Try.prog w7.drew = .ok (.string (strOf (formF xk))) w7.drew := str_bs (hs9.keep (w' := w7.drew) (fun _ _ _ => rfl))
      generalize strOf (formF xk) = q at k1 k2
      generalize f + tt - (f + at_) = L9 at *
      generalize c4 - (f + at_) = C9 at *
      have hNL := HNL.out
      have hov1 : (f : Int) + (at_ : Int) < 9223372036854775808 := by omega
      have hov2 : (f : Int) + (tt : Int) < 9223372036854775808 := by omega
      clear hs9 hkc hNL
      refine wpIn_region_reads2 (by kernel_rfl) (by decide +kernel) (by decide +kernel) ?_
      iterate 19 (refine wpS2_run (by rfl) rfl (fun K hK => ?_); go_wp2)
      refine wpS2_nil ?_
      gi_wp2
      have hwrap : wrap64 ((pre.length : Int) + 1) = ((pre.length + 1 : Nat) : Int) := by
        have := HKS.out
        rw [Int.natCast_add]
        unfold wrap64
        omega
      have hM := mid_next (u := (tt : Int)) (v := wrap64 ((pre.length : Int) + 1)) (a' := tt) (i' := pre.length + 1) rfl hwrap HSZ.out (by omega) HI.out HB8.out
      have hz8 := HB8.out.size
      have hkeep : ∀ k, k < W.heap.size → k ≠ w5.heap.size + 1 → k ≠ w5.heap.size + 1 + 1 → (((w7.setCell ⟨w5.heap.size + 1, 0, none⟩ (.int .i64 (tt : Int))).setCell ⟨w5.heap.size + 1 + 1, 0, none⟩ (.int .i64 (wrap64 ((pre.length : Int) + 1)))).drew).heap[k]? = W.heap[k]? := fun k h1 h2 h3 =>
        (set2_heap _ _ _ _ _ h2 h3).trans (HB8.out.block k h1)
      have hsize : (((w7.setCell ⟨w5.heap.size + 1, 0, none⟩ (.int .i64 (tt : Int))).setCell ⟨w5.heap.size + 1 + 1, 0, none⟩ (.int .i64 (wrap64 ((pre.length : Int) + 1)))).drew).heap.size = w7.heap.size := set2_size _ _ _ _
      refine ⟨⟨by rw [hsize]; exact hz8, fun k o hk ho hc => (hkeep k (Array.getElem?_eq_some_iff.1 ho).1 (fun e => ?_) (fun e => ?_)).trans ho⟩, ⟨by rw [hsize]; exact hz8, fun k hk => hkeep k (Nat.lt_of_lt_of_le hk.1 hZW) hk.2.2.1 hk.2.2.2⟩, ?_⟩
      · subst e; rw [HR0.out.2.1] at ho; injection ho with ho; subst ho; cases hc
      · subst e; rw [HR0.out.2.2] at ho; injection ho with ho; subst ho; cases hc
      · have e9 : (pre ++ [(⟨pre.length, hxm⟩ : Fin m)]).length = pre.length + 1 := by rw [List.length_append, List.length_singleton]
        show Mid w wr w5.heap.size (formsF (ks.take (pre ++ [(⟨pre.length, hxm⟩ : Fin m)]).length)).length (pre ++ [(⟨pre.length, hxm⟩ : Fin m)]).length _
        rw [e9, HT.out]
        exact ⟨hM.1, hM.2.1, hM.2.2.1, hM.2.2.2.1, hM.2.2.2.2.drew⟩
    · have hne : ¬ (x.1 : Int) = (pre.length : Int) := by omega
      have HXI := Lib.hid hxi
      clear hxi
      gi_wp2
      exact ⟨⟨by simp [World.setCell], fun k o hk ho hc => (KeepsOthers.setCell W _ _).same k o ho hc⟩, ⟨rfl, pre, x, rfl, HXI.out⟩⟩
  case done =>
    rintro D ys W hD rfl hI hK
    have hlm : (List.finRange m).length = m := List.length_finRange
    have eL : (formsF (ks.take (List.finRange m).length)).length = L := by
      rw [hlm, ← HM.out, List.take_length]
      exact HL.out
    have hI' : Mid w wr w5.heap.size L m W := by
      have h : Mid w wr w5.heap.size (formsF (ks.take (List.finRange m).length)).length (List.finRange m).length W := hI
      rwa [eL, hlm] at h
    clear hI eL hlm
    have hzW : w5.heap.size + 4 ≤ W.heap.size := by have := hI'.2.2.2.1.1; have := HSZ.out; omega
    have hKT := hI'.2.2.2.1
    have hZ := HZ.out
    obtain ⟨q0, qx, qb, qp, qa, qi⟩ := HQ.out
    have r0 := hI'.1
    have ra := hI'.2.1
    have ri := hI'.2.2.1
    have rx := (hKT.2 w2.heap.size ⟨by omega, by omega, by omega, by omega⟩).trans qx
    have rp := (hKT.2 w5.heap.size ⟨by omega, by omega, by omega, by omega⟩).trans qp
    have ci : W.cell? ⟨w5.heap.size + 1 + 1, 0, none⟩ = some (.int .i64 (m : Int)) := by simp [World.cell?, ri]
    have ca : W.cell? ⟨w5.heap.size + 1, 0, none⟩ = some (.int .i64 (L : Int)) := by simp [World.cell?, ra]
    have c0 : W.cell? ⟨w.heap.size, 0, none⟩ = some (.bool false) := by simp [World.cell?, r0]
    have f0 : W.frozen? ⟨w.heap.size, 0, none⟩ = false := by simp [World.frozen?, r0]
    obtain ⟨x0, x1, x2, x3⟩ := block_cells rx
    obtain ⟨p0, p1, p2, p3⟩ := block_cells rp
    have HB := Lib.hid hI'.2.2.2.2
    have HNL : Hid (N = f + L) := (show _ = _ from by have := HF.out; have := hzn.out; omega)
    have hwL : wrap64 (L : Int) = (L : Int) := by
      have := HNL.out
      have := HLEN.out
      unfold wrap64
      omega
    have hsub2 : (N : Int) - (f : Int) = (L : Int) := by have := HNL.out; omega
    clear hI' hKT hZ q0 qx qb qp qa qi r0 ra ri rx rp
    go_wp2
    have hK' := (KeepsOthers.setCell W ⟨w.heap.size, 0, none⟩ (.bool true)).same D _ hK rfl
    refine ⟨by simp, .inl ⟨_, _, rfl, run_takeDeferred hK', ?_⟩⟩
    have hc5 := cell_kept (World.cell?_setCell_same' W ⟨w.heap.size, 0, none⟩ (.bool true) (by rw [c0]; rfl)) (grownBy_putObj' _ D (.deferred none)) (fun r e => by cases e; exact ⟨_, hK', rfl⟩)
    have hDw : w.heap.size ≤ D := by have := HSZ.out; have := HZ.out; omega
    refine ⟨.bool true, by simp [results, Try.results8, go_sem, hc5], rfl, (HB.out.setCell (p := ⟨w.heap.size, 0, none⟩) (Nat.le_refl _) _).trans (belowK_b (w := w) (Nat.le_refl _) _ D _ _ hDw hK' rfl rfl)⟩
  case stop =>
    rintro D c pre W hD hpre ⟨rfl, pre', x, rfl, hne⟩ hK
    exfalso
    have e := List.IsPrefix.getElem hpre (i := pre'.length) (by simp)
    have e2 : x.1 = pre'.length := by
      rw [List.getElem_append_right (Nat.le_refl _)] at e
      simp at e
      rw [e]
    exact hne e2
/-- RlpKids is true of whatever nodes. -/
theorem kids8 (hv : Nds w S v l) (hS : ∀ b, S b → b < w.heap.size) (hl : nbulk l ≤ 1048576) :
    Calls Try.prog 8 #[v] w fun e w' => e = .returned (.bool true) ∧ Below w.heap.size w w' := by
  by_cases hc : checkF 0 (itemF 200 l).1 = 0
  · obtain ⟨x, hx⟩ : ∃ x, (itemF 200 l).1 = x := ⟨_, rfl⟩
    rw [hx] at hc
    obtain ⟨lx, bs, ks⟩ := x
    rcases check_list hc with ⟨rfl, rfl⟩ | ⟨rfl, rfl, _, _⟩
    · exact B13.kids_text S v l w hv hS hl bs hx hc
    · exact kids_list S v l w hv hS hl ks hx hc
  · exact B13.kids_err S v l w hv hS hl hc
end
end Go.Proofs.Ytkdpphcalekbdaa.B14
