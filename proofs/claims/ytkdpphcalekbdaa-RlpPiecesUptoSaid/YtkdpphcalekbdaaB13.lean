/- RlpKids, walked. -/
import Derived.Test.YtkdpphcalekbdaaJ1
import Derived.Test.YtkdpphcalekbdaaJ2
import Derived.Test.YtkdpphcalekbdaaE4
import Derived.Deep.RegionLaw
set_option linter.unusedVariables false
set_option linter.unusedSimpArgs false
namespace Go.Proofs.Ytkdpphcalekbdaa.B13
open Go.ChangeShapes Go.WideShapes Go.ChangeAt Go.RowKit Go.Shelf
open M W1 G1 L1 J1
attribute [local go_sem] Oper.semAt_some
theorem heap_sa (w : World) (b o : Nat) (v : Value) (x : Obj) (k : Nat) (h : k ≠ b) : ((w.setCell ⟨b, o, none⟩ v).alloc x).heap[k]? = (w.alloc x).heap[k]? := by
  have e : (w.setCell ⟨b, o, none⟩ v).heap.size = w.heap.size := by simp [World.setCell]
  rw [heap_alloc, heap_alloc, e]
  split
  · rfl
  · exact heap_set _ _ _ _ _ (Ne.symm h)
section
variable (S : Nat → Prop) (v : Value) (l : List Nd) (w : World)
set_option maxRecDepth 100000 in
set_option maxHeartbeats 1000000 in
theorem kids_err (hv : Nds w S v l) (hS : ∀ b, S b → b < w.heap.size) (hl : nbulk l ≤ 1048576) (hc : checkF 0 (itemF 200 l).1 ≠ 0) :
    Calls Try.prog 8 #[v] w fun e w' => e = .returned (.bool true) ∧ Below w.heap.size w w' := by
  have hxb := item_bulk l
  have C12 := Lib.hid A1.awake12
  have C13 := Lib.hid (c13 hv hS (by omega))
  have C15 := Lib.hid (c15 (itemF 200 l).1 (by omega))
  have C14 := Lib.hid (c14e (itemF 200 l).1 (by omega) hc)
  have he : ¬ ((checkF 0 (itemF 200 l).1 : Nat) : Int) = 0 := by omega
  obtain ⟨vA, vn, vc, rfl⟩ : ∃ A n c, v = .slice A n c := by obtain ⟨A, c, inner, rfl, _⟩ := hv; exact ⟨_, _, _, rfl⟩
  generalize (itemF 200 l).1 = x at *
  generalize ((checkF 0 x : Nat) : Int) = er at *
  clear hv hS hl hxb hc
  go_enter Try.func8, Try.ntmps8
  go_wp2_with (first
    | (go_at_call 12; refine (C12.out _).mono ?_
       rintro e w1 ⟨rfl, hb1⟩
       have hx1 := block_later hb1 (block_new w _) (by rw [size_alloc]; omega)
       have HB1 : Hid (Below w.heap.size w w1) := (below_new _ _).trans (hb1.mono (by rw [size_alloc]; omega))
       have HX1 := Lib.hid hx1
       clear hb1 hx1)
    | (go_at_call 13; refine (C13.out _ HB1.out).mono ?_
       rintro e w2 ⟨l2, A2, n2, c2, B2, m2, d2, rfl, hi2, hb2⟩
       have HI2 := Lib.hid hi2
       have HB2 : Hid (Below w1.heap.size w1 w2) := hb2
       clear hi2 hb2)
    | (go_at_call 15; refine (C15.out _ _ _ _ _ (item_later HI2.out (fun b hb => hb.2) (below_new _ _)) (fun b hb => by have := hb.2; rw [size_alloc]; omega)).mono ?_
       rintro e w3 ⟨l3, A3, n3, c3, B3, m3, d3, rfl, hi3, hb3⟩
       have HI3 := Lib.hid hi3
       have HB3 : Hid (Below w1.heap.size w1 w3) := HB2.out.trans (((below_new _ _).trans (hb3.mono (by rw [size_alloc]; omega))).mono HB2.out.size)
       clear hi3 hb3)
    | (go_at_call 14; refine (C14.out _ _ _ _ _ HI3.out (fun b hb => hb.2)).mono ?_
       rintro e w4 ⟨rfl, hb4⟩
       have HB4 : Hid (Below w1.heap.size w1 w4) := HB3.out.trans (hb4.mono HB3.out.size)
       have hx4 := block_later HB4.out HX1.out (Array.getElem?_eq_some_iff.1 HX1.out).1
       have y0 : w4.cell? ⟨w.heap.size, 0, none⟩ = some (.bool false) := by simp [World.cell?, hx4]
       have y1 : w4.frozen? ⟨w.heap.size, 0, none⟩ = false := by simp [World.frozen?, hx4]
       have HX4 := Lib.hid hx4
       have hz4 := (Array.getElem?_eq_some_iff.1 hx4).1
       clear hb4 hx4))
  refine bodyPost_ret (v := .bool true) (by simp [results, Try.results8, go_sem, y0, y1, hz4]) rfl ?_
  have HB := HB1.out.trans (HB4.out.mono HB1.out.size)
  exact ⟨rfl, (HB.setCell (p := ⟨w.heap.size, 0, none⟩) (Nat.le_refl _) _).alloc (by have := HB.size; simpa [World.setCell] using this) _⟩
set_option maxRecDepth 100000 in
set_option maxHeartbeats 1000000 in
theorem kids_text (hv : Nds w S v l) (hS : ∀ b, S b → b < w.heap.size) (hl : nbulk l ≤ 1048576) (bs : List UInt8) (hx : (itemF 200 l).1 = .mk 0 bs []) (hc : checkF 0 (.mk 0 bs []) = 0) :
    Calls Try.prog 8 #[v] w fun e w' => e = .returned (.bool true) ∧ Below w.heap.size w w' := by
  have hxb := item_bulk l
  rw [hx] at hxb
  have hlen : (formF (.mk 0 bs [])).length ≤ 1099511627 := by
    have := formF_le (.mk 0 bs []) (by omega)
    omega
  have C12 := Lib.hid A1.awake12
  have C13 : Hid (∀ W, Below w.heap.size w W → Calls Try.prog 13 #[v] W fun e w' => ∃ A c B m d, e = .returned (.agg #[.int .i64 0, .slice A bs.length c, .slice B m d]) ∧ Bs w' W.heap.size w'.heap.size (.slice A bs.length c) bs ∧ ItemR w' (Btw W.heap.size w'.heap.size) (.mk 0 bs []) [.int .i64 0, .slice A bs.length c, .slice B m d] ∧ Below W.heap.size W w') := fun W hW => by
    refine (c13 hv hS (by omega) W hW).mono ?_
    rintro e w' ⟨l0, A0, n0, c0, B0, m0, d0, rfl, hi, hb⟩
    rw [hx] at hi
    have hi' := hi
    simp only [ItemR] at hi
    obtain ⟨v, A, c, inner, e, hb1, h1, h2, hr, hk⟩ := hi
    simp only [List.cons.injEq, and_true, Value.int.injEq, true_and] at e
    obtain ⟨rfl, rfl, e3⟩ := e
    have hb2 := hb1.toBs (lo := W.heap.size) (hi := w'.heap.size) (fun b hb => hb)
    have hb3 := hb2
    obtain ⟨A', c', e4, _⟩ := hb3
    obtain ⟨rfl, rfl, rfl⟩ := (Value.slice.injEq _ _ _ _ _ _).mp e4
    exact ⟨_, _, _, _, _, rfl, hb2, hi', hb⟩
  have C15 := Lib.hid (c15 (.mk 0 bs []) (by omega))
  have C14 := Lib.hid (c14 (.mk 0 bs []) (by omega) hc)
  obtain ⟨li, f, hhd, hpay, hf, hli⟩ := hd_of_form (x := .mk 0 bs []) hc (by omega) []
  rw [List.append_nil] at hhd
  have hli' : li = 0 := by simp only at hli; omega
  subst hli'
  have C23 : Hid (∀ W lo hi v, Bs W lo hi v (formF (.mk 0 bs [])) → hi ≤ W.heap.size → Calls Try.prog 23 #[v] W fun e w' => e = .returned (.tuple #[.agg #[.int .i64 0, .int .i64 (f : Nat), .int .i64 ((formF (.mk 0 bs [])).length : Nat)], .int .i64 0]) ∧ Below W.heap.size W w') := fun W lo hi v hb hh => by
    have := head23_any lo hi v _ W hb hh (by omega)
    rw [hhd] at this
    exact this
  have HPAY : Hid ((formF (.mk 0 bs [])).drop f = bs) := by
    have : payF (.mk 0 bs []) = bs := rfl
    rw [this] at hpay
    exact hpay.symm
  have HF := Lib.hid hf
  have HLEN := Lib.hid hlen
  obtain ⟨vA, vn, vc, rfl⟩ : ∃ A n c, v = .slice A n c := by obtain ⟨A, c, inner, rfl, _⟩ := hv; exact ⟨_, _, _, rfl⟩
  clear hv hS hl hx hxb hc hlen hhd hpay hli
  generalize It.mk 0 bs [] = x at *
  generalize formF x = out at *
  generalize hN : out.length = N at *
  have HN := Lib.hid hN
  generalize hM : bs.length = M at *
  have HM := Lib.hid hM
  clear hN hM hf
  have hfi : ¬ (N : Int) < (f : Int) := by have := HF.out; omega
  have hf0 : ¬ (f : Int) < 0 := by omega
  go_enter Try.func8, Try.ntmps8
  go_wp2_with (first
    | (go_at_call 12; refine (C12.out _).mono ?_
       rintro e w1 ⟨rfl, hb1⟩
       have hx1 := block_later hb1 (block_new w _) (by rw [size_alloc]; omega)
       have HB1 : Hid (Below w.heap.size w w1) := (below_new _ _).trans (hb1.mono (by rw [size_alloc]; omega))
       have HX1 := Lib.hid hx1
       clear hb1 hx1)
    | (go_at_call 13; refine (C13.out _ HB1.out).mono ?_
       rintro e w2 ⟨A2, c2, B2, m2, d2, rfl, hs2, hi2, hb2⟩
       have HI2 := Lib.hid hi2
       have HS2 := Lib.hid hs2
       have HB2 : Hid (Below w1.heap.size w1 w2) := hb2
       clear hi2 hb2 hs2)
    | (go_at_call 15; refine (C15.out _ _ _ _ _ (item_later HI2.out (fun b hb => hb.2) (below_new _ _)) (fun b hb => by have := hb.2; rw [size_alloc]; omega)).mono ?_
       rintro e w3 ⟨l3, A3, n3, c3, B3, m3, d3, rfl, hi3, hb3⟩
       have HI3 := Lib.hid hi3
       have HX3 := Lib.hid (block_later hb3 (block_new w2 _) (by rw [size_alloc]; omega))
       have HB3 : Hid (Below w2.heap.size w2 w3) := (below_new _ _).trans (hb3.mono (by rw [size_alloc]; omega))
       clear hi3 hb3)
    | (go_at_call 14; refine (C14.out _ _ _ _ _ HI3.out (fun b hb => hb.2)).mono ?_
       rintro e w4 ⟨A4, c4, rfl, hs4, hb4⟩
       have HB4 : Hid (Below w3.heap.size w3 w4) := hb4
       have HS4 := Lib.hid hs4
       clear hb4 hs4)
    | (go_at_call 23; refine (C23.out _ _ _ _ (HS4.out.keep (Same.of_below (below_new _ _) (Nat.le_refl _))) (by rw [size_alloc]; omega)).mono ?_
       rintro e w5 ⟨rfl, hb5⟩
       have HX4 := Lib.hid (block_later hb5 (block_new w4 _) (by rw [size_alloc]; omega))
       have HB5 : Hid (Below w4.heap.size w4 w5) := (below_new _ _).trans (hb5.mono (by rw [size_alloc]; omega))
       have hB35 : Below w2.heap.size w2 w5 := HB3.out.trans ((HB4.out.trans (HB5.out.mono HB4.out.size)).mono HB3.out.size)
       have hB15 : Below w1.heap.size w1 w5 := HB2.out.trans (hB35.mono HB2.out.size)
       have z1 := (Array.getElem?_eq_some_iff.1 HX1.out).1
       have z2 := HB2.out.size
       have z3 := HB3.out.size
       have z4 := HB4.out.size
       have z5 := HB5.out.size
       have z6 := (Array.getElem?_eq_some_iff.1 HX3.out).1
       have z7 := (Array.getElem?_eq_some_iff.1 HX4.out).1
       have hr1 := block_later hB15 HX1.out (by omega)
       have hr3 := (HB4.out.trans (HB5.out.mono HB4.out.size)).block w2.heap.size (by omega) |>.trans HX3.out
       have y0 : w5.cell? ⟨w.heap.size, 0, none⟩ = some (.bool false) := by simp [World.cell?, hr1]
       have y1 : w5.frozen? ⟨w.heap.size, 0, none⟩ = false := by simp [World.frozen?, hr1]
       obtain ⟨x0, x1, x2, x3⟩ := block_cells hr3
       have b0 : w5.cell? ⟨w4.heap.size, 0, none⟩ = some (.slice A4 N c4) := by simp [World.cell?, HX4.out]
       have hz0 : w.heap.size < w5.heap.size := by omega
       have hz2 : w2.heap.size < w5.heap.size := by omega
       have hz4 : w4.heap.size < w5.heap.size := by omega
       have HY1 := Lib.hid hr1
       have HY3 := Lib.hid hr3
       have HB15 := Lib.hid hB15
       have HSS2 : Hid (Bs w5 w1.heap.size w2.heap.size (.slice A2 M c2) bs) := HS2.out.keep (Same.of_below hB35 (Nat.le_refl _))
       have HSS4 : Hid (Bs w5 w3.heap.size w4.heap.size (.slice A4 N c4) out) := HS4.out.keep (Same.of_below HB5.out (Nat.le_refl _))
       clear hr1 hr3 hB15 hB35 z1 z2 z3 z4 z5 z6 z7))
  have hcut : ∃ A', (∀ W : World, (Instr.slice 23 (.slice A4 N c4) (some (.int .i64 (f : Int))) (some (.int .i64 (N : Int))) none).run Try.prog W = .ok (.slice A' (N - f) (c4 - f)) W) ∧ Bs w5 w3.heap.size w4.heap.size (.slice A' (N - f) (c4 - f)) bs := by
    obtain ⟨A', c', e, h1, h2, h3⟩ := HSS4.out
    rw [HN.out] at e h1 h3
    obtain ⟨rfl, _, rfl⟩ := (Value.slice.injEq _ _ _ _ _ _).mp e
    have h := G5.cut_mid (bs := out) (w := w5) (by rw [HN.out]; exact h1) h2 (by rw [HN.out]; exact h3) f N HF.out (by rw [HN.out]; exact Nat.le_refl _)
    rw [HN.out] at h
    have e9 : (out.take N).drop f = bs := by rw [← HN.out, List.take_length]; exact HPAY.out
    rw [e9] at h
    exact h
  obtain ⟨A6, hcut, hsc⟩ := hcut
  have HZ : Hid (w.heap.size < w1.heap.size ∧ w1.heap.size ≤ w2.heap.size ∧ w2.heap.size ≤ w3.heap.size ∧ w3.heap.size ≤ w4.heap.size ∧ w4.heap.size < w5.heap.size ∧ w2.heap.size < w5.heap.size) := ⟨(Array.getElem?_eq_some_iff.1 HX1.out).1, HB2.out.size, HB3.out.size, HB4.out.size, hz4, hz2⟩
  have HSC := Lib.hid hsc
  have HK : Hid (∀ W : World, (∀ k, k < w5.heap.size + 1 → k ≠ w.heap.size → W.heap[k]? = (w5.alloc (.cells #[.int .i64 0, .int .i64 (f : Int), .int .i64 (N : Int)] 51)).heap[k]?) →
      W.cell? ⟨w4.heap.size, 0, none⟩ = some (.slice A4 N c4) ∧ W.cell? ⟨w5.heap.size, 1, none⟩ = some (.int .i64 (f : Int)) ∧ W.cell? ⟨w5.heap.size, 2, none⟩ = some (.int .i64 (N : Int)) ∧ W.cell? ⟨w2.heap.size, 1, none⟩ = some (.slice A2 M c2) ∧
      (convert 23 9 (.slice A6 (N - f) (c4 - f))).run Try.prog W = .ok (.string (strOf bs)) W ∧ (convert 23 9 (.slice A2 M c2)).run Try.prog W = .ok (.string (strOf bs)) W) := fun W hW => by
    obtain ⟨q1, q2, q3, q4, q5, q6⟩ := HZ.out
    have hk : ∀ k, k < w5.heap.size → k ≠ w.heap.size → W.heap[k]? = w5.heap[k]? := fun k h1 h2 => (hW k (by omega) h2).trans (Below.heap_alloc _ _ _ h1)
    have hp : W.heap[w5.heap.size]? = some (.cells #[.int .i64 0, .int .i64 (f : Int), .int .i64 (N : Int)] 51 (0, 0)) := (hW _ (by omega) (by omega)).trans (block_new _ _)
    refine ⟨(World.cell?_of_block (a := ⟨w4.heap.size, 0, none⟩) (hk w4.heap.size (by omega) (by omega))).trans b0, by simp [World.cell?, hp], by simp [World.cell?, hp], (World.cell?_of_block (a := ⟨w2.heap.size, 1, none⟩) (hk w2.heap.size (by omega) (by omega))).trans x1, str_bs (HSC.out.keep fun k h1 h2 => hk k (by omega) (by omega)), str_bs (HSS2.out.keep fun k h1 h2 => hk k (by omega) (by omega))⟩
  generalize hq : strOf bs = q at HK
  clear hq hsc
  go_region_held3 (fun w' => w'.cell? ⟨w4.heap.size, 0, none⟩ = some (.slice A4 N c4) ∧ w'.cell? ⟨w5.heap.size, 1, none⟩ = some (.int .i64 (f : Int)) ∧ w'.cell? ⟨w5.heap.size, 2, none⟩ = some (.int .i64 (N : Int)) ∧ w'.cell? ⟨w2.heap.size, 1, none⟩ = some (.slice A2 M c2) ∧
      (convert 23 9 (.slice A6 (N - f) (c4 - f))).run Try.prog w' = .ok (.string q) w' ∧ (convert 23 9 (.slice A2 M c2)).run Try.prog w' = .ok (.string q) w')
    ((refine HK.out _ ?_; first | (intro k h1 h2; rfl) | (intro k h1 h2; exact heap_sa _ _ _ _ _ _ h2))) (fail)
  go_wp2
  have HB : Below w.heap.size w w5 := HB1.out.trans (HB15.out.mono HB1.out.size)
  refine bodyPost_ret (v := .bool true) (by simp [results, Try.results8, go_sem, y0, y1, hz0]) rfl ?_
  exact ⟨rfl, ((HB.setCell (p := ⟨w.heap.size, 0, none⟩) (Nat.le_refl _) _).alloc (by have := HB.size; simpa [World.setCell] using this) _).drew⟩
end
end Go.Proofs.Ytkdpphcalekbdaa.B13
