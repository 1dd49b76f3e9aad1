/- The law's awake: the chapter's first examples. -/
import Derived.Test.YtkdpphcalekbdaaE4
import Derived.Test.YtkdpphcalekbdaaG8
import Derived.Test.YtkdpphcalekbdaaG4
import Derived.Test.YtkdpphcalekbdaaG1
import Derived.Lib.SlBytesConst
set_option linter.unusedVariables false
set_option linter.unusedSimpArgs false
namespace Go.Proofs.Ytkdpphcalekbdaa.A1
open Go.ChangeShapes Go.WideShapes Go.ChangeAt Go.RowKit
open M G1 G4 G5 G8 E4 H2
def cat : List UInt8 := [99, 97, 116]
def dog : List UInt8 := [100, 111, 103]
def form : List UInt8 := [200, 131, 99, 97, 116, 131, 100, 111, 103]
def pair : It := .mk 1 [] [.mk 0 cat [], .mk 0 dog []]
theorem pair_form : formF pair = form := by simp [pair, formF, formsF, headF, cat, dog, form]
theorem pair_check : checkF 0 pair = 0 := by simp [pair, checkF, checksF, cat, dog]
theorem pair_bulk : bulk pair = 9 := by simp [pair, bulk, bulks, cat, dog]
theorem pair_dec : decF 64 form = .ok (pair, 9) := by kernel_rfl
theorem two_dec : decF 64 [129, 5] = .error 42 := by kernel_rfl
theorem bs_lit (W : World) (bs : List UInt8) (n : Nat) (hn : bs.length = n) (cs : Array Value) (hc : cs.toList = nums bs) (hn2 : n ≤ 9223372036854775807) (fr : Nat × Nat) : Bs (W.alloc (.cells cs 5 fr)) W.heap.size (W.heap.size + 1) (.slice (some ⟨W.heap.size, 0, none⟩) n n) bs := by
  subst hn
  refine ⟨_, bs.length, rfl, Nat.le_refl _, hn2, by simp, fun _ => ⟨W.heap.size, 0, rfl, Nat.le_refl _, by omega, fun j u hu => ?_⟩⟩
  have hg : (W.alloc (.cells cs 5 fr)).heap[W.heap.size]? = some (.cells cs 5 fr) := by rw [heap_alloc, if_pos rfl]
  have hu' : cs[j]? = some u := by rw [← hu, ← hc]; simp
  simp only [World.cell?, hg, Nat.zero_add]; exact hu'
theorem bs_litQ (W : World) (bs : List UInt8) (n : Nat) (hn : bs.length = n) (cs : Array Value) (hc : cs.toList = nums bs) (hn2 : n ≤ 9223372036854775807) (fr : Nat × Nat) (q : Nat) (hq : q = W.heap.size) : Bs (W.alloc (.cells cs 5 fr)) q (q + 1) (.slice (some ⟨q, 0, none⟩) n n) bs := by
  subst hq; exact bs_lit W bs n hn cs hc hn2 fr
theorem two_items (W : World) (S : Nat → Prop) (a b c d e f : Value) (x y : It) (hx : ItemR W S x [a, b, c]) (hy : ItemR W S y [d, e, f]) : KidsR W S [x, y] [a, b, c, d, e, f] := by
  simp only [KidsR]
  exact ⟨[a, b, c], [d, e, f], rfl, hx, [d, e, f], [], rfl, hy, rfl⟩
theorem rd_lit (W : World) (t : TypeId) (cs : Array Value) (size n : Nat) (hn : cs.size = n * size) : RdS (W.alloc (.cells cs t)) (fun b => b < W.heap.size + 1) size (some ⟨W.heap.size, 0, none⟩) n cs.toList := by
  refine ⟨by simpa using hn, fun _ => ⟨W.heap.size, 0, rfl, by omega, fun j u hu => ?_⟩⟩
  have hg : (W.alloc (.cells cs t)).heap[W.heap.size]? = some (.cells cs t (0, 0)) := by rw [heap_alloc, if_pos rfl]
  simp only [World.cell?, hg, Nat.zero_add]
  simpa using hu
theorem pair_open {W : World} {S : Nat → Prop} {d0 d1 d2 : Value} (h : ItemR W S pair [d0, d1, d2]) : ∃ A1 n1 c1 g off c2 Ad cd, d0 = .int .i64 1 ∧ d1 = .slice A1 n1 c1 ∧ d2 = .slice (some ⟨g, off, none⟩) 2 c2 ∧ S g ∧ 2 ≤ c2 ∧ W.cell? ⟨g, off + 4, none⟩ = some (.slice Ad 3 cd) ∧ RdS W S 1 Ad 3 (nums dog) := by
  simp only [pair, ItemR] at h
  obtain ⟨v, A, c, inner, e, ⟨A1, c1, rfl, _⟩, h1, h2, hr, hk⟩ := h
  simp only [List.cons.injEq, and_true] at e
  obtain ⟨rfl, rfl, rfl⟩ := e
  obtain ⟨e0, e1, e2, h0, h1', h2', hit⟩ := hk.at_ 1 (by simp)
  simp only [List.getElem_cons_succ, List.getElem_cons_zero, ItemR] at hit
  obtain ⟨v, A', c', inner', e, ⟨Ad, cd, rfl, _, _, hrd⟩, _⟩ := hit
  simp only [List.cons.injEq, and_true] at e
  obtain ⟨rfl, rfl, rfl⟩ := e
  obtain ⟨g, off, rfl, hS, hc⟩ := hr.2 (by simp)
  exact ⟨A1, _, c1, g, off, c, Ad, cd, rfl, rfl, rfl, hS, h1, hc 4 _ h1', hrd⟩
theorem list_two {w1 w2 : World} {a : Nat} {fA gA : Option Addr} {fn fc gn gc : Nat} (hb : Below w1.heap.size w1 w2) (h1 : ItemR w1 (Btw a w1.heap.size) (.mk 0 cat []) [.int .i64 0, .slice fA fn fc, .slice none 0 0]) {b : Nat} (h2 : ItemR w2 (Btw b w2.heap.size) (.mk 0 dog []) [.int .i64 0, .slice gA gn gc, .slice none 0 0]) :
    Calls Try.prog 43 #[.slice (some ⟨w2.heap.size, 0, none⟩) 2 2] (w2.alloc (.cells #[.int .i64 0, .slice fA fn fc, .slice none 0 0, .int .i64 0, .slice gA gn gc, .slice none 0 0] 27)) fun e w' => ∃ d0 d1 d2, e = .returned (.agg #[d0, d1, d2]) ∧ ItemR w' (Btw (w2.heap.size + 1) w'.heap.size) pair [d0, d1, d2] ∧ Below (w2.heap.size + 1) (w2.alloc (.cells #[.int .i64 0, .slice fA fn fc, .slice none 0 0, .int .i64 0, .slice gA gn gc, .slice none 0 0] 27)) w' := by
  have hz := hb.size
  have hk1 : ∀ b, b < w1.heap.size → (w2.alloc (.cells #[.int .i64 0, .slice fA fn fc, .slice none 0 0, .int .i64 0, .slice gA gn gc, .slice none 0 0] 27)).heap[b]? = w1.heap[b]? := fun b hb' => (Below.heap_alloc _ _ _ (by omega)).trans (hb.block b hb')
  have hk2 : ∀ b, b < w2.heap.size → (w2.alloc (.cells #[.int .i64 0, .slice fA fn fc, .slice none 0 0, .int .i64 0, .slice gA gn gc, .slice none 0 0] 27)).heap[b]? = w2.heap[b]? := fun b hb' => Below.heap_alloc _ _ _ hb'
  have h := list43 (fun b => b < w2.heap.size + 1) (some ⟨w2.heap.size, 0, none⟩) 2 [.mk 0 cat [], .mk 0 dog []] [.int .i64 0, .slice fA fn fc, .slice none 0 0, .int .i64 0, .slice gA gn gc, .slice none 0 0] (w2.alloc (.cells #[.int .i64 0, .slice fA fn fc, .slice none 0 0, .int .i64 0, .slice gA gn gc, .slice none 0 0] 27)) (Nat.le_refl _) (by omega) (rd_lit w2 27 #[.int .i64 0, .slice fA fn fc, .slice none 0 0, .int .i64 0, .slice gA gn gc, .slice none 0 0] 3 2 rfl)
    (two_items _ _ _ _ _ _ _ _ _ _ (ItemR.wide (fun b hb => by have := hb.2; show b < _; omega) _ _ (ItemR.keep (fun b hb => hk1 b hb.2) _ _ h1)) (ItemR.wide (fun b hb => by have := hb.2; show b < _; omega) _ _ (ItemR.keep (fun b hb => hk2 b hb.2) _ _ h2))) (fun b hb => by rw [size_alloc]; exact hb) (by simp [bulks, bulk, cat, dog])
  rw [size_alloc] at h
  exact h
set_option maxRecDepth 100000 in
set_option maxHeartbeats 1000000 in
theorem awake12 (w : World) : Calls Try.prog 12 #[] w fun e w' => e = .returned (.bool true) ∧ Below w.heap.size w w' := by
  have T1 : Hid (∀ W lo hi v, Bs W lo hi v cat → hi ≤ W.heap.size → Calls Try.prog 41 #[v] W fun e w' => ∃ d1, e = .returned (.agg #[.int .i64 0, d1, .slice none 0 0]) ∧ ItemR w' (Btw W.heap.size w'.heap.size) (.mk 0 cat []) [.int .i64 0, d1, .slice none 0 0] ∧ Below W.heap.size W w') := fun W lo hi v hb hhi => text41 lo hi v cat W hb hhi (by decide)
  have T2 : Hid (∀ W lo hi v, Bs W lo hi v dog → hi ≤ W.heap.size → Calls Try.prog 41 #[v] W fun e w' => ∃ d1, e = .returned (.agg #[.int .i64 0, d1, .slice none 0 0]) ∧ ItemR w' (Btw W.heap.size w'.heap.size) (.mk 0 dog []) [.int .i64 0, d1, .slice none 0 0] ∧ Below W.heap.size W w') := fun W lo hi v hb hhi => text41 lo hi v dog W hb hhi (by decide)
  have T3 : Hid (∀ W S c0 c1 c2, ItemR W S pair [c0, c1, c2] → (∀ b, S b → b < W.heap.size) → Calls Try.prog 14 #[.agg #[c0, c1, c2]] W fun e w' => Below W.heap.size W w' ∧ ∃ A c, e = .returned (.tuple #[.slice A 9 c, .int .i64 0]) ∧ Rd w' W.heap.size w'.heap.size 1 A 9 (nums form)) := fun W S c0 c1 c2 hi hS => by
    refine (encode14_ok pair S c0 c1 c2 W hi hS (by rw [pair_bulk]; omega) pair_check).mono ?_
    rintro e w' ⟨hb, v, rfl, ho⟩
    rw [pair_form] at ho
    obtain ⟨A, c, rfl, h1, h2, h3⟩ := ho.bs
    exact ⟨hb, A, c, rfl, h3⟩
  have T4 : Hid (∀ W lo hi v, Bs W lo hi v form → hi ≤ W.heap.size → Calls Try.prog 16 #[v] W fun e w' => Below W.heap.size W w' ∧ ∃ d0 d1 d2, e = .returned (.tuple #[.agg #[d0, d1, d2], .int .i64 0]) ∧ ItemR w' (Btw W.heap.size w'.heap.size) pair [d0, d1, d2]) := fun W lo hi v hb hhi => decode16_ok lo hi v form W hb hhi (by decide) pair 9 pair_dec (by decide)
  have T5 : Hid (∀ W lo hi v, Bs W lo hi v [129, 5] → hi ≤ W.heap.size → Calls Try.prog 16 #[v] W fun e w' => Below W.heap.size W w' ∧ e = .returned (.tuple #[.agg #[.int .i64 0, .slice none 0 0, .slice none 0 0], .int .i64 42])) := fun W lo hi v hb hhi => (decode16_err lo hi v [129, 5] W hb hhi (by decide) 42 two_dec).mono fun e w' h => ⟨h.1, h.2.2⟩
  have kc := fun (w : World) (C : Array Value) (n c : Nat) => Lib.run_convert_bytes_const (P := Try.prog) w 23 5 C n c Try.underlying23 Try.underlying5
  go_enter Try.func12, Try.ntmps12
  go_wp2_with (first
    | (go_at_call 41; refine (T1.out _ w.heap.size (w.heap.size + 1) _ (bs_lit _ cat 3 rfl _ rfl (by omega) _) (by rw [size_alloc]; omega)).mono ?_
       rintro e w1 ⟨d1, rfl, hi1, hbl1⟩
       obtain ⟨_, ⟨fA, fn, fc, rfl⟩, _⟩ := item_shape hi1
       have HI1 := Lib.hid hi1
       have HB1 : Hid (Below w.heap.size w w1) := ((Below.refl _ w).alloc (Nat.le_refl _) _).trans (hbl1.mono (by rw [size_alloc]; omega))
       clear hi1 hbl1 T1)
    | (go_at_call 41; refine (T2.out _ w1.heap.size (w1.heap.size + 1) _ (bs_lit _ dog 3 rfl _ rfl (by omega) _) (by rw [size_alloc]; omega)).mono ?_
       rintro e w2 ⟨d2, rfl, hi2, hbl2⟩
       obtain ⟨_, ⟨gA, gn, gc, rfl⟩, _⟩ := item_shape hi2
       have HI2 := Lib.hid hi2
       have HB2 : Hid (Below w1.heap.size w1 w2) := ((Below.refl _ w1).alloc (Nat.le_refl _) _).trans (hbl2.mono (by rw [size_alloc]; omega))
       have T6 := Lib.hid (list_two HB2.out HI1.out HI2.out)
       clear hi2 hbl2 T2)
    | (go_at_call 43; refine T6.out.mono ?_
       rintro e w3 ⟨d0, d1, d2, rfl, hi3, hbl3⟩
       obtain ⟨⟨ql, rfl⟩, ⟨qA, qn, qc, rfl⟩, ⟨rA, rn, rc, rfl⟩⟩ := item_shape hi3
       have HI3 := Lib.hid hi3
       have HB3 : Hid (Below w2.heap.size w2 w3) := ((Below.refl _ w2).alloc (Nat.le_refl _) _).trans (hbl3.mono (by omega))
       clear hi3 hbl3 T6)
    | (go_at_call 14; refine (T3.out _ _ _ _ _ HI3.out (fun b hb => hb.2)).mono ?_
       rintro e w4 ⟨hbl4, vA, vc, rfl, hr4⟩
       have HR4 := Lib.hid hr4
       have HB4 := Lib.hid hbl4
       clear hr4 hbl4 T3)
    | (go_at_call 16; refine (T4.out _ w4.heap.size (w4.heap.size + 1) _ (bs_lit _ form 9 rfl _ rfl (by omega) _) (by rw [size_alloc]; omega)).mono ?_
       rintro e w5 ⟨hbl5, d0, d1, d2, rfl, hi5⟩
       obtain ⟨xA, xn, xc, g, off, yc, Ad, cd, rfl, rfl, rfl, hSg, hyc, hcell, hrd⟩ := pair_open hi5
       have HB5 : Hid (Below w4.heap.size w4 w5) := ((Below.refl _ w4).alloc (Nat.le_refl _) _).trans (hbl5.mono (by rw [size_alloc]; omega))
       have HS5 := Lib.hid hSg
       have HC5 := Lib.hid hcell
       have HR5 := Lib.hid hrd
       clear hi5 hbl5 hSg hcell hrd T4)
    | (go_at_call 16; refine (T5.out _ (w5.heap.size + 1) (w5.heap.size + 1 + 1) _ (bs_litQ _ [129, 5] 2 rfl _ rfl (by omega) _ (w5.heap.size + 1) (by rw [size_alloc])) (by simp only [size_alloc]; omega)).mono ?_
       rintro e w6 ⟨hbl6, rfl⟩
       have hg5 := (HS5.out).2
       have hx6 := (hbl6.block w5.heap.size (by simp only [size_alloc]; omega)).trans (show _ = some (Obj.cells #[.int .i64 1, .slice xA xn xc, .slice (some ⟨g, off, none⟩) 2 yc] 27 (0, 0)) by rw [heap_alloc, if_neg (by rw [size_alloc]; omega), heap_alloc, if_pos rfl])
       have HB6 : Hid (Below w5.heap.size w5 w6) := (((Below.refl _ w5).alloc (Nat.le_refl _) _).alloc (by rw [size_alloc]; omega) _).trans (hbl6.mono (by simp only [size_alloc]; omega))
       have HX6 := Lib.hid hx6
       clear hbl6 hx6 T5))
  have hB45 : Below w4.heap.size w4 w5 := HB5.out
  have hg := HS5.out
  have hz4 := hB45.size
  have hz6 := HB6.out.size
  have hx6 := HX6.out
  have hz5 := (Array.getElem?_eq_some_iff.1 hx6).1
  have hB7 : Below w5.heap.size w5 (w6.alloc (.cells #[.int .i64 0, .slice none 0 0, .slice none 0 0] 27)) := HB6.out.alloc hz6 _
  have hB47 : Below w4.heap.size w4 (w6.alloc (.cells #[.int .i64 0, .slice none 0 0, .slice none 0 0] 27)) := hB45.trans (hB7.mono hz4)
  have kf : (convert 23 9 (.slice vA 9 vc)).run Try.prog (w6.alloc (.cells #[.int .i64 0, .slice none 0 0, .slice none 0 0] 27)) = .ok (.string { data := #[200, 131, 99, 97, 116, 131, 100, 111, 103] }) (w6.alloc (.cells #[.int .i64 0, .slice none 0 0, .slice none 0 0] 27)) :=
    str_of (bs := form) rfl (HR4.out.keep (Same.of_below hB47 (Nat.le_refl _)))
  have kd : (convert 23 9 (.slice Ad 3 cd)).run Try.prog (w6.alloc (.cells #[.int .i64 0, .slice none 0 0, .slice none 0 0] 27)) = .ok (.string { data := #[100, 111, 103] }) (w6.alloc (.cells #[.int .i64 0, .slice none 0 0, .slice none 0 0] 27)) :=
    str_of (bs := dog) (lo := 0) (hi := w5.heap.size) rfl ((HR5.out.toRd (fun b hb => ⟨Nat.zero_le _, hb.2⟩)).keep (Same.of_below hB7 (Nat.le_refl _)))
  obtain ⟨x0, x1, x2, x3⟩ := block_cells ((Below.heap_alloc w6 (.cells #[.int .i64 0, .slice none 0 0, .slice none 0 0] 27) _ hz5).trans hx6)
  have k4 : (w6.alloc (.cells #[.int .i64 0, .slice none 0 0, .slice none 0 0] 27)).cell? ⟨g, off + 3 + 1, none⟩ = some (.slice Ad 3 cd) := (hB7.cell (p := ⟨g, off + 3 + 1, none⟩) hg.2).trans HC5.out
  have HBF : Hid (Below w.heap.size w (w6.alloc (.cells #[.int .i64 0, .slice none 0 0, .slice none 0 0] 27))) := by
    have h1 := HB1.out
    have h2 := HB2.out
    have h3 := HB3.out
    have h4 := HB4.out
    have h12 := h1.trans (h2.mono h1.size)
    have h13 := h12.trans (h3.mono h12.size)
    have h14 := h13.trans (h4.mono h13.size)
    exact h14.trans (hB47.mono h14.size)
  clear hB45 hx6 hB7 hB47 hg
  rw [kf]
  go_wp2
  go_ret
  exact ⟨rfl, HBF.out⟩
end Go.Proofs.Ytkdpphcalekbdaa.A1
