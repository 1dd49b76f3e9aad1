/- Ripemd's region of two calls: what its operations leave. -/
import Derived.Test.YtnlcndlfdnogaaaR4
import Derived.Test.YtnlcndlfdnogaaaRv
set_option linter.unusedVariables false
set_option linter.unusedSimpArgs false
namespace Go.Proofs.Ytnlcndlfdnogaaa.Rw
open Go.RowKit
open D0 M D2 D3 K1 S2 R0 R3 R4 Rv
abbrev ptr (g o : Nat) : Value := .pointer (some ⟨g, o, none⟩)
def SL : List Nat := [8, 9, 33, 34, 35, 36, 37, 38]
def z5 : V := List.replicate 5 0#32
structure JR (gL N : Nat) (st lv rv : V) (G : World → Prop) (s0 : Nat → Value) (L : Nat → Bool) (s : Nat → Value) (w : World) : Prop where
  g : G w
  n : N ≤ w.heap.size
  ho : ∀ t, t ∉ SL → s t = s0 t
  h0 : L 0 = true → s 33 = ptr gL 0
  h1 : L 1 = true → s 34 = .agg (m32 st).toArray
  h2 : L 2 = true → s 35 = .agg (m32 lv).toArray
  h3 : L 3 = true → s 36 = ptr gL 165
  h4 : L 4 = true → s 37 = .agg (m32 st).toArray
  h5 : L 5 = true → s 38 = .agg (m32 rv).toArray
  h6 : L 6 = true → ∃ g c, s 8 = ptr g 0 ∧ N ≤ g ∧ g < w.heap.size ∧ c.length = 5 ∧ Arr w g 71 (m32 c)
  h7 : L 7 = true → ∃ g c, s 9 = ptr g 0 ∧ N ≤ g ∧ g < w.heap.size ∧ c.length = 5 ∧ Arr w g 71 (m32 c)
  h67 : L 6 = true → L 7 = true → s 8 ≠ s 9
  h86 : L 8 = true → L 6 = true
  h97 : L 9 = true → L 7 = true
  h8 : L 8 = true → ∃ g, s 8 = ptr g 0 ∧ g < w.heap.size ∧ Arr w g 71 (m32 lv)
  h9 : L 9 = true → ∃ g, s 9 = ptr g 0 ∧ g < w.heap.size ∧ Arr w g 71 (m32 rv)
section
variable {gL N : Nat} {st lv rv : V} {G : World → Prop} {s0 : Nat → Value} {L : Nat → Bool} {s : Nat → Value} {w w' : World}
theorem ho_upd {d : Nat} {v : Value} (h : ∀ t, t ∉ SL → s t = s0 t) (hd : d ∈ SL) : ∀ t, t ∉ SL → upd s (some d) v t = s0 t := by
  intro t ht
  unfold upd
  rw [if_neg (by intro e; cases e; exact ht hd)]
  exact h t ht
theorem JR.later (f : JR gL N st lv rv G s0 L s w) (hG : ∀ w w', G w → Below N w w' → G w') (hb : Below w.heap.size w w') : JR gL N st lv rv G s0 L s w' :=
  ⟨hG _ _ f.g (hb.mono f.n), Nat.le_trans f.n hb.size, f.ho, f.h0, f.h1, f.h2, f.h3, f.h4, f.h5,
    fun h => by
      obtain ⟨g, c, a1, a2, a3, a4, a5⟩ := f.h6 h
      exact ⟨g, c, a1, a2, Nat.lt_of_lt_of_le a3 hb.size, a4, a5.later hb a3⟩,
    fun h => by
      obtain ⟨g, c, a1, a2, a3, a4, a5⟩ := f.h7 h
      exact ⟨g, c, a1, a2, Nat.lt_of_lt_of_le a3 hb.size, a4, a5.later hb a3⟩, f.h67, f.h86, f.h97,
    fun h => by
      obtain ⟨g, a1, a3, a5⟩ := f.h8 h
      exact ⟨g, a1, Nat.lt_of_lt_of_le a3 hb.size, a5.later hb a3⟩,
    fun h => by
      obtain ⟨g, a1, a3, a5⟩ := f.h9 h
      exact ⟨g, a1, Nat.lt_of_lt_of_le a3 hb.size, a5.later hb a3⟩⟩
theorem JR.o0 (f : JR gL N st lv rv G s0 L s w) : JR gL N st lv rv G s0 (lis L 0) (upd s (some 33) (ptr gL 0)) w :=
  ⟨f.g, f.n, ho_upd f.ho (by decide), fun _ => by simp [upd], by simpa [lis, upd] using f.h1, by simpa [lis, upd] using f.h2, by simpa [lis, upd] using f.h3, by simpa [lis, upd] using f.h4, by simpa [lis, upd] using f.h5, by simpa [lis, upd] using f.h6, by simpa [lis, upd] using f.h7, by simpa [lis, upd] using f.h67, by simpa [lis, upd] using f.h86, by simpa [lis, upd] using f.h97, by simpa [lis, upd] using f.h8, by simpa [lis, upd] using f.h9⟩
theorem JR.o1 (f : JR gL N st lv rv G s0 L s w) : JR gL N st lv rv G s0 (lis L 1) (upd s (some 34) (.agg (m32 st).toArray)) w :=
  ⟨f.g, f.n, ho_upd f.ho (by decide), by simpa [lis, upd] using f.h0, fun _ => by simp [upd], by simpa [lis, upd] using f.h2, by simpa [lis, upd] using f.h3, by simpa [lis, upd] using f.h4, by simpa [lis, upd] using f.h5, by simpa [lis, upd] using f.h6, by simpa [lis, upd] using f.h7, by simpa [lis, upd] using f.h67, by simpa [lis, upd] using f.h86, by simpa [lis, upd] using f.h97, by simpa [lis, upd] using f.h8, by simpa [lis, upd] using f.h9⟩
theorem JR.o2 (f : JR gL N st lv rv G s0 L s w) : JR gL N st lv rv G s0 (lis L 2) (upd s (some 35) (.agg (m32 lv).toArray)) w :=
  ⟨f.g, f.n, ho_upd f.ho (by decide), by simpa [lis, upd] using f.h0, by simpa [lis, upd] using f.h1, fun _ => by simp [upd], by simpa [lis, upd] using f.h3, by simpa [lis, upd] using f.h4, by simpa [lis, upd] using f.h5, by simpa [lis, upd] using f.h6, by simpa [lis, upd] using f.h7, by simpa [lis, upd] using f.h67, by simpa [lis, upd] using f.h86, by simpa [lis, upd] using f.h97, by simpa [lis, upd] using f.h8, by simpa [lis, upd] using f.h9⟩
theorem JR.o3 (f : JR gL N st lv rv G s0 L s w) : JR gL N st lv rv G s0 (lis L 3) (upd s (some 36) (ptr gL 165)) w :=
  ⟨f.g, f.n, ho_upd f.ho (by decide), by simpa [lis, upd] using f.h0, by simpa [lis, upd] using f.h1, by simpa [lis, upd] using f.h2, fun _ => by simp [upd], by simpa [lis, upd] using f.h4, by simpa [lis, upd] using f.h5, by simpa [lis, upd] using f.h6, by simpa [lis, upd] using f.h7, by simpa [lis, upd] using f.h67, by simpa [lis, upd] using f.h86, by simpa [lis, upd] using f.h97, by simpa [lis, upd] using f.h8, by simpa [lis, upd] using f.h9⟩
theorem JR.o4 (f : JR gL N st lv rv G s0 L s w) : JR gL N st lv rv G s0 (lis L 4) (upd s (some 37) (.agg (m32 st).toArray)) w :=
  ⟨f.g, f.n, ho_upd f.ho (by decide), by simpa [lis, upd] using f.h0, by simpa [lis, upd] using f.h1, by simpa [lis, upd] using f.h2, by simpa [lis, upd] using f.h3, fun _ => by simp [upd], by simpa [lis, upd] using f.h5, by simpa [lis, upd] using f.h6, by simpa [lis, upd] using f.h7, by simpa [lis, upd] using f.h67, by simpa [lis, upd] using f.h86, by simpa [lis, upd] using f.h97, by simpa [lis, upd] using f.h8, by simpa [lis, upd] using f.h9⟩
theorem JR.o5 (f : JR gL N st lv rv G s0 L s w) : JR gL N st lv rv G s0 (lis L 5) (upd s (some 38) (.agg (m32 rv).toArray)) w :=
  ⟨f.g, f.n, ho_upd f.ho (by decide), by simpa [lis, upd] using f.h0, by simpa [lis, upd] using f.h1, by simpa [lis, upd] using f.h2, by simpa [lis, upd] using f.h3, by simpa [lis, upd] using f.h4, fun _ => by simp [upd], by simpa [lis, upd] using f.h6, by simpa [lis, upd] using f.h7, by simpa [lis, upd] using f.h67, by simpa [lis, upd] using f.h86, by simpa [lis, upd] using f.h97, by simpa [lis, upd] using f.h8, by simpa [lis, upd] using f.h9⟩
theorem JR.o6 (f : JR gL N st lv rv G s0 L s w) (hG : ∀ w w', G w → Below N w w' → G w') (hL : L 6 = false) : JR gL N st lv rv G s0 (lis L 6) (upd s (some 8) (ptr w.heap.size 0)) (w.alloc (.cells (m32 z5).toArray 71)) := by
  have k := f.later hG (below_new w (.cells (m32 z5).toArray 71))
  refine ⟨k.g, k.n, ho_upd k.ho (by decide), by simpa [lis, upd] using k.h0, by simpa [lis, upd] using k.h1, by simpa [lis, upd] using k.h2, by simpa [lis, upd] using k.h3, by simpa [lis, upd] using k.h4, by simpa [lis, upd] using k.h5, fun _ => ⟨w.heap.size, z5, by simp [upd], f.n, by rw [size_alloc]; omega, rfl, Arr.new w (m32 z5) 71⟩, by simpa [lis, upd] using k.h7, ?_, fun _ => by simp [lis], by simpa [lis, upd] using k.h97, fun h => ?_, by simpa [lis, upd] using k.h9⟩
  · intro _ h7
    have h7 : L 7 = true := by simpa [lis] using h7
    obtain ⟨g, c, a1, a2, a3, _⟩ := f.h7 h7
    simp only [upd]
    simp [a1]
    try omega
  · have h : L 8 = true := by simpa [lis] using h
    have := f.h86 h
    rw [hL] at this
    cases this
theorem JR.o7 (f : JR gL N st lv rv G s0 L s w) (hG : ∀ w w', G w → Below N w w' → G w') (hL : L 7 = false) : JR gL N st lv rv G s0 (lis L 7) (upd s (some 9) (ptr w.heap.size 0)) (w.alloc (.cells (m32 z5).toArray 71)) := by
  have k := f.later hG (below_new w (.cells (m32 z5).toArray 71))
  refine ⟨k.g, k.n, ho_upd k.ho (by decide), by simpa [lis, upd] using k.h0, by simpa [lis, upd] using k.h1, by simpa [lis, upd] using k.h2, by simpa [lis, upd] using k.h3, by simpa [lis, upd] using k.h4, by simpa [lis, upd] using k.h5, by simpa [lis, upd] using k.h6, fun _ => ⟨w.heap.size, z5, by simp [upd], f.n, by rw [size_alloc]; omega, rfl, Arr.new w (m32 z5) 71⟩, ?_, by simpa [lis, upd] using k.h86, fun _ => by simp [lis], by simpa [lis, upd] using k.h8, fun h => ?_⟩
  · intro h6 _
    have h6 : L 6 = true := by simpa [lis] using h6
    obtain ⟨g, c, a1, a2, a3, _⟩ := f.h6 h6
    simp only [upd]
    simp [a1]
    try omega
  · have h : L 9 = true := by simpa [lis] using h
    have := f.h97 h
    rw [hL] at this
    cases this
theorem upd_none (v : Value) : upd s none v = s := by funext t; simp [upd]
theorem JR.o8 (f : JR gL N st lv rv G s0 L s w) (hG : ∀ w w', G w → Below N w w' → G w') (hlv : lv.length = 5) (hL7 : L 7 = true) (g : Nat) (e : s 8 = ptr g 0) (hg : N ≤ g) (hgw : g < w.heap.size) {c : V} (hc : Arr w g 71 (m32 c)) (v : Value) (h6 : L 6 = true) : JR gL N st lv rv G s0 (lis L 8) (upd s none v) (w.setRow g (m32 lv).toArray) := by
  have hb : Below N w (w.setRow g (m32 lv).toArray) := below_setRow (Below.refl _ _) hg _
  have hr : Arr (w.setRow g (m32 lv).toArray) g 71 (m32 lv) := setRow_heap _ _ _ _ _ _ hc
  have hz : (w.setRow g (m32 lv).toArray).heap.size = w.heap.size := setRow_size _ _ _
  have h9 : ∀ g', s 9 = ptr g' 0 → g' ≠ g := fun g' e' h => f.h67 h6 hL7 (by rw [e, e', h])
  rw [upd_none]
  refine ⟨hG _ _ f.g hb, by rw [hz]; exact f.n, f.ho, by simpa [lis] using f.h0, by simpa [lis] using f.h1, by simpa [lis] using f.h2, by simpa [lis] using f.h3, by simpa [lis] using f.h4, by simpa [lis] using f.h5, fun _ => ⟨g, lv, e, hg, by rw [hz]; exact hgw, hlv, hr⟩, fun h => ?_, by simpa [lis] using f.h67, fun _ => by simpa [lis] using h6, by simpa [lis] using f.h97, fun _ => ⟨g, e, by rw [hz]; exact hgw, hr⟩, fun h => ?_⟩
  · obtain ⟨g', c', a1, a2, a3, a4, a5⟩ := f.h7 hL7
    exact ⟨g', c', a1, a2, by rw [hz]; exact a3, a4, a5.keep (setRow_other _ _ _ _ (Ne.symm (h9 g' a1)).symm)⟩
  · have h : L 9 = true := by simpa [lis] using h
    obtain ⟨g', a1, a3, a5⟩ := f.h9 h
    exact ⟨g', a1, by rw [hz]; exact a3, a5.keep (setRow_other _ _ _ _ (Ne.symm (h9 g' a1)).symm)⟩
theorem JR.o9 (f : JR gL N st lv rv G s0 L s w) (hG : ∀ w w', G w → Below N w w' → G w') (hrv : rv.length = 5) (hL6 : L 6 = true) (g : Nat) (e : s 9 = ptr g 0) (hg : N ≤ g) (hgw : g < w.heap.size) {c : V} (hc : Arr w g 71 (m32 c)) (v : Value) (h7 : L 7 = true) : JR gL N st lv rv G s0 (lis L 9) (upd s none v) (w.setRow g (m32 rv).toArray) := by
  have hb : Below N w (w.setRow g (m32 rv).toArray) := below_setRow (Below.refl _ _) hg _
  have hr : Arr (w.setRow g (m32 rv).toArray) g 71 (m32 rv) := setRow_heap _ _ _ _ _ _ hc
  have hz : (w.setRow g (m32 rv).toArray).heap.size = w.heap.size := setRow_size _ _ _
  have h8 : ∀ g', s 8 = ptr g' 0 → g' ≠ g := fun g' e' h => f.h67 hL6 h7 (by rw [e, e', h])
  rw [upd_none]
  refine ⟨hG _ _ f.g hb, by rw [hz]; exact f.n, f.ho, by simpa [lis] using f.h0, by simpa [lis] using f.h1, by simpa [lis] using f.h2, by simpa [lis] using f.h3, by simpa [lis] using f.h4, by simpa [lis] using f.h5, fun h => ?_, fun _ => ⟨g, rv, e, hg, by rw [hz]; exact hgw, hrv, hr⟩, by simpa [lis] using f.h67, by simpa [lis] using f.h86, fun _ => by simpa [lis] using h7, fun h => ?_, fun _ => ⟨g, e, by rw [hz]; exact hgw, hr⟩⟩
  · obtain ⟨g', c', a1, a2, a3, a4, a5⟩ := f.h6 hL6
    exact ⟨g', c', a1, a2, by rw [hz]; exact a3, a4, a5.keep (setRow_other _ _ _ _ (Ne.symm (h8 g' a1)).symm)⟩
  · have h : L 8 = true := by simpa [lis] using h
    obtain ⟨g', a1, a3, a5⟩ := f.h8 h
    exact ⟨g', a1, by rw [hz]; exact a3, a5.keep (setRow_other _ _ _ _ (Ne.symm (h8 g' a1)).symm)⟩
theorem wp_region_state2 {P : Program} {Q : Exit → Act → World → Prop} {id : Nat} {a : Act} {w : World} {l : List Oper} (J : (Nat → Value) → (Nat → Bool) → (Nat → Value) → World → Prop) (hm : P.follows .mixedOrders = true)
    (hsl : slotsB l a.tmps.size = true) (hi : J (Rv.look a) (fun j => (Array.replicate l.length false).getD j true) (Rv.look a) w.drew)
    (hstep : StepsS P l.toArray Q (J (Rv.look a)) a 0 l)
    (hQ : ∀ (L : Nat → Bool) (a' : Act) (w' : World), a'.tmps.size = a.tmps.size → a'.defers = a.defers → (∀ j, j < l.length → L j = true) → J (Rv.look a) L (Rv.look a') w' → Q .normal a' w') :
    (Code.region id l.toArray true).wp P Q a w := wp_region_state (J (Rv.look a)) hm hsl hi hstep hQ
end
end Go.Proofs.Ytnlcndlfdnogaaa.Rw
