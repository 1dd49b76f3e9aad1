/- What comes in, with what its readings weigh: a slice of bytes, a slice of slices of bytes. -/
import Derived.Test.YtnlcndlfdnogaaaOp
import Derived.Test.YtnlcndlfdnogaaaOg
set_option linter.unusedVariables false
set_option linter.unusedSimpArgs false
namespace Go.Proofs.Ytnlcndlfdnogaaa.Ow
open Go.ChangeShapes Go.WideShapes Go.ChangeAt Go.RowKit Go.Deep
open D0 M Ytnlcndlfdnogaaa.Op Pc Og
theorem bytes5 : Try.prog.bytesOf 5 = 1 := by kernel_rfl
theorem bytes22 : Try.prog.bytesOf 22 = 24 := by kernel_rfl
theorem all_mem {H : Type} (l : List (DataW H)) (r : Nat) (h : (DataW.weightsAll Try.prog 22 l).all (· ≤ r) = true) : ∀ d ∈ l, (d.weights Try.prog 22).all (· ≤ r) = true := by
  induction l with
  | nil => intro d hd; cases hd
  | cons x l ih =>
    intro d hd
    simp only [DataW.weightsAll, List.all_append, Bool.and_eq_true] at h
    rcases List.mem_cons.1 hd with rfl | hd
    · exact h.1
    · exact ih h.2 d hd
section
variable {H : Type} {enc : TypeId × Value → H} {w : World} {base : Nat} {sp : Nat → Bool} {held : Bool}
theorem open_bs_w {fuel : Nat} {cs : List Value} {x : DataW H × List MemPlace} (h : DataW.trod enc Try.prog w base sp held fuel 22 cs = some x) :
    ∃ A n c bs, cs = [.slice A n c] ∧ Bs w 0 w.heap.size (.slice A n c) bs ∧ (∀ r, (x.1.weights Try.prog 22).all (· ≤ r) = true → bs.length ≤ r) := by
  rcases open_ints Try.underlying22 Try.underlying5 cells5 h with ⟨rfl, rfl⟩ | ⟨a, len, cap, zs, rfl, _, hl, hm, hz, rfl, hcell, hwz⟩
  · exact ⟨none, 0, 0, [], rfl, ⟨none, 0, rfl, by simp, by omega, Rd.nil _ _ _ _ _⟩, fun r _ => by simp⟩
  · have hlz : len ≤ zs.length := by rw [hz]; split <;> omega
    have hbl : ((zs.take len).map fun z => BitVec.ofNat 8 z.toNat).length = len := by simp; omega
    refine ⟨some a, len, cap, (zs.take len).map fun z => BitVec.ofNat 8 z.toNat, rfl, ⟨some a, cap, by rw [hbl], by rw [hbl]; exact hl, by simpa [maxLen] using hm, ?_⟩, ?_⟩
    · rw [hbl]
      refine ⟨by rw [nums_length, hbl]; omega, fun hn => ?_⟩
      obtain ⟨g, off, rfl, hg⟩ := spot_none (hcell 0 (by omega))
      refine ⟨g, off, rfl, Nat.zero_le _, hg, fun j u hu => ?_⟩
      have hj : j < len := by
        have := (List.getElem?_eq_some_iff.1 hu).1
        rw [nums_length, hbl] at this; exact this
      have hc := hcell j (by omega)
      rw [Addr.add_lit] at hc
      rw [hc, ← hu, nums_get _ _ (by rw [hbl]; exact hj)]
      have hjz : j < zs.length := by omega
      have hgd : zs.getD j 0 = zs[j]'hjz := by simp [List.getD, hjz]
      have hw := hwz _ (List.getElem_mem hjz)
      have h0 := bounds_u8 hw
      rw [hgd]
      simp only [List.getElem_map, List.getElem_take]
      rw [of_u8 (by omega) (by omega)]
    · intro r hr
      simp only [DataW.weights, Try.underlying22, List.all_cons, Bool.and_eq_true, decide_eq_true_eq, bytes5, Nat.mul_one] at hr
      have h1 := hr.1
      rw [hbl]
      have e : ∀ l : List Int, (lits (H := H) .u8 l).length = l.length := fun l => by simp [lits]
      rw [e, e, List.length_take, List.length_drop] at h1
      omega
set_option maxRecDepth 100000 in
theorem open_bytes_w {v : Value} {d : DataW H} {p : List MemPlace} (hv : Value.okWide Try.prog w .any base 22 v) (h : DataW.Trod enc Try.prog w 0 sp held 22 v d p) :
    ∃ bs : List Byte, Bs w 0 w.heap.size v bs ∧ (∀ r, (d.weights Try.prog 22).all (· ≤ r) = true → bs.length ≤ r) := by
  obtain ⟨a, len, cap, rfl⟩ := okWide_slice Try.underlying22 hv
  obtain ⟨fuel, hf⟩ := h
  obtain ⟨A, n, c, bs, e, hb, hk⟩ := open_bs_w hf
  simp only [Value.cells, List.cons.injEq, and_true] at e
  obtain ⟨rfl, rfl, rfl⟩ := (Value.slice.injEq _ _ _ _ _ _).mp (by simpa using e)
  exact ⟨bs, hb, hk⟩
set_option maxRecDepth 100000 in
theorem rows_of_w (g : Nat) (hg : g < w.heap.size) : ∀ (m off : Nat) (D : Nat → DataW H) (Pl : Nat → List MemPlace) (n : Nat),
    (∀ i, i < m → ∃ cs', w.cells? base (⟨g, off + i, none⟩ : Addr) 1 = some cs' ∧ DataW.trod enc Try.prog w base sp held n 22 cs' = some (D i, Pl i)) →
    ∃ (bss : List (List Byte)) (pvs : List Value), bss.length = m ∧ pvs.length = m ∧ (∀ (i : Nat) (b : List Byte) (u : Value), bss[i]? = some b → pvs[i]? = some u → Bs w 0 w.heap.size u b) ∧ (∀ j u, pvs[j]? = some u → w.cell? ⟨g, off + j, none⟩ = some u) ∧ (∀ r i b, bss[i]? = some b → ((D i).weights Try.prog 22).all (· ≤ r) = true → b.length ≤ r) := by
  intro m
  induction m with
  | zero => intro off D Pl n _; exact ⟨[], [], rfl, rfl, fun i b u h => by simp at h, fun j u h => by simp at h, fun r i b h => by simp at h⟩
  | succ m ih =>
    intro off D Pl n h
    obtain ⟨cs', hc, ht⟩ := h 0 (by omega)
    obtain ⟨A, n1, c, bs, rfl, hb, hk0⟩ := open_bs_w ht
    obtain ⟨bss, pvs, h1, h2, h3, h4, h5⟩ := ih (off + 1) (fun i => D (i + 1)) (fun i => Pl (i + 1)) n (fun i hi => by
      have := h (i + 1) (by omega)
      rwa [show off + (i + 1) = off + 1 + i from by omega] at this)
    have hcell := (World.cells?_some hc).2.2
    refine ⟨bs :: bss, .slice A n1 c :: pvs, by simp [h1], by simp [h2], fun i b u e1 e2 => ?_, fun j u hu => ?_, fun r i b e1 hw => ?_⟩
    · cases i with
      | zero =>
        rw [List.getElem?_cons_zero] at e1 e2
        cases e1; cases e2
        exact hb
      | succ i =>
        rw [List.getElem?_cons_succ] at e1 e2
        exact h3 i b u e1 e2
    · cases j with
      | zero =>
        rw [List.getElem?_cons_zero] at hu
        cases hu
        have := hcell 0 (by omega)
        rw [Addr.add_lit, Nat.add_zero] at this
        exact this
      | succ j =>
        rw [List.getElem?_cons_succ] at hu
        have := h4 j u hu
        rwa [show off + 1 + j = off + (j + 1) from by omega] at this
    · cases i with
      | zero =>
        rw [List.getElem?_cons_zero] at e1
        cases e1
        exact hk0 r hw
      | succ i =>
        rw [List.getElem?_cons_succ] at e1
        exact h5 r i b e1 hw
set_option maxRecDepth 100000 in
theorem open_rows_w {v : Value} {d : DataW H} {p : List MemPlace} (hv : Value.okWide Try.prog w .any base 41 v) (h : DataW.Trod enc Try.prog w 0 sp held 41 v d p) :
    ∃ bss : List (List Byte), Bss w v bss ∧ (∀ r, (d.weights Try.prog 41).all (· ≤ r) = true → bss.length ≤ r ∧ ∀ b ∈ bss, b.length ≤ r) := by
  obtain ⟨a, len, cap, rfl⟩ := okWide_slice Try.underlying41 hv
  obtain ⟨fuel, hf⟩ := h
  rcases open_slice Try.underlying41 hf with ⟨e, hx⟩ | ⟨a, len, cap, m, n, D, Pl, e, _, hl, hm, hmm, hx, hi⟩
  · simp only [Value.cells, List.cons.injEq, and_true] at e
    obtain ⟨rfl, rfl, rfl⟩ := (Value.slice.injEq _ _ _ _ _ _).mp (by simpa using e)
    simp only [Prod.mk.injEq] at hx
    rw [hx.1]
    exact ⟨[], ⟨none, 0, [], rfl, by simp, by omega, rfl, ⟨rfl, fun h => absurd h (by simp)⟩, fun i b u h => by simp at h⟩, fun r _ => ⟨by simp, fun b hb => by simp at hb⟩⟩
  · simp only [Value.cells, List.cons.injEq, and_true] at e
    obtain ⟨rfl, rfl, rfl⟩ := (Value.slice.injEq _ _ _ _ _ _).mp (by simpa using e)
    simp only [Prod.mk.injEq] at hx
    rw [hx.1]
    have hlm : len ≤ m := by rw [hmm]; split <;> omega
    rw [cells22] at hi
    rcases Nat.eq_zero_or_pos len with h0 | h0
    · subst h0
      exact ⟨[], ⟨some a, cap, [], rfl, by simp, by simpa [maxLen] using hm, rfl, ⟨rfl, fun h => absurd h (by simp)⟩, fun i b u h => by simp at h⟩, fun r _ => ⟨by simp, fun b hb => by simp at hb⟩⟩
    · obtain ⟨cs', hc, ht⟩ := hi 0 (by omega)
      have hc0 := (World.cells?_some hc).2.2 0 (by omega)
      rw [Nat.zero_mul] at hc0
      obtain ⟨A1, n1, c1, bs1, rfl, _, _⟩ := open_bs_w ht
      have hc1 : w.cell? (a.add 0) = some (.slice A1 n1 c1) := by
        have e : (a.add 0).add 0 = a.add 0 := by simp [Addr.add]
        rw [e] at hc0; exact hc0
      obtain ⟨g, off, rfl, hg⟩ := spot_none hc1
      obtain ⟨bss, pvs, h1, h2, h3, h4, h5⟩ := rows_of_w g hg len off D Pl n (fun i hil => by
        have := hi i (by omega)
        rwa [Addr.add_lit, Nat.mul_one] at this)
      subst h1
      refine ⟨bss, ⟨some ⟨g, off, none⟩, cap, pvs, rfl, hl, by simpa [maxLen] using hm, h2, ⟨by rw [h2, Nat.mul_one], fun _ => ⟨g, off, rfl, Nat.zero_le _, hg, h4⟩⟩, h3⟩, ?_⟩
      intro r hr
      simp only [DataW.weights, Try.underlying41, List.all_cons, Bool.and_eq_true, decide_eq_true_eq, bytes22, List.all_append] at hr
      obtain ⟨hr1, hr2, hr3⟩ := hr
      have hlen : bss.length ≤ ((List.range bss.length).map D).length := by simp
      refine ⟨by omega, fun b hb => ?_⟩
      obtain ⟨i, hi1, hi2⟩ := List.mem_iff_getElem.1 hb
      refine h5 r i b (by rw [← hi2]; exact List.getElem?_eq_getElem hi1) (all_mem ((List.range bss.length).map D) r ?_ _ ?_)
      · exact hr2
      · exact List.mem_map.2 ⟨i, List.mem_range.2 hi1, rfl⟩
end
end Go.Proofs.Ytnlcndlfdnogaaa.Ow
