/- What comes in: a slice of slices of bytes. -/
import Derived.Test.YtnlcndlfdnogaaaOp
import Derived.Test.YtnlcndlfdnogaaaPc
set_option linter.unusedVariables false
set_option linter.unusedSimpArgs false
namespace Go.Proofs.Ytnlcndlfdnogaaa.Og
open Go.ChangeShapes Go.WideShapes Go.ChangeAt Go.RowKit Go.Deep
open D0 M Ytnlcndlfdnogaaa.Op Pc
def bbulk : List (List Byte) → Nat
  | [] => 0
  | b :: r => b.length + 1 + bbulk r
theorem bbulk_mem : ∀ (l : List (List Byte)) (b : List Byte), b ∈ l → b.length ≤ bbulk l
  | x :: l, b, h => by
    simp only [bbulk]
    rcases List.mem_cons.1 h with rfl | h
    · omega
    · have := bbulk_mem l b h; omega
theorem bbulk_len : ∀ l : List (List Byte), l.length ≤ bbulk l
  | [] => Nat.le_refl _
  | x :: l => by have := bbulk_len l; simp only [bbulk, List.length_cons]; omega
section
variable {H : Type} {enc : TypeId × Value → H} {w : World} {base : Nat} {sp : Nat → Bool} {held : Bool}
set_option maxRecDepth 100000 in
theorem rows_of (g : Nat) (hg : g < w.heap.size) : ∀ (m off : Nat) (D : Nat → DataW H) (Pl : Nat → List MemPlace) (n : Nat),
    (∀ i, i < m → ∃ cs', w.cells? base (⟨g, off + i, none⟩ : Addr) 1 = some cs' ∧ DataW.trod enc Try.prog w base sp held n 22 cs' = some (D i, Pl i)) →
    ∃ (bss : List (List Byte)) (pvs : List Value), bss.length = m ∧ pvs.length = m ∧ (∀ (i : Nat) (b : List Byte) (u : Value), bss[i]? = some b → pvs[i]? = some u → Bs w 0 w.heap.size u b) ∧ (∀ j u, pvs[j]? = some u → w.cell? ⟨g, off + j, none⟩ = some u) ∧ bbulk bss ≤ Rows.uptoBulkAll ((List.range m).map D) := by
  intro m
  induction m with
  | zero => intro off D Pl n _; exact ⟨[], [], rfl, rfl, fun i b u h => by simp at h, fun j u h => by simp at h, by simp [bbulk]⟩
  | succ m ih =>
    intro off D Pl n h
    obtain ⟨cs', hc, ht⟩ := h 0 (by omega)
    obtain ⟨A, n1, c, bs, rfl, hb, hk0⟩ := open_bs ht
    have hk : bs.length + 1 ≤ Rows.uptoBulk (D 0) := hk0
    obtain ⟨bss, pvs, h1, h2, h3, h4, h5⟩ := ih (off + 1) (fun i => D (i + 1)) (fun i => Pl (i + 1)) n (fun i hi => by
      have := h (i + 1) (by omega)
      rwa [show off + (i + 1) = off + 1 + i from by omega] at this)
    have hcell := (World.cells?_some hc).2.2
    refine ⟨bs :: bss, .slice A n1 c :: pvs, by simp [h1], by simp [h2], fun i b u e1 e2 => ?_, fun j u hu => ?_, ?_⟩
    · cases i with
      | zero =>
        rw [List.getElem?_cons_zero] at e1 e2
        cases e1; cases e2
        exact hb
      | succ i =>
        rw [List.getElem?_cons_succ] at e1 e2
        exact h3 i b u e1 e2
    · cases j with
      | zero =>
        rw [List.getElem?_cons_zero] at hu
        cases hu
        have := hcell 0 (by omega)
        rw [Addr.add_lit, Nat.add_zero] at this
        exact this
      | succ j =>
        rw [List.getElem?_cons_succ] at hu
        have := h4 j u hu
        rwa [show off + 1 + j = off + (j + 1) from by omega] at this
    · rw [List.range_succ_eq_map]
      simp only [List.map_cons, List.map_map, Rows.uptoBulkAll, bbulk]
      have : (D ∘ Nat.succ) = fun i => D (i + 1) := rfl
      rw [this]
      omega
set_option maxRecDepth 100000 in
theorem open_rows {v : Value} {d : DataW H} {p : List MemPlace} (hv : Value.okWide Try.prog w .any base 41 v) (h : DataW.Trod enc Try.prog w 0 sp held 41 v d p) :
    ∃ bss : List (List Byte), Bss w v bss ∧ bbulk bss + 1 ≤ Rows.uptoBulk d := by
  obtain ⟨a, len, cap, rfl⟩ := okWide_slice Try.underlying41 hv
  obtain ⟨fuel, hf⟩ := h
  rcases open_slice Try.underlying41 hf with ⟨e, hx⟩ | ⟨a, len, cap, m, n, D, Pl, e, _, hl, hm, hmm, hx, hi⟩
  · simp only [Value.cells, List.cons.injEq, and_true] at e
    obtain ⟨rfl, rfl, rfl⟩ := (Value.slice.injEq _ _ _ _ _ _).mp (by simpa using e)
    simp only [Prod.mk.injEq] at hx
    rw [hx.1]
    exact ⟨[], ⟨none, 0, [], rfl, by simp, by omega, rfl, ⟨rfl, fun h => absurd h (by simp)⟩, fun i b u h => by simp at h⟩, by simp [bbulk, Rows.uptoBulk]⟩
  · simp only [Value.cells, List.cons.injEq, and_true] at e
    obtain ⟨rfl, rfl, rfl⟩ := (Value.slice.injEq _ _ _ _ _ _).mp (by simpa using e)
    simp only [Prod.mk.injEq] at hx
    rw [hx.1]
    have hlm : len ≤ m := by rw [hmm]; split <;> omega
    rw [cells22] at hi
    rcases Nat.eq_zero_or_pos len with h0 | h0
    · subst h0
      exact ⟨[], ⟨some a, cap, [], rfl, by simp, by simpa [maxLen] using hm, rfl, ⟨rfl, fun h => absurd h (by simp)⟩, fun i b u h => by simp at h⟩, by simp only [bbulk, Rows.uptoBulk]; omega⟩
    · obtain ⟨cs', hc, ht⟩ := hi 0 (by omega)
      have hc0 := (World.cells?_some hc).2.2 0 (by omega)
      rw [Nat.zero_mul] at hc0
      obtain ⟨A1, n1, c1, bs1, rfl, _, _⟩ := open_bs ht
      have hc1 : w.cell? (a.add 0) = some (.slice A1 n1 c1) := by
        have e : (a.add 0).add 0 = a.add 0 := by simp [Addr.add]
        rw [e] at hc0; exact hc0
      obtain ⟨g, off, rfl, hg⟩ := spot_none hc1
      obtain ⟨bss, pvs, h1, h2, h3, h4, h5⟩ := rows_of g hg len off D Pl n (fun i hil => by
        have := hi i (by omega)
        rwa [Addr.add_lit, Nat.mul_one] at this)
      subst h1
      refine ⟨bss, ⟨some ⟨g, off, none⟩, cap, pvs, rfl, hl, by simpa [maxLen] using hm, h2, ⟨by rw [h2, Nat.mul_one], fun _ => ⟨g, off, rfl, Nat.zero_le _, hg, h4⟩⟩, h3⟩, ?_⟩
      simp only [Rows.uptoBulk]
      omega
end
end Go.Proofs.Ytnlcndlfdnogaaa.Og
