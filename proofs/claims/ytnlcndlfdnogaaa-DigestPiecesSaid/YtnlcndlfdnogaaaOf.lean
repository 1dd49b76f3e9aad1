/- What comes in: numbers, truth values, arrays of words. -/
import Derived.Test.YtnlcndlfdnogaaaOp
set_option linter.unusedVariables false
set_option linter.unusedSimpArgs false
namespace Go.Proofs.Ytnlcndlfdnogaaa.Of
open Go.ChangeShapes Go.WideShapes Go.ChangeAt Go.RowKit Go.Deep
open D0 M Ytnlcndlfdnogaaa.Op
theorem cells45 : Try.prog.cellsOf 45 = 8 := by kernel_rfl
theorem cells44 : Try.prog.cellsOf 44 = 16 := by kernel_rfl
theorem cells48 : Try.prog.cellsOf 48 = 2 := by kernel_rfl
theorem cells33 : Try.prog.cellsOf 33 = 25 := by kernel_rfl
theorem wf_u64 {n : Int} (h : (Lit.int .u64 n).wf = true) : 0 ≤ n ∧ n < 18446744073709551616 := by
  simp only [Lit.wf, Bool.and_eq_true, decide_eq_true_eq] at h
  have h1 : (0 : Int) ≤ n := h.1
  have h2 : n ≤ 18446744073709551615 := h.2
  exact ⟨h1, by omega⟩
theorem wf_u32 {n : Int} (h : (Lit.int .u32 n).wf = true) : 0 ≤ n ∧ n < 4294967296 := by
  simp only [Lit.wf, Bool.and_eq_true, decide_eq_true_eq] at h
  have h1 : (0 : Int) ≤ n := h.1
  have h2 : n ≤ 4294967295 := h.2
  exact ⟨h1, by omega⟩
section
variable {H : Type} {enc : TypeId × Value → H} {w : World} {base : Nat} {sp : Nat → Bool} {held : Bool}
set_option maxRecDepth 100000 in
theorem open_bool {v : Value} {d : DataW H} {p : List MemPlace} (hv : Value.okWide Try.prog w .any base 4 v) (h : DataW.Trod enc Try.prog w 0 sp held 4 v d p) : ∃ b : Bool, v = .bool b := by
  obtain ⟨b, rfl, _⟩ := Go.RowKit.open_bool Try.underlying4 hv h
  exact ⟨b, rfl⟩
set_option maxRecDepth 100000 in
theorem open_u32 {v : Value} {d : DataW H} {p : List MemPlace} (hv : Value.okWide Try.prog w .any base 47 v) (h : DataW.Trod enc Try.prog w 0 sp held 47 v d p) : ∃ n : Nat, v = .int .u32 (n : Int) ∧ n < 4294967296 := by
  obtain ⟨n, rfl, rfl, rfl, hw⟩ := open_int Try.underlying47 hv h
  have := wf_u32 hw
  exact ⟨n.toNat, by rw [Int.toNat_of_nonneg this.1], by omega⟩
set_option maxRecDepth 100000 in
theorem open_row {t : TypeId} {n : Nat} (ht : Try.prog.underlying t = some (.array n 32)) (hc : Try.prog.cellsOf t = n) {v : Value} {d : DataW H} {p : List MemPlace} (hv : ∃ cs : Array Value, v = .agg cs)
    (h : DataW.Trod enc Try.prog w 0 sp held t v d p) : ∃ l : List (BitVec 64), v = .agg (m64 l).toArray ∧ l.length = n := by
  obtain ⟨cs, rfl⟩ := hv
  obtain ⟨fuel, hf⟩ := h
  obtain ⟨xs, m, _, hx, hlen, hxl, hg⟩ := DataW.trod_array ht hf
  rw [hc] at hlen
  obtain ⟨l0⟩ := cs
  have hl : l0.length = n := by simpa [Value.cells] using hlen
  have hz : ∀ i (hi : i < l0.length), ∃ z : Int, l0[i] = .int .u64 z ∧ 0 ≤ z ∧ z < 18446744073709551616 := by
    intro i hi
    have hgi := hg i (by omega)
    rw [cells32] at hgi
    have hxi : i < xs.length := by omega
    rw [List.getElem?_eq_getElem hxi] at hgi
    simp only [Value.cells, Nat.mul_one] at hgi
    rw [List.drop_eq_getElem_cons hi, List.take_succ_cons, List.take_zero] at hgi
    obtain ⟨z, e0, _, w0⟩ := DataW.trod_int Try.underlying32 hgi
    simp only [List.cons.injEq, and_true] at e0
    exact ⟨z, e0, wf_u64 w0⟩
  refine ⟨l0.map fun u => BitVec.ofNat 64 (intOf u).toNat, ?_, by simpa using hl⟩
  congr 2
  apply List.ext_getElem
  · simp [m64]
  · intro i h1 h2
    obtain ⟨z, e, z0, z1⟩ := hz i h1
    simp only [m64, List.getElem_map, e, intOf]
    rw [of_u64 z0 z1]
set_option maxRecDepth 100000 in
theorem open_8 {v : Value} {d : DataW H} {p : List MemPlace} (hv : Value.okWide Try.prog w .any base 45 v) (h : DataW.Trod enc Try.prog w 0 sp held 45 v d p) : ∃ l : List (BitVec 64), v = .agg (m64 l).toArray ∧ l.length = 8 := by
  simp only [Value.okWide, Try.underlying45] at hv
  obtain ⟨cs, rfl, h2, _⟩ := hv
  exact open_row Try.underlying45 cells45 ⟨_, rfl⟩ h
set_option maxRecDepth 100000 in
theorem open_16 {v : Value} {d : DataW H} {p : List MemPlace} (hv : Value.okWide Try.prog w .any base 44 v) (h : DataW.Trod enc Try.prog w 0 sp held 44 v d p) : ∃ l : List (BitVec 64), v = .agg (m64 l).toArray ∧ l.length = 16 := by
  simp only [Value.okWide, Try.underlying44] at hv
  obtain ⟨cs, rfl, h2, _⟩ := hv
  exact open_row Try.underlying44 cells44 ⟨_, rfl⟩ h
set_option maxRecDepth 100000 in
theorem open_2 {v : Value} {d : DataW H} {p : List MemPlace} (hv : Value.okWide Try.prog w .any base 48 v) (h : DataW.Trod enc Try.prog w 0 sp held 48 v d p) : ∃ t0 t1 : BitVec 64, v = .agg (m64 [t0, t1]).toArray := by
  simp only [Value.okWide, Try.underlying48] at hv
  obtain ⟨cs, rfl, h2, _⟩ := hv
  obtain ⟨l, e, hl⟩ := open_row Try.underlying48 cells48 ⟨_, rfl⟩ h
  match l, hl, e with
  | [a, b], _, e => exact ⟨a, b, e⟩
set_option maxRecDepth 100000 in
theorem open_25 {v : Value} {d : DataW H} {p : List MemPlace} (hv : Value.okWide Try.prog w .any base 33 v) (h : DataW.Trod enc Try.prog w 0 sp held 33 v d p) : ∃ l : List (BitVec 64), v = .agg (m64 l).toArray ∧ l.length = 25 := by
  simp only [Value.okWide, Try.underlying33] at hv
  obtain ⟨cs, rfl, h2, _⟩ := hv
  exact open_row Try.underlying33 cells33 ⟨_, rfl⟩ h
end
end Go.Proofs.Ytnlcndlfdnogaaa.Of
