/- Arrays of numbers, compared. -/
import Derived.Test.YtnlcndlfdnogaaaD1
import Derived.ChangeKeysEq
import Derived.LaidEqlPtr
set_option linter.unusedVariables false
set_option linter.unusedSimpArgs false
namespace Go.Proofs.Ytnlcndlfdnogaaa.Eq
open Go.RowKit D0 M
def ints (k : IntKind) (l : List Int) : Array Value := (l.map fun z => Value.int k z).toArray
section
variable {P : Program} (w : World)
theorem run_eqItems_ints (d : Nat) {e : TypeId} {k : IntKind} (hu : P.underlying e = some (.int k)) (he : P.plainKey e = true) (l1 l2 : List Int) :
    ∀ is : List Nat, (∀ i ∈ is, i < l1.length ∧ i < l2.length) → (Op.eqItems (d + 1) e 1 (ints k l1) (ints k l2) is).run P w = .ok (is.all fun i => decide (l1.getD i 0 = l2.getD i 0)) w
  | [], _ => by simp [Op.eqItems]
  | i :: is, h => by
    have h1 := h i (by simp)
    have p1 : (part e (ints k l1) (i * 1)).run P w = .ok (.int k (l1.getD i 0)) w := run_part_plain w he (by simp [ints, List.getElem?_eq_getElem h1.1])
    have p2 : (part e (ints k l2) (i * 1)).run P w = .ok (.int k (l2.getD i 0)) w := run_part_plain w he (by simp [ints, List.getElem?_eq_getElem h1.2])
    have p3 := run_equalIn_int (P := P) w d e k k (l1.getD i 0) (l2.getD i 0) hu
    have ih := run_eqItems_ints d hu he l1 l2 is (fun j hj => h j (by simp [hj]))
    simp only [Op.eqItems, Sem.run_bind, p1, p2, p3, Result.andThen_ok]
    by_cases hx : l1.getD i 0 = l2.getD i 0
    · have hb : (l1.getD i 0 == l2.getD i 0) = true := by simpa using hx
      rw [hb]
      simp only [Bool.not_true, Bool.false_eq_true, if_false]
      rw [ih, List.all_cons, decide_eq_true hx, Bool.true_and]
    · have hb : (l1.getD i 0 == l2.getD i 0) = false := by simpa using hx
      rw [hb]
      simp only [Bool.not_false, if_true, Sem.run_pure, List.all_cons, decide_eq_false hx, Bool.false_and]
theorem all_range (l1 l2 : List Int) (h : l1.length = l2.length) : ((List.range l1.length).all fun i => decide (l1.getD i 0 = l2.getD i 0)) = decide (l1 = l2) := by
  by_cases hx : l1 = l2
  · subst hx; simp
  · rw [decide_eq_false hx]
    rw [Bool.eq_false_iff]
    intro ha
    apply hx
    rw [List.all_eq_true] at ha
    apply List.ext_getElem h
    intro i h1 h2
    have := ha i (List.mem_range.2 h1)
    simpa [List.getD, List.getElem?_eq_getElem h1, List.getElem?_eq_getElem h2] using this
theorem run_equal_ints (d : Nat) {t e : TypeId} {n : Nat} {i : TypeInfo} {k : IntKind} (ht : P.underlying t = some (.array n e)) (hi : P.info? e = some i) (hc : P.cellsOf e = 1) (hu : P.underlying e = some (.int k)) (he : P.plainKey e = true) (l1 l2 : List Int) (h1 : l1.length = n) (h2 : l2.length = n) :
    (Op.equalIn (d + 1 + 1) t (.agg (ints k l1)) (.agg (ints k l2))).run P w = .ok (decide (l1 = l2)) w := by
  rw [run_equalIn_array w (d + 1) _ _ ht hi, hc, run_eqItems_ints w d hu he l1 l2 _ (fun i hi => by have := List.mem_range.1 hi; omega), ← h1, all_range l1 l2 (h1.trans h2.symm)]
theorem run_eql_ints {t e : TypeId} {n : Nat} {i : TypeInfo} {k : IntKind} (ht : P.underlying t = some (.array n e)) (hi : P.info? e = some i) (hc : P.cellsOf e = 1) (hu : P.underlying e = some (.int k)) (he : P.plainKey e = true) (l1 l2 : List Int) (h1 : l1.length = n) (h2 : l2.length = n) :
    (binOp .eql t (.agg (ints k l1)) (.agg (ints k l2))).run P w = .ok (.bool (decide (l1 = l2))) w := by
  rw [run_eql_struct, run_equal_ints w 9998 ht hi hc hu he l1 l2 h1 h2]
  rfl
theorem run_neq_ints {t e : TypeId} {n : Nat} {i : TypeInfo} {k : IntKind} (ht : P.underlying t = some (.array n e)) (hi : P.info? e = some i) (hc : P.cellsOf e = 1) (hu : P.underlying e = some (.int k)) (he : P.plainKey e = true) (l1 l2 : List Int) (h1 : l1.length = n) (h2 : l2.length = n) :
    (binOp .neq t (.agg (ints k l1)) (.agg (ints k l2))).run P w = .ok (.bool (!decide (l1 = l2))) w := by
  rw [run_neq_struct, run_equal_ints w 9998 ht hi hc hu he l1 l2 h1 h2]
  rfl
end
theorem nums_ints (l : List Byte) : (nums l).toArray = ints .u8 (l.map n8) := by simp [nums, ints]
theorem m64_ints (l : List (BitVec 64)) : (m64 l).toArray = ints .u64 (l.map n64) := by simp [m64, ints]
theorem map8 (l r : List Byte) : decide (l.map n8 = r.map n8) = decide (l = r) := by
  congr 1; apply propext
  exact ⟨fun h => (List.map_inj_right (fun _ _ => inj8.1)).1 h, fun h => by rw [h]⟩
theorem map64 (l r : List (BitVec 64)) : decide (l.map n64 = r.map n64) = decide (l = r) := by
  congr 1; apply propext
  exact ⟨fun h => (List.map_inj_right (fun _ _ => inj64.1)).1 h, fun h => by rw [h]⟩
theorem inf5 : ∃ i, Try.prog.info? 5 = some i := Option.isSome_iff_exists.1 (by kernel_rfl)
theorem inf32 : ∃ i, Try.prog.info? 32 = some i := Option.isSome_iff_exists.1 (by kernel_rfl)
theorem eql25 (w : World) (l r : List Byte) (h1 : l.length = 32) (h2 : r.length = 32) : (binOp .eql 25 (.agg (nums l).toArray) (.agg (nums r).toArray)).run Try.prog w = .ok (.bool (decide (l = r))) w := by
  obtain ⟨i, hi⟩ := inf5
  rw [nums_ints, nums_ints, run_eql_ints w Try.underlying25 hi (by kernel_rfl) Try.underlying5 (by kernel_rfl) _ _ (by simpa using h1) (by simpa using h2), map8]
theorem neq25 (w : World) (l r : List Byte) (h1 : l.length = 32) (h2 : r.length = 32) : (binOp .neq 25 (.agg (nums l).toArray) (.agg (nums r).toArray)).run Try.prog w = .ok (.bool (!decide (l = r))) w := by
  obtain ⟨i, hi⟩ := inf5
  rw [nums_ints, nums_ints, run_neq_ints w Try.underlying25 hi (by kernel_rfl) Try.underlying5 (by kernel_rfl) _ _ (by simpa using h1) (by simpa using h2), map8]
theorem eql29 (w : World) (l r : List Byte) (h1 : l.length = 20) (h2 : r.length = 20) : (binOp .eql 29 (.agg (nums l).toArray) (.agg (nums r).toArray)).run Try.prog w = .ok (.bool (decide (l = r))) w := by
  obtain ⟨i, hi⟩ := inf5
  rw [nums_ints, nums_ints, run_eql_ints w Try.underlying29 hi (by kernel_rfl) Try.underlying5 (by kernel_rfl) _ _ (by simpa using h1) (by simpa using h2), map8]
theorem eql33 (w : World) (l r : List (BitVec 64)) (h1 : l.length = 25) (h2 : r.length = 25) : (binOp .eql 33 (.agg (m64 l).toArray) (.agg (m64 r).toArray)).run Try.prog w = .ok (.bool (decide (l = r))) w := by
  obtain ⟨i, hi⟩ := inf32
  rw [m64_ints, m64_ints, run_eql_ints w Try.underlying33 hi (by kernel_rfl) Try.underlying32 (by kernel_rfl) _ _ (by simpa using h1) (by simpa using h2), map64]
theorem neq33 (w : World) (l r : List (BitVec 64)) (h1 : l.length = 25) (h2 : r.length = 25) : (binOp .neq 33 (.agg (m64 l).toArray) (.agg (m64 r).toArray)).run Try.prog w = .ok (.bool (!decide (l = r))) w := by
  obtain ⟨i, hi⟩ := inf32
  rw [m64_ints, m64_ints, run_neq_ints w Try.underlying33 hi (by kernel_rfl) Try.underlying32 (by kernel_rfl) _ _ (by simpa using h1) (by simpa using h2), map64]
theorem eql45 (w : World) (l r : List (BitVec 64)) (h1 : l.length = 8) (h2 : r.length = 8) : (binOp .eql 45 (.agg (m64 l).toArray) (.agg (m64 r).toArray)).run Try.prog w = .ok (.bool (decide (l = r))) w := by
  obtain ⟨i, hi⟩ := inf32
  rw [m64_ints, m64_ints, run_eql_ints w Try.underlying45 hi (by kernel_rfl) Try.underlying32 (by kernel_rfl) _ _ (by simpa using h1) (by simpa using h2), map64]
theorem in25 (w : World) (l r : List Byte) (h1 : l.length = 32) (h2 : r.length = 32) : (Op.equalIn 10000 25 (.agg (nums l).toArray) (.agg (nums r).toArray)).run Try.prog w = .ok (decide (l = r)) w := by
  obtain ⟨i, hi⟩ := inf5
  rw [nums_ints, nums_ints, run_equal_ints w 9998 Try.underlying25 hi (by kernel_rfl) Try.underlying5 (by kernel_rfl) _ _ (by simpa using h1) (by simpa using h2), map8]
theorem in29 (w : World) (l r : List Byte) (h1 : l.length = 20) (h2 : r.length = 20) : (Op.equalIn 10000 29 (.agg (nums l).toArray) (.agg (nums r).toArray)).run Try.prog w = .ok (decide (l = r)) w := by
  obtain ⟨i, hi⟩ := inf5
  rw [nums_ints, nums_ints, run_equal_ints w 9998 Try.underlying29 hi (by kernel_rfl) Try.underlying5 (by kernel_rfl) _ _ (by simpa using h1) (by simpa using h2), map8]
theorem in33 (w : World) (l r : List (BitVec 64)) (h1 : l.length = 25) (h2 : r.length = 25) : (Op.equalIn 10000 33 (.agg (m64 l).toArray) (.agg (m64 r).toArray)).run Try.prog w = .ok (decide (l = r)) w := by
  obtain ⟨i, hi⟩ := inf32
  rw [m64_ints, m64_ints, run_equal_ints w 9998 Try.underlying33 hi (by kernel_rfl) Try.underlying32 (by kernel_rfl) _ _ (by simpa using h1) (by simpa using h2), map64]
theorem in45 (w : World) (l r : List (BitVec 64)) (h1 : l.length = 8) (h2 : r.length = 8) : (Op.equalIn 10000 45 (.agg (m64 l).toArray) (.agg (m64 r).toArray)).run Try.prog w = .ok (decide (l = r)) w := by
  obtain ⟨i, hi⟩ := inf32
  rw [m64_ints, m64_ints, run_equal_ints w 9998 Try.underlying45 hi (by kernel_rfl) Try.underlying32 (by kernel_rfl) _ _ (by simpa using h1) (by simpa using h2), map64]
theorem eqlptr (w : World) (p : Option Addr) : (binOp .eql 36 (.pointer p) (.pointer p)).run Try.prog w = .ok (.bool true) w := by
  cases p with
  | none => kernel_rfl
  | some a =>
    obtain ⟨j, hj⟩ : ∃ j, Try.prog.info? 38 = some j := Option.isSome_iff_exists.1 (by kernel_rfl)
    exact run_eql_ptr_same w a Try.underlying36 hj
end Go.Proofs.Ytnlcndlfdnogaaa.Eq
