/- Keccak's tables. -/
import Derived.Test.YtnlcndlfdnogaaaRg
set_option linter.unusedVariables false
set_option linter.unusedSimpArgs false
namespace Go.Proofs.Ytnlcndlfdnogaaa.D4
open Go.RowKit
open D0 M D2 D3 Rg
attribute [local go_sem] xor64 and64 or64 xor32 and32 or32 andNot32 add64 add32 unary64 unary32 not64 not32 shl64 shr64 shl32 shr32
def offStep (t : Nat) (s : List Nat × Nat × Nat) : List Nat × Nat × Nat := (s.1.set (s.2.1 + 5 * s.2.2) ((t + 1) * (t + 2) / 2 % 64), s.2.2, (2 * s.2.1 + 3 * s.2.2) % 5)
/-- The turns of rho. -/
def offIt (k : Nat) : List Nat × Nat × Nat := it offStep k (List.replicate 25 0, 1, 0)
def offF : List Nat := (offIt 24).1
theorem off_ok : ∀ k : Fin 25, (offIt k.1).1.length = 25 ∧ (offIt k.1).2.1 < 5 ∧ (offIt k.1).2.2 < 5 := by decide +kernel
theorem info51 : (Try.prog.info? 51).map (·.size) = some 25 := by kernel_rfl
set_option maxRecDepth 100000 in
set_option maxHeartbeats 1000000 in
theorem offsets24 (w : World) : Calls Try.prog 24 #[] w fun e w' => e = .returned (.agg (mi offF).toArray) ∧ Below w.heap.size w w' := by
  have H0 : Hid (∀ W : World, Arr (W.alloc (.cells #[.int .i64 0, .int .i64 0, .int .i64 0, .int .i64 0, .int .i64 0, .int .i64 0, .int .i64 0, .int .i64 0, .int .i64 0, .int .i64 0, .int .i64 0, .int .i64 0, .int .i64 0, .int .i64 0, .int .i64 0, .int .i64 0, .int .i64 0, .int .i64 0, .int .i64 0, .int .i64 0, .int .i64 0, .int .i64 0, .int .i64 0, .int .i64 0, .int .i64 0] 51)) W.heap.size 51 (mi (List.replicate 25 0))) := fun W => block_new _ _
  have OK : Hid (∀ k, k ≤ 24 → (offIt k).1.length = 25 ∧ (offIt k).2.1 < 5 ∧ (offIt k).2.2 < 5) := fun k hk => off_ok ⟨k, by omega⟩
  go_enter Try.func24, Try.ntmps24
  go_wp2_with fail
  go_loopw [2, 3, 5] (fun a b i wr => ∃ k : Nat, k ≤ 24 ∧ i = .int .i64 (k : Int) ∧ a = .int .i64 ((offIt k).2.1 : Int) ∧ b = .int .i64 ((offIt k).2.2 : Int) ∧ Arr wr (w.heap.size + 1) 51 (mi (offIt k).1) ∧ Arr wr w.heap.size 51 (mi (List.replicate 25 0)) ∧ Below w.heap.size w wr) (fun _ _ i _ => 24 - (intOf i).toNat)
  case atStart =>
    refine ⟨0, by omega, rfl, rfl, rfl, ?_, (H0.out w).alloc _, ((Below.refl _ w).alloc (Nat.le_refl _) _).alloc (by rw [size_alloc]; omega) _⟩
    have h := H0.out (w.alloc (.cells #[.int .i64 0, .int .i64 0, .int .i64 0, .int .i64 0, .int .i64 0, .int .i64 0, .int .i64 0, .int .i64 0, .int .i64 0, .int .i64 0, .int .i64 0, .int .i64 0, .int .i64 0, .int .i64 0, .int .i64 0, .int .i64 0, .int .i64 0, .int .i64 0, .int .i64 0, .int .i64 0, .int .i64 0, .int .i64 0, .int .i64 0, .int .i64 0, .int .i64 0] 51))
    rwa [size_alloc] at h
  case round =>
    obtain ⟨k, hk, rfl, rfl, rfl, har, har0, hB⟩ := hrel
    obtain ⟨hlen, hx, hy⟩ := OK.out k hk
    have HST := Lib.hid (show offIt (k + 1) = offStep k (offIt k) from rfl)
    generalize hst : offIt k = st at *
    obtain ⟨r, x, y⟩ := st
    have HEQ := Lib.hid hst
    clear hst
    simp only at hlen hx hy har
    by_cases hlt : k < 24
    · obtain ⟨p, hp⟩ : ∃ p, p = (k + 1) * (k + 2) := ⟨_, rfl⟩
      have hp6 : p ≤ 600 := by rw [hp]; exact Nat.le_trans (Nat.mul_le_mul (show k + 1 ≤ 24 by omega) (show k + 2 ≤ 25 by omega)) (by decide)
      have e1 : ((k : Int) + 1) * ((k : Int) + 2) = (p : Int) := by rw [hp]; push_cast; rfl
      have e2 : (p : Int).tdiv 2 = ((p / 2 : Nat) : Int) := by rw [Int.tdiv_eq_ediv_of_nonneg (by omega)]; omega
      have e6 : wrap64 ((p / 2 : Nat) : Int) = ((p / 2 : Nat) : Int) := by unfold wrap64; omega
      have e3 : ((p / 2 : Nat) : Int).tmod 64 = ((p / 2 % 64 : Nat) : Int) := by rw [Int.tmod_eq_emod_of_nonneg (by omega)]; omega
      have e4 : (x : Int) + 5 * (y : Int) = ((x + 5 * y : Nat) : Int) := by omega
      have e5 : (2 * (x : Int) + 3 * (y : Int)).tmod 5 = (((2 * x + 3 * y) % 5 : Nat) : Int) := by rw [Int.tmod_eq_emod_of_nonneg (by omega)]; omega
      have hi1 : ¬ (25 : Int) ≤ ((x + 5 * y : Nat) : Int) := by omega
      have c1 := Arr.cell har (mi_get (i := x + 5 * y) (by omega))
      have f1 := Arr.frozen har (x + 5 * y)
      have HP := Lib.hid hp
      have HAR := Lib.hid har
      have HAR0 := Lib.hid har0
      have HB := Lib.hid hB
      generalize hx5 : x + 5 * y = x5 at *
      generalize hm5 : (2 * x + 3 * y) % 5 = m5 at *
      generalize hp2 : p / 2 = p2 at *
      generalize hp3 : p2 % 64 = p3 at *
      have HX5 := Lib.hid (show _ ∧ _ ∧ _ ∧ _ from ⟨hx5, hm5, hp2, hp3⟩)
      clear hp har har0 hB hlen hx5 hm5 hp2 hp3
      go_wp2
      go_roundw
      case rel =>
        obtain ⟨hx5, hm5, hp2, hp3⟩ := HX5.out
        refine ⟨k + 1, by omega, by go_num, ?_, ?_, ?_, HAR0.out.other (by omega) _ _, HB.out.trans ((Only.set _ _ _ _).below (by omega))⟩
        · rw [HST.out]; rfl
        · rw [HST.out]; show _ = Value.int IntKind.i64 (((2 * x + 3 * y) % 5 : Nat) : Int); rw [hm5]
        · rw [HST.out]
          show Arr _ _ _ (mi (r.set (x + 5 * y) ((k + 1) * (k + 2) / 2 % 64)))
          rw [hx5, ← HP.out, hp2, hp3, ← mi_set]
          exact HAR.out.set _ _
      case measure => simp [intOf]; omega
    · obtain rfl : k = 24 := by omega
      have HAR := Lib.hid har
      have HAR0 := Lib.hid har0
      have HB := Lib.hid hB
      have hs : (mi r).toArray.size = 25 := by simp [mi_len, hlen]
      have hs0 : (mi (List.replicate 25 0)).toArray.size = 25 := by simp [mi_len]
      have hi : (Try.prog.info? 51).map (·.size) = some (mi r).toArray.size := by rw [hs]; exact info51
      have h1 : (mi r).toArray.all (·.oneCell') = true := by simp [mi, Value.oneCell']
      generalize hv : (mi r).toArray = vr at *
      have HV := Lib.hid hv
      have HG : Hid (wr.heap[w.heap.size + 1]? = some (.cells vr 51 (0, 0))) := (show _ = _ from by rw [← hv]; exact har)
      clear har har0 hB hv
      go_wp2_with (first | (refine wpList_load_row rfl 51 (.tmp 1) rfl (w.heap.size + 1) rfl 51 vr (0, 0) _ HG.out Try.underlying51 rfl hi ?_) | (refine wpList_store_row rfl 51 (.tmp 0) (.tmp 28) rfl w.heap.size vr rfl rfl 51 (mi (List.replicate 25 0)).toArray HAR0.out hi (hs0.trans hs.symm) h1 ?_))
      refine bodyPost_ret (results_cell_row (P := Try.prog) rfl _ _ w.heap.size 51 vr (0, 0) _ rfl (setRow_heap wr _ _ _ _ _ HAR0.out) Try.underlying51 rfl hi) rfl ⟨?_, below_setRow HB.out (Nat.le_refl _) _⟩
      rw [← HV.out]
      show Ending.returned (Value.agg (mi r).toArray) = Ending.returned (Value.agg (mi (offIt 24).1).toArray)
      rw [HEQ.out]
def conStep (t : Nat) (s : List (BitVec 64) × Nat) : List (BitVec 64) × Nat :=
  (if s.2 % 2 = 1 then s.1.set (t / 7) (gt s.1 0#64 (t / 7) ||| 1#64 <<< (2 ^ (t % 7) - 1)) else s.1, if 256 ≤ s.2 * 2 then s.2 * 2 ^^^ 369 else s.2 * 2)
/-- The constants of iota. -/
def conIt (k : Nat) : List (BitVec 64) × Nat := it conStep k (List.replicate 24 0#64, 1)
def conF : List (BitVec 64) := (conIt 168).1
theorem con_ok : ∀ k : Fin 169, (conIt k.1).1.length = 24 ∧ (conIt k.1).2 < 256 := by decide +kernel
theorem info53 : (Try.prog.info? 53).map (·.size) = some 24 := by kernel_rfl
theorem xor369 : ∀ r : Fin 512, bits .xor .i64 (r.1 : Int) 369 = ((r.1 ^^^ 369 : Nat) : Int) := by decide +kernel
theorem and1 : ∀ r : Fin 512, bits .and .i64 (r.1 : Int) 1 = ((r.1 % 2 : Nat) : Int) := by decide +kernel
theorem one64 : (1 : Int) = n64 1#64 := rfl
set_option maxRecDepth 100000 in
set_option maxHeartbeats 2000000 in
theorem constants25 (w : World) : Calls Try.prog 25 #[] w fun e w' => e = .returned (.agg (m64 conF).toArray) ∧ Below w.heap.size w w' := by
  have H0 : Hid (∀ W : World, Arr (W.alloc (.cells #[.int .u64 0, .int .u64 0, .int .u64 0, .int .u64 0, .int .u64 0, .int .u64 0, .int .u64 0, .int .u64 0, .int .u64 0, .int .u64 0, .int .u64 0, .int .u64 0, .int .u64 0, .int .u64 0, .int .u64 0, .int .u64 0, .int .u64 0, .int .u64 0, .int .u64 0, .int .u64 0, .int .u64 0, .int .u64 0, .int .u64 0, .int .u64 0] 53)) W.heap.size 53 (m64 (List.replicate 24 0#64))) := fun W => block_new _ _
  have OK : Hid (∀ k, k ≤ 168 → (conIt k).1.length = 24 ∧ (conIt k).2 < 256) := fun k hk => con_ok ⟨k, by omega⟩
  go_enter Try.func25, Try.ntmps25
  go_wp2_with fail
  go_loopw [2, 4] (fun a i wr => ∃ k : Nat, k ≤ 168 ∧ i = .int .i64 (k : Int) ∧ a = .int .i64 ((conIt k).2 : Int) ∧ Arr wr (w.heap.size + 1) 53 (m64 (conIt k).1) ∧ Arr wr w.heap.size 53 (m64 (List.replicate 24 0#64)) ∧ Below w.heap.size w wr) (fun _ i _ => 168 - (intOf i).toNat)
  case atStart =>
    refine ⟨0, by omega, rfl, rfl, ?_, (H0.out w).alloc _, ((Below.refl _ w).alloc (Nat.le_refl _) _).alloc (by rw [size_alloc]; omega) _⟩
    have h := H0.out (w.alloc (.cells #[.int .u64 0, .int .u64 0, .int .u64 0, .int .u64 0, .int .u64 0, .int .u64 0, .int .u64 0, .int .u64 0, .int .u64 0, .int .u64 0, .int .u64 0, .int .u64 0, .int .u64 0, .int .u64 0, .int .u64 0, .int .u64 0, .int .u64 0, .int .u64 0, .int .u64 0, .int .u64 0, .int .u64 0, .int .u64 0, .int .u64 0, .int .u64 0] 53))
    rwa [size_alloc] at h
  case round =>
    obtain ⟨k, hk, rfl, rfl, har, har0, hB⟩ := hrel
    obtain ⟨hlen, hx⟩ := OK.out k hk
    have HST := Lib.hid (show conIt (k + 1) = conStep k (conIt k) from rfl)
    generalize hst : conIt k = st at *
    obtain ⟨r, x⟩ := st
    have HEQ := Lib.hid hst
    clear hst
    simp only at hlen hx har
    by_cases hlt : k < 168
    · have e1 : (k : Int).tdiv 7 = ((k / 7 : Nat) : Int) := by rw [Int.tdiv_eq_ediv_of_nonneg (by omega)]; omega
      have e2 : (k : Int).tmod 7 = ((k % 7 : Nat) : Int) := by rw [Int.tmod_eq_emod_of_nonneg (by omega)]; omega
      have e3 := and1 ⟨x, by omega⟩
      have e4 := xor369 ⟨x * 2, by omega⟩
      have e5 : (x : Int) * 2 = ((x * 2 : Nat) : Int) := by omega
      have e6 : IntKind.i64.wrap ((x * 2 : Nat) : Int) = ((x * 2 : Nat) : Int) := by simp [IntKind.wrap, IntKind.bits, IntKind.signed]; omega
      have hi1 : ¬ (24 : Int) ≤ ((k / 7 : Nat) : Int) := by omega
      have c1 := Arr.cell har (m64_get (i := k / 7) (by omega))
      have f1 := Arr.frozen har (k / 7)
      have HAR := Lib.hid har
      have HAR0 := Lib.hid har0
      have HB := Lib.hid hB
      simp only at e3 e4
      have hj : k % 7 < 7 := by omega
      generalize hk7 : k / 7 = k7 at *
      generalize hj7 : k % 7 = j7 at *
      generalize hx2 : x % 2 = x2 at *
      generalize hxx : x * 2 = xx at *
      generalize hx3 : xx ^^^ 369 = x3 at *
      have HX := Lib.hid (show _ ∧ _ ∧ _ ∧ _ ∧ _ from ⟨hk7, hj7, hx2, hxx, hx3⟩)
      clear har har0 hB hlen hk7 hj7 hx2 hxx hx3 H0
      obtain ⟨p, q, hp, hq, hp63⟩ : ∃ p q : Nat, p = 2 ^ j7 - 1 ∧ q = p + 1 ∧ p < 64 := ⟨_, _, rfl, rfl, by
        have : 2 ^ j7 ≤ 2 ^ 6 := Nat.pow_le_pow_right (by decide) (by omega)
        omega⟩
      have e7 : IntKind.u64.wrap (2 ^ j7) = (q : Int) := by
        have h2 : 0 < 2 ^ j7 := Nat.pow_pos (by decide)
        have h3 : (2 : Int) ^ j7 = (q : Int) := by rw [hq, hp, Nat.sub_add_cancel h2]; push_cast; rfl
        rw [h3, wrap_u64]; omega
      have e8 : (q : Int) - 1 = (p : Int) := by omega
      have e9 : IntKind.u64.wrap (p : Int) = (p : Int) := by rw [wrap_u64]; omega
      have e10 : IntKind.u64.wrap (2 ^ p) = n64 (1#64 <<< p) := by
        have h := shl64 1#64 p
        rwa [show n64 1#64 = 1 from rfl, Int.one_mul] at h
      have e11 : min p 64 = p := by omega
      have HP := Lib.hid (show _ ∧ _ from ⟨hp, hq⟩)
      clear hp hq
      by_cases ho : x2 = 1
      · have ho1 : (x2 : Int) = 1 := by omega
        by_cases hb : 256 ≤ xx
        · have hb1 : (256 : Int) ≤ (xx : Int) := by omega
          go_wp2_with fail
          refine wp_region_c 11 (by kernel_rfl) (by kernel_rfl) ?_
          simp only [List.take_succ_cons, List.take_zero, List.drop_succ_cons, List.drop_zero]
          iterate 11 (refine wpC_run (by rfl) rfl (fun K hK => ?_); go_wp2)
          refine wpC_nil ?_
          go_wp2
          go_roundw
          case rel =>
            obtain ⟨hk7, hj7, hx2, hxx, hx3⟩ := HX.out
            have hS : conIt (k + 1) = (r.set k7 (gt r 0#64 k7 ||| 1#64 <<< p), x3) := by
              rw [HST.out]
              simp only [conStep]
              rw [hx2, hk7, hj7, hxx, hx3, ← HP.out.1, if_pos ho, if_pos hb]
            refine ⟨k + 1, by omega, by go_num, by rw [hS], ?_, (HAR0.out.other (by omega) _ _).drew, (HB.out.trans ((Only.set _ _ _ _).drew.below (by omega)))⟩
            rw [hS]
            show Arr _ _ _ (m64 (r.set k7 _))
            rw [← m64_set]
            exact (HAR.out.set _ _).drew
          case measure => simp [intOf]; omega
        · have hb1 : ¬ (256 : Int) ≤ (xx : Int) := by omega
          go_wp2_with fail
          refine wp_region_c 11 (by kernel_rfl) (by kernel_rfl) ?_
          simp only [List.take_succ_cons, List.take_zero, List.drop_succ_cons, List.drop_zero]
          iterate 11 (refine wpC_run (by rfl) rfl (fun K hK => ?_); go_wp2)
          refine wpC_nil ?_
          go_wp2
          go_roundw
          case rel =>
            obtain ⟨hk7, hj7, hx2, hxx, hx3⟩ := HX.out
            have hS : conIt (k + 1) = (r.set k7 (gt r 0#64 k7 ||| 1#64 <<< p), xx) := by
              rw [HST.out]
              simp only [conStep]
              rw [hx2, hk7, hj7, hxx, hx3, ← HP.out.1, if_pos ho, if_neg hb]
            refine ⟨k + 1, by omega, by go_num, by rw [hS], ?_, (HAR0.out.other (by omega) _ _).drew, (HB.out.trans ((Only.set _ _ _ _).drew.below (by omega)))⟩
            rw [hS]
            show Arr _ _ _ (m64 (r.set k7 _))
            rw [← m64_set]
            exact (HAR.out.set _ _).drew
          case measure => simp [intOf]; omega
      · have ho1 : ¬ (x2 : Int) = 1 := by omega
        by_cases hb : 256 ≤ xx
        · have hb1 : (256 : Int) ≤ (xx : Int) := by omega
          go_wp2
          go_roundw
          case rel =>
            obtain ⟨hk7, hj7, hx2, hxx, hx3⟩ := HX.out
            have hS : conIt (k + 1) = (r, x3) := by
              rw [HST.out]
              simp only [conStep]
              rw [hx2, hk7, hj7, hxx, hx3, ← HP.out.1, if_neg ho, if_pos hb]
            refine ⟨k + 1, by omega, by go_num, by rw [hS], ?_, HAR0.out, HB.out⟩
            rw [hS]
            exact HAR.out
          case measure => simp [intOf]; omega
        · have hb1 : ¬ (256 : Int) ≤ (xx : Int) := by omega
          go_wp2
          go_roundw
          case rel =>
            obtain ⟨hk7, hj7, hx2, hxx, hx3⟩ := HX.out
            have hS : conIt (k + 1) = (r, xx) := by
              rw [HST.out]
              simp only [conStep]
              rw [hx2, hk7, hj7, hxx, hx3, ← HP.out.1, if_neg ho, if_neg hb]
            refine ⟨k + 1, by omega, by go_num, by rw [hS], ?_, HAR0.out, HB.out⟩
            rw [hS]
            exact HAR.out
          case measure => simp [intOf]; omega
    · obtain rfl : k = 168 := by omega
      have HAR := Lib.hid har
      have HAR0 := Lib.hid har0
      have HB := Lib.hid hB
      have hs : (m64 r).toArray.size = 24 := by simp [m64_len, hlen]
      have hs0 : (m64 (List.replicate 24 0#64)).toArray.size = 24 := by simp [m64_len]
      have hi : (Try.prog.info? 53).map (·.size) = some (m64 r).toArray.size := by rw [hs]; exact info53
      have h1 : (m64 r).toArray.all (·.oneCell') = true := by simp [m64, Value.oneCell']
      generalize hv : (m64 r).toArray = vr at *
      have HV := Lib.hid hv
      have HG : Hid (wr.heap[w.heap.size + 1]? = some (.cells vr 53 (0, 0))) := (show _ = _ from by rw [← hv]; exact har)
      clear har har0 hB hv
      go_wp2_with (first | (refine wpList_load_row rfl 53 (.tmp 1) rfl (w.heap.size + 1) rfl 53 vr (0, 0) _ HG.out Try.underlying53 rfl hi ?_) | (refine wpList_store_row rfl 53 (.tmp 0) (.tmp 28) rfl w.heap.size vr rfl rfl 53 (m64 (List.replicate 24 0#64)).toArray HAR0.out hi (hs0.trans hs.symm) h1 ?_))
      refine bodyPost_ret (results_cell_row (P := Try.prog) rfl _ _ w.heap.size 53 vr (0, 0) _ rfl (setRow_heap wr _ _ _ _ _ HAR0.out) Try.underlying53 rfl hi) rfl ⟨?_, below_setRow HB.out (Nat.le_refl _) _⟩
      rw [← HV.out]
      show Ending.returned (Value.agg (m64 r).toArray) = Ending.returned (Value.agg (m64 (conIt 168).1).toArray)
      rw [HEQ.out]
end Go.Proofs.Ytnlcndlfdnogaaa.D4
