/- The reference's tables for Keccak; Permute. -/
import Derived.Test.YtnlcndlfdnogaaaD5
set_option linter.unusedVariables false
set_option linter.unusedSimpArgs false
namespace Go.Proofs.Ytnlcndlfdnogaaa.Pt
open Go.RowKit
open D0 M D2 D3 D4 Rg
attribute [local go_sem] xor64 and64 or64 xor32 and32 or32 andNot32 add64 add32 unary64 unary32 not64 not32 shl64 shr64 shl32 shr32
set_option maxRecDepth 100000 in
set_option maxHeartbeats 1000000 in
theorem turns41 (w : World) : Calls Try.prog 41 #[] w fun e w' => e = .returned (.agg (mi offF).toArray) ∧ Below w.heap.size w w' := by
  have H0 : Hid (∀ W : World, Arr (W.alloc (.cells #[.int .i64 0, .int .i64 0, .int .i64 0, .int .i64 0, .int .i64 0, .int .i64 0, .int .i64 0, .int .i64 0, .int .i64 0, .int .i64 0, .int .i64 0, .int .i64 0, .int .i64 0, .int .i64 0, .int .i64 0, .int .i64 0, .int .i64 0, .int .i64 0, .int .i64 0, .int .i64 0, .int .i64 0, .int .i64 0, .int .i64 0, .int .i64 0, .int .i64 0] 51)) W.heap.size 51 (mi (List.replicate 25 0))) := fun W => block_new _ _
  have OK : Hid (∀ k, k ≤ 24 → (offIt k).1.length = 25 ∧ (offIt k).2.1 < 5 ∧ (offIt k).2.2 < 5) := fun k hk => off_ok ⟨k, by omega⟩
  go_enter Try.func41, Try.ntmps41
  go_wp2_with fail
  go_loopw [2, 3, 4] (fun a b i wr => ∃ k : Nat, k ≤ 24 ∧ i = .int .i64 (k : Int) ∧ a = .int .i64 ((offIt k).2.1 : Int) ∧ b = .int .i64 ((offIt k).2.2 : Int) ∧ Arr wr (w.heap.size + 1) 51 (mi (offIt k).1) ∧ Arr wr w.heap.size 51 (mi (List.replicate 25 0)) ∧ Below w.heap.size w wr) (fun _ _ i _ => 24 - (intOf i).toNat)
  case atStart =>
    refine ⟨0, by omega, rfl, rfl, rfl, ?_, (H0.out w).alloc _, ((Below.refl _ w).alloc (Nat.le_refl _) _).alloc (by rw [size_alloc]; omega) _⟩
    have h := H0.out (w.alloc (.cells #[.int .i64 0, .int .i64 0, .int .i64 0, .int .i64 0, .int .i64 0, .int .i64 0, .int .i64 0, .int .i64 0, .int .i64 0, .int .i64 0, .int .i64 0, .int .i64 0, .int .i64 0, .int .i64 0, .int .i64 0, .int .i64 0, .int .i64 0, .int .i64 0, .int .i64 0, .int .i64 0, .int .i64 0, .int .i64 0, .int .i64 0, .int .i64 0, .int .i64 0] 51))
    rwa [size_alloc] at h
  case round =>
    obtain ⟨k, hk, rfl, rfl, rfl, har, har0, hB⟩ := hrel
    obtain ⟨hlen, hx, hy⟩ := OK.out k hk
    have HST := Lib.hid (show offIt (k + 1) = offStep k (offIt k) from rfl)
    generalize hst : offIt k = st at *
    obtain ⟨r, x, y⟩ := st
    have HEQ := Lib.hid hst
    clear hst
    simp only at hlen hx hy har
    by_cases hlt : k < 24
    · obtain ⟨p, hp⟩ : ∃ p, p = (k + 1) * (k + 2) := ⟨_, rfl⟩
      have hp6 : p ≤ 600 := by rw [hp]; exact Nat.le_trans (Nat.mul_le_mul (show k + 1 ≤ 24 by omega) (show k + 2 ≤ 25 by omega)) (by decide)
      have e1 : ((k : Int) + 1) * ((k : Int) + 2) = (p : Int) := by rw [hp]; push_cast; rfl
      have e2 : (p : Int).tdiv 2 = ((p / 2 : Nat) : Int) := by rw [Int.tdiv_eq_ediv_of_nonneg (by omega)]; omega
      have e6 : wrap64 ((p / 2 : Nat) : Int) = ((p / 2 : Nat) : Int) := by unfold wrap64; omega
      have e3 : ((p / 2 : Nat) : Int).tmod 64 = ((p / 2 % 64 : Nat) : Int) := by rw [Int.tmod_eq_emod_of_nonneg (by omega)]; omega
      have e4 : (x : Int) + 5 * (y : Int) = ((x + 5 * y : Nat) : Int) := by omega
      have e5 : (2 * (x : Int) + 3 * (y : Int)).tmod 5 = (((2 * x + 3 * y) % 5 : Nat) : Int) := by rw [Int.tmod_eq_emod_of_nonneg (by omega)]; omega
      have hi1 : ¬ (25 : Int) ≤ ((x + 5 * y : Nat) : Int) := by omega
      have c1 := Arr.cell har (mi_get (i := x + 5 * y) (by omega))
      have f1 := Arr.frozen har (x + 5 * y)
      have HP := Lib.hid hp
      have HAR := Lib.hid har
      have HAR0 := Lib.hid har0
      have HB := Lib.hid hB
      generalize hx5 : x + 5 * y = x5 at *
      generalize hm5 : (2 * x + 3 * y) % 5 = m5 at *
      generalize hp2 : p / 2 = p2 at *
      generalize hp3 : p2 % 64 = p3 at *
      have HX5 := Lib.hid (show _ ∧ _ ∧ _ ∧ _ from ⟨hx5, hm5, hp2, hp3⟩)
      clear hp har har0 hB hlen hx5 hm5 hp2 hp3
      go_wp2
      go_roundw
      case rel =>
        obtain ⟨hx5, hm5, hp2, hp3⟩ := HX5.out
        refine ⟨k + 1, by omega, by go_num, ?_, ?_, ?_, HAR0.out.other (by omega) _ _, HB.out.trans ((Only.set _ _ _ _).below (by omega))⟩
        · rw [HST.out]; rfl
        · rw [HST.out]; show _ = Value.int IntKind.i64 (((2 * x + 3 * y) % 5 : Nat) : Int); rw [hm5]
        · rw [HST.out]
          show Arr _ _ _ (mi (r.set (x + 5 * y) ((k + 1) * (k + 2) / 2 % 64)))
          rw [hx5, ← HP.out, hp2, hp3, ← mi_set]
          exact HAR.out.set _ _
      case measure => simp [intOf]; omega
    · obtain rfl : k = 24 := by omega
      have HAR := Lib.hid har
      have HAR0 := Lib.hid har0
      have HB := Lib.hid hB
      have hs : (mi r).toArray.size = 25 := by simp [mi_len, hlen]
      have hs0 : (mi (List.replicate 25 0)).toArray.size = 25 := by simp [mi_len]
      have hi : (Try.prog.info? 51).map (·.size) = some (mi r).toArray.size := by rw [hs]; exact info51
      have h1 : (mi r).toArray.all (·.oneCell') = true := by simp [mi, Value.oneCell']
      generalize hv : (mi r).toArray = vr at *
      have HV := Lib.hid hv
      have HG : Hid (wr.heap[w.heap.size + 1]? = some (.cells vr 51 (0, 0))) := (show _ = _ from by rw [← hv]; exact har)
      clear har har0 hB hv
      go_wp2_with (first | (refine wpList_load_row rfl 51 (.tmp 1) rfl (w.heap.size + 1) rfl 51 vr (0, 0) _ HG.out Try.underlying51 rfl hi ?_) | (refine wpList_store_row rfl 51 (.tmp 0) (.tmp 28) rfl w.heap.size vr rfl rfl 51 (mi (List.replicate 25 0)).toArray HAR0.out hi (hs0.trans hs.symm) h1 ?_))
      refine bodyPost_ret (results_cell_row (P := Try.prog) rfl _ _ w.heap.size 51 vr (0, 0) _ rfl (setRow_heap wr _ _ _ _ _ HAR0.out) Try.underlying51 rfl hi) rfl ⟨?_, below_setRow HB.out (Nat.le_refl _) _⟩
      rw [← HV.out]
      show Ending.returned (Value.agg (mi r).toArray) = Ending.returned (Value.agg (mi (offIt 24).1).toArray)
      rw [HEQ.out]
set_option maxRecDepth 100000 in
set_option maxHeartbeats 2000000 in
theorem constants40 (w : World) : Calls Try.prog 40 #[] w fun e w' => e = .returned (.agg (m64 conF).toArray) ∧ Below w.heap.size w w' := by
  have H0 : Hid (∀ W : World, Arr (W.alloc (.cells #[.int .u64 0, .int .u64 0, .int .u64 0, .int .u64 0, .int .u64 0, .int .u64 0, .int .u64 0, .int .u64 0, .int .u64 0, .int .u64 0, .int .u64 0, .int .u64 0, .int .u64 0, .int .u64 0, .int .u64 0, .int .u64 0, .int .u64 0, .int .u64 0, .int .u64 0, .int .u64 0, .int .u64 0, .int .u64 0, .int .u64 0, .int .u64 0] 53)) W.heap.size 53 (m64 (List.replicate 24 0#64))) := fun W => block_new _ _
  have OK : Hid (∀ k, k ≤ 168 → (conIt k).1.length = 24 ∧ (conIt k).2 < 256) := fun k hk => con_ok ⟨k, by omega⟩
  go_enter Try.func40, Try.ntmps40
  go_wp2_with fail
  go_loopw [2, 3] (fun a i wr => ∃ k : Nat, k ≤ 24 ∧ i = .int .i64 (k : Int) ∧ a = .int .i64 ((conIt (7 * k)).2 : Int) ∧ Arr wr (w.heap.size + 1) 53 (m64 (conIt (7 * k)).1) ∧ Arr wr w.heap.size 53 (m64 (List.replicate 24 0#64)) ∧ Below w.heap.size w wr) (fun _ i _ => 24 - (intOf i).toNat)
  case atStart =>
    refine ⟨0, by omega, rfl, rfl, ?_, (H0.out w).alloc _, ((Below.refl _ w).alloc (Nat.le_refl _) _).alloc (by rw [size_alloc]; omega) _⟩
    have h := H0.out (w.alloc (.cells #[.int .u64 0, .int .u64 0, .int .u64 0, .int .u64 0, .int .u64 0, .int .u64 0, .int .u64 0, .int .u64 0, .int .u64 0, .int .u64 0, .int .u64 0, .int .u64 0, .int .u64 0, .int .u64 0, .int .u64 0, .int .u64 0, .int .u64 0, .int .u64 0, .int .u64 0, .int .u64 0, .int .u64 0, .int .u64 0, .int .u64 0, .int .u64 0] 53))
    rwa [size_alloc] at h
  obtain ⟨k, hk, rfl, rfl, har, har0, hB⟩ := hrel
  by_cases hlt : k < 24
  · have HK := Lib.hid hlt
    have HAR := Lib.hid har
    have HAR0 := Lib.hid har0
    have HB := Lib.hid hB
    clear har har0 hB
    generalize hx0 : (conIt (7 * k)).2 = x0 at *
    have HX0 := Lib.hid hx0
    clear hx0
    go_wp2_with fail
    clear H0
    obtain ⟨wo, rfl⟩ : ∃ wo : World, wo = wr := ⟨_, rfl⟩
    go_loopw [2, 4] (fun a i wr => ∃ j : Nat, j ≤ 7 ∧ i = .int .i64 (j : Int) ∧ a = .int .i64 ((conIt (7 * k + j)).2 : Int) ∧ Arr wr (w.heap.size + 1) 53 (m64 (conIt (7 * k + j)).1) ∧ Arr wr w.heap.size 53 (m64 (List.replicate 24 0#64)) ∧ Below w.heap.size w wr) (fun _ i _ => 7 - (intOf i).toNat)
    case atStart => exact ⟨0, by omega, rfl, by rw [Nat.add_zero, HX0.out], HAR.out, HAR0.out, HB.out⟩
    obtain ⟨j7, hj, rfl, rfl, har, har0, hB⟩ := hrel
    clear HAR HAR0 HB HX0
    by_cases hj7 : j7 < 7
    · obtain ⟨hlen, hx⟩ := OK.out (7 * k + j7) (by have := HK.out; omega)
      have HST := Lib.hid (show conIt (7 * k + j7 + 1) = conStep (7 * k + j7) (conIt (7 * k + j7)) from rfl)
      generalize hst : conIt (7 * k + j7) = st at *
      obtain ⟨r, x⟩ := st
      have HEQ := Lib.hid hst
      clear hst
      simp only at hlen hx har
      have hk7 : (7 * k + j7) / 7 = k := by omega
      have hm7 : (7 * k + j7) % 7 = j7 := by omega
      have HDV := Lib.hid (show _ ∧ _ from ⟨hk7, hm7⟩)
      clear hk7 hm7
      have e3 : (x : Int).tmod 2 = ((x % 2 : Nat) : Int) := by rw [Int.tmod_eq_emod_of_nonneg (by omega)]; omega
      have e4 := xor369 ⟨x * 2, by omega⟩
      have e5 : (x : Int) * 2 = ((x * 2 : Nat) : Int) := by omega
      have hi1 : ¬ (24 : Int) ≤ (k : Int) := by omega
      have c1 := Arr.cell har (m64_get (i := k) (by omega))
      have f1 := Arr.frozen har k
      have HAR := Lib.hid har
      have HAR0 := Lib.hid har0
      have HB := Lib.hid hB
      simp only at e4
      generalize hx2 : x % 2 = x2 at *
      generalize hxx : x * 2 = xx at *
      have hxb : xx < 512 := by omega
      generalize hx3 : xx ^^^ 369 = x3 at *
      have HX := Lib.hid (show _ ∧ _ ∧ _ from ⟨hx2, hxx, hx3⟩)
      clear har har0 hB hlen hx2 hxx hx3
      obtain ⟨p, q, hp, hq, hp63⟩ : ∃ p q : Nat, p = 2 ^ j7 - 1 ∧ q = p + 1 ∧ p < 64 := ⟨_, _, rfl, rfl, by
        have : 2 ^ j7 ≤ 2 ^ 6 := Nat.pow_le_pow_right (by decide) (by omega)
        omega⟩
      have e7 : IntKind.u64.wrap (2 ^ j7) = (q : Int) := by
        have h2 : 0 < 2 ^ j7 := Nat.pow_pos (by decide)
        have h3 : (2 : Int) ^ j7 = (q : Int) := by rw [hq, hp, Nat.sub_add_cancel h2]; push_cast; rfl
        rw [h3, wrap_u64]; omega
      have e8 : (q : Int) - 1 = (p : Int) := by omega
      have e9 : IntKind.u64.wrap (p : Int) = (p : Int) := by rw [wrap_u64]; omega
      have e10 : IntKind.u64.wrap (2 ^ p) = n64 (1#64 <<< p) := by
        have h := shl64 1#64 p
        rwa [show n64 1#64 = 1 from rfl, Int.one_mul] at h
      have e11 : min p 64 = p := by omega
      have e12 : IntKind.u64.wrap (j7 : Int) = (j7 : Int) := by rw [wrap_u64]; omega
      have HP := Lib.hid (show _ ∧ _ from ⟨hp, hq⟩)
      clear hp hq
      by_cases ho : x2 = 1
      · have ho1 : (x2 : Int) = 1 := by omega
        by_cases hb : 256 ≤ xx
        · have hb1 : (256 : Int) ≤ (xx : Int) := by omega
          go_wp2_with fail
          go_roundw
          case rel =>
            obtain ⟨hx2, hxx, hx3⟩ := HX.out
            have hS : conIt (7 * k + j7 + 1) = (r.set k (gt r 0#64 k ||| 1#64 <<< p), x3) := by
              rw [HST.out]
              simp only [conStep]
              rw [HDV.out.1, HDV.out.2, hx2, hxx, hx3, ← HP.out.1, if_pos ho, if_pos hb]
            refine ⟨j7 + 1, by omega, by go_num, by rw [← Nat.add_assoc, hS], ?_, HAR0.out.other (by omega) _ _, HB.out.trans ((Only.set _ _ _ _).below (by omega))⟩
            rw [← Nat.add_assoc, hS]
            show Arr _ _ _ (m64 (r.set k _))
            rw [← m64_set]
            exact HAR.out.set _ _
          case measure => simp [intOf]; omega
        · have hb1 : ¬ (256 : Int) ≤ (xx : Int) := by omega
          go_wp2_with fail
          go_roundw
          case rel =>
            obtain ⟨hx2, hxx, hx3⟩ := HX.out
            have hS : conIt (7 * k + j7 + 1) = (r.set k (gt r 0#64 k ||| 1#64 <<< p), xx) := by
              rw [HST.out]
              simp only [conStep]
              rw [HDV.out.1, HDV.out.2, hx2, hxx, hx3, ← HP.out.1, if_pos ho, if_neg hb]
            refine ⟨j7 + 1, by omega, by go_num, by rw [← Nat.add_assoc, hS], ?_, HAR0.out.other (by omega) _ _, HB.out.trans ((Only.set _ _ _ _).below (by omega))⟩
            rw [← Nat.add_assoc, hS]
            show Arr _ _ _ (m64 (r.set k _))
            rw [← m64_set]
            exact HAR.out.set _ _
          case measure => simp [intOf]; omega
      · have ho1 : ¬ (x2 : Int) = 1 := by omega
        by_cases hb : 256 ≤ xx
        · have hb1 : (256 : Int) ≤ (xx : Int) := by omega
          go_wp2_with fail
          go_roundw
          case rel =>
            obtain ⟨hx2, hxx, hx3⟩ := HX.out
            have hS : conIt (7 * k + j7 + 1) = (r, x3) := by
              rw [HST.out]
              simp only [conStep]
              rw [HDV.out.1, HDV.out.2, hx2, hxx, hx3, ← HP.out.1, if_neg ho, if_pos hb]
            refine ⟨j7 + 1, by omega, by go_num, by rw [← Nat.add_assoc, hS], ?_, HAR0.out, HB.out⟩
            rw [← Nat.add_assoc, hS]
            exact HAR.out
          case measure => simp [intOf]; omega
        · have hb1 : ¬ (256 : Int) ≤ (xx : Int) := by omega
          go_wp2_with fail
          go_roundw
          case rel =>
            obtain ⟨hx2, hxx, hx3⟩ := HX.out
            have hS : conIt (7 * k + j7 + 1) = (r, xx) := by
              rw [HST.out]
              simp only [conStep]
              rw [HDV.out.1, HDV.out.2, hx2, hxx, hx3, ← HP.out.1, if_neg ho, if_neg hb]
            refine ⟨j7 + 1, by omega, by go_num, by rw [← Nat.add_assoc, hS], ?_, HAR0.out, HB.out⟩
            rw [← Nat.add_assoc, hS]
            exact HAR.out
          case measure => simp [intOf]; omega
    obtain rfl : j7 = 7 := by omega
    rw [show ((7 : Nat) : Int) = 7 from rfl]
    generalize hx1 : (conIt (7 * k + 7)).2 = x1 at *
    have HX1 := Lib.hid hx1
    have HAR := Lib.hid har
    have HAR0 := Lib.hid har0
    have HB := Lib.hid hB
    have hlt := HK.out
    clear har har0 hB hx1
    go_wp2_with fail
    go_roundw
    case rel => exact ⟨k + 1, by omega, by go_num, by rw [Nat.mul_add, Nat.mul_one, HX1.out], HAR.out, HAR0.out, HB.out⟩
    case measure => simp [intOf]; omega
  · obtain rfl : k = 24 := by omega
    rw [show 7 * 24 = 168 from rfl] at har
    obtain ⟨hlen, hx⟩ := OK.out 168 (by omega)
    generalize hst : conIt (7 * 24) = st at *
    have hst' : conIt 168 = st := hst
    clear hst
    obtain ⟨r, x⟩ := st
    have HEQ := Lib.hid hst'
    clear hst'
    simp only at hlen hx har
    have HAR := Lib.hid har
    have HAR0 := Lib.hid har0
    have HB := Lib.hid hB
    have hs : (m64 r).toArray.size = 24 := by simp [m64_len, hlen]
    have hs0 : (m64 (List.replicate 24 0#64)).toArray.size = 24 := by simp [m64_len]
    have hi : (Try.prog.info? 53).map (·.size) = some (m64 r).toArray.size := by rw [hs]; exact info53
    have h1 : (m64 r).toArray.all (·.oneCell') = true := by simp [m64, Value.oneCell']
    generalize hv : (m64 r).toArray = vr at *
    have HV := Lib.hid hv
    have HG : Hid (wr.heap[w.heap.size + 1]? = some (.cells vr 53 (0, 0))) := (show _ = _ from by rw [← hv]; exact har)
    clear har har0 hB hv
    go_wp2_with (first | (refine wpList_load_row rfl 53 (.tmp 1) rfl (w.heap.size + 1) rfl 53 vr (0, 0) _ HG.out Try.underlying53 rfl hi ?_) | (refine wpList_store_row rfl 53 (.tmp 0) (.tmp 32) rfl w.heap.size vr rfl rfl 53 (m64 (List.replicate 24 0#64)).toArray HAR0.out hi (hs0.trans hs.symm) h1 ?_))
    refine bodyPost_ret (results_cell_row (P := Try.prog) rfl _ _ w.heap.size 53 vr (0, 0) _ rfl (setRow_heap wr _ _ _ _ _ HAR0.out) Try.underlying53 rfl hi) rfl ⟨?_, below_setRow HB.out (Nat.le_refl _) _⟩
    rw [← HV.out]
    show Ending.returned (Value.agg (m64 r).toArray) = Ending.returned (Value.agg (m64 (conIt 168).1).toArray)
    rw [HEQ.out]
end Go.Proofs.Ytnlcndlfdnogaaa.Pt
