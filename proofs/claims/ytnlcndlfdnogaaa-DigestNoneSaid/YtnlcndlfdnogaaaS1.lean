/- SHA-256's keys, walked. -/
import Derived.Test.YtnlcndlfdnogaaaS0
set_option linter.unusedVariables false
set_option linter.unusedSimpArgs false
namespace Go.Proofs.Ytnlcndlfdnogaaa.S1
open Go.RowKit
open D0 M D2 D3 Rg C1 S0
attribute [local go_sem] xor64 and64 or64 xor32 and32 or32 andNot32 add64 add32 unary64 unary32 not64 not32 shl64 shr64 shl32 shr32
/-- Divisors tried, from 2 on. -/
def triS (p j : Nat) (b : Bool) : Bool := b && (p % (j + 2) != 0)
/-- How many are tried. -/
def sqF (p : Nat) : Nat := ((List.range 20).filter fun j => (j + 2) * (j + 2) ≤ p).length
def priF (p : Nat) : Bool := it (triS p) (sqF p) true
def keyS (k : Nat) (s : List (BitVec 32) × Nat) : List (BitVec 32) × Nat := if priF (k + 2) then (s.1.set s.2 (cubeF (BitVec.ofNat 64 (k + 2))), s.2 + 1) else s
def keyIt (k : Nat) : List (BitVec 32) × Nat := it keyS k (List.replicate 64 0#32, 0)
def keysF : List (BitVec 32) := (keyIt 310).1
def cnt (k : Nat) : Nat := it (fun j n => if priF (j + 2) then n + 1 else n) k 0
theorem key0 : (keyIt 0).1 = List.replicate 64 0#32 := rfl
theorem cnt0 : cnt 0 = 0 := rfl
theorem key_succ (k : Nat) : keyIt (k + 1) = keyS k (keyIt k) := rfl
theorem cnt_succ (k : Nat) : cnt (k + 1) = if priF (k + 2) then cnt k + 1 else cnt k := rfl
theorem it0 {α : Type} (f : Nat → α → α) (s : α) : it f 0 s = s := rfl
theorem cnt_key (k : Nat) : (keyIt k).2 = cnt k ∧ (keyIt k).1.length = 64 := by
  induction k with
  | zero => exact ⟨rfl, List.length_replicate⟩
  | succ k ih =>
    have e1 : keyIt (k + 1) = keyS k (keyIt k) := rfl
    have e2 : cnt (k + 1) = if priF (k + 2) then cnt k + 1 else cnt k := rfl
    rw [e1, e2]
    unfold keyS
    split
    · exact ⟨by simp [ih.1], by rw [List.length_set]; exact ih.2⟩
    · exact ih
set_option maxRecDepth 1000000 in
theorem cnt_ok : (∀ k : Fin 310, cnt k.1 < 64) ∧ cnt 310 = 64 := by decide +kernel
set_option maxRecDepth 1000000 in
theorem sq_ok : ∀ p : Fin 312, (∀ j : Fin 20, j.1 < sqF p.1 → (j.1 + 2) * (j.1 + 2) ≤ p.1) ∧ ¬ (sqF p.1 + 2) * (sqF p.1 + 2) ≤ p.1 ∧ sqF p.1 < 20 := by decide +kernel
theorem info62 : (Try.prog.info? 62).map (·.size) = some 64 := by kernel_rfl
attribute [local irreducible] it sqF cnt keyIt cubeF
set_option maxRecDepth 100000 in
set_option maxHeartbeats 2000000 in
theorem keys30 (w : World) : Calls Try.prog 30 #[] w fun e w' => e = .returned (.agg (m32 keysF).toArray) ∧ Below w.heap.size w w' := by
  have H0 : Hid (∀ W : World, Arr (W.alloc (.cells #[.int .u32 0, .int .u32 0, .int .u32 0, .int .u32 0, .int .u32 0, .int .u32 0, .int .u32 0, .int .u32 0, .int .u32 0, .int .u32 0, .int .u32 0, .int .u32 0, .int .u32 0, .int .u32 0, .int .u32 0, .int .u32 0, .int .u32 0, .int .u32 0, .int .u32 0, .int .u32 0, .int .u32 0, .int .u32 0, .int .u32 0, .int .u32 0, .int .u32 0, .int .u32 0, .int .u32 0, .int .u32 0, .int .u32 0, .int .u32 0, .int .u32 0, .int .u32 0, .int .u32 0, .int .u32 0, .int .u32 0, .int .u32 0, .int .u32 0, .int .u32 0, .int .u32 0, .int .u32 0, .int .u32 0, .int .u32 0, .int .u32 0, .int .u32 0, .int .u32 0, .int .u32 0, .int .u32 0, .int .u32 0, .int .u32 0, .int .u32 0, .int .u32 0, .int .u32 0, .int .u32 0, .int .u32 0, .int .u32 0, .int .u32 0, .int .u32 0, .int .u32 0, .int .u32 0, .int .u32 0, .int .u32 0, .int .u32 0, .int .u32 0, .int .u32 0] 62)) W.heap.size 62 (m32 (List.replicate 64 0#32))) := fun W => block_new _ _
  have HC := Lib.hid cnt_ok
  go_enter Try.func30, Try.ntmps30
  go_wp2_with fail
  go_loopw [2, 3] (fun n p wr => ∃ k : Nat, k ≤ 310 ∧ n = .int .i64 (cnt k : Int) ∧ p = .int .u64 ((k + 2 : Nat) : Int) ∧ Arr wr (w.heap.size + 1) 62 (m32 (keyIt k).1) ∧ Arr wr w.heap.size 62 (m32 (List.replicate 64 0#32)) ∧ Below w.heap.size w wr) (fun _ p _ => 312 - (intOf p).toNat)
  case atStart =>
    have h := H0.out (w.alloc (.cells #[.int .u32 0, .int .u32 0, .int .u32 0, .int .u32 0, .int .u32 0, .int .u32 0, .int .u32 0, .int .u32 0, .int .u32 0, .int .u32 0, .int .u32 0, .int .u32 0, .int .u32 0, .int .u32 0, .int .u32 0, .int .u32 0, .int .u32 0, .int .u32 0, .int .u32 0, .int .u32 0, .int .u32 0, .int .u32 0, .int .u32 0, .int .u32 0, .int .u32 0, .int .u32 0, .int .u32 0, .int .u32 0, .int .u32 0, .int .u32 0, .int .u32 0, .int .u32 0, .int .u32 0, .int .u32 0, .int .u32 0, .int .u32 0, .int .u32 0, .int .u32 0, .int .u32 0, .int .u32 0, .int .u32 0, .int .u32 0, .int .u32 0, .int .u32 0, .int .u32 0, .int .u32 0, .int .u32 0, .int .u32 0, .int .u32 0, .int .u32 0, .int .u32 0, .int .u32 0, .int .u32 0, .int .u32 0, .int .u32 0, .int .u32 0, .int .u32 0, .int .u32 0, .int .u32 0, .int .u32 0, .int .u32 0, .int .u32 0, .int .u32 0, .int .u32 0] 62))
    rw [size_alloc] at h
    exact ⟨0, by omega, by rw [cnt0]; rfl, rfl, by rw [key0]; exact h, (H0.out w).alloc _, ((Below.refl _ w).alloc (Nat.le_refl _) _).alloc (by rw [size_alloc]; omega) _⟩
  obtain ⟨k, hk, rfl, rfl, har, har0, hB⟩ := hrel
  obtain ⟨hck, hlen⟩ := cnt_key k
  have hcl : k < 310 → cnt k < 64 := fun h => HC.out.1 ⟨k, h⟩
  have hce : k = 310 → cnt k = 64 := fun h => by rw [h]; exact HC.out.2
  have HKS := Lib.hid (key_succ k)
  have HCS := Lib.hid (cnt_succ k)
  obtain ⟨p, hp⟩ : ∃ p, p = k + 2 := ⟨_, rfl⟩
  rw [← hp]
  have HKF : Hid (k = 310 → (keyIt k).1 = keysF) := fun h => by rw [h]; rfl
  generalize hst : keyIt k = st at *
  obtain ⟨r, c0⟩ := st
  simp only at hck hlen har
  subst hck
  generalize hcc : cnt k = c at *
  have HAR := Lib.hid har
  have HAR0 := Lib.hid har0
  have HB := Lib.hid hB
  have HCC := Lib.hid hcc
  have HST := Lib.hid hst
  have HP := Lib.hid hp
  clear har har0 hB hcc hst H0
  rcases Nat.lt_or_ge k 310 with hlt | hge
  · have hc64 : c < 64 := hcl hlt
    have hp312 : p < 312 := by omega
    have hp2 : 2 ≤ p := by omega
    obtain ⟨hs1, hs2, hs3⟩ := sq_ok ⟨p, hp312⟩
    simp only at hs1 hs2 hs3
    have HS1 := Lib.hid hs1
    have HS2 := Lib.hid hs2
    have HPR : Hid (priF p = it (triS p) (sqF p) true) := rfl
    clear hs1 hs2 hcl hce hp
    go_wp2_with fail
    have hd : decide ((c : Int) < 64) = true := decide_eq_true (by omega)
    try simp only [hd]
    clear hd
    obtain ⟨wo, rfl⟩ : ∃ wo : World, wo = wr := ⟨_, rfl⟩
    generalize hsq : sqF p = m at *
    go_loopw [4, 5] (fun b q wr => ∃ j : Nat, j ≤ m ∧ b = .bool (it (triS p) j true) ∧ q = .int .u64 ((j + 2 : Nat) : Int) ∧ wr = wo) (fun _ q _ => m + 2 - (intOf q).toNat)
    case atStart => exact ⟨0, by omega, by rw [it0], rfl, rfl⟩
    obtain ⟨j, hj, rfl, rfl, rfl⟩ := hrel
    have HIS := Lib.hid (it_succ (triS p) j true)
    generalize hfl : it (triS p) j true = fl at *
    have HFL := Lib.hid hfl
    clear hfl
    obtain ⟨q, hq⟩ : ∃ q, q = j + 2 := ⟨_, rfl⟩
    rw [← hq]
    obtain ⟨qq, hqq⟩ : ∃ qq, qq = q * q := ⟨_, rfl⟩
    have eqq : (q : Int) * (q : Int) = (qq : Int) := by rw [hqq]; push_cast; rfl
    have hq22 : q < 22 := by omega
    have hqq4 : qq ≤ 484 := by rw [hqq]; exact Nat.mul_le_mul (show q ≤ 22 by omega) (show q ≤ 22 by omega)
    have ew : IntKind.u64.wrap (qq : Int) = (qq : Int) := by rw [wrap_u64]; omega
    have er : (p : Int).tmod (q : Int) = ((p % q : Nat) : Int) := by rw [Int.tmod_eq_emod_of_nonneg (by omega)]; rfl
    have HQQ := Lib.hid hqq
    have HQ := Lib.hid hq
    rcases Nat.lt_or_ge j m with hjm | hjm
    · have hqp : qq ≤ p := by
        have h := HS1.out ⟨j, by omega⟩ hjm
        simp only at h
        rw [HQQ.out, HQ.out]; exact h
      have hqi : (qq : Int) ≤ (p : Int) := by omega
      have hq0 : ¬ (q : Int) = 0 := by omega
      generalize hpm : p % q = pm at *
      have HPM := Lib.hid hpm
      have HRO : Hid (triS p j fl = (fl && (pm != 0))) := by rw [← HPM.out, HQ.out]; rfl
      clear hq hqq hpm
      cases fl
      · go_wp2
        go_roundw
        case rel => exact ⟨j + 1, by omega, by rw [HIS.out, HRO.out]; first | rfl | (simp; done) | (simp only [Bool.true_and, Value.bool.injEq]; simpa using hj), by rw [show (q : Int) + 1 = ((j + 1 + 2 : Nat) : Int) by have := HQ.out; omega], trivial⟩
        case measure => have := HQ.out; simp only [intOf]; omega
      · rcases Nat.eq_zero_or_pos pm with h0 | h0
        · have hz0 : (pm : Int) = 0 := by omega
          go_wp2
          go_roundw
          case rel => exact ⟨j + 1, by omega, by rw [HIS.out, HRO.out]; first | rfl | (simp; done) | (simp only [Bool.true_and, Value.bool.injEq]; simpa using h0), by rw [show (q : Int) + 1 = ((j + 1 + 2 : Nat) : Int) by have := HQ.out; omega], trivial⟩
          case measure => have := HQ.out; simp only [intOf]; omega
        · have hb1 : ((pm : Int) == 0) = false := by simp; omega
          have hb2 : decide ((pm : Int) = 0) = false := by simp; omega
          have hb3 : ((pm : Int) != 0) = true := by simp; omega
          have hb4 : ¬ (pm : Int) = 0 := by omega
          go_wp2
          go_roundw
          case rel => exact ⟨j + 1, by omega, by rw [HIS.out, HRO.out]; first | rfl | (simp; done) | (simp only [Bool.true_and, Value.bool.injEq]; simpa using (show pm ≠ 0 by omega)), by rw [show (q : Int) + 1 = ((j + 1 + 2 : Nat) : Int) by have := HQ.out; omega], trivial⟩
          case measure => have := HQ.out; simp only [intOf]; omega
    obtain rfl : j = m := by omega
    have hqn : ¬ qq ≤ p := by rw [HQQ.out, HQ.out]; exact HS2.out
    have hb1 : decide ((qq : Int) ≤ (p : Int)) = false := by simp; omega
    have hb2 : ¬ (qq : Int) ≤ (p : Int) := by omega
    have HFP : Hid (priF (k + 2) = fl) := by rw [← HP.out, HPR.out]; exact HFL.out
    clear hq hqq
    cases fl
    · go_wp2
      go_roundw
      case rel => exact ⟨k + 1, by omega, by rw [HCS.out, HFP.out]; rfl, by rw [show ((k + 1 + 2 : Nat) : Int) = (p : Int) + 1 by have := HP.out; omega], by rw [HKS.out]; unfold keyS; rw [HFP.out]; exact HAR.out, HAR0.out, HB.out⟩
      case measure => simp only [intOf]; omega
    · have HCU : Hid (∀ W, Calls Try.prog 48 #[.int .u64 (p : Int)] W fun e w' => e = .returned (.int .u32 (n32 (cubeF (BitVec.ofNat 64 p)))) ∧ w' = W) := fun W => by
        have h := cube48 (BitVec.ofNat 64 p) W
        rw [ofNat64 p (by omega)] at h
        exact h
      have i64 : ¬ (64 : Int) ≤ (c : Int) := by omega
      have cc := HAR.out.cell (m32_get (i := c) (by omega))
      have fc := HAR.out.frozen c
      go_wp2_with (first
        | (go_at_call 48; refine (HCU.out _).mono ?_
           rintro e w1 ⟨rfl, rfl⟩))
      go_roundw
      case rel =>
        refine ⟨k + 1, by omega, by rw [HCS.out, HFP.out]; go_num, by rw [show ((k + 1 + 2 : Nat) : Int) = (p : Int) + 1 by have := HP.out; omega], ?_, HAR0.out.other (by omega) _ _, HB.out.trans ((Only.set _ _ _ _).below (by omega))⟩
        rw [HKS.out]
        unfold keyS
        rw [HFP.out, ← HP.out]
        show Arr _ _ _ (m32 (r.set c _))
        rw [← m32_set]
        exact HAR.out.set _ _
      case measure => simp only [intOf]; omega
  obtain rfl : k = 310 := by omega
  have hc := hce rfl
  subst hc
  have hs : (m32 r).toArray.size = 64 := by simp [m32_len, hlen]
  have hs0 : (m32 (List.replicate 64 0#32)).toArray.size = 64 := by simp [m32_len]
  have hi : (Try.prog.info? 62).map (·.size) = some (m32 r).toArray.size := by rw [hs]; exact info62
  have h1 : (m32 r).toArray.all (·.oneCell') = true := by simp [m32, Value.oneCell']
  have hrk := HKF.out rfl
  simp only at hrk
  have HRK := Lib.hid hrk
  generalize hv : (m32 r).toArray = vr at *
  have HV := Lib.hid hv
  have HG : Hid (wr.heap[w.heap.size + 1]? = some (.cells vr 62 (0, 0))) := (show _ = _ from by rw [← hv]; exact HAR.out)
  clear hv hrk hcl hce
  go_wp2_with (first | (refine wpList_load_row rfl 62 (.tmp 1) rfl (w.heap.size + 1) rfl 62 vr (0, 0) _ HG.out Try.underlying62 rfl hi ?_) | (refine wpList_store_row rfl 62 (.tmp 0) (.tmp 31) rfl w.heap.size vr rfl rfl 62 (m32 (List.replicate 64 0#32)).toArray HAR0.out hi (hs0.trans hs.symm) h1 ?_))
  refine bodyPost_ret (results_cell_row (P := Try.prog) rfl _ _ w.heap.size 62 vr (0, 0) _ rfl (setRow_heap wr _ _ _ _ _ HAR0.out) Try.underlying62 rfl hi) rfl ⟨?_, below_setRow HB.out (Nat.le_refl _) _⟩
  rw [← HV.out, HRK.out]
end Go.Proofs.Ytnlcndlfdnogaaa.S1
