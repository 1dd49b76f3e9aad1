/- word, lay: numbers out of bytes and back. -/
import Derived.Test.YtnlcndlfdnogaaaD2
set_option linter.unusedVariables false
set_option linter.unusedSimpArgs false
namespace Go.Proofs.Ytnlcndlfdnogaaa.D3
open Go.RowKit
open D0 M D2
attribute [local go_sem] xor64 and64 or64 xor32 and32 or32 andNot32 add64 add32 unary64 unary32 not64 not32 shl64 shr64 shl32 shr32
theorem zx (b : Byte) : IntKind.u64.wrap (n8 b) = n64 (b.setWidth 64) := by
  rw [wrap_u64]
  unfold n8 n64
  rw [BitVec.toNat_setWidth]
  omega
theorem low8 (x : BitVec 64) : IntKind.u8.wrap (n64 x) = n8 (x.setWidth 8) := by
  rw [wrap_u8]
  unfold n8 n64
  rw [BitVec.toNat_setWidth]
  omega
def wordStep (bs : List Byte) (long high i : Nat) (n : BitVec 64) : BitVec 64 := n <<< 8 ||| (gt bs 0#8 (if high = 1 then i else long - 1 - i)).setWidth 64
/-- A number of so many bytes. -/
def wordF (bs : List Byte) (long high : Nat) : BitVec 64 := it (wordStep bs long high) long 0#64
set_option maxRecDepth 100000 in
set_option maxHeartbeats 1000000 in
theorem word26 (lo hi : Nat) (v : Value) (bs : List Byte) (long high : Nat) (hl : long ≤ bs.length) (hl8 : long ≤ 8) (hh : high ≤ 1) (w : World) (hb : Bs w lo hi v bs) :
    Calls Try.prog 26 #[v, .int .i64 (long : Int), .int .i64 (high : Int)] w fun e w' => e = .returned (.int .u64 (n64 (wordF bs long high))) ∧ w' = w := by
  obtain ⟨A, c, rfl, h1, h2, hR⟩ := hb
  have HR := Lib.hid hR
  clear hR
  have hs8 : ∀ x : BitVec 64, IntKind.u64.wrap (n64 x * 256) = n64 (x <<< 8) := fun x => shl64 x 8
  have hzx := zx
  have h0 : (0 : Int) = n64 0#64 := rfl
  generalize hm : bs.length = m at *
  have HM := Lib.hid hm
  clear hm
  go_enter Try.func26, Try.ntmps26
  go_wp2_with fail
  go_loopw [7, 11] (fun n i wr => ∃ k : Nat, k ≤ long ∧ i = .int .i64 (k : Int) ∧ n = .int .u64 (n64 (it (wordStep bs long high) k 0#64)) ∧ wr = w) (fun _ i _ => long - (intOf i).toNat)
  case atStart => exact ⟨0, by omega, rfl, rfl, rfl⟩
  case round =>
    obtain ⟨k, hk, rfl, rfl, rfl⟩ := hrel
    by_cases hlt : k < long
    · obtain ⟨q, hq⟩ : ∃ q, q = long - 1 - k := ⟨_, rfl⟩
      have hq1 : (long : Int) - 1 - (k : Int) = (q : Int) := by omega
      have hqm : q < m := by omega
      have hkm : k < m := by omega
      obtain ⟨g, off, rfl, hg1, hg2, hc⟩ := HR.out.2 (by omega)
      have hcq := hc q _ (nums_getD (by rw [HM.out]; exact hqm))
      have hck := hc k _ (nums_getD (by rw [HM.out]; exact hkm))
      have HST := Lib.hid (it_succ (wordStep bs long high) k 0#64)
      have HQ := Lib.hid hq
      have hi1 : ¬ (m : Int) ≤ (q : Int) := by omega
      have hi2 : ¬ (m : Int) ≤ (k : Int) := by omega
      generalize hit : it (wordStep bs long high) k 0#64 = n at *
      clear hc hq hit h0
      rcases (show high = 0 ∨ high = 1 by omega) with rfl | rfl
      · go_wp2
        go_roundw
        case rel => exact ⟨k + 1, by omega, by go_num, by rw [HST.out]; unfold wordStep; rw [if_neg (by omega), ← HQ.out], trivial⟩
        case measure => simp [intOf]; omega
      · go_wp2
        go_roundw
        case rel => exact ⟨k + 1, by omega, by go_num, by rw [HST.out]; unfold wordStep; rw [if_pos rfl], trivial⟩
        case measure => simp [intOf]; omega
    · obtain rfl : k = long := by omega
      go_wp2
      go_ret
      exact ⟨rfl, rfl⟩
def layStep (off m : Nat) (n : BitVec 64) (high i : Nat) (l : List Byte) : List Byte := l.set (off + (if high = 1 then m - 1 - i else i)) ((n >>> (8 * i)).setWidth 8)
/-- A number laid into m bytes from a place on. -/
def layF (off m : Nat) (n : BitVec 64) (high : Nat) (l : List Byte) : List Byte := it (layStep off m n high) m l
theorem layIt_len (off m : Nat) (n : BitVec 64) (high : Nat) (l : List Byte) : ∀ k, (it (layStep off m n high) k l).length = l.length
  | 0 => rfl
  | k + 1 => by rw [it_succ]; unfold layStep; rw [List.length_set]; exact layIt_len off m n high l k
set_option maxRecDepth 100000 in
set_option maxHeartbeats 1000000 in
theorem lay28 (g off m c : Nat) (t : TypeId) (l : List Byte) (n : BitVec 64) (high : Nat) (hm : off + m ≤ l.length) (hm8 : m ≤ 8) (hc : m ≤ c) (hh : high ≤ 1) (w : World) (ha : Arr w g t (nums l)) :
    Calls Try.prog 28 #[.slice (some ⟨g, off, none⟩) m c, .int .u64 (n64 n), .int .i64 (high : Int)] w fun e w' => (∃ v, e = .returned v) ∧ Only g w w' ∧ Arr w' g t (nums (layF off m n high l)) := by
  have HA := Lib.hid ha
  have hl8 := low8
  have HLEN := Lib.hid (layIt_len off m n high l)
  clear ha
  go_enter Try.func28, Try.ntmps28
  go_wp2_with fail
  go_loopw [10] (fun i wr => ∃ k : Nat, k ≤ m ∧ i = .int .i64 (k : Int) ∧ Only g w wr ∧ Arr wr g t (nums (it (layStep off m n high) k l))) (fun i _ => m - (intOf i).toNat)
  case atStart => exact ⟨0, by omega, rfl, Only.refl _ _, HA.out⟩
  case round =>
    obtain ⟨k, hk, rfl, ho, har⟩ := hrel
    by_cases hlt : k < m
    · obtain ⟨q, hq⟩ : ∃ q, q = m - 1 - k := ⟨_, rfl⟩
      have hq1 : (m : Int) - 1 - (k : Int) = (q : Int) := by omega
      have HST := Lib.hid (it_succ (layStep off m n high) k l)
      have HQ := Lib.hid hq
      have hi1 : ¬ (m : Int) ≤ (q : Int) := by omega
      have hi2 : ¬ (m : Int) ≤ (k : Int) := by omega
      have hL := HLEN.out k
      have c1 := Arr.cell har (nums_getD (i := off + q) (by omega))
      have c2 := Arr.cell har (nums_getD (i := off + k) (by omega))
      have f1 := Arr.frozen har (off + q)
      have f2 := Arr.frozen har (off + k)
      have s1 : ((8 : Int) * (k : Int)) = ((8 * k : Nat) : Int) := by omega
      have s2 : (0 : Int) ≤ ((8 * k : Nat) : Int) := by omega
      have s3 : ((8 * k : Nat) : Int) ≤ 64 := by omega
      have HAR := Lib.hid har
      have HON := Lib.hid ho
      generalize hit : it (layStep off m n high) k l = lk at *
      generalize h8k : 8 * k = k8 at *
      have H8 := Lib.hid h8k
      clear hq hit har ho h8k hL
      rcases (show high = 0 ∨ high = 1 by omega) with rfl | rfl
      · go_wp2
        go_roundw
        case rel =>
          refine ⟨k + 1, by omega, by go_num, HON.out.trans (Only.set _ _ _ _), ?_⟩
          rw [HST.out]
          unfold layStep
          rw [if_neg (by omega), H8.out, ← nums_set]
          exact HAR.out.set _ _
        case measure => simp [intOf]; omega
      · go_wp2
        go_roundw
        case rel =>
          refine ⟨k + 1, by omega, by go_num, HON.out.trans (Only.set _ _ _ _), ?_⟩
          rw [HST.out]
          unfold layStep
          rw [if_pos rfl, H8.out, ← nums_set, ← HQ.out]
          exact HAR.out.set _ _
        case measure => simp [intOf]; omega
    · obtain rfl : k = m := by omega
      have HAR := Lib.hid har
      have HON := Lib.hid ho
      clear har ho
      go_wp2
      go_end0
      exact ⟨⟨_, rfl⟩, HON.out, HAR.out⟩
end Go.Proofs.Ytnlcndlfdnogaaa.D3
