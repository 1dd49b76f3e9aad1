/- ref.padded, walked. (printed by gen_qp.py) -/
import Derived.Test.YtnlcndlfdnogaaaS3
set_option linter.unusedVariables false
set_option linter.unusedSimpArgs false
namespace Go.Proofs.Ytnlcndlfdnogaaa.Qp
open Go.RowKit
open D0 M D2 D3 Rg K1 C1 S0 S1 S2 Z S3
attribute [local go_sem] xor64 and64 or64 xor32 and32 or32 andNot32 add64 add32 unary64 unary32 not64 not32 low8
attribute [local go_sem high] shiftl64 shiftr64 shiftl32 shiftr32
def byteF (n : BitVec 64) (high i : Nat) : Byte := (n >>> (8 * (if high = 1 then 7 - i else i))).setWidth 8
theorem lay_app (ys : List Byte) (m : Nat) (n : BitVec 64) (h : Nat) (zs : List Byte) : ∀ k, it (layStep ys.length m n h) k (ys ++ zs) = ys ++ it (layStep 0 m n h) k zs
  | 0 => rfl
  | k + 1 => by
    rw [it_succ, it_succ, lay_app ys m n h zs k]
    unfold layStep
    rw [List.set_append_right _ _ (by omega), Nat.add_sub_cancel_left, Nat.zero_add]
theorem lay_1 (n : BitVec 64) : layF 0 8 n 1 (List.replicate 8 0#8) = (List.range 8).map (byteF n 1) := by kernel_rfl
theorem lay_0 (n : BitVec 64) : layF 0 8 n 0 (List.replicate 8 0#8) = (List.range 8).map (byteF n 0) := by kernel_rfl
theorem pad_eq (bs xs : List Byte) (h : xs ++ List.replicate 8 0#8 = preG bs) (high : Nat) (hh : high ≤ 1) : padM bs high = xs ++ (List.range 8).map (byteF (BitVec.ofNat 64 bs.length <<< 3) high) := by
  unfold padM
  have e : (preG bs).length - 8 = xs.length := by rw [← h, List.length_append, List.length_replicate]; omega
  rw [e, ← h]
  unfold layF
  rw [lay_app]
  rcases (show high = 0 ∨ high = 1 by omega) with rfl | rfl
  · exact congrArg (xs ++ ·) (lay_0 _)
  · exact congrArg (xs ++ ·) (lay_1 _)
set_option maxRecDepth 100000 in
set_option maxHeartbeats 8000000 in
theorem padded35 (w : World) (lo hi : Nat) (v : Value) (bs : List Byte) (b : Bool) (high : Nat) (hhb : b = false ∧ high = 1 ∨ b = true ∧ high = 0) (hb : Bs w lo hi v bs) (hl : bs.length ≤ 1073741824) (hhi : hi ≤ w.heap.size) : Calls Try.prog 35 #[v, .bool b] w fun e w' => ∃ v', e = .returned v' ∧ Own w' w.heap.size v' (padM bs high) ∧ Below w.heap.size w w' := by
  have HHB := Lib.hid hhb
  clear hhb
  have HBS : Hid (∀ W, Below w.heap.size w W → Bs W lo hi v bs) := fun W hW => hb.keep (Same.of_below hW hhi)
  obtain ⟨A, c, rfl, hc1, hc2, hR⟩ := hb
  have HL := Lib.hid hl
  clear hR hl hc1 hc2
  have hm3 : 0 + bs.length ≤ maxLen := by have := HL.out; unfold maxLen; omega
  have hm4 : (0 + bs.length) * 1 ≤ 140737488355328 := by have := HL.out; omega
  have hm5 : bs.length + 1 ≤ maxLen := by have := HL.out; unfold maxLen; omega
  have hm6 : (bs.length + 1) * 1 ≤ 140737488355328 := by have := HL.out; omega
  have HBR : Hid (∀ W, Below w.heap.size w W → Rd W lo hi 1 A bs.length (nums bs)) := fun W hW => by
    obtain ⟨A', c', e, _, _, h⟩ := HBS.out W hW
    cases e
    exact h
  have HK3 : Hid (Kp w w (.slice none 0 0) []) := ⟨World.ownsRow_nil _ _ _ _, Below.refl _ _⟩
  go_enter Try.func35, Try.ntmps35
  go_wp2_with (first
    | (at_builtin; refine wp_append rfl (.const (.slice none 0 0)) (.tmp 9) 22 5 (.int .u8 0) 1 1 rfl Try.underlying22 info5 rfl (by omega) w.heap.size lo hi _ 0 [] A bs.length c (nums bs) rfl rfl HK3.out.O (HBR.out _ HK3.out.W) (nums_one _) hm3 hm4 HK3.out.W.size ?_
       intro v4 w4 ho4 hg4 hb4
       rw [Nat.zero_add, List.nil_append] at ho4
       have HK4 : Hid (Kp w w4 v4 bs) := HK3.out.app hg4 rfl ho4
       clear ho4 hg4 hb4)
    | (at_builtin; refine wp_append rfl (.tmp 10) (.tmp 11) 22 5 (.int .u8 0) 1 1 rfl Try.underlying22 info5 rfl (by omega) w.heap.size 0 (w4.heap.size + 1) v4 bs.length (nums bs) (some ⟨w4.heap.size, 0, none⟩) 1 1 [.int .u8 128] rfl rfl (HK4.out.lit _).O (rd_lit _ _) one_one hm5 hm6 (HK4.out.lit _).W.size ?_
       intro v5 w5 ho5 hg5 hb5
       have HK5 := Lib.hid (HK4.out.snoc 128#8 128 rfl hg5 rfl ho5)
       clear ho5 hg5 hb5))
  clear HK3 HK4
  have hz : padW bs.length = (119 - bs.length % 64) % 64 := rfl
  clear hm3 hm4 hm5 hm6 HBS HBR
  go_loopw [5] (fun v wr => ∃ k, k ≤ padW bs.length ∧ Kp w wr v (bs ++ [128#8] ++ List.replicate k 0#8)) (fun v _ => bs.length + 1 + padW bs.length - slen v)
  case atStart => exact ⟨0, by omega, by simpa using HK5.out.1⟩
  obtain ⟨k, hk, hkc⟩ := hrel
  clear HK5
  have hlen : (bs ++ [128#8] ++ List.replicate k 0#8).length = bs.length + 1 + k := by simp; omega
  obtain ⟨gp, cp, rfl, hgp1, hgp2, hn1, hn2⟩ := hkc.shape (by omega)
  have hpre : k = padW bs.length → bs ++ [128#8] ++ List.replicate k 0#8 ++ List.replicate 8 0#8 = preG bs := fun e => by rw [e]; rfl
  have hsuc : bs ++ [128#8] ++ List.replicate k 0#8 ++ [0#8] = bs ++ [128#8] ++ List.replicate (k + 1) 0#8 := by rw [List.append_assoc _ _ [0#8], ← List.replicate_succ']
  generalize bs ++ [128#8] ++ List.replicate k 0#8 = xs at *
  obtain ⟨r, hr⟩ : ∃ r, r = xs.length % 64 := ⟨_, rfl⟩
  have er : ((xs.length : Nat) : Int).tmod 64 = (r : Int) := by rw [Int.tmod_eq_emod_of_nonneg (by omega)]; omega
  have HPRE := Lib.hid hpre
  have HSUC := Lib.hid hsuc
  have HKC := Lib.hid hkc
  have hL := HL.out
  have hm3 : xs.length + 1 ≤ maxLen := by unfold maxLen; omega
  have hm4 : (xs.length + 1) * 1 ≤ 140737488355328 := by omega
  clear hpre hsuc hkc
  rcases Nat.lt_or_ge k (padW bs.length) with hlt | hge
  · have hr0 : ¬ (r : Int) = 56 := by omega
    have HLEN := Lib.hid hlen
    have HR := Lib.hid hr
    generalize hml : xs.length = m at *
    have HML := Lib.hid hml
    have HM1 := Lib.hid (show m + 1 = xs.length + 1 by rw [hml])
    have HO : Hid (∀ o, (wr.alloc o).ownsRow w.heap.size 5 1 (.slice (some ⟨gp, 0, none⟩) m cp) m (nums xs)) := fun o => by
      have := (HKC.out.lit o).O
      rwa [hml] at this
    clear hlen hr hml
    go_wp2_with (first
      | (at_builtin
         refine wp_append rfl (.tmp 17) (.tmp 18) 22 5 (.int .u8 0) 1 1 rfl Try.underlying22 info5 rfl (by omega) w.heap.size 0 (wr.heap.size + 1) (.slice (some ⟨gp, 0, none⟩) m cp) m (nums xs) (some ⟨wr.heap.size, 0, none⟩) 1 1 [.int .u8 0] rfl rfl (HO.out _) (rd_lit _ _) one_one hm3 hm4 (HKC.out.lit _).W.size ?_
         intro v5 w5 ho5 hg5 hb5
         have HK5 := Lib.hid (HKC.out.snoc 0#8 0 rfl hg5 HM1.out ho5)
         clear ho5 hg5 hb5))
    go_roundw
    case rel => exact ⟨k + 1, by omega, by rw [← HSUC.out]; exact HK5.out.1⟩
    case measure =>
      have := HLEN.out
      rw [HK5.out.2]
      show _ - _ < _ - m
      omega
  have hk2 : k = padW bs.length := by omega
  have hx := HPRE.out hk2
  have HS3 := Lib.hid (show IntKind.u64.wrap (n64 (BitVec.ofNat 64 bs.length) * 8) = n64 (BitVec.ofNat 64 bs.length <<< 3) from shl64 _ 3)
  have hr56 : r = 56 := by omega
  subst hr56
  have hn0 : 0 < xs.length := by omega
  have HMB := Lib.hid (show xs.length ≤ 1099511627776 by omega)
  have hO := HKC.out.O
  generalize hml : xs.length = m at *
  have HML := Lib.hid hml
  have HO := Lib.hid hO
  have HX := Lib.hid hx
  have HN0 := Lib.hid hn0
  have hu1 : IntKind.u64.wrap (bs.length : Int) = n64 (BitVec.ofNat 64 bs.length) := by
    rw [ofNat64 _ (by omega), wrap_u64]; omega
  have HU1 := Lib.hid hu1
  clear hu1
  clear hr hlen hml hO hx HPRE HSUC hk hge hz hm3 hm4 hk2 hL hn0
  rcases HHB.out with ⟨rfl, rfl⟩ | ⟨rfl, rfl⟩
  · clear HHB
    have HPF := Lib.hid (pad_eq bs xs HX.out 1 (by decide))
    clear HX
    have HK0 : Hid (Kp w wr (.slice (some ⟨gp, 0, none⟩) m cp) (xs ++ (List.range 0).map (byteF (BitVec.ofNat 64 bs.length <<< 3) 1))) := show Kp _ _ _ _ by
      have := HKC.out
      simpa [HML.out] using this
    have hs3 := HS3.out
    have hu1 := HU1.out
    go_wp2_with fail
    clear HKC
    obtain ⟨wo, rfl⟩ : ∃ wo : World, wo = wr := ⟨_, rfl⟩
    generalize hN : (BitVec.ofNat 64 bs.length <<< 3) = N at *
    clear hs3 hu1 HS3 HU1 HO
    go_loopw [5, 7] (fun v iv wr => ∃ i : Nat, i ≤ 8 ∧ iv = .int .i64 (i : Int) ∧ Kp w wr v (xs ++ (List.range i).map (byteF N 1))) (fun _ iv _ => 8 - (intOf iv).toNat)
    case atStart => exact ⟨0, by omega, rfl, HK0.out⟩
    obtain ⟨i, hi, rfl, hf⟩ := hrel
    clear HK0
    rcases Nat.lt_or_ge i 8 with hlt | hge
    · skip
      obtain ⟨gq, cq, rfl, hgq1, hgq2, hq1, hq2⟩ := hf.shape (by simp [HML.out]; have := HN0.out; omega)
      obtain ⟨q7, hq7⟩ : ∃ q, q = 7 - i := ⟨_, rfl⟩
      have e7 : (7 : Int) - (i : Int) = (q7 : Int) := by omega
      obtain ⟨q8, hq8⟩ : ∃ q, q = 8 * q7 := ⟨_, rfl⟩
      have e8 : (8 : Int) * (q7 : Int) = (q8 : Int) := by omega
      have w8 : IntKind.u64.wrap (q8 : Int) = (q8 : Int) := by rw [wrap_u64]; omega
      have l8 : (q8 : Int) ≤ 64 := by omega
      have hby : byteF N 1 i = (N >>> q8).setWidth 8 := by unfold byteF; rw [hq8, hq7]; rfl
      have hlen : (xs ++ (List.range i).map (byteF N 1)).length = m + i := by simp [HML.out]
      have hsu : xs ++ (List.range (i + 1)).map (byteF N 1) = (xs ++ (List.range i).map (byteF N 1)) ++ [(N >>> q8).setWidth 8] := by rw [List.range_succ, List.map_append, List.map_cons, List.map_nil, hby, List.append_assoc]
      have HSU := Lib.hid hsu
      have hm3 : (m + i) + 1 ≤ maxLen := by have := HMB.out; unfold maxLen; omega
      have hm4 : ((m + i) + 1) * 1 ≤ 140737488355328 := by have := HMB.out; omega
      generalize hys : xs ++ (List.range i).map (byteF N 1) = ys at *
      rw [hlen] at hf ⊢
      have HY : Hid (∀ o, (wr.alloc o).ownsRow w.heap.size 5 1 (.slice (some ⟨gq, 0, none⟩) (m + i) cq) (m + i) (nums ys)) := fun o => by
        have := (hf.lit o).O
        rwa [hlen] at this
      obtain ⟨mi, hmi⟩ : ∃ z, z = m + i := ⟨_, rfl⟩
      rw [← hmi] at HY hm3 hm4 hf ⊢
      have HKF := Lib.hid hf
      have HM1 := Lib.hid (show mi + 1 = ys.length + 1 by rw [hlen, hmi])
      have HI := Lib.hid hlt
      generalize hyb : (N >>> q8).setWidth 8 = yb at *
      have HYB := Lib.hid hyb
      clear hf hsu hby hys hq7 hq8 hlen hmi hyb
      have hsh : n64 N / 2 ^ q8 % 256 = n8 yb := by rw [shr64, ← wrap_u8, low8, HYB.out]
      go_wp2_with (first
        | (at_builtin
           refine wp_append rfl (.tmp 32) (.tmp 39) 22 5 (.int .u8 0) 1 1 rfl Try.underlying22 info5 rfl (by omega) w.heap.size 0 (wr.heap.size + 1) (.slice (some ⟨gq, 0, none⟩) mi cq) mi (nums ys) (some ⟨wr.heap.size, 0, none⟩) 1 1 [.int .u8 (n8 yb)] rfl rfl (HY.out _) (rd_lit _ _) one_one hm3 hm4 (HKF.out.lit _).W.size ?_
           intro v5 w5 ho5 hg5 hb5
           have HK5 := Lib.hid (HKF.out.snoc yb (n8 yb) rfl hg5 HM1.out ho5)
           clear ho5 hg5 hb5))
      have hlt := HI.out
      go_roundw
      case rel => exact ⟨i + 1, by omega, by go_num, by rw [HSU.out]; exact HK5.out.1⟩
      case measure => simp [intOf]; omega
    obtain rfl : i = 8 := by omega
    rw [show ((8 : Nat) : Int) = 8 from rfl]
    rw [← HPF.out] at hf
    have HF := Lib.hid hf
    clear hf
    go_wp2_with fail
    go_ret
    exact ⟨_, rfl, HF.out.O, HF.out.W⟩
  · clear HHB
    have HPF := Lib.hid (pad_eq bs xs HX.out 0 (by decide))
    clear HX
    have HK0 : Hid (Kp w wr (.slice (some ⟨gp, 0, none⟩) m cp) (xs ++ (List.range 0).map (byteF (BitVec.ofNat 64 bs.length <<< 3) 0))) := show Kp _ _ _ _ by
      have := HKC.out
      simpa [HML.out] using this
    have hs3 := HS3.out
    have hu1 := HU1.out
    go_wp2_with fail
    clear HKC
    obtain ⟨wo, rfl⟩ : ∃ wo : World, wo = wr := ⟨_, rfl⟩
    generalize hN : (BitVec.ofNat 64 bs.length <<< 3) = N at *
    clear hs3 hu1 HS3 HU1 HO
    go_loopw [5, 7] (fun v iv wr => ∃ i : Nat, i ≤ 8 ∧ iv = .int .i64 (i : Int) ∧ Kp w wr v (xs ++ (List.range i).map (byteF N 0))) (fun _ iv _ => 8 - (intOf iv).toNat)
    case atStart => exact ⟨0, by omega, rfl, HK0.out⟩
    obtain ⟨i, hi, rfl, hf⟩ := hrel
    clear HK0
    rcases Nat.lt_or_ge i 8 with hlt | hge
    · skip
      obtain ⟨gq, cq, rfl, hgq1, hgq2, hq1, hq2⟩ := hf.shape (by simp [HML.out]; have := HN0.out; omega)
      obtain ⟨q7, hq7⟩ : ∃ q, q = 7 - i := ⟨_, rfl⟩
      have e7 : (7 : Int) - (i : Int) = (q7 : Int) := by omega
      obtain ⟨q8, hq8⟩ : ∃ q, q = 8 * i := ⟨_, rfl⟩
      have e8 : (8 : Int) * (i : Int) = (q8 : Int) := by omega
      have w8 : IntKind.u64.wrap (q8 : Int) = (q8 : Int) := by rw [wrap_u64]; omega
      have l8 : (q8 : Int) ≤ 64 := by omega
      have hby : byteF N 0 i = (N >>> q8).setWidth 8 := by unfold byteF; rw [hq8]; rfl
      have hlen : (xs ++ (List.range i).map (byteF N 0)).length = m + i := by simp [HML.out]
      have hsu : xs ++ (List.range (i + 1)).map (byteF N 0) = (xs ++ (List.range i).map (byteF N 0)) ++ [(N >>> q8).setWidth 8] := by rw [List.range_succ, List.map_append, List.map_cons, List.map_nil, hby, List.append_assoc]
      have HSU := Lib.hid hsu
      have hm3 : (m + i) + 1 ≤ maxLen := by have := HMB.out; unfold maxLen; omega
      have hm4 : ((m + i) + 1) * 1 ≤ 140737488355328 := by have := HMB.out; omega
      generalize hys : xs ++ (List.range i).map (byteF N 0) = ys at *
      rw [hlen] at hf ⊢
      have HY : Hid (∀ o, (wr.alloc o).ownsRow w.heap.size 5 1 (.slice (some ⟨gq, 0, none⟩) (m + i) cq) (m + i) (nums ys)) := fun o => by
        have := (hf.lit o).O
        rwa [hlen] at this
      obtain ⟨mi, hmi⟩ : ∃ z, z = m + i := ⟨_, rfl⟩
      rw [← hmi] at HY hm3 hm4 hf ⊢
      have HKF := Lib.hid hf
      have HM1 := Lib.hid (show mi + 1 = ys.length + 1 by rw [hlen, hmi])
      have HI := Lib.hid hlt
      generalize hyb : (N >>> q8).setWidth 8 = yb at *
      have HYB := Lib.hid hyb
      clear hf hsu hby hys hq7 hq8 hlen hmi hyb
      have hsh : n64 N / 2 ^ q8 % 256 = n8 yb := by rw [shr64, ← wrap_u8, low8, HYB.out]
      go_wp2_with (first
        | (at_builtin
           refine wp_append rfl (.tmp 32) (.tmp 39) 22 5 (.int .u8 0) 1 1 rfl Try.underlying22 info5 rfl (by omega) w.heap.size 0 (wr.heap.size + 1) (.slice (some ⟨gq, 0, none⟩) mi cq) mi (nums ys) (some ⟨wr.heap.size, 0, none⟩) 1 1 [.int .u8 (n8 yb)] rfl rfl (HY.out _) (rd_lit _ _) one_one hm3 hm4 (HKF.out.lit _).W.size ?_
           intro v5 w5 ho5 hg5 hb5
           have HK5 := Lib.hid (HKF.out.snoc yb (n8 yb) rfl hg5 HM1.out ho5)
           clear ho5 hg5 hb5))
      have hlt := HI.out
      go_roundw
      case rel => exact ⟨i + 1, by omega, by go_num, by rw [HSU.out]; exact HK5.out.1⟩
      case measure => simp [intOf]; omega
    obtain rfl : i = 8 := by omega
    rw [show ((8 : Nat) : Int) = 8 from rfl]
    rw [← HPF.out] at hf
    have HF := Lib.hid hf
    clear hf
    go_wp2_with fail
    go_ret
    exact ⟨_, rfl, HF.out.O, HF.out.W⟩
end Go.Proofs.Ytnlcndlfdnogaaa.Qp
