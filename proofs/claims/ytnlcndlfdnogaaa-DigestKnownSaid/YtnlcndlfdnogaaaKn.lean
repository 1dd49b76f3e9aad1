/- DigestKnown, walked. (printed by gen_kn.py) -/
import Derived.Test.YtnlcndlfdnogaaaBw
import Derived.Test.YtnlcndlfdnogaaaAw
set_option linter.unusedVariables false
set_option linter.unusedSimpArgs false
namespace Go.Proofs.Ytnlcndlfdnogaaa.Kn
open Go.RowKit
open D0 M D2 D3 Rg K0 K1 K2 P Bs Bp Bw Aw
def hF : L := [7640891576939301192#64, 13503953896175478587#64, 4354685564936845355#64, 11912009170470909681#64, 5840696475078001361#64, 11170449401992604703#64, 2270897969802886507#64, 6620516959819538809#64]
def mF : L := 6513249#64 :: List.replicate 15 0#64
set_option maxRecDepth 1000000 in
theorem kecc_abc : n8 (gt (keccF [97#8, 98#8, 99#8]) 0#8 0) = 78 ∧ n8 (gt (keccF [97#8, 98#8, 99#8]) 0#8 1) = 3 ∧ n8 (gt (keccF [97#8, 98#8, 99#8]) 0#8 31) = 69 := by decide +kernel
set_option maxRecDepth 1000000 in
theorem sha_nil : n8 (gt (S2.shaF []) 0#8 0) = 227 ∧ n8 (gt (S2.shaF []) 0#8 31) = 85 := by decide +kernel
set_option maxRecDepth 1000000 in
theorem rip_nil : n8 (gt (R0.ripF []) 0#8 0) = 156 ∧ n8 (gt (R0.ripF []) 0#8 19) = 49 := by decide +kernel
set_option maxRecDepth 1000000 in
theorem blake_abc : n64 (gt (blakeF 12 hF mF 3#64 0#64 true) 0#64 0) = 958453735928201402 := by decide +kernel
theorem info44 : (Try.prog.info? 44).map (·.size) = some 16 := by kernel_rfl
theorem info25 : (Try.prog.info? 25).map (·.size) = some 32 := by kernel_rfl
theorem info29 : (Try.prog.info? 29).map (·.size) = some 20 := by kernel_rfl
/-- A block that is made and filled. -/
theorem laid_arr (x : World) (z vs : List Value) (t : TypeId) : Arr ((x.alloc (.cells z.toArray t)).setRow x.heap.size vs.toArray) x.heap.size t vs := setRow_heap _ _ _ _ _ _ (block_new _ _)
theorem laid_keep {x : World} (z vs : List Value) (t : TypeId) {g : Nat} {t' : TypeId} {us : List Value} (h : Arr x g t' us) : Arr ((x.alloc (.cells z.toArray t)).setRow x.heap.size vs.toArray) g t' us := (h.alloc _).keep (setRow_other _ _ _ _ (by have := h.lt; omega))
theorem laid_below {B : Nat} {w x : World} (z vs : List Value) (t : TypeId) (h : Below B w x) (hB : B ≤ x.heap.size) : Below B w ((x.alloc (.cells z.toArray t)).setRow x.heap.size vs.toArray) := below_setRow (h.alloc hB _) hB _
set_option maxRecDepth 100000 in
set_option maxHeartbeats 4000000 in
theorem known7 (w : World) : Calls Try.prog 7 #[] w fun e w' => e = .returned (.bool true) ∧ Below w.heap.size w w' := by
  obtain ⟨kf, hkf⟩ : ∃ kf, kf = keccF [97#8, 98#8, 99#8] := ⟨_, rfl⟩
  obtain ⟨sf, hsf⟩ : ∃ sf, sf = S2.shaF [] := ⟨_, rfl⟩
  obtain ⟨rf, hrf⟩ : ∃ rf, rf = R0.ripF [] := ⟨_, rfl⟩
  obtain ⟨bf, hbf⟩ : ∃ bf, bf = blakeF 12 hF mF 3#64 0#64 true := ⟨_, rfl⟩
  have lk : kf.length = 32 := by rw [hkf]; exact kecc_len _
  have ls : sf.length = 32 := by rw [hsf]; exact sha_len _
  have lr : rf.length = 20 := by rw [hrf]; exact rip_len _
  have lb : bf.length = 8 := by rw [hbf, blake_len]; rfl
  have k1 := kecc_abc
  have s1 := sha_nil
  have r1 := rip_nil
  have b1 := blake_abc
  have HK : Hid (∀ (W : World) lo hi v, Bs W lo hi v [97#8, 98#8, 99#8] → hi ≤ W.heap.size → Calls Try.prog 10 #[v] W fun e w' => e = .returned (.agg (nums kf).toArray) ∧ Below W.heap.size W w') := fun W lo hi v h1 h2 => by
    rw [hkf]; exact kecc10 W lo hi v _ h1 (by simp) h2
  have HS : Hid (∀ W : World, Calls Try.prog 13 #[.slice none 0 0] W fun e w' => e = .returned (.agg (nums sf).toArray) ∧ Below W.heap.size W w') := fun W => by
    rw [hsf]; exact S5.sha13 W 0 0 _ _ (bs_nil W) (by simp) (by omega)
  have HR : Hid (∀ W : World, Calls Try.prog 15 #[.slice none 0 0] W fun e w' => e = .returned (.agg (nums rf).toArray) ∧ Below W.heap.size W w') := fun W => by
    rw [hrf]; exact R5.ripemd15 W 0 0 _ _ (bs_nil W) (by simp) (by omega)
  have HBL : Hid (∀ W : World, Calls Try.prog 22 #[.int .u32 12, .agg #[.int .u64 7640891576939301192, .int .u64 13503953896175478587, .int .u64 4354685564936845355, .int .u64 11912009170470909681, .int .u64 5840696475078001361, .int .u64 11170449401992604703, .int .u64 2270897969802886507, .int .u64 6620516959819538809], .agg #[.int .u64 6513249, .int .u64 0, .int .u64 0, .int .u64 0, .int .u64 0, .int .u64 0, .int .u64 0, .int .u64 0, .int .u64 0, .int .u64 0, .int .u64 0, .int .u64 0, .int .u64 0, .int .u64 0, .int .u64 0, .int .u64 0], .agg #[.int .u64 3, .int .u64 0], .bool true] W fun e w' => e = .returned (.agg (m64 bf).toArray) ∧ Below W.heap.size W w') := fun W => by
    rw [hbf]; exact blake22 W 12 hF mF 3#64 0#64 true (by omega) rfl rfl
  rw [← hkf] at k1
  rw [← hsf] at s1
  rw [← hrf] at r1
  rw [← hbf] at b1
  have HK1 := Lib.hid k1
  have HS1 := Lib.hid s1
  have HR1 := Lib.hid r1
  have HB1 := Lib.hid b1
  have HI1 : Hid ((Try.prog.info? 25).map (·.size) = some (nums kf).toArray.size) := by rw [show (nums kf).toArray.size = 32 by simp [lk]]; exact info25
  have HI2 : Hid ((Try.prog.info? 25).map (·.size) = some (nums sf).toArray.size) := by rw [show (nums sf).toArray.size = 32 by simp [ls]]; exact info25
  have HI3 : Hid ((Try.prog.info? 29).map (·.size) = some (nums rf).toArray.size) := by rw [show (nums rf).toArray.size = 20 by simp [lr]]; exact info29
  have HI4 : Hid ((Try.prog.info? 45).map (·.size) = some (m64 bf).toArray.size) := by rw [show (m64 bf).toArray.size = 8 by simp [m64_len, lb]]; exact info45
  have HZ1 : Hid ((nums (List.replicate 32 0#8)).toArray.size = (nums kf).toArray.size) := show _ = _ by simp [lk]
  have HZ2 : Hid ((nums (List.replicate 32 0#8)).toArray.size = (nums sf).toArray.size) := show _ = _ by simp [ls]
  have HZ3 : Hid ((nums (List.replicate 20 0#8)).toArray.size = (nums rf).toArray.size) := show _ = _ by simp [lr]
  have HZ4 : Hid ((m64 (List.replicate 8 0#64)).toArray.size = (m64 bf).toArray.size) := show _ = _ by simp [m64_len, lb]
  have HO : Hid (∀ l : List Byte, (nums l).toArray.all (·.oneCell') = true) := fun l => by simp [nums, Value.oneCell']
  have HO4 : Hid ((m64 bf).toArray.all (·.oneCell') = true) := show _ = _ by simp [m64, Value.oneCell']
  have HLK := Lib.hid lk
  have HLS := Lib.hid ls
  have HLR := Lib.hid lr
  have HLB := Lib.hid lb
  clear hkf hsf hrf hbf k1 s1 r1 b1 lk ls lr lb
  have hcv := conv22
  go_enter Try.func7, Try.ntmps7
  go_wp2_with (first
    | (go_at_call 10; refine (HK.out _ _ _ _ (bs_abc w 3 (by omega) (by omega)) (by rw [size_alloc]; omega)).mono ?_
       rintro e w4 ⟨rfl, hb4⟩
       have HB4 : Hid (Below w.heap.size w w4) := ((Below.refl _ w).alloc (Nat.le_refl _) _).trans (hb4.mono (by rw [size_alloc]; omega))
       have z4 := Lib.hid HB4.out.size
       clear hb4)
    | (refine wpList_store_row rfl 25 (.tmp 2) (.tmp 11) rfl w4.heap.size (nums kf).toArray rfl rfl 25 (nums (List.replicate 32 0#8)).toArray (block_new _ _) HI1.out HZ1.out (HO.out _) ?_
       have HA1 : Hid (Arr ((w4.alloc (.cells #[.int .u8 0, .int .u8 0, .int .u8 0, .int .u8 0, .int .u8 0, .int .u8 0, .int .u8 0, .int .u8 0, .int .u8 0, .int .u8 0, .int .u8 0, .int .u8 0, .int .u8 0, .int .u8 0, .int .u8 0, .int .u8 0, .int .u8 0, .int .u8 0, .int .u8 0, .int .u8 0, .int .u8 0, .int .u8 0, .int .u8 0, .int .u8 0, .int .u8 0, .int .u8 0, .int .u8 0, .int .u8 0, .int .u8 0, .int .u8 0, .int .u8 0, .int .u8 0] 25)).setRow w4.heap.size (nums kf).toArray) w4.heap.size 25 (nums kf)) := laid_arr w4 (nums (List.replicate 32 0#8)) (nums kf) 25
       have HB5 : Hid (Below w.heap.size w ((w4.alloc (.cells #[.int .u8 0, .int .u8 0, .int .u8 0, .int .u8 0, .int .u8 0, .int .u8 0, .int .u8 0, .int .u8 0, .int .u8 0, .int .u8 0, .int .u8 0, .int .u8 0, .int .u8 0, .int .u8 0, .int .u8 0, .int .u8 0, .int .u8 0, .int .u8 0, .int .u8 0, .int .u8 0, .int .u8 0, .int .u8 0, .int .u8 0, .int .u8 0, .int .u8 0, .int .u8 0, .int .u8 0, .int .u8 0, .int .u8 0, .int .u8 0, .int .u8 0, .int .u8 0] 25)).setRow w4.heap.size (nums kf).toArray)) := laid_below (nums (List.replicate 32 0#8)) (nums kf) 25 HB4.out z4.out
       generalize ((w4.alloc (.cells #[.int .u8 0, .int .u8 0, .int .u8 0, .int .u8 0, .int .u8 0, .int .u8 0, .int .u8 0, .int .u8 0, .int .u8 0, .int .u8 0, .int .u8 0, .int .u8 0, .int .u8 0, .int .u8 0, .int .u8 0, .int .u8 0, .int .u8 0, .int .u8 0, .int .u8 0, .int .u8 0, .int .u8 0, .int .u8 0, .int .u8 0, .int .u8 0, .int .u8 0, .int .u8 0, .int .u8 0, .int .u8 0, .int .u8 0, .int .u8 0, .int .u8 0, .int .u8 0] 25)).setRow w4.heap.size (nums kf).toArray) = w5 at *
       generalize w4.heap.size = g1 at *)
    | (go_at_call 13; refine (HS.out _).mono ?_
       rintro e w6 ⟨rfl, hb6⟩
       have HB6 := Lib.hid (HB5.out.trans (hb6.mono HB5.out.size))
       have HA2 := Lib.hid (HA1.out.later hb6 HA1.out.lt)
       clear hb6)
    | (refine wpList_store_row rfl 25 (.tmp 3) (.tmp 12) rfl w6.heap.size (nums sf).toArray rfl rfl 25 (nums (List.replicate 32 0#8)).toArray (block_new _ _) HI2.out HZ2.out (HO.out _) ?_
       have HA3 : Hid (Arr ((w6.alloc (.cells #[.int .u8 0, .int .u8 0, .int .u8 0, .int .u8 0, .int .u8 0, .int .u8 0, .int .u8 0, .int .u8 0, .int .u8 0, .int .u8 0, .int .u8 0, .int .u8 0, .int .u8 0, .int .u8 0, .int .u8 0, .int .u8 0, .int .u8 0, .int .u8 0, .int .u8 0, .int .u8 0, .int .u8 0, .int .u8 0, .int .u8 0, .int .u8 0, .int .u8 0, .int .u8 0, .int .u8 0, .int .u8 0, .int .u8 0, .int .u8 0, .int .u8 0, .int .u8 0] 25)).setRow w6.heap.size (nums sf).toArray) g1 25 (nums kf)) := laid_keep (nums (List.replicate 32 0#8)) (nums sf) 25 HA2.out
       have HS3 : Hid (Arr ((w6.alloc (.cells #[.int .u8 0, .int .u8 0, .int .u8 0, .int .u8 0, .int .u8 0, .int .u8 0, .int .u8 0, .int .u8 0, .int .u8 0, .int .u8 0, .int .u8 0, .int .u8 0, .int .u8 0, .int .u8 0, .int .u8 0, .int .u8 0, .int .u8 0, .int .u8 0, .int .u8 0, .int .u8 0, .int .u8 0, .int .u8 0, .int .u8 0, .int .u8 0, .int .u8 0, .int .u8 0, .int .u8 0, .int .u8 0, .int .u8 0, .int .u8 0, .int .u8 0, .int .u8 0] 25)).setRow w6.heap.size (nums sf).toArray) w6.heap.size 25 (nums sf)) := laid_arr w6 (nums (List.replicate 32 0#8)) (nums sf) 25
       have HB7 : Hid (Below w.heap.size w ((w6.alloc (.cells #[.int .u8 0, .int .u8 0, .int .u8 0, .int .u8 0, .int .u8 0, .int .u8 0, .int .u8 0, .int .u8 0, .int .u8 0, .int .u8 0, .int .u8 0, .int .u8 0, .int .u8 0, .int .u8 0, .int .u8 0, .int .u8 0, .int .u8 0, .int .u8 0, .int .u8 0, .int .u8 0, .int .u8 0, .int .u8 0, .int .u8 0, .int .u8 0, .int .u8 0, .int .u8 0, .int .u8 0, .int .u8 0, .int .u8 0, .int .u8 0, .int .u8 0, .int .u8 0] 25)).setRow w6.heap.size (nums sf).toArray)) := laid_below (nums (List.replicate 32 0#8)) (nums sf) 25 HB6.out HB6.out.size
       generalize ((w6.alloc (.cells #[.int .u8 0, .int .u8 0, .int .u8 0, .int .u8 0, .int .u8 0, .int .u8 0, .int .u8 0, .int .u8 0, .int .u8 0, .int .u8 0, .int .u8 0, .int .u8 0, .int .u8 0, .int .u8 0, .int .u8 0, .int .u8 0, .int .u8 0, .int .u8 0, .int .u8 0, .int .u8 0, .int .u8 0, .int .u8 0, .int .u8 0, .int .u8 0, .int .u8 0, .int .u8 0, .int .u8 0, .int .u8 0, .int .u8 0, .int .u8 0, .int .u8 0, .int .u8 0] 25)).setRow w6.heap.size (nums sf).toArray) = w7 at *
       generalize w6.heap.size = g2 at *)
    | (go_at_call 15; refine (HR.out _).mono ?_
       rintro e w8 ⟨rfl, hb8⟩
       have HB8 := Lib.hid (HB7.out.trans (hb8.mono HB7.out.size))
       have HA4 := Lib.hid (HA3.out.later hb8 HA3.out.lt)
       have HS4 := Lib.hid (HS3.out.later hb8 HS3.out.lt)
       clear hb8)
    | (refine wpList_store_row rfl 29 (.tmp 4) (.tmp 13) rfl w8.heap.size (nums rf).toArray rfl rfl 29 (nums (List.replicate 20 0#8)).toArray (block_new _ _) HI3.out HZ3.out (HO.out _) ?_
       have HA5 : Hid (Arr ((w8.alloc (.cells #[.int .u8 0, .int .u8 0, .int .u8 0, .int .u8 0, .int .u8 0, .int .u8 0, .int .u8 0, .int .u8 0, .int .u8 0, .int .u8 0, .int .u8 0, .int .u8 0, .int .u8 0, .int .u8 0, .int .u8 0, .int .u8 0, .int .u8 0, .int .u8 0, .int .u8 0, .int .u8 0] 29)).setRow w8.heap.size (nums rf).toArray) g1 25 (nums kf)) := laid_keep (nums (List.replicate 20 0#8)) (nums rf) 29 HA4.out
       have HS5 : Hid (Arr ((w8.alloc (.cells #[.int .u8 0, .int .u8 0, .int .u8 0, .int .u8 0, .int .u8 0, .int .u8 0, .int .u8 0, .int .u8 0, .int .u8 0, .int .u8 0, .int .u8 0, .int .u8 0, .int .u8 0, .int .u8 0, .int .u8 0, .int .u8 0, .int .u8 0, .int .u8 0, .int .u8 0, .int .u8 0] 29)).setRow w8.heap.size (nums rf).toArray) g2 25 (nums sf)) := laid_keep (nums (List.replicate 20 0#8)) (nums rf) 29 HS4.out
       have HR5 : Hid (Arr ((w8.alloc (.cells #[.int .u8 0, .int .u8 0, .int .u8 0, .int .u8 0, .int .u8 0, .int .u8 0, .int .u8 0, .int .u8 0, .int .u8 0, .int .u8 0, .int .u8 0, .int .u8 0, .int .u8 0, .int .u8 0, .int .u8 0, .int .u8 0, .int .u8 0, .int .u8 0, .int .u8 0, .int .u8 0] 29)).setRow w8.heap.size (nums rf).toArray) w8.heap.size 29 (nums rf)) := laid_arr w8 (nums (List.replicate 20 0#8)) (nums rf) 29
       have HB9 : Hid (Below w.heap.size w ((w8.alloc (.cells #[.int .u8 0, .int .u8 0, .int .u8 0, .int .u8 0, .int .u8 0, .int .u8 0, .int .u8 0, .int .u8 0, .int .u8 0, .int .u8 0, .int .u8 0, .int .u8 0, .int .u8 0, .int .u8 0, .int .u8 0, .int .u8 0, .int .u8 0, .int .u8 0, .int .u8 0, .int .u8 0] 29)).setRow w8.heap.size (nums rf).toArray)) := laid_below (nums (List.replicate 20 0#8)) (nums rf) 29 HB8.out HB8.out.size
       generalize ((w8.alloc (.cells #[.int .u8 0, .int .u8 0, .int .u8 0, .int .u8 0, .int .u8 0, .int .u8 0, .int .u8 0, .int .u8 0, .int .u8 0, .int .u8 0, .int .u8 0, .int .u8 0, .int .u8 0, .int .u8 0, .int .u8 0, .int .u8 0, .int .u8 0, .int .u8 0, .int .u8 0, .int .u8 0] 29)).setRow w8.heap.size (nums rf).toArray) = w9 at *
       generalize w8.heap.size = g3 at *)
    | (go_at_call 22; refine (HBL.out _).mono ?_
       rintro e w10 ⟨rfl, hb10⟩
       have hb9 : Below w.heap.size w ((w9.alloc (.cells #[.int .u64 6513249, .int .u64 0, .int .u64 0, .int .u64 0, .int .u64 0, .int .u64 0, .int .u64 0, .int .u64 0, .int .u64 0, .int .u64 0, .int .u64 0, .int .u64 0, .int .u64 0, .int .u64 0, .int .u64 0, .int .u64 0] 44)).alloc (.cells #[.int .u64 7640891576939301192, .int .u64 13503953896175478587, .int .u64 4354685564936845355, .int .u64 11912009170470909681, .int .u64 5840696475078001361, .int .u64 11170449401992604703, .int .u64 2270897969802886507, .int .u64 6620516959819538809] 45)) := (HB9.out.alloc HB9.out.size _).alloc (Nat.le_trans HB9.out.size (by rw [size_alloc]; omega)) _
       have HB10 := Lib.hid (hb9.trans (hb10.mono hb9.size))
       have HA6 := Lib.hid (((HA5.out.alloc _).alloc _).later hb10 ((HA5.out.alloc _).alloc _).lt)
       have HS6 := Lib.hid (((HS5.out.alloc _).alloc _).later hb10 ((HS5.out.alloc _).alloc _).lt)
       have HR6 := Lib.hid (((HR5.out.alloc _).alloc _).later hb10 ((HR5.out.alloc _).alloc _).lt)
       clear hb10 hb9)
    | (refine wpList_store_row rfl 45 (.tmp 7) (.tmp 19) rfl w10.heap.size (m64 bf).toArray rfl rfl 45 (m64 (List.replicate 8 0#64)).toArray (block_new _ _) HI4.out HZ4.out HO4.out ?_
       have hA : Arr ((w10.alloc (.cells #[.int .u64 0, .int .u64 0, .int .u64 0, .int .u64 0, .int .u64 0, .int .u64 0, .int .u64 0, .int .u64 0] 45)).setRow w10.heap.size (m64 bf).toArray) g1 25 (nums kf) := laid_keep (m64 (List.replicate 8 0#64)) (m64 bf) 45 HA6.out
       have hS : Arr ((w10.alloc (.cells #[.int .u64 0, .int .u64 0, .int .u64 0, .int .u64 0, .int .u64 0, .int .u64 0, .int .u64 0, .int .u64 0] 45)).setRow w10.heap.size (m64 bf).toArray) g2 25 (nums sf) := laid_keep (m64 (List.replicate 8 0#64)) (m64 bf) 45 HS6.out
       have hR : Arr ((w10.alloc (.cells #[.int .u64 0, .int .u64 0, .int .u64 0, .int .u64 0, .int .u64 0, .int .u64 0, .int .u64 0, .int .u64 0] 45)).setRow w10.heap.size (m64 bf).toArray) g3 29 (nums rf) := laid_keep (m64 (List.replicate 8 0#64)) (m64 bf) 45 HR6.out
       have hB : Arr ((w10.alloc (.cells #[.int .u64 0, .int .u64 0, .int .u64 0, .int .u64 0, .int .u64 0, .int .u64 0, .int .u64 0, .int .u64 0] 45)).setRow w10.heap.size (m64 bf).toArray) w10.heap.size 45 (m64 bf) := laid_arr w10 (m64 (List.replicate 8 0#64)) (m64 bf) 45
       have HB11 : Hid (Below w.heap.size w ((w10.alloc (.cells #[.int .u64 0, .int .u64 0, .int .u64 0, .int .u64 0, .int .u64 0, .int .u64 0, .int .u64 0, .int .u64 0] 45)).setRow w10.heap.size (m64 bf).toArray)) := laid_below (m64 (List.replicate 8 0#64)) (m64 bf) 45 HB10.out HB10.out.size
       generalize ((w10.alloc (.cells #[.int .u64 0, .int .u64 0, .int .u64 0, .int .u64 0, .int .u64 0, .int .u64 0, .int .u64 0, .int .u64 0] 45)).setRow w10.heap.size (m64 bf).toArray) = w11 at *
       generalize w10.heap.size = g6 at *
       have c10 := hA.cell (nums_getD (i := 0) (by rw [HLK.out]; omega))
       have c11 := hA.cell (nums_getD (i := 1) (by rw [HLK.out]; omega))
       have c12 := hA.cell (nums_getD (i := 31) (by rw [HLK.out]; omega))
       have c20 := hS.cell (nums_getD (i := 0) (by rw [HLS.out]; omega))
       have c21 := hS.cell (nums_getD (i := 31) (by rw [HLS.out]; omega))
       have c30 := hR.cell (nums_getD (i := 0) (by rw [HLR.out]; omega))
       have c31 := hR.cell (nums_getD (i := 19) (by rw [HLR.out]; omega))
       have c40 := hB.cell (m64_get (i := 0) (by rw [HLB.out]; omega))
       rw [HK1.out.1] at c10
       rw [HK1.out.2.1] at c11
       rw [HK1.out.2.2] at c12
       rw [HS1.out.1] at c20
       rw [HS1.out.2] at c21
       rw [HR1.out.1] at c30
       rw [HR1.out.2] at c31
       rw [HB1.out] at c40
       clear hA hS hR hB)
    | (go_at_call 9; refine (awake9 _).mono ?_
       rintro e w12 ⟨rfl, hb12⟩
       have HB12 := Lib.hid (HB11.out.trans (hb12.mono HB11.out.size))
       clear hb12))
  go_ret
  exact ⟨rfl, HB12.out⟩
end Go.Proofs.Ytnlcndlfdnogaaa.Kn
