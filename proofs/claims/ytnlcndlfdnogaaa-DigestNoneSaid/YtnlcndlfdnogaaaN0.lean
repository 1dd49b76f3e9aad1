/- twin; Write and Sum of a sponge that nobody made. -/
import Derived.Test.YtnlcndlfdnogaaaAw
set_option linter.unusedVariables false
set_option linter.unusedSimpArgs false
namespace Go.Proofs.Ytnlcndlfdnogaaa.N0
open Go.RowKit
open D0 M D2 D3 Rg K0 K1 K2 Aw
set_option maxRecDepth 100000 in
set_option maxHeartbeats 1000000 in
theorem twin11w (w : World) (lo hi : Nat) (v : Value) (bs : List Byte) (hb : Bs w lo hi v bs) (hl : bs.length ≤ 140737488355328) : Calls Try.prog 11 #[v] w fun e w' => ∃ v', e = .returned v' ∧ Own w' w.heap.size v' bs ∧ Below w.heap.size w w' := by
  obtain ⟨A, c, rfl, hc1, hc2, hR⟩ := hb
  have HR := Lib.hid hR
  have hm3 : 0 + bs.length ≤ maxLen := by unfold maxLen; omega
  have hm4 : (0 + bs.length) * 1 ≤ 140737488355328 := by omega
  have HL := Lib.hid hl
  clear hR hl hc1 hc2
  go_enter Try.func11, Try.ntmps11
  go_wp2_with (first
    | (at_builtin; refine wp_append rfl (.const (.slice none 0 0)) (.tmp 3) 22 5 (.int .u8 0) 1 1 rfl Try.underlying22 info5 rfl (by omega) w.heap.size lo hi _ 0 [] A bs.length c (nums bs) rfl rfl (World.ownsRow_nil _ _ _ _) HR.out (nums_one _) hm3 hm4 (Nat.le_refl _) ?_
       intro v4 w4 ho4 hg4 hb4
       rw [Nat.zero_add, List.nil_append] at ho4
       have HO := Lib.hid ho4
       have HB : Hid (Below w.heap.size w w4) := (Below.refl _ w).grown hg4 (Nat.le_refl _) (fun k hk => by cases hk)
       clear ho4 hg4 hb4))
  go_ret
  exact ⟨_, rfl, HO.out, HB.out⟩
theorem twin11 (w : World) (lo hi : Nat) (v : Value) (bs : List Byte) (hb : Bs w lo hi v bs) (hl : bs.length ≤ 1073741824) : Calls Try.prog 11 #[v] w fun e w' => ∃ v', e = .returned v' ∧ Own w' w.heap.size v' bs ∧ Below w.heap.size w w' := twin11w w lo hi v bs hb (by omega)
set_option maxRecDepth 100000 in
set_option maxHeartbeats 1000000 in
theorem writeN (w : World) (v : Value) : Calls Try.prog 19 #[.pointer none, v] w fun e w' => e = .returned (.pointer none) ∧ w' = w := by
  go_enter Try.func19, Try.ntmps19
  go_wp2
  go_ret
  exact ⟨rfl, rfl⟩
set_option maxRecDepth 100000 in
set_option maxHeartbeats 1000000 in
theorem writeM (w : World) (g : Nat) (x : Value) (v : Value) (hg : w.heap[g]? = some (.cells #[.int .i64 0, x] 38 (0, 0))) : Calls Try.prog 19 #[.pointer (some ⟨g, 0, none⟩), v] w fun e w' => e = .returned (.pointer (some ⟨g, 0, none⟩)) ∧ w' = w := by
  have c0 : w.cell? ⟨g, 0, none⟩ = some (.int .i64 0) := by simp [World.cell?, hg]
  clear hg
  go_enter Try.func19, Try.ntmps19
  go_wp2
  go_ret
  exact ⟨rfl, rfl⟩
set_option maxRecDepth 100000 in
set_option maxHeartbeats 1000000 in
theorem sumN (w : World) (p : Value) (hp : p = .pointer none ∨ ∃ g x, p = .pointer (some ⟨g, 0, none⟩) ∧ w.heap[g]? = some (.cells #[.int .i64 0, x] 38 (0, 0))) : Calls Try.prog 20 #[p] w fun e w' => e = .returned (.agg (nums (keccF [])).toArray) ∧ Below w.heap.size w w' := by
  have HK : Hid (∀ W : World, Calls Try.prog 10 #[.slice none 0 0] W fun e w' => e = .returned (.agg (nums (keccF [])).toArray) ∧ Below W.heap.size W w') := fun W => kecc10 W 0 0 _ [] (bs_nil W) (by simp) (by omega)
  have lk := kecc_len []
  generalize keccF [] = kf at *
  have HI1 : Hid ((Try.prog.info? 25).map (·.size) = some (nums kf).toArray.size) := by rw [show (nums kf).toArray.size = 32 by simp [lk]]; exact info25
  have HZ1 : Hid ((nums (List.replicate 32 0#8)).toArray.size = (nums kf).toArray.size) := show _ = _ by simp [lk]
  have HO : Hid ((nums kf).toArray.all (·.oneCell') = true) := show _ = _ by simp [nums, Value.oneCell']
  have HZ : Hid (∀ W : World, W.alloc (.cells #[.int .u8 0, .int .u8 0, .int .u8 0, .int .u8 0, .int .u8 0, .int .u8 0, .int .u8 0, .int .u8 0, .int .u8 0, .int .u8 0, .int .u8 0, .int .u8 0, .int .u8 0, .int .u8 0, .int .u8 0, .int .u8 0, .int .u8 0, .int .u8 0, .int .u8 0, .int .u8 0, .int .u8 0, .int .u8 0, .int .u8 0, .int .u8 0, .int .u8 0, .int .u8 0, .int .u8 0, .int .u8 0, .int .u8 0, .int .u8 0, .int .u8 0, .int .u8 0] 25) = W.alloc (.cells (nums (List.replicate 32 0#8)).toArray 25)) := fun _ => rfl
  have HA : Hid (Arr (w.alloc (.cells (nums (List.replicate 32 0#8)).toArray 25)) w.heap.size 25 (nums (List.replicate 32 0#8))) := Arr.new w (nums (List.replicate 32 0#8)) 25
  clear lk
  rcases hp with rfl | ⟨g, x, rfl, hg⟩
  · go_enter Try.func20, Try.ntmps20
    go_wp2_with (first
      | (go_at_call 10; refine (HK.out _).mono ?_
         rintro e w2 ⟨rfl, hb⟩
         rw [HZ.out] at hb
         have HB := Lib.hid hb
         clear hb)
      | (refine wpList_store_row rfl 25 (.tmp 2) (.tmp 12) rfl w.heap.size (nums kf).toArray rfl rfl 25 (nums (List.replicate 32 0#8)).toArray (HA.out.later HB.out HA.out.lt) HI1.out HZ1.out HO.out ?_))
    refine bodyPost_ret (results_cell_row (P := Try.prog) rfl _ _ w.heap.size 25 (nums kf).toArray (0, 0) _ rfl (setRow_heap _ _ _ _ _ _ (HA.out.later HB.out HA.out.lt)) Try.underlying25 rfl HI1.out) rfl ⟨rfl, below_setRow ((below_new w _).trans (HB.out.mono (by rw [size_alloc]; omega))) (Nat.le_refl _) _⟩
  · have hlt := (Array.getElem?_eq_some_iff.1 hg).1
    have c0 : (w.alloc (.cells #[.int .u8 0, .int .u8 0, .int .u8 0, .int .u8 0, .int .u8 0, .int .u8 0, .int .u8 0, .int .u8 0, .int .u8 0, .int .u8 0, .int .u8 0, .int .u8 0, .int .u8 0, .int .u8 0, .int .u8 0, .int .u8 0, .int .u8 0, .int .u8 0, .int .u8 0, .int .u8 0, .int .u8 0, .int .u8 0, .int .u8 0, .int .u8 0, .int .u8 0, .int .u8 0, .int .u8 0, .int .u8 0, .int .u8 0, .int .u8 0, .int .u8 0, .int .u8 0] 25)).cell? ⟨g, 0, none⟩ = some (.int .i64 0) := by
      have : (w.alloc (.cells #[.int .u8 0, .int .u8 0, .int .u8 0, .int .u8 0, .int .u8 0, .int .u8 0, .int .u8 0, .int .u8 0, .int .u8 0, .int .u8 0, .int .u8 0, .int .u8 0, .int .u8 0, .int .u8 0, .int .u8 0, .int .u8 0, .int .u8 0, .int .u8 0, .int .u8 0, .int .u8 0, .int .u8 0, .int .u8 0, .int .u8 0, .int .u8 0, .int .u8 0, .int .u8 0, .int .u8 0, .int .u8 0, .int .u8 0, .int .u8 0, .int .u8 0, .int .u8 0] 25)).heap[g]? = some (.cells #[.int .i64 0, x] 38 (0, 0)) := (Below.heap_alloc _ _ _ hlt).trans hg
      generalize w.alloc (.cells #[.int .u8 0, .int .u8 0, .int .u8 0, .int .u8 0, .int .u8 0, .int .u8 0, .int .u8 0, .int .u8 0, .int .u8 0, .int .u8 0, .int .u8 0, .int .u8 0, .int .u8 0, .int .u8 0, .int .u8 0, .int .u8 0, .int .u8 0, .int .u8 0, .int .u8 0, .int .u8 0, .int .u8 0, .int .u8 0, .int .u8 0, .int .u8 0, .int .u8 0, .int .u8 0, .int .u8 0, .int .u8 0, .int .u8 0, .int .u8 0, .int .u8 0, .int .u8 0] 25) = W at *
      simp [World.cell?, this]
    clear hg
    go_enter Try.func20, Try.ntmps20
    go_wp2_with (first
      | (go_at_call 10; refine (HK.out _).mono ?_
         rintro e w2 ⟨rfl, hb⟩
         rw [HZ.out] at hb
         have HB := Lib.hid hb
         clear hb)
      | (refine wpList_store_row rfl 25 (.tmp 2) (.tmp 12) rfl w.heap.size (nums kf).toArray rfl rfl 25 (nums (List.replicate 32 0#8)).toArray (HA.out.later HB.out HA.out.lt) HI1.out HZ1.out HO.out ?_))
    refine bodyPost_ret (results_cell_row (P := Try.prog) rfl _ _ w.heap.size 25 (nums kf).toArray (0, 0) _ rfl (setRow_heap _ _ _ _ _ _ (HA.out.later HB.out HA.out.lt)) Try.underlying25 rfl HI1.out) rfl ⟨rfl, below_setRow ((below_new w _).trans (HB.out.mono (by rw [size_alloc]; omega))) (Nat.le_refl _) _⟩
end Go.Proofs.Ytnlcndlfdnogaaa.N0
