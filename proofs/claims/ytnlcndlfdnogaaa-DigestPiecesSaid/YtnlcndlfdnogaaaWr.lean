/- Write and Sum of a sponge that was made. (printed by gen_wr.py) -/
import Derived.Test.YtnlcndlfdnogaaaN0
set_option linter.unusedVariables false
set_option linter.unusedSimpArgs false
namespace Go.Proofs.Ytnlcndlfdnogaaa.Wr
open Go.RowKit
open D0 M D2 D3 Rg K0 K1 K2 Aw N0
theorem cells_of {w : World} {g : Nat} {x y : Value} (hg : w.heap[g]? = some (.cells #[x, y] 38 (0, 0))) : w.cell? ⟨g, 0, none⟩ = some x ∧ w.cell? ⟨g, 1, none⟩ = some y ∧ w.frozen? ⟨g, 1, none⟩ = false := by
  refine ⟨by simp [World.cell?, hg], by simp [World.cell?, hg], ?_⟩
  exact Arr.frozen (vs := [x, y]) hg 1
set_option maxRecDepth 100000 in
set_option maxHeartbeats 4000000 in
theorem writeS (w : World) (g base lo hi : Nat) (sv pv : Value) (xs ys : List Byte) (hg : w.heap[g]? = some (.cells #[.int .i64 1, sv] 38 (0, 0))) (hs : Own w base sv xs) (hp : Bs w lo hi pv ys) (hne : sv.ownBlock ≠ some g) (hb : base ≤ w.heap.size) (hl : xs.length + ys.length ≤ 1073741824) :
    Calls Try.prog 19 #[.pointer (some ⟨g, 0, none⟩), pv] w fun e w' => e = .returned (.pointer (some ⟨g, 0, none⟩)) ∧ ∃ sv' w1, w' = w1.setCell ⟨g, 1, none⟩ sv' ∧ w.grownBy w1 sv.ownBlock ∧ Own w1 base sv' (xs ++ ys) ∧ (sv'.ownBlock = sv.ownBlock ∨ sv'.ownBlock = some w.heap.size) := by
  have hlt := (Array.getElem?_eq_some_iff.1 hg).1
  obtain ⟨c0, c1, fz⟩ := cells_of hg
  obtain ⟨A, c, rfl, hc1, hc2, hR⟩ := hp
  have hm3 : xs.length + ys.length ≤ maxLen := by unfold maxLen; omega
  have hm4 : (xs.length + ys.length) * 1 ≤ 140737488355328 := by omega
  have HM3 := Lib.hid hm3
  have HM4 := Lib.hid hm4
  have HR := Lib.hid hR
  have HS := Lib.hid hs
  have HB := Lib.hid hb
  have HK : Hid (∀ w', w.grownBy w' sv.ownBlock → w'.heap[g]? = some (.cells #[.int .i64 1, sv] 38 (0, 0))) := fun w' h => (h.block g hlt (fun e => hne e.symm)).trans hg
  clear hg hs hne hb hl hc1 hc2 hR hm3 hm4 hlt fz
  go_enter Try.func19, Try.ntmps19
  go_wp2_with (first
    | (at_builtin; refine wp_append rfl (.tmp 18) (.tmp 19) 22 5 (.int .u8 0) 1 1 rfl Try.underlying22 info5 rfl (by omega) base lo hi sv xs.length (nums xs) A ys.length c (nums ys) rfl rfl HS.out HR.out (nums_one _) HM3.out HM4.out HB.out ?_
       intro v4 w4 ho4 hg4 hb4
       have HG := Lib.hid hg4
       have HO : Hid (Own w4 base v4 (xs ++ ys)) := show w4.ownsRow base 5 1 v4 (xs ++ ys).length (nums (xs ++ ys)) by rw [List.length_append, nums_append]; exact ho4
       have HE := Lib.hid hb4
       obtain ⟨d0, d1, df⟩ := cells_of (HK.out _ hg4)
       clear ho4 hg4 hb4
       obtain ⟨A4, c4, hv4, _⟩ := HO.out.bs
       rw [List.length_append] at hv4
       subst hv4))
  go_ret
  exact ⟨rfl, _, w4, rfl, HG.out, HO.out, HE.out⟩
set_option maxRecDepth 100000 in
set_option maxHeartbeats 4000000 in
theorem sumS (w : World) (g lo hi : Nat) (sv : Value) (xs : List Byte) (hg : w.heap[g]? = some (.cells #[.int .i64 1, sv] 38 (0, 0))) (hs : Bs w lo hi sv xs) (hh : hi ≤ w.heap.size) (hl : xs.length ≤ 1073741824) :
    Calls Try.prog 20 #[.pointer (some ⟨g, 0, none⟩)] w fun e w' => e = .returned (.agg (nums (keccF xs)).toArray) ∧ Below w.heap.size w w' := by
  have hlt := (Array.getElem?_eq_some_iff.1 hg).1
  have HK : Hid (∀ W : World, Below w.heap.size w W → Calls Try.prog 10 #[sv] W fun e w' => e = .returned (.agg (nums (keccF xs)).toArray) ∧ Below W.heap.size W w') := fun W hW => kecc10 W lo hi sv xs (hs.keep (Same.of_below hW hh)) hl (Nat.le_trans hh hW.size)
  have lk := kecc_len xs
  generalize keccF xs = kf at *
  have HI1 : Hid ((Try.prog.info? 25).map (·.size) = some (nums kf).toArray.size) := by rw [show (nums kf).toArray.size = 32 by simp [lk]]; exact info25
  have HZ1 : Hid ((nums (List.replicate 32 0#8)).toArray.size = (nums kf).toArray.size) := show _ = _ by simp [lk]
  have HO : Hid ((nums kf).toArray.all (·.oneCell') = true) := show _ = _ by simp [nums, Value.oneCell']
  have HZ : Hid (∀ W : World, W.alloc (.cells #[.int .u8 0, .int .u8 0, .int .u8 0, .int .u8 0, .int .u8 0, .int .u8 0, .int .u8 0, .int .u8 0, .int .u8 0, .int .u8 0, .int .u8 0, .int .u8 0, .int .u8 0, .int .u8 0, .int .u8 0, .int .u8 0, .int .u8 0, .int .u8 0, .int .u8 0, .int .u8 0, .int .u8 0, .int .u8 0, .int .u8 0, .int .u8 0, .int .u8 0, .int .u8 0, .int .u8 0, .int .u8 0, .int .u8 0, .int .u8 0, .int .u8 0, .int .u8 0] 25) = W.alloc (.cells (nums (List.replicate 32 0#8)).toArray 25)) := fun _ => rfl
  have HA : Hid (Arr (w.alloc (.cells (nums (List.replicate 32 0#8)).toArray 25)) w.heap.size 25 (nums (List.replicate 32 0#8))) := Arr.new w (nums (List.replicate 32 0#8)) 25
  have hg1 : (w.alloc (.cells #[.int .u8 0, .int .u8 0, .int .u8 0, .int .u8 0, .int .u8 0, .int .u8 0, .int .u8 0, .int .u8 0, .int .u8 0, .int .u8 0, .int .u8 0, .int .u8 0, .int .u8 0, .int .u8 0, .int .u8 0, .int .u8 0, .int .u8 0, .int .u8 0, .int .u8 0, .int .u8 0, .int .u8 0, .int .u8 0, .int .u8 0, .int .u8 0, .int .u8 0, .int .u8 0, .int .u8 0, .int .u8 0, .int .u8 0, .int .u8 0, .int .u8 0, .int .u8 0] 25)).heap[g]? = some (.cells #[.int .i64 1, sv] 38 (0, 0)) := (Below.heap_alloc _ _ _ hlt).trans hg
  have HBN : Hid (Below w.heap.size w (w.alloc (.cells #[.int .u8 0, .int .u8 0, .int .u8 0, .int .u8 0, .int .u8 0, .int .u8 0, .int .u8 0, .int .u8 0, .int .u8 0, .int .u8 0, .int .u8 0, .int .u8 0, .int .u8 0, .int .u8 0, .int .u8 0, .int .u8 0, .int .u8 0, .int .u8 0, .int .u8 0, .int .u8 0, .int .u8 0, .int .u8 0, .int .u8 0, .int .u8 0, .int .u8 0, .int .u8 0, .int .u8 0, .int .u8 0, .int .u8 0, .int .u8 0, .int .u8 0, .int .u8 0] 25))) := below_new w _
  obtain ⟨c0, c1, fz⟩ := cells_of hg1
  clear lk hs hh hl hg hg1 hlt fz
  go_enter Try.func20, Try.ntmps20
  go_wp2_with (first
    | (go_at_call 10; refine (HK.out _ HBN.out).mono ?_
       rintro e w2 ⟨rfl, hb⟩
       rw [HZ.out] at hb
       have HB := Lib.hid hb
       clear hb)
    | (refine wpList_store_row rfl 25 (.tmp 2) (.tmp 17) rfl w.heap.size (nums kf).toArray rfl rfl 25 (nums (List.replicate 32 0#8)).toArray (HA.out.later HB.out HA.out.lt) HI1.out HZ1.out HO.out ?_))
  refine bodyPost_ret (results_cell_row (P := Try.prog) rfl _ _ w.heap.size 25 (nums kf).toArray (0, 0) _ rfl (setRow_heap _ _ _ _ _ _ (HA.out.later HB.out HA.out.lt)) Try.underlying25 rfl HI1.out) rfl ⟨rfl, below_setRow ((below_new w _).trans (HB.out.mono (by rw [size_alloc]; omega))) (Nat.le_refl _) _⟩
end Go.Proofs.Ytnlcndlfdnogaaa.Wr
