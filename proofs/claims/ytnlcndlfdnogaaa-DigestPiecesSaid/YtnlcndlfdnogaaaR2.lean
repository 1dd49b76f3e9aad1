/- lines, walked. -/
import Derived.Test.YtnlcndlfdnogaaaR1
set_option linter.unusedVariables false
set_option linter.unusedSimpArgs false
namespace Go.Proofs.Ytnlcndlfdnogaaa.R2
open Go.RowKit
open D0 M D2 D3 Rg K1 C1 S0 S1 S2 Z S3 S4 S5 R0 R1
attribute [local irreducible] ZL
attribute [local irreducible] l1F s1F k1F l2F s2F k2F LN LA LB
theorem wp_b1 {w : World} {ops : Array Oper} {rest : List Oper} {o : Oper} {a : Act} {Q : Exit → Act → World → Prop} (hd : o.dst = some 4) (hg : o.guard = none) (hop : o.op = .build 74 #[(0, .tmp 1), (1, .tmp 2), (2, .tmp 3)]) (hx : a.eval (.tmp 1) = .agg (nums l1F).toArray) (hy : a.eval (.tmp 2) = .agg (nums s1F).toArray) (hz : a.eval (.tmp 3) = .agg (m32 k1F).toArray)
    (h : wpList Try.prog ops Q rest (a.put o.dst (.agg LA.toArray)) w) : wpList Try.prog ops Q (o :: rest) a w := wp_build3 hg 74 _ _ _ hop _ _ _ _ hx hy hz b1 h
theorem wp_b2 {w : World} {ops : Array Oper} {rest : List Oper} {o : Oper} {a : Act} {Q : Exit → Act → World → Prop} (hd : o.dst = some 8) (hg : o.guard = none) (hop : o.op = .build 74 #[(0, .tmp 5), (1, .tmp 6), (2, .tmp 7)]) (hx : a.eval (.tmp 5) = .agg (nums l2F).toArray) (hy : a.eval (.tmp 6) = .agg (nums s2F).toArray) (hz : a.eval (.tmp 7) = .agg (m32 k2F).toArray)
    (h : wpList Try.prog ops Q rest (a.put o.dst (.agg LB.toArray)) w) : wpList Try.prog ops Q (o :: rest) a w := wp_build3 hg 74 _ _ _ hop _ _ _ _ hx hy hz b2 h
set_option maxRecDepth 100000 in
theorem wp_b3 {w : World} {ops : Array Oper} {rest : List Oper} {o : Oper} {a : Act} {Q : Exit → Act → World → Prop} (hd : o.dst = some 9) (hg : o.guard = none) (hop : o.op = .build 75 #[(0, .tmp 4), (1, .tmp 8)]) (hx : a.eval (.tmp 4) = .agg LA.toArray) (hy : a.eval (.tmp 8) = .agg LB.toArray)
    (h : wpList Try.prog ops Q rest (a.put o.dst (.agg LN.toArray)) w) : wpList Try.prog ops Q (o :: rest) a w := wp_build2 hg 75 _ _ hop _ _ _ hx hy b3 h
theorem wp_st {w : World} {ops : Array Oper} {rest : List Oper} {o : Oper} {a : Act} {Q : Exit → Act → World → Prop} (hd : o.dst = none) (hg : o.guard = none) (hop : o.op = .store 75 (.tmp 0) (.tmp 9)) (hx : a.eval (.tmp 0) = .pointer (some ⟨w.heap.size, 0, none⟩)) (hy : a.eval (.tmp 9) = .agg LN.toArray)
    (h : wpList Try.prog ops Q rest (a.put o.dst undef) ((w.alloc (.cells ZL.toArray 75)).setRow w.heap.size LN.toArray)) : wpList Try.prog ops Q (o :: rest) a (w.alloc (.cells ZL.toArray 75)) := by
  have HS : ZL.toArray.size = LN.toArray.size := by rw [List.size_toArray, List.size_toArray, ZL_len, LN_len]
  have HI : (Try.prog.info? 75).map (·.size) = some LN.toArray.size := by rw [List.size_toArray, LN_len]; exact info75
  have HO : LN.toArray.all (·.oneCell') = true := by rw [← LN_one]; exact List.all_toArray
  exact wpList_store_row hg 75 (.tmp 0) (.tmp 9) hop w.heap.size LN.toArray hx hy 75 ZL.toArray (block_new _ _) HI HS HO h
set_option maxRecDepth 100000 in
set_option maxHeartbeats 4000000 in
theorem lines37 (w : World) : Calls Try.prog 37 #[] w fun e w' => e = .returned (.agg LN.toArray) ∧ Below w.heap.size w w' := by
  have hz75 := zero75
  have HI : Hid ((Try.prog.info? 75).map (·.size) = some LN.toArray.size) := by rw [List.size_toArray, LN_len]; exact info75
  go_enter Try.func37, Try.ntmps37
  go_wp2_with (first
    | (refine wp_known rfl 1 rfl (.agg (nums l1F).toArray) (fun _ _ => by kernel_rfl) ?_; simp only [Act.put, List.setIfInBounds_toArray, List.set_cons_zero, List.set_cons_succ])
    | (refine wp_known rfl 2 rfl (.agg (nums s1F).toArray) (fun _ _ => by kernel_rfl) ?_; simp only [Act.put, List.setIfInBounds_toArray, List.set_cons_zero, List.set_cons_succ])
    | (refine wp_known rfl 3 rfl (.agg (m32 k1F).toArray) (fun _ _ => by kernel_rfl) ?_; simp only [Act.put, List.setIfInBounds_toArray, List.set_cons_zero, List.set_cons_succ])
    | (refine wp_known rfl 5 rfl (.agg (nums l2F).toArray) (fun _ _ => by kernel_rfl) ?_; simp only [Act.put, List.setIfInBounds_toArray, List.set_cons_zero, List.set_cons_succ])
    | (refine wp_known rfl 6 rfl (.agg (nums s2F).toArray) (fun _ _ => by kernel_rfl) ?_; simp only [Act.put, List.setIfInBounds_toArray, List.set_cons_zero, List.set_cons_succ])
    | (refine wp_known rfl 7 rfl (.agg (m32 k2F).toArray) (fun _ _ => by kernel_rfl) ?_; simp only [Act.put, List.setIfInBounds_toArray, List.set_cons_zero, List.set_cons_succ])
    | (refine wp_b1 rfl rfl rfl rfl rfl rfl ?_; simp only [Act.put, List.setIfInBounds_toArray, List.set_cons_zero, List.set_cons_succ])
    | (refine wp_b2 rfl rfl rfl rfl rfl rfl ?_; simp only [Act.put, List.setIfInBounds_toArray, List.set_cons_zero, List.set_cons_succ])
    | (refine wp_b3 rfl rfl rfl rfl rfl ?_; simp only [Act.put, List.setIfInBounds_toArray, List.set_cons_zero, List.set_cons_succ])
    | (refine wp_st rfl rfl rfl rfl rfl ?_; simp only [Act.put, List.setIfInBounds_toArray, List.set_cons_zero, List.set_cons_succ]))
  refine bodyPost_ret (results_cell_row (P := Try.prog) rfl _ _ w.heap.size 75 LN.toArray (0, 0) _ rfl (setRow_heap _ _ _ _ _ _ (block_new _ _)) Try.underlying75 rfl HI.out) rfl ⟨rfl, below_setRow (below_new _ _) (Nat.le_refl _) _⟩
end Go.Proofs.Ytnlcndlfdnogaaa.R2
