/- blakeStart, sigma, walked. (printed by gen_bs.py) -/
import Derived.Test.YtnlcndlfdnogaaaBl
set_option linter.unusedVariables false
set_option linter.unusedSimpArgs false
namespace Go.Proofs.Ytnlcndlfdnogaaa.Bs
open Go.RowKit
open D0 M D2 D3 Rg K1 P
/-- An operation whose value is known whatever the memory. -/
theorem wp_known {P : Program} {w : World} {ops : Array Oper} {rest : List Oper} {o : Oper} {a : Act} {Q : Exit → Act → World → Prop} (hg : o.guard = none) (d : Nat) (hd : o.dst = some d) (u : Value)
    (hb : ∀ (a : Act) W, (execOp a.eval o).run P W = .ok (.value u) W) (h : wpList P ops Q rest (a.put o.dst u) w) : wpList P ops Q (o :: rest) a w := by
  refine wpList_plain hg fun K hK' => ?_
  unfold Oper.wp
  rw [hb]
  exact hK' _ _ h
def ivF : L := [0x6a09e667f3bcc908#64, 0xbb67ae8584caa73b#64, 0x3c6ef372fe94f82b#64, 0xa54ff53a5f1d36f1#64, 0x510e527fade682d1#64, 0x9b05688c2b3e6c1f#64, 0x1f83d9abfb41bd6b#64, 0x5be0cd19137e2179#64]
def sg0 : List Byte := [0#8, 1#8, 2#8, 3#8, 4#8, 5#8, 6#8, 7#8, 8#8, 9#8, 10#8, 11#8, 12#8, 13#8, 14#8, 15#8]
def sg1 : List Byte := [14#8, 10#8, 4#8, 8#8, 9#8, 15#8, 13#8, 6#8, 1#8, 12#8, 0#8, 2#8, 11#8, 7#8, 5#8, 3#8]
def sg2 : List Byte := [11#8, 8#8, 12#8, 0#8, 5#8, 2#8, 15#8, 13#8, 10#8, 14#8, 3#8, 6#8, 7#8, 1#8, 9#8, 4#8]
def sg3 : List Byte := [7#8, 9#8, 3#8, 1#8, 13#8, 12#8, 11#8, 14#8, 2#8, 6#8, 5#8, 10#8, 4#8, 0#8, 15#8, 8#8]
def sg4 : List Byte := [9#8, 0#8, 5#8, 7#8, 2#8, 4#8, 10#8, 15#8, 14#8, 1#8, 11#8, 12#8, 6#8, 8#8, 3#8, 13#8]
def sg5 : List Byte := [2#8, 12#8, 6#8, 10#8, 0#8, 11#8, 8#8, 3#8, 4#8, 13#8, 7#8, 5#8, 15#8, 14#8, 1#8, 9#8]
def sg6 : List Byte := [12#8, 5#8, 1#8, 15#8, 14#8, 13#8, 4#8, 10#8, 0#8, 7#8, 6#8, 3#8, 9#8, 2#8, 8#8, 11#8]
def sg7 : List Byte := [13#8, 11#8, 7#8, 14#8, 12#8, 1#8, 3#8, 9#8, 5#8, 0#8, 15#8, 4#8, 8#8, 6#8, 2#8, 10#8]
def sg8 : List Byte := [6#8, 15#8, 14#8, 9#8, 11#8, 3#8, 0#8, 8#8, 12#8, 2#8, 13#8, 7#8, 1#8, 4#8, 10#8, 5#8]
def sg9 : List Byte := [10#8, 2#8, 8#8, 4#8, 7#8, 6#8, 1#8, 5#8, 15#8, 11#8, 9#8, 14#8, 3#8, 12#8, 13#8, 0#8]
/-- The rows, one behind the other. -/
def SG : List Byte := sg0 ++ sg1 ++ sg2 ++ sg3 ++ sg4 ++ sg5 ++ sg6 ++ sg7 ++ sg8 ++ sg9
theorem wp_rows {w : World} {ops : Array Oper} {rest : List Oper} {o : Oper} {a : Act} {Q : Exit → Act → World → Prop} (hd : o.dst = some 11) (hg : o.guard = none) (hop : o.op = .build 86 #[(0, .tmp 1), (1, .tmp 2), (2, .tmp 3), (3, .tmp 4), (4, .tmp 5), (5, .tmp 6), (6, .tmp 7), (7, .tmp 8), (8, .tmp 9), (9, .tmp 10)]) (h0 : a.eval (.tmp 1) = .agg (nums sg0).toArray) (h1 : a.eval (.tmp 2) = .agg (nums sg1).toArray) (h2 : a.eval (.tmp 3) = .agg (nums sg2).toArray) (h3 : a.eval (.tmp 4) = .agg (nums sg3).toArray) (h4 : a.eval (.tmp 5) = .agg (nums sg4).toArray) (h5 : a.eval (.tmp 6) = .agg (nums sg5).toArray) (h6 : a.eval (.tmp 7) = .agg (nums sg6).toArray) (h7 : a.eval (.tmp 8) = .agg (nums sg7).toArray) (h8 : a.eval (.tmp 9) = .agg (nums sg8).toArray) (h9 : a.eval (.tmp 10) = .agg (nums sg9).toArray)
    (h : wpList Try.prog ops Q rest (a.put o.dst (.agg (nums SG).toArray)) w) : wpList Try.prog ops Q (o :: rest) a w := by
  refine wpList_plain hg fun K hK' => ?_
  unfold Oper.wp
  have hx' : execOp a.eval o = (do pure (.value (← Instr.build 86 #[(0, .agg (nums sg0).toArray), (1, .agg (nums sg1).toArray), (2, .agg (nums sg2).toArray), (3, .agg (nums sg3).toArray), (4, .agg (nums sg4).toArray), (5, .agg (nums sg5).toArray), (6, .agg (nums sg6).toArray), (7, .agg (nums sg7).toArray), (8, .agg (nums sg8).toArray), (9, .agg (nums sg9).toArray)]))) := by
    unfold execOp
    simp only [hop, List.map_toArray, List.map_cons, List.map_nil, h0, h1, h2, h3, h4, h5, h6, h7, h8, h9]
  have hb : ∀ W : World, (Instr.build 86 #[(0, .agg (nums sg0).toArray), (1, .agg (nums sg1).toArray), (2, .agg (nums sg2).toArray), (3, .agg (nums sg3).toArray), (4, .agg (nums sg4).toArray), (5, .agg (nums sg5).toArray), (6, .agg (nums sg6).toArray), (7, .agg (nums sg7).toArray), (8, .agg (nums sg8).toArray), (9, .agg (nums sg9).toArray)]).run Try.prog W = .ok (.agg (nums SG).toArray) W := fun W => by kernel_rfl
  rw [hx', Sem.run_bind, hb]
  exact hK' _ _ h
theorem zero86 : ∀ W : World, (zeroValue 86).run Try.prog W = .ok (.agg (nums (List.replicate 160 0#8)).toArray) W := fun W => by kernel_rfl
theorem info86 : (Try.prog.info? 86).map (·.size) = some 160 := by kernel_rfl
theorem info45 : (Try.prog.info? 45).map (·.size) = some 8 := by kernel_rfl
theorem SG_len : SG.length = 160 := by decide +kernel
theorem nums_all (l : List Byte) : (nums l).toArray.all (·.oneCell') = true := by simp [nums, Value.oneCell']
theorem zeros_len : (nums (List.replicate 160 0#8)).toArray.size = 160 := by simp
theorem wp_st {w : World} {ops : Array Oper} {rest : List Oper} {o : Oper} {a : Act} {Q : Exit → Act → World → Prop} (hd : o.dst = none) (hg : o.guard = none) (hop : o.op = .store 86 (.tmp 0) (.tmp 11)) (hx : a.eval (.tmp 0) = .pointer (some ⟨w.heap.size, 0, none⟩)) (hy : a.eval (.tmp 11) = .agg (nums SG).toArray)
    (h : wpList Try.prog ops Q rest (a.put o.dst undef) ((w.alloc (.cells (nums (List.replicate 160 0#8)).toArray 86)).setRow w.heap.size (nums SG).toArray)) : wpList Try.prog ops Q (o :: rest) a (w.alloc (.cells (nums (List.replicate 160 0#8)).toArray 86)) := by
  have HS : (nums SG).toArray.size = 160 := by rw [List.size_toArray, nums_length, SG_len]
  exact wpList_store_row hg 86 (.tmp 0) (.tmp 11) hop w.heap.size (nums SG).toArray hx hy 86 _ (block_new _ _) (by rw [HS]; exact info86) (zeros_len.trans HS.symm) (nums_all _) h
theorem zz : nums (List.replicate 160 0#8) = nums (List.replicate 160 0#8) := rfl
def Zs : List Byte := List.replicate 160 0#8
attribute [local irreducible] sg0 sg1 sg2 sg3 sg4 sg5 sg6 sg7 sg8 sg9 SG
set_option maxRecDepth 100000 in
set_option maxHeartbeats 4000000 in
theorem sigma44 (w : World) : Calls Try.prog 44 #[] w fun e w' => e = .returned (.agg (nums SG).toArray) ∧ Below w.heap.size w w' := by
  have HZ := zero86
  have HI : Hid ((Try.prog.info? 86).map (·.size) = some (nums SG).toArray.size) := by rw [List.size_toArray, nums_length, SG_len]; exact info86
  go_enter Try.func44, Try.ntmps44
  generalize hz : (nums (List.replicate 160 0#8)).toArray = zs at HZ
  go_wp2_with (first
    | (refine wp_known rfl 1 rfl (.agg (nums sg0).toArray) (fun _ _ => by kernel_rfl) ?_; simp only [Act.put, List.setIfInBounds_toArray, List.set_cons_zero, List.set_cons_succ])
    | (refine wp_known rfl 2 rfl (.agg (nums sg1).toArray) (fun _ _ => by kernel_rfl) ?_; simp only [Act.put, List.setIfInBounds_toArray, List.set_cons_zero, List.set_cons_succ])
    | (refine wp_known rfl 3 rfl (.agg (nums sg2).toArray) (fun _ _ => by kernel_rfl) ?_; simp only [Act.put, List.setIfInBounds_toArray, List.set_cons_zero, List.set_cons_succ])
    | (refine wp_known rfl 4 rfl (.agg (nums sg3).toArray) (fun _ _ => by kernel_rfl) ?_; simp only [Act.put, List.setIfInBounds_toArray, List.set_cons_zero, List.set_cons_succ])
    | (refine wp_known rfl 5 rfl (.agg (nums sg4).toArray) (fun _ _ => by kernel_rfl) ?_; simp only [Act.put, List.setIfInBounds_toArray, List.set_cons_zero, List.set_cons_succ])
    | (refine wp_known rfl 6 rfl (.agg (nums sg5).toArray) (fun _ _ => by kernel_rfl) ?_; simp only [Act.put, List.setIfInBounds_toArray, List.set_cons_zero, List.set_cons_succ])
    | (refine wp_known rfl 7 rfl (.agg (nums sg6).toArray) (fun _ _ => by kernel_rfl) ?_; simp only [Act.put, List.setIfInBounds_toArray, List.set_cons_zero, List.set_cons_succ])
    | (refine wp_known rfl 8 rfl (.agg (nums sg7).toArray) (fun _ _ => by kernel_rfl) ?_; simp only [Act.put, List.setIfInBounds_toArray, List.set_cons_zero, List.set_cons_succ])
    | (refine wp_known rfl 9 rfl (.agg (nums sg8).toArray) (fun _ _ => by kernel_rfl) ?_; simp only [Act.put, List.setIfInBounds_toArray, List.set_cons_zero, List.set_cons_succ])
    | (refine wp_known rfl 10 rfl (.agg (nums sg9).toArray) (fun _ _ => by kernel_rfl) ?_; simp only [Act.put, List.setIfInBounds_toArray, List.set_cons_zero, List.set_cons_succ])
    | (refine wp_rows rfl rfl rfl rfl rfl rfl rfl rfl rfl rfl rfl rfl rfl ?_; simp only [Act.put, List.setIfInBounds_toArray, List.set_cons_zero, List.set_cons_succ])
    | (subst hz; refine wp_st rfl rfl rfl rfl rfl ?_; simp only [Act.put, List.setIfInBounds_toArray, List.set_cons_zero, List.set_cons_succ]))
  exact bodyPost_ret (results_cell_row (P := Try.prog) rfl _ _ w.heap.size 86 (nums SG).toArray (0, 0) _ rfl (setRow_heap _ _ _ _ _ _ (block_new _ _)) Try.underlying86 rfl HI.out) rfl ⟨rfl, below_setRow (below_new _ _) (Nat.le_refl _) _⟩
set_option maxRecDepth 100000 in
set_option maxHeartbeats 1000000 in
theorem start43 (w : World) : Calls Try.prog 43 #[] w fun e w' => e = .returned (.agg (m64 ivF).toArray) ∧ Below w.heap.size w w' := by
  go_enter Try.func43, Try.ntmps43
  go_wp2
  refine bodyPost_ret (results_cell_row (P := Try.prog) rfl _ _ w.heap.size 45 _ (0, 0) _ rfl (block_new w _) Try.underlying45 rfl ?_) rfl ⟨rfl, below_new w _⟩
  kernel_rfl
end Go.Proofs.Ytnlcndlfdnogaaa.Bs
