/- lines, walked. -/
import Derived.Test.YtnlcndlfdnogaaaR0
set_option linter.unusedVariables false
set_option linter.unusedSimpArgs false
namespace Go.Proofs.Ytnlcndlfdnogaaa.R1
open Go.RowKit
open D0 M D2 D3 Rg K1 C1 S0 S1 S2 Z S3 S4 S5 R0
/-- An operation whose value is known whatever the memory. -/
theorem wp_known {P : Program} {w : World} {ops : Array Oper} {rest : List Oper} {o : Oper} {a : Act} {Q : Exit → Act → World → Prop} (hg : o.guard = none) (d : Nat) (hd : o.dst = some d) (u : Value)
    (hb : ∀ (a : Act) W, (execOp a.eval o).run P W = .ok (.value u) W) (h : wpList P ops Q rest (a.put o.dst u) w) : wpList P ops Q (o :: rest) a w := by
  refine wpList_plain hg fun K hK' => ?_
  unfold Oper.wp
  rw [hb]
  exact hK' _ _ h
theorem wp_build3 {P : Program} {w : World} {ops : Array Oper} {rest : List Oper} {o : Oper} {a : Act} {Q : Exit → Act → World → Prop} (hg : o.guard = none) (t : TypeId) (x y z : Operand) (hop : o.op = .build t #[(0, x), (1, y), (2, z)]) (vx vy vz u : Value) (hx : a.eval x = vx) (hy : a.eval y = vy) (hz : a.eval z = vz)
    (hb : ∀ W : World, (Instr.build t #[(0, vx), (1, vy), (2, vz)]).run P W = .ok u W) (h : wpList P ops Q rest (a.put o.dst u) w) : wpList P ops Q (o :: rest) a w := by
  refine wpList_plain hg fun K hK' => ?_
  unfold Oper.wp
  have hx' : execOp a.eval o = (do pure (.value (← Instr.build t #[(0, vx), (1, vy), (2, vz)]))) := by
    unfold execOp
    simp only [hop, List.map_toArray, List.map_cons, List.map_nil, hx, hy, hz]
  rw [hx', Sem.run_bind, hb]
  exact hK' _ _ h
set_option maxRecDepth 100000 in
theorem b1 : ∀ W : World, (Instr.build 74 #[(0, .agg (nums l1F).toArray), (1, .agg (nums s1F).toArray), (2, .agg (m32 k1F).toArray)]).run Try.prog W = .ok (.agg LA.toArray) W := fun W => by kernel_rfl
set_option maxRecDepth 100000 in
theorem b2 : ∀ W : World, (Instr.build 74 #[(0, .agg (nums l2F).toArray), (1, .agg (nums s2F).toArray), (2, .agg (m32 k2F).toArray)]).run Try.prog W = .ok (.agg LB.toArray) W := fun W => by kernel_rfl
set_option maxRecDepth 100000 in
theorem b3 : ∀ W : World, (Instr.build 75 #[(0, .agg LA.toArray), (1, .agg LB.toArray)]).run Try.prog W = .ok (.agg LN.toArray) W := fun W => by kernel_rfl
def ZL : List Value := nums (List.replicate 160 0#8) ++ m32 (List.replicate 5 0#32) ++ (nums (List.replicate 160 0#8) ++ m32 (List.replicate 5 0#32))
set_option maxRecDepth 100000 in
theorem zero75 : ∀ W : World, (zeroValue 75).run Try.prog W = .ok (.agg ZL.toArray) W := fun W => by kernel_rfl
theorem info75 : (Try.prog.info? 75).map (·.size) = some 330 := by kernel_rfl
theorem ZL_len : ZL.length = 330 := by simp [ZL, m32_len]
theorem LN_len : LN.length = 330 := by decide +kernel
theorem LN_one : LN.all (·.oneCell') = true := by simp [LN, LA, LB, nums, m32, Value.oneCell']
end Go.Proofs.Ytnlcndlfdnogaaa.R1
