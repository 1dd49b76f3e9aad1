/- SHA-256: the first state, the keys. -/
import Derived.Test.YtnlcndlfdnogaaaC1
set_option linter.unusedVariables false
set_option linter.unusedSimpArgs false
namespace Go.Proofs.Ytnlcndlfdnogaaa.S0
open Go.RowKit
open D0 M D2 D3 Rg C1
attribute [local go_sem] xor64 and64 or64 xor32 and32 or32 andNot32 add64 add32 unary64 unary32 not64 not32 shl64 shr64 shl32 shr32
def shaStartF : List (BitVec 32) := [0x6a09e667#32, 0xbb67ae85#32, 0x3c6ef372#32, 0xa54ff53a#32, 0x510e527f#32, 0x9b05688c#32, 0x1f83d9ab#32, 0x5be0cd19#32]
set_option maxRecDepth 100000 in
set_option maxHeartbeats 1000000 in
theorem start29 (w : World) : Calls Try.prog 29 #[] w fun e w' => e = .returned (.agg (m32 shaStartF).toArray) ∧ Below w.heap.size w w' := by
  go_enter Try.func29, Try.ntmps29
  go_wp2
  refine bodyPost_ret (results_cell_row (P := Try.prog) rfl _ _ w.heap.size 60 _ (0, 0) _ rfl (block_new w _) Try.underlying60 rfl ?_) rfl ⟨rfl, below_new w _⟩
  kernel_rfl
end Go.Proofs.Ytnlcndlfdnogaaa.S0
