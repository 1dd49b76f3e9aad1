/- The reference's roots: mul, cube, root, walked. -/
import Derived.Test.YtnlcndlfdnogaaaS1
import Derived.Test.YtnlcndlfdnogaaaBl
set_option linter.unusedVariables false
set_option linter.unusedSimpArgs false
namespace Go.Proofs.Ytnlcndlfdnogaaa.Mc
open Go.RowKit
open D0 M D2 D3 Rg C1 S1 Bl
theorem mulw64 (x y : BitVec 64) : IntKind.u64.wrap (n64 x * n64 y) = n64 (x * y) := by
  rw [wrap_u64]
  unfold n64
  rw [BitVec.toNat_mul, Int.natCast_emod, Int.natCast_mul]
  rfl
attribute [local go_sem] addw64 mulw64 xor64 and64 or64 xor32 and32 or32 andNot32 add64 add32 unary64 unary32 not64 not32
attribute [local go_sem high] shiftl64 shiftr64 shiftl32 shiftr32
def mulF (a b : BitVec 64) : BitVec 64 × BitVec 64 :=
  let lo := (a &&& 262143#64) * (b &&& 262143#64)
  let mid := (a &&& 262143#64) * (b >>> 18) + (a >>> 18) * (b &&& 262143#64)
  let lo2 := lo + (mid &&& 262143#64) <<< 18
  (lo2 &&& 68719476735#64, (a >>> 18) * (b >>> 18) + mid >>> 18 + lo2 >>> 36)
set_option maxRecDepth 100000 in
set_option maxHeartbeats 1000000 in
theorem mul57 (a b : BitVec 64) (w : World) : Calls Try.prog 57 #[.int .u64 (n64 a), .int .u64 (n64 b)] w fun e w' => e = .returned (.agg #[.int .u64 (n64 (mulF a b).1), .int .u64 (n64 (mulF a b).2)]) ∧ Below w.heap.size w w' := by
  have h1 : (262143 : Int) = n64 262143#64 := rfl
  have h2 : (68719476735 : Int) = n64 68719476735#64 := rfl
  have hm1 : ∀ x : BitVec 64, bits .and .u64 (n64 x) 262143 = n64 (x &&& 262143#64) := fun x => and64 x 262143#64
  have hm2 : ∀ x : BitVec 64, bits .and .u64 (n64 x) 68719476735 = n64 (x &&& 68719476735#64) := fun x => and64 x 68719476735#64
  clear h1 h2
  have hml := mulw64
  go_enter Try.func57, Try.ntmps57
  go_wp2_with fail
  refine bodyPost_ret (results_cell_row (P := Try.prog) rfl _ _ w.heap.size 48 _ (0, 0) _ rfl (block_new w _) Try.underlying48 rfl ?_) rfl ⟨rfl, below_new w _⟩
  kernel_rfl
theorem run_neqI (ρ : Operand → Value) (w : World) (o : Oper) (x y : Operand) (u v : Int) (hne : u ≠ v) (ho : o.op = .binOp .neq 32 x y 32) (h1 : ρ x = .int .u64 u) (h2 : ρ y = .int .u64 v) : (execOp ρ o).run Try.prog w = .ok (.value (.bool true)) w := by
  have hm : Try.prog.eqGuardType Try.prog.depth 32 = false := by kernel_rfl
  unfold execOp; rw [ho]; simp [go_sem, h1, h2, hne, hm, Try.underlying32]
theorem run_lssI (ρ : Operand → Value) (w : World) (o : Oper) (x y : Operand) (u v : Int) (ho : o.op = .binOp .lss 32 x y 32) (h1 : ρ x = .int .u64 u) (h2 : ρ y = .int .u64 v) : (execOp ρ o).run Try.prog w = .ok (.value (.bool (decide (u < v)))) w := by
  unfold execOp; rw [ho]; simp [go_sem, h1, h2, Try.underlying32]
theorem wp_neq {w : World} {ops : Array Oper} {rest : List Oper} {o : Oper} {a : Act} {Q : Exit → Act → World → Prop} (hg : o.guard = none) (x y : Operand) (u v : Int) (hop : o.op = .binOp .neq 32 x y 32) (hx : a.eval x = .int .u64 u) (hy : a.eval y = .int .u64 v) (hne : u ≠ v)
    (h : wpList Try.prog ops Q rest (a.put o.dst (.bool true)) w) : wpList Try.prog ops Q (o :: rest) a w := by
  refine wpList_plain hg fun K hK' => ?_
  unfold Oper.wp
  have hr := run_neqI a.eval w o x y u v hne hop hx hy
  rw [hr]
  exact hK' _ _ h
theorem wp_lss {w : World} {ops : Array Oper} {rest : List Oper} {o : Oper} {a : Act} {Q : Exit → Act → World → Prop} (hg : o.guard = none) (x y : Operand) (u v : Int) (hop : o.op = .binOp .lss 32 x y 32) (hx : a.eval x = .int .u64 u) (hy : a.eval y = .int .u64 v) (b : Bool) (hb : b = decide (u < v))
    (h : wpList Try.prog ops Q rest (a.put o.dst (.bool b)) w) : wpList Try.prog ops Q (o :: rest) a w := by
  refine wpList_plain hg fun K hK' => ?_
  unfold Oper.wp
  have hr := run_lssI a.eval w o x y u v hop hx hy
  rw [← hb] at hr
  rw [hr]
  exact hK' _ _ h
/-- Whether a cube is at most so much. -/
def cubeR (x p : BitVec 64) : Bool :=
  let s := mulF x x
  let l := mulF s.1 x
  let h := mulF s.2 x
  let z1 := l.2 + h.1
  let z2 := h.2 + z1 >>> 36
  if z2 = p <<< 24 then (z1 &&& 68719476735#64 == 0#64) && (l.1 == 0#64) else decide (n64 z2 < n64 (p <<< 24))
set_option maxRecDepth 100000 in
set_option maxHeartbeats 2000000 in
theorem cube50 (x p : BitVec 64) (w : World) : Calls Try.prog 50 #[.int .u64 (n64 x), .int .u64 (n64 p)] w fun e w' => e = .returned (.bool (cubeR x p)) ∧ Below w.heap.size w w' := by
  have hm2 : ∀ x : BitVec 64, bits .and .u64 (n64 x) 68719476735 = n64 (x &&& 68719476735#64) := fun x => and64 x 68719476735#64
  have H1 := Lib.hid (mul57 x x)
  have H2 := Lib.hid (mul57 (mulF x x).1 x)
  have H3 := Lib.hid (mul57 (mulF x x).2 x)
  have hcr : cubeR x p = (let l := mulF (mulF x x).1 x; let h := mulF (mulF x x).2 x; let z1 := l.2 + h.1; let z2 := h.2 + z1 >>> 36; if z2 = p <<< 24 then (z1 &&& 68719476735#64 == 0#64) && (l.1 == 0#64) else decide (n64 z2 < n64 (p <<< 24))) := rfl
  simp only at hcr
  generalize (mulF x x).1 = s0 at *
  generalize (mulF x x).2 = s1 at *
  generalize (mulF s0 x).1 = l0 at *
  generalize (mulF s0 x).2 = l1 at *
  generalize (mulF s1 x).1 = hh0 at *
  generalize (mulF s1 x).2 = hh1 at *
  generalize hz2 : hh1 + (l1 + hh0) >>> 36 = z2 at *
  generalize hz1 : (l1 + hh0) &&& 68719476735#64 = z1 at *
  generalize hq : p <<< 24 = q at *
  have HCR := Lib.hid hcr
  clear hcr
  by_cases h0 : z2 = q
  · subst h0
    have hqq : decide (n64 z2 = n64 z2) = true := decide_eq_true rfl
    by_cases h1 : z1 = 0#64
    · have H1Z : Hid (n64 z1 = 0) := show n64 z1 = 0 by rw [h1]; rfl
      by_cases h2 : l0 = 0#64
      · have H2Z : Hid (n64 l0 = 0) := show n64 l0 = 0 by rw [h2]; rfl
        have HV : Hid (cubeR x p = true) := show _ = _ by rw [HCR.out, if_pos rfl, h1, h2]; rfl
        clear h1 h2 HCR
        go_enter Try.func50, Try.ntmps50
        go_wp2_with (first
          | (go_at_call 57; refine (H1.out _).mono ?_
             rintro e w1 ⟨rfl, hb1'⟩
             have HB1 := Lib.hid hb1'
             clear hb1' H1)
          | (go_at_call 57; refine (H2.out _).mono ?_
             rintro e w2 ⟨rfl, hb2⟩
             have d1 : w2.cell? ⟨w1.heap.size, 1, none⟩ = some (.int .u64 (n64 s1)) := ((Arr.new w1 [.int .u64 (n64 s0), .int .u64 (n64 s1)] 48).later hb2 (by rw [size_alloc]; omega)).cell rfl
             have z1' : w1.heap.size < w2.heap.size := by have := hb2.size; rw [size_alloc] at this; omega
             have HB2 := Lib.hid ((HB1.out.alloc HB1.out.size _).trans (hb2.mono (by have := HB1.out.size; rw [size_alloc]; omega)))
             clear hb2 H2)
          | (go_at_call 57; refine (H3.out _).mono ?_
             rintro e w3 ⟨rfl, hb3⟩
             have HA3 := Lib.hid ((Arr.new w2 [.int .u64 (n64 l0), .int .u64 (n64 l1)] 48).later hb3 (by rw [size_alloc]; omega))
             have HB3 := Lib.hid ((HB2.out.alloc HB2.out.size _).trans (hb3.mono (by have := HB2.out.size; rw [size_alloc]; omega)))
             clear hb3 H3 d1 z1')
          | (obtain ⟨w4, hw4⟩ : ∃ w4, w4 = w3.alloc (.cells #[.int .u64 (n64 hh0), .int .u64 (n64 hh1)] 48) := ⟨_, rfl⟩
             rw [← hw4]
             have a6 : Arr w4 w2.heap.size 48 [.int .u64 (n64 l0), .int .u64 (n64 l1)] := by rw [hw4]; exact HA3.out.alloc _
             have a7 : Arr w4 w3.heap.size 48 [.int .u64 (n64 hh0), .int .u64 (n64 hh1)] := by rw [hw4]; exact Arr.new _ _ _
             have HB4 : Hid (Below w.heap.size w w4) := show Below _ _ _ by rw [hw4]; exact HB3.out.alloc HB3.out.size _
             have d2 := a6.cell (i := 0) rfl
             have d3 := a6.cell (i := 1) rfl
             have d4 := a7.cell (i := 0) rfl
             have d5 := a7.cell (i := 1) rfl
             have y6 := a6.lt
             have y7 := a7.lt
             clear hw4 a6 a7 HA3)
          | (obtain ⟨w5, hw5⟩ : ∃ w5, w5 = w4.alloc (.cells #[.int .u64 (n64 l0), .int .u64 (n64 z1), .int .u64 (n64 z2), .int .u64 0] 103) := ⟨_, rfl⟩
             rw [← hw5]
             have a8 : Arr w5 w4.heap.size 103 [.int .u64 (n64 l0), .int .u64 (n64 z1), .int .u64 (n64 z2), .int .u64 0] := by rw [hw5]; exact Arr.new _ _ _
             have HB5 : Hid (Below w.heap.size w w5) := show Below _ _ _ by rw [hw5]; exact HB4.out.alloc HB4.out.size _
             have g0 : w5.cell? ⟨w4.heap.size, 0, none⟩ = some (.int .u64 0) := by rw [a8.cell (i := 0) rfl, H2Z.out]
             have g1 : w5.cell? ⟨w4.heap.size, 1, none⟩ = some (.int .u64 0) := by rw [a8.cell (i := 1) rfl, H1Z.out]
             have g2 : w5.cell? ⟨w4.heap.size, 2, none⟩ = some (.int .u64 (n64 z2)) := a8.cell (i := 2) rfl
             have y8 := a8.lt
             clear hw5 a8 d2 d3 d4 d5 y6 y7))
        go_ret
        exact ⟨by rw [HV.out]; rfl, HB5.out.alloc HB5.out.size _⟩
      · have f2 : (n64 l0 == 0) = false := by rw [beq_eq_false_iff_ne]; exact fun e => h2 (inj64.1 e)
        have f3 : decide (n64 l0 = 0) = false := decide_eq_false fun e => h2 (inj64.1 e)
        have HV : Hid (cubeR x p = false) := show _ = _ by rw [HCR.out, if_pos rfl, h1]; simp [h2]
        clear h1 h2 HCR
        go_enter Try.func50, Try.ntmps50
        go_wp2_with (first
          | (go_at_call 57; refine (H1.out _).mono ?_
             rintro e w1 ⟨rfl, hb1'⟩
             have HB1 := Lib.hid hb1'
             clear hb1' H1)
          | (go_at_call 57; refine (H2.out _).mono ?_
             rintro e w2 ⟨rfl, hb2⟩
             have d1 : w2.cell? ⟨w1.heap.size, 1, none⟩ = some (.int .u64 (n64 s1)) := ((Arr.new w1 [.int .u64 (n64 s0), .int .u64 (n64 s1)] 48).later hb2 (by rw [size_alloc]; omega)).cell rfl
             have z1' : w1.heap.size < w2.heap.size := by have := hb2.size; rw [size_alloc] at this; omega
             have HB2 := Lib.hid ((HB1.out.alloc HB1.out.size _).trans (hb2.mono (by have := HB1.out.size; rw [size_alloc]; omega)))
             clear hb2 H2)
          | (go_at_call 57; refine (H3.out _).mono ?_
             rintro e w3 ⟨rfl, hb3⟩
             have HA3 := Lib.hid ((Arr.new w2 [.int .u64 (n64 l0), .int .u64 (n64 l1)] 48).later hb3 (by rw [size_alloc]; omega))
             have HB3 := Lib.hid ((HB2.out.alloc HB2.out.size _).trans (hb3.mono (by have := HB2.out.size; rw [size_alloc]; omega)))
             clear hb3 H3 d1 z1')
          | (obtain ⟨w4, hw4⟩ : ∃ w4, w4 = w3.alloc (.cells #[.int .u64 (n64 hh0), .int .u64 (n64 hh1)] 48) := ⟨_, rfl⟩
             rw [← hw4]
             have a6 : Arr w4 w2.heap.size 48 [.int .u64 (n64 l0), .int .u64 (n64 l1)] := by rw [hw4]; exact HA3.out.alloc _
             have a7 : Arr w4 w3.heap.size 48 [.int .u64 (n64 hh0), .int .u64 (n64 hh1)] := by rw [hw4]; exact Arr.new _ _ _
             have HB4 : Hid (Below w.heap.size w w4) := show Below _ _ _ by rw [hw4]; exact HB3.out.alloc HB3.out.size _
             have d2 := a6.cell (i := 0) rfl
             have d3 := a6.cell (i := 1) rfl
             have d4 := a7.cell (i := 0) rfl
             have d5 := a7.cell (i := 1) rfl
             have y6 := a6.lt
             have y7 := a7.lt
             clear hw4 a6 a7 HA3)
          | (obtain ⟨w5, hw5⟩ : ∃ w5, w5 = w4.alloc (.cells #[.int .u64 (n64 l0), .int .u64 (n64 z1), .int .u64 (n64 z2), .int .u64 0] 103) := ⟨_, rfl⟩
             rw [← hw5]
             have a8 : Arr w5 w4.heap.size 103 [.int .u64 (n64 l0), .int .u64 (n64 z1), .int .u64 (n64 z2), .int .u64 0] := by rw [hw5]; exact Arr.new _ _ _
             have HB5 : Hid (Below w.heap.size w w5) := show Below _ _ _ by rw [hw5]; exact HB4.out.alloc HB4.out.size _
             have g0 : w5.cell? ⟨w4.heap.size, 0, none⟩ = some (.int .u64 (n64 l0)) := a8.cell (i := 0) rfl
             have g1 : w5.cell? ⟨w4.heap.size, 1, none⟩ = some (.int .u64 0) := by rw [a8.cell (i := 1) rfl, H1Z.out]
             have g2 : w5.cell? ⟨w4.heap.size, 2, none⟩ = some (.int .u64 (n64 z2)) := a8.cell (i := 2) rfl
             have y8 := a8.lt
             clear hw5 a8 d2 d3 d4 d5 y6 y7))
        go_ret
        exact ⟨by rw [HV.out]; rfl, HB5.out.alloc HB5.out.size _⟩
    · have f1 : (n64 z1 == 0) = false := by rw [beq_eq_false_iff_ne]; exact fun e => h1 (inj64.1 e)
      have f3 : decide (n64 z1 = 0) = false := decide_eq_false fun e => h1 (inj64.1 e)
      have HV : Hid (cubeR x p = false) := show _ = _ by rw [HCR.out, if_pos rfl]; simp [h1]
      clear h1 HCR
      go_enter Try.func50, Try.ntmps50
      go_wp2_with (first
        | (go_at_call 57; refine (H1.out _).mono ?_
           rintro e w1 ⟨rfl, hb1'⟩
           have HB1 := Lib.hid hb1'
           clear hb1' H1)
        | (go_at_call 57; refine (H2.out _).mono ?_
           rintro e w2 ⟨rfl, hb2⟩
           have d1 : w2.cell? ⟨w1.heap.size, 1, none⟩ = some (.int .u64 (n64 s1)) := ((Arr.new w1 [.int .u64 (n64 s0), .int .u64 (n64 s1)] 48).later hb2 (by rw [size_alloc]; omega)).cell rfl
           have z1' : w1.heap.size < w2.heap.size := by have := hb2.size; rw [size_alloc] at this; omega
           have HB2 := Lib.hid ((HB1.out.alloc HB1.out.size _).trans (hb2.mono (by have := HB1.out.size; rw [size_alloc]; omega)))
           clear hb2 H2)
        | (go_at_call 57; refine (H3.out _).mono ?_
           rintro e w3 ⟨rfl, hb3⟩
           have HA3 := Lib.hid ((Arr.new w2 [.int .u64 (n64 l0), .int .u64 (n64 l1)] 48).later hb3 (by rw [size_alloc]; omega))
           have HB3 := Lib.hid ((HB2.out.alloc HB2.out.size _).trans (hb3.mono (by have := HB2.out.size; rw [size_alloc]; omega)))
           clear hb3 H3 d1 z1')
        | (obtain ⟨w4, hw4⟩ : ∃ w4, w4 = w3.alloc (.cells #[.int .u64 (n64 hh0), .int .u64 (n64 hh1)] 48) := ⟨_, rfl⟩
           rw [← hw4]
           have a6 : Arr w4 w2.heap.size 48 [.int .u64 (n64 l0), .int .u64 (n64 l1)] := by rw [hw4]; exact HA3.out.alloc _
           have a7 : Arr w4 w3.heap.size 48 [.int .u64 (n64 hh0), .int .u64 (n64 hh1)] := by rw [hw4]; exact Arr.new _ _ _
           have HB4 : Hid (Below w.heap.size w w4) := show Below _ _ _ by rw [hw4]; exact HB3.out.alloc HB3.out.size _
           have d2 := a6.cell (i := 0) rfl
           have d3 := a6.cell (i := 1) rfl
           have d4 := a7.cell (i := 0) rfl
           have d5 := a7.cell (i := 1) rfl
           have y6 := a6.lt
           have y7 := a7.lt
           clear hw4 a6 a7 HA3)
        | (obtain ⟨w5, hw5⟩ : ∃ w5, w5 = w4.alloc (.cells #[.int .u64 (n64 l0), .int .u64 (n64 z1), .int .u64 (n64 z2), .int .u64 0] 103) := ⟨_, rfl⟩
           rw [← hw5]
           have a8 : Arr w5 w4.heap.size 103 [.int .u64 (n64 l0), .int .u64 (n64 z1), .int .u64 (n64 z2), .int .u64 0] := by rw [hw5]; exact Arr.new _ _ _
           have HB5 : Hid (Below w.heap.size w w5) := show Below _ _ _ by rw [hw5]; exact HB4.out.alloc HB4.out.size _
           have g0 : w5.cell? ⟨w4.heap.size, 0, none⟩ = some (.int .u64 (n64 l0)) := a8.cell (i := 0) rfl
           have g1 : w5.cell? ⟨w4.heap.size, 1, none⟩ = some (.int .u64 (n64 z1)) := a8.cell (i := 1) rfl
           have g2 : w5.cell? ⟨w4.heap.size, 2, none⟩ = some (.int .u64 (n64 z2)) := a8.cell (i := 2) rfl
           have y8 := a8.lt
           clear hw5 a8 d2 d3 d4 d5 y6 y7))
      go_ret
      exact ⟨by rw [HV.out]; rfl, HB5.out.alloc HB5.out.size _⟩
  · have f1 : (n64 z2 == n64 q) = false := by rw [beq_eq_false_iff_ne]; exact fun e => h0 (inj64.1 e)
    have f3 : decide (n64 z2 = n64 q) = false := decide_eq_false fun e => h0 (inj64.1 e)
    have HV : Hid (cubeR x p = decide (n64 z2 < n64 q)) := HCR.out.trans (if_neg h0)
    clear h0 HCR
    generalize hA : n64 z2 = az at *
    generalize hB : n64 q = bq at *
    have HNE : Hid (az ≠ bq) := show az ≠ bq from of_decide_eq_false f3
    obtain ⟨bb, hbb⟩ : ∃ bb, bb = decide (az < bq) := ⟨_, rfl⟩
    have HBB := Lib.hid hbb
    rw [← hbb] at HV
    clear hbb f1 f3
    go_enter Try.func50, Try.ntmps50
    go_wp2_with (first
      | (go_at_call 57; refine (H1.out _).mono ?_
         rintro e w1 ⟨rfl, hb1'⟩
         have HB1 := Lib.hid hb1'
         clear hb1' H1)
      | (go_at_call 57; refine (H2.out _).mono ?_
         rintro e w2 ⟨rfl, hb2⟩
         have d1 : w2.cell? ⟨w1.heap.size, 1, none⟩ = some (.int .u64 (n64 s1)) := ((Arr.new w1 [.int .u64 (n64 s0), .int .u64 (n64 s1)] 48).later hb2 (by rw [size_alloc]; omega)).cell rfl
         have z1' : w1.heap.size < w2.heap.size := by have := hb2.size; rw [size_alloc] at this; omega
         have HB2 := Lib.hid ((HB1.out.alloc HB1.out.size _).trans (hb2.mono (by have := HB1.out.size; rw [size_alloc]; omega)))
         clear hb2 H2)
      | (go_at_call 57; refine (H3.out _).mono ?_
         rintro e w3 ⟨rfl, hb3⟩
         have HA3 := Lib.hid ((Arr.new w2 [.int .u64 (n64 l0), .int .u64 (n64 l1)] 48).later hb3 (by rw [size_alloc]; omega))
         have HB3 := Lib.hid ((HB2.out.alloc HB2.out.size _).trans (hb3.mono (by have := HB2.out.size; rw [size_alloc]; omega)))
         clear hb3 H3 d1 z1')
      | (obtain ⟨w4, hw4⟩ : ∃ w4, w4 = w3.alloc (.cells #[.int .u64 (n64 hh0), .int .u64 (n64 hh1)] 48) := ⟨_, rfl⟩
         rw [← hw4]
         have a6 : Arr w4 w2.heap.size 48 [.int .u64 (n64 l0), .int .u64 (n64 l1)] := by rw [hw4]; exact HA3.out.alloc _
         have a7 : Arr w4 w3.heap.size 48 [.int .u64 (n64 hh0), .int .u64 (n64 hh1)] := by rw [hw4]; exact Arr.new _ _ _
         have HB4 : Hid (Below w.heap.size w w4) := show Below _ _ _ by rw [hw4]; exact HB3.out.alloc HB3.out.size _
         have d2 := a6.cell (i := 0) rfl
         have d3 := a6.cell (i := 1) rfl
         have d4 := a7.cell (i := 0) rfl
         have d5 := a7.cell (i := 1) rfl
         have y6 := a6.lt
         have y7 := a7.lt
         clear hw4 a6 a7 HA3)
      | (obtain ⟨w5, hw5⟩ : ∃ w5, w5 = w4.alloc (.cells #[.int .u64 (n64 l0), .int .u64 (n64 z1), .int .u64 az, .int .u64 0] 103) := ⟨_, rfl⟩
         rw [← hw5]
         have a8 : Arr w5 w4.heap.size 103 [.int .u64 (n64 l0), .int .u64 (n64 z1), .int .u64 az, .int .u64 0] := by rw [hw5]; exact Arr.new _ _ _
         have HB5 : Hid (Below w.heap.size w w5) := show Below _ _ _ by rw [hw5]; exact HB4.out.alloc HB4.out.size _
         have g0 : w5.cell? ⟨w4.heap.size, 0, none⟩ = some (.int .u64 (n64 l0)) := a8.cell (i := 0) rfl
         have g1 : w5.cell? ⟨w4.heap.size, 1, none⟩ = some (.int .u64 (n64 z1)) := a8.cell (i := 1) rfl
         have g2 : w5.cell? ⟨w4.heap.size, 2, none⟩ = some (.int .u64 az) := a8.cell (i := 2) rfl
         have y8 := a8.lt
         clear hw5 a8 d2 d3 d4 d5 y6 y7)
      | (refine wp_neq rfl (.tmp 48) (.tmp 50) az bq rfl rfl rfl HNE.out ?_; simp only [Act.put, List.setIfInBounds_toArray, List.set_cons_zero, List.set_cons_succ])
      | (refine wp_lss rfl (.tmp 53) (.tmp 55) az bq rfl rfl rfl bb HBB.out ?_; simp only [Act.put, List.setIfInBounds_toArray, List.set_cons_zero, List.set_cons_succ]))
    go_ret
    exact ⟨by rw [HV.out]; rfl, HB5.out.alloc HB5.out.size _⟩
def rootS (p : BitVec 64) (k : Nat) (x : BitVec 64) : BitVec 64 := if n64 (x ||| 1#64 <<< (35 - k)) < 68719476736 then (if cubeR (x ||| 1#64 <<< (35 - k)) p then x ||| 1#64 <<< (35 - k) else x) else x
/-- The first bits of a cube root, as the reference finds them. -/
def rootR (p : BitVec 64) : BitVec 32 := (it (rootS p) 36 0#64).setWidth 32
set_option maxRecDepth 100000 in
set_option maxHeartbeats 2000000 in
theorem root34 (p : BitVec 64) (w : World) : Calls Try.prog 34 #[.int .u64 (n64 p)] w fun e w' => e = .returned (.int .u32 (n32 (rootR p))) ∧ Below w.heap.size w w' := by
  have hlo := lo32
  go_enter Try.func34, Try.ntmps34
  go_wp2_with fail
  go_loopw [3, 4] (fun r i wr => ∃ k : Nat, k ≤ 36 ∧ i = .int .i64 (35 - (k : Int)) ∧ r = .int .u64 (n64 (it (rootS p) k 0#64)) ∧ Below w.heap.size w wr) (fun _ i _ => (intOf i + 1).toNat)
  case atStart => exact ⟨0, by omega, rfl, rfl, Below.refl _ _⟩
  obtain ⟨k, hk, rfl, rfl, hb⟩ := hrel
  have HB := Lib.hid hb
  clear hb
  have HST := Lib.hid (it_succ (rootS p) k 0#64)
  have HRF : Hid (rootR p = (it (rootS p) 36 0#64).setWidth 32) := rfl
  generalize hit : it (rootS p) k 0#64 = r at *
  have HIT := Lib.hid hit
  clear hit
  rcases Nat.lt_or_ge k 36 with hlt | hge
  rotate_left
  · obtain rfl : k = 36 := by omega
    rw [show (35 : Int) - ((36 : Nat) : Int) = -1 from rfl]
    go_wp2_with fail
    go_ret
    rw [HRF.out, HIT.out]
    exact ⟨rfl, HB.out⟩
  obtain ⟨b, hp⟩ : ∃ b, b = 35 - k := ⟨_, rfl⟩
  have e0 : (35 : Int) - (k : Int) = (b : Int) := by omega
  have HA : Hid (k + 1 ≤ 36 ∧ (35 : Int) - ((k + 1 : Nat) : Int) = (b : Int) - 1 ∧ ((b : Int) - 1 + 1).toNat < ((b : Int) + 1).toNat) := by
    refine ⟨?_, ?_, ?_⟩ <;> omega
  rw [e0]
  have e10 : IntKind.u64.wrap (2 ^ b) = n64 (1#64 <<< b) := by
    have h := shl64 1#64 b
    rwa [show n64 1#64 = 1 from rfl, Int.one_mul] at h
  have e11 : min b 64 = b := by omega
  have e12 : IntKind.u64.wrap (b : Int) = (b : Int) := by rw [wrap_u64]; omega
  have hcs : rootS p k r = if n64 (r ||| 1#64 <<< b) < 68719476736 then (if cubeR (r ||| 1#64 <<< b) p then r ||| 1#64 <<< b else r) else r := by unfold rootS; rw [← hp]
  generalize ht : r ||| 1#64 <<< b = t at *
  have HCS := Lib.hid hcs
  have HP := Lib.hid hp
  have HC := Lib.hid (cube50 t p)
  clear hcs hp
  have hlt2 : (b : Int) < 36 := by omega
  by_cases h1 : n64 t < 68719476736
  rotate_left
  · have f1 : decide (n64 t < 68719476736) = false := decide_eq_false h1
    have HF : Hid (rootS p k r = r) := HCS.out.trans (if_neg h1)
    clear h1
    go_wp2_with fail
    go_roundw
    case rel => exact ⟨k + 1, HA.out.1, by rw [HA.out.2.1], by rw [HST.out, HF.out], HB.out⟩
    case measure => exact HA.out.2.2
  have f1 : decide (n64 t < 68719476736) = true := decide_eq_true h1
  have hcs2 := HCS.out.trans (if_pos h1)
  cases hcb : cubeR t p
  · rw [hcb] at HC hcs2
    have HF : Hid (rootS p k r = r) := hcs2.trans (if_neg (by decide))
    clear h1 hcs2 hcb HCS
    go_wp2_with (first
      | (go_at_call 50; refine (HC.out _).mono ?_
         rintro e w1 ⟨rfl, hb1⟩
         have HB1 := Lib.hid (HB.out.trans (hb1.mono HB.out.size))
         clear hb1))
    go_roundw
    case rel => exact ⟨k + 1, HA.out.1, by rw [HA.out.2.1], by rw [HST.out, HF.out], HB1.out⟩
    case measure => exact HA.out.2.2
  · rw [hcb] at HC hcs2
    have HF : Hid (rootS p k r = t) := hcs2.trans (if_pos rfl)
    clear h1 hcs2 hcb HCS
    go_wp2_with (first
      | (go_at_call 50; refine (HC.out _).mono ?_
         rintro e w1 ⟨rfl, hb1⟩
         have HB1 := Lib.hid (HB.out.trans (hb1.mono HB.out.size))
         clear hb1))
    go_roundw
    case rel => exact ⟨k + 1, HA.out.1, by rw [HA.out.2.1], by rw [HST.out, HF.out], HB1.out⟩
    case measure => exact HA.out.2.2
end Go.Proofs.Ytnlcndlfdnogaaa.Mc
