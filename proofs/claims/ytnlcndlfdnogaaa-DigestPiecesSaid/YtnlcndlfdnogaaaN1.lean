/- DigestNone, walked. (printed by gen_n1.py) -/
import Derived.Test.YtnlcndlfdnogaaaN0
import Derived.Test.YtnlcndlfdnogaaaRs
import Derived.Test.YtnlcndlfdnogaaaEq
import Derived.Shelf.Abstract
set_option linter.unusedVariables false
set_option linter.unusedSimpArgs false
namespace Go.Proofs.Ytnlcndlfdnogaaa.N1
open Go.RowKit
open D0 M D2 D3 K0 K1 K2 Aw N0 Rs
section
variable (ρ : Operand → Value) (w : World)
theorem run_move (o : Oper) (x : Operand) (ho : o.op = .move x) : (execOp ρ o).run Try.prog w = .ok (.value (ρ x)) w := by
  unfold execOp; rw [ho]; simp [go_sem]
theorem run_assign (o : Oper) (x : Operand) (ho : o.op = .assign x) : (execOp ρ o).run Try.prog w = .ok (.value (ρ x)) w := by
  unfold execOp; rw [ho]; simp [go_sem]
theorem run_pick (o : Oper) (c x y : Operand) (ho : o.op = .pick c x y) (h : ρ c = .bool true) : (execOp ρ o).run Try.prog w = .ok (.value (ρ x)) w := by
  unfold execOp; rw [ho]; simp [go_sem, h]
theorem run_call (o : Oper) (f : FuncId) (args : Array Operand) (tys : Array TypeId) (vs : Array Value) (ho : o.op = .call { callee := .value (.func f), args := args, argTypes := tys }) (hr : ρ (.func f) = .func (.func f) #[] #[]) (hv : args.map ρ = vs) (hf : ∀ args w, (callFunc f args).run Try.prog w = .ok (.enter f args) w) : (execOp ρ o).run Try.prog w = .ok (.enter f vs) w := by
  subst hv
  unfold execOp; rw [ho]; simp [go_sem, resolve, invoke, hf, hr]
theorem run_eqp (o : Oper) (x y : Operand) (p : Option Addr) (ho : o.op = .binOp .eql 36 x y 36) (h1 : ρ x = .pointer p) (h2 : ρ y = .pointer p) : (execOp ρ o).run Try.prog w = .ok (.value (.bool true)) w := by
  unfold execOp; rw [ho]; simp [go_sem, h1, h2, Eq.eqlptr]
theorem run_load25 (o : Oper) (x : Operand) (g : Nat) (vs : List Value) (ho : o.op = .load 25 x) (h1 : ρ x = .pointer (some ⟨g, 0, none⟩)) (h2 : Arr w g 25 vs) (hi : (Try.prog.info? 25).map (·.size) = some vs.toArray.size) : (execOp ρ o).run Try.prog w = .ok (.value (.agg vs.toArray)) w := by
  unfold execOp; rw [ho]
  simp only [h1, Instr.loadAt, Instr.sureAddr, Sem.run_bind, Sem.run_pure, Result.andThen_ok, run_loadVar_row w g 25 25 vs.toArray (0, 0) _ h2 Try.underlying25 rfl hi]
theorem run_eqa (o : Oper) (x y : Operand) (l : List Byte) (hl : l.length = 32) (ho : o.op = .binOp .eql 25 x y 25) (h1 : ρ x = .agg (nums l).toArray) (h2 : ρ y = .agg (nums l).toArray) : (execOp ρ o).run Try.prog w = .ok (.value (.bool true)) w := by
  have hm : Try.prog.eqGuardType Try.prog.depth 25 = false := by kernel_rfl
  unfold execOp; rw [ho]; simp [go_sem, h1, h2, hm, Eq.in25 w l l hl hl]
end
/-- The slots of the law's region. -/
def sl (j : Nat) : Nat := if j < 26 then 11 + j else 2
def kdL (v : Value) (gm : Nat) (kf bs : List Byte) : List Kd :=
  [.eq (.pointer none), .eq v, .bs bs, .eq (.pointer none), .eq (.pointer none), .eq (.bool true), .eq (.bool true), .eq (.pointer none), .eq (.agg (nums kf).toArray), .eq (.agg (nums kf).toArray), .eq (.bool true), .eq (.bool true), .eq (.bool true), .eq (.pointer (some ⟨gm, 0, none⟩)), .eq v, .bs bs, .eq (.pointer (some ⟨gm, 0, none⟩)), .eq (.pointer (some ⟨gm, 0, none⟩)), .eq (.bool true), .eq (.bool true), .eq (.bool true), .eq (.pointer (some ⟨gm, 0, none⟩)), .eq (.agg (nums kf).toArray), .eq (.agg (nums kf).toArray), .eq (.bool true), .eq (.bool true), .eq (.bool true)]
set_option maxRecDepth 100000 in
set_option maxHeartbeats 4000000 in
theorem none5 (w : World) (v : Value) (bs : List Byte) (hb : Bs w 0 w.heap.size v bs) (hl : bs.length ≤ 140737488355328) : Calls Try.prog 5 #[v] w fun e w' => e = .returned (.bool true) ∧ Below w.heap.size w w' := by
  have HBS : Hid (∀ W, Below w.heap.size w W → Bs W 0 w.heap.size v bs) := fun W hW => hb.keep (Same.of_below hW (Nat.le_refl _))
  have HK : Hid (∀ W : World, Calls Try.prog 10 #[.slice none 0 0] W fun e w' => e = .returned (.agg (nums (keccF [])).toArray) ∧ Below W.heap.size W w') := fun W => kecc10 W 0 0 _ [] (bs_nil W) (by simp) (by omega)
  have HSN := Lib.hid sumN
  have lk := kecc_len []
  generalize keccF [] = kf at *
  have HLK := Lib.hid lk
  have HI1 : Hid ((Try.prog.info? 25).map (·.size) = some (nums kf).toArray.size) := by rw [show (nums kf).toArray.size = 32 by simp [lk]]; exact info25
  have HZ1 : Hid ((nums (List.replicate 32 0#8)).toArray.size = (nums kf).toArray.size) := show _ = _ by simp [lk]
  have HO : Hid ((nums kf).toArray.all (·.oneCell') = true) := show _ = _ by simp [nums, Value.oneCell']
  have HLB := Lib.hid hl
  have HI25 := HI1
  clear hb hl lk
  go_enter Try.func5, Try.ntmps5
  go_wp2_with (first
    | (go_at_call 9; refine (awake9 _).mono ?_
       rintro e w1 ⟨rfl, hb1⟩
       have HB1 := Lib.hid hb1
       clear hb1)
    | (go_at_call 10; refine (HK.out _).mono ?_
       rintro e w4 ⟨rfl, hb4⟩
       have HB4 := Lib.hid hb4
       clear hb4)
    | (refine wpList_store_row rfl 25 (.tmp 5) (.tmp 10) rfl w4.heap.size (nums kf).toArray rfl rfl 25 (nums (List.replicate 32 0#8)).toArray (block_new _ _) HI1.out HZ1.out HO.out ?_))
  have z1 := HB1.out.size
  have z4 := HB4.out.size
  rw [size_alloc] at z4
  obtain ⟨gm, hgm⟩ : ∃ gm, gm = w1.heap.size := ⟨_, rfl⟩
  obtain ⟨gk, hgk⟩ : ∃ gk, gk = w4.heap.size := ⟨_, rfl⟩
  have hM : w4.heap[gm]? = some (.cells #[.int .i64 0, .slice none 0 0] 38 (0, 0)) := by rw [hgm]; exact (HB4.out.block _ (by rw [size_alloc]; omega)).trans (block_new _ _)
  rw [← hgm, ← hgk]
  have hBw4 : Below w.heap.size w w4 := (HB1.out.alloc z1 _).trans (HB4.out.mono (by rw [size_alloc]; omega))
  have a4 : Arr (w4.alloc (.cells (nums (List.replicate 32 0#8)).toArray 25)) gk 25 (nums (List.replicate 32 0#8)) := by rw [hgk]; exact Arr.new _ _ _
  have hA : Arr ((w4.alloc (.cells (nums (List.replicate 32 0#8)).toArray 25)).setRow gk (nums kf).toArray) gk 25 (nums kf) := setRow_heap _ _ _ _ _ _ a4
  have hM6 : ((w4.alloc (.cells (nums (List.replicate 32 0#8)).toArray 25)).setRow gk (nums kf).toArray).heap[gm]? = some (.cells #[.int .i64 0, .slice none 0 0] 38 (0, 0)) := (setRow_other _ _ _ _ (by omega)).trans ((Below.heap_alloc _ _ _ (by omega)).trans hM)
  have hB6 : Below w.heap.size w ((w4.alloc (.cells (nums (List.replicate 32 0#8)).toArray 25)).setRow gk (nums kf).toArray) := below_setRow (hBw4.alloc hBw4.size _) (by omega) _
  have hz6 : ((w4.alloc (.cells (nums (List.replicate 32 0#8)).toArray 25)).setRow gk (nums kf).toArray).heap.size = w4.heap.size + 1 := by rw [R4.setRow_size, size_alloc]
  have HEQ : Hid (((w4.alloc (.cells #[.int .u8 0, .int .u8 0, .int .u8 0, .int .u8 0, .int .u8 0, .int .u8 0, .int .u8 0, .int .u8 0, .int .u8 0, .int .u8 0, .int .u8 0, .int .u8 0, .int .u8 0, .int .u8 0, .int .u8 0, .int .u8 0, .int .u8 0, .int .u8 0, .int .u8 0, .int .u8 0, .int .u8 0, .int .u8 0, .int .u8 0, .int .u8 0, .int .u8 0, .int .u8 0, .int .u8 0, .int .u8 0, .int .u8 0, .int .u8 0, .int .u8 0, .int .u8 0] 25)).setRow gk (nums kf).toArray) = ((w4.alloc (.cells (nums (List.replicate 32 0#8)).toArray 25)).setRow gk (nums kf).toArray)) := rfl
  rw [HEQ.out]
  clear HEQ
  generalize ((w4.alloc (.cells (nums (List.replicate 32 0#8)).toArray 25)).setRow gk (nums kf).toArray) = w6 at *
  have HB6 := Lib.hid hB6
  have L11 : Hid (∀ W, Below w6.heap.size w6 W → Calls Try.prog 11 #[v] W fun e w' => ∃ u, e = .returned u ∧ VK (.bs bs) u w' ∧ Below W.heap.size W w') := fun W hW => by
    refine (twin11w W 0 w.heap.size v bs (HBS.out W (HB6.out.trans (hW.mono HB6.out.size))) HLB.out).mono ?_
    rintro e w' ⟨u, rfl, ho, hb⟩
    refine ⟨u, rfl, ?_, hb⟩
    exact (Own.bs ho).wide (Nat.zero_le _) (Nat.le_refl _)
  have L19a : Hid (∀ u W, Calls Try.prog 19 #[.pointer none, u] W fun e w' => ∃ x, e = .returned x ∧ VK (.eq (.pointer none)) x w' ∧ Below W.heap.size W w') := fun u W => by
    refine (writeN W u).mono ?_
    rintro e w' ⟨rfl, rfl⟩
    exact ⟨_, rfl, rfl, Below.refl _ _⟩
  have L19b : Hid (∀ u W, Below w6.heap.size w6 W → Calls Try.prog 19 #[.pointer (some ⟨gm, 0, none⟩), u] W fun e w' => ∃ x, e = .returned x ∧ VK (.eq (.pointer (some ⟨gm, 0, none⟩))) x w' ∧ Below W.heap.size W w') := fun u W hW => by
    refine (writeM W gm _ u ((hW.block gm (by omega)).trans hM6)).mono ?_
    rintro e w' ⟨rfl, rfl⟩
    exact ⟨_, rfl, rfl, Below.refl _ _⟩
  have L20a : Hid (∀ W, Calls Try.prog 20 #[.pointer none] W fun e w' => ∃ x, e = .returned x ∧ VK (.eq (.agg (nums kf).toArray)) x w' ∧ Below W.heap.size W w') := fun W => by
    refine (HSN.out W _ (.inl rfl)).mono ?_
    rintro e w' ⟨rfl, hb⟩
    exact ⟨_, rfl, rfl, hb⟩
  have L20b : Hid (∀ W, Below w6.heap.size w6 W → Calls Try.prog 20 #[.pointer (some ⟨gm, 0, none⟩)] W fun e w' => ∃ x, e = .returned x ∧ VK (.eq (.agg (nums kf).toArray)) x w' ∧ Below W.heap.size W w') := fun W hW => by
    refine (HSN.out W _ (.inr ⟨gm, _, rfl, (hW.block gm (by omega)).trans hM6⟩)).mono ?_
    rintro e w' ⟨rfl, hb⟩
    exact ⟨_, rfl, rfl, hb⟩
  have HGK : Hid (∀ W, Below w6.heap.size w6 W → Arr W gk 25 (nums kf)) := fun W hW => hA.later hW (by omega)
  clear hM hBw4 a4 hA hM6 hB6 hz6 hgm hgk z1 z4 HB1 HB4 HI1 HZ1 HO
  refine wp_region_each sl (fun j => VK ((kdL v gm kf bs).getD j (.eq undef))) (fun W => Below w6.heap.size w6 W) (by kernel_rfl) ?slots (Below.refl _ _).drew (fun j v w w' h hb => VK.keep hb h) ?steps ?fin
  case slots => exact (show slotsB _ sl 37 = true from by decide +kernel)
  case fin =>
    intro a' W' hi hsz hdf ho hall
    obtain ⟨v26, e26, h26⟩ := hall 26 (by decide)
    change v26 = _ at h26
    subst h26
    go_wp2
    have e2 : a'.tmps[2]? = some (.bool true) := e26
    exact bodyPost_ret (v := .bool true) (by simp [results, Try.results5, go_sem, e2]) hdf ⟨rfl, HB6.out.trans (hi.mono HB6.out.size)⟩
  case steps =>
    refine Steps.cons ?_ ?_
    · -- operation 0
      intro a w' hi hd ho hf
      have f3 : a.eval (.tmp 3) = _ := eval_of ((ho 3 (by decide)).trans (show _ = some (.pointer none) from rfl))
      refine ⟨wanted_none rfl, ?_⟩
      refine fin_val (run_move a.eval w' _ _ rfl) ?_ hi (Below.refl _ _)
      exact f3
    refine Steps.cons ?_ ?_
    · -- operation 1
      intro a w' hi hd ho hf
      have f0 : a.eval (.tmp 0) = _ := eval_of ((ho 0 (by decide)).trans (show _ = some v from rfl))
      refine ⟨wanted_none rfl, ?_⟩
      refine fin_val (run_move a.eval w' _ _ rfl) ?_ hi (Below.refl _ _)
      exact f0
    refine Steps.cons ?_ ?_
    · -- operation 2
      intro a w' hi hd ho hf
      obtain ⟨v1, e1, h1⟩ := hf 1 (by rfl)
      change v1 = _ at h1; subst h1
      have f12 : a.eval (.tmp 12) = _ := eval_of e1
      refine ⟨wanted_none rfl, ?_⟩
      exact fin_call (run_call a.eval w' _ 11 #[.tmp 12] _ _ rfl rfl (by simp only [List.map_toArray, List.map_cons, List.map_nil, f12]) (enters_of Try.func11 (by kernel_rfl) rfl)) (L11.out w' hi) (fun W hW => hi.trans (hW.mono hi.size))
    refine Steps.cons ?_ ?_
    · -- operation 3
      intro a w' hi hd ho hf
      obtain ⟨v0, e0, h0⟩ := hf 0 (by rfl)
      change v0 = _ at h0; subst h0
      have f11 : a.eval (.tmp 11) = _ := eval_of e0
      obtain ⟨v2, e2, h2⟩ := hf 2 (by rfl)
      have f13 : a.eval (.tmp 13) = _ := eval_of e2
      refine ⟨wanted_none rfl, ?_⟩
      exact fin_call (run_call a.eval w' _ 19 #[.tmp 11, .tmp 13] _ _ rfl rfl (by simp only [List.map_toArray, List.map_cons, List.map_nil, f11, f13]) (enters_of Try.func19 (by kernel_rfl) rfl)) (L19a.out v2 w') (fun W hW => hi.trans (hW.mono hi.size))
    refine Steps.cons ?_ ?_
    · -- operation 4
      intro a w' hi hd ho hf
      have f3 : a.eval (.tmp 3) = _ := eval_of ((ho 3 (by decide)).trans (show _ = some (.pointer none) from rfl))
      refine ⟨wanted_none rfl, ?_⟩
      refine fin_val (run_move a.eval w' _ _ rfl) ?_ hi (Below.refl _ _)
      exact f3
    refine Steps.cons ?_ ?_
    · -- operation 5
      intro a w' hi hd ho hf
      obtain ⟨v3, e3, h3⟩ := hf 3 (by rfl)
      change v3 = _ at h3; subst h3
      have f14 : a.eval (.tmp 14) = _ := eval_of e3
      obtain ⟨v4, e4, h4⟩ := hf 4 (by rfl)
      change v4 = _ at h4; subst h4
      have f15 : a.eval (.tmp 15) = _ := eval_of e4
      refine ⟨wanted_none rfl, ?_⟩
      exact fin_val (run_eqp a.eval w' _ _ _ _ rfl f14 f15) rfl hi (Below.refl _ _)
    refine Steps.cons ?_ ?_
    · -- operation 6
      intro a w' hi hd ho hf
      obtain ⟨v5, e5, h5⟩ := hf 5 (by rfl)
      change v5 = _ at h5; subst h5
      have f16 : a.eval (.tmp 16) = _ := eval_of e5
      refine ⟨wanted_none rfl, ?_⟩
      refine fin_val (run_move a.eval w' _ _ rfl) ?_ hi (Below.refl _ _)
      exact f16
    refine Steps.cons ?_ ?_
    · -- operation 7
      intro a w' hi hd ho hf
      have f3 : a.eval (.tmp 3) = _ := eval_of ((ho 3 (by decide)).trans (show _ = some (.pointer none) from rfl))
      obtain ⟨vg, eg, hg⟩ := hf 6 (by rfl)
      change vg = _ at hg; subst hg
      refine ⟨wanted_of (by rfl) (by rfl) (by rfl) eg, ?_⟩
      refine fin_val (run_move a.eval w' _ _ rfl) ?_ hi (Below.refl _ _)
      exact f3
    refine Steps.cons ?_ ?_
    · -- operation 8
      intro a w' hi hd ho hf
      obtain ⟨v7, e7, h7⟩ := hf 7 (by rfl)
      change v7 = _ at h7; subst h7
      have f18 : a.eval (.tmp 18) = _ := eval_of e7
      obtain ⟨vg, eg, hg⟩ := hf 6 (by rfl)
      change vg = _ at hg; subst hg
      refine ⟨wanted_of (by rfl) (by rfl) (by rfl) eg, ?_⟩
      exact fin_call (run_call a.eval w' _ 20 #[.tmp 18] _ _ rfl rfl (by simp only [List.map_toArray, List.map_cons, List.map_nil, f18]) (enters_of Try.func20 (by kernel_rfl) rfl)) (L20a.out w') (fun W hW => hi.trans (hW.mono hi.size))
    refine Steps.cons ?_ ?_
    · -- operation 9
      intro a w' hi hd ho hf
      have f5 : a.eval (.tmp 5) = _ := eval_of ((ho 5 (by decide)).trans (show _ = some (.pointer (some ⟨gk, 0, none⟩)) from rfl))
      obtain ⟨vg, eg, hg⟩ := hf 6 (by rfl)
      change vg = _ at hg; subst hg
      refine ⟨wanted_of (by rfl) (by rfl) (by rfl) eg, ?_⟩
      exact fin_val (run_load25 a.eval w' _ _ gk _ rfl f5 (HGK.out w' hi) HI25.out) rfl hi (Below.refl _ _)
    refine Steps.cons ?_ ?_
    · -- operation 10
      intro a w' hi hd ho hf
      obtain ⟨v8, e8, h8⟩ := hf 8 (by rfl)
      change v8 = _ at h8; subst h8
      have f19 : a.eval (.tmp 19) = _ := eval_of e8
      obtain ⟨v9, e9, h9⟩ := hf 9 (by rfl)
      change v9 = _ at h9; subst h9
      have f20 : a.eval (.tmp 20) = _ := eval_of e9
      obtain ⟨vg, eg, hg⟩ := hf 6 (by rfl)
      change vg = _ at hg; subst hg
      refine ⟨wanted_of (by rfl) (by rfl) (by rfl) eg, ?_⟩
      exact fin_val (run_eqa a.eval w' _ _ _ kf HLK.out rfl f19 f20) rfl hi (Below.refl _ _)
    refine Steps.cons ?_ ?_
    · -- operation 11
      intro a w' hi hd ho hf
      obtain ⟨v6, e6, h6⟩ := hf 6 (by rfl)
      change v6 = _ at h6; subst h6
      have f17 : a.eval (.tmp 17) = _ := eval_of e6
      obtain ⟨v10, e10, h10⟩ := hf 10 (by rfl)
      change v10 = _ at h10; subst h10
      have f21 : a.eval (.tmp 21) = _ := eval_of e10
      refine ⟨wanted_none rfl, ?_⟩
      refine fin_val (run_pick a.eval w' _ _ _ _ rfl f17) ?_ hi (Below.refl _ _)
      exact f21
    refine Steps.cons ?_ ?_
    · -- operation 12
      intro a w' hi hd ho hf
      obtain ⟨v11, e11, h11⟩ := hf 11 (by rfl)
      change v11 = _ at h11; subst h11
      have f22 : a.eval (.tmp 22) = _ := eval_of e11
      refine ⟨wanted_none rfl, ?_⟩
      refine fin_val (run_move a.eval w' _ _ rfl) ?_ hi (Below.refl _ _)
      exact f22
    refine Steps.cons ?_ ?_
    · -- operation 13
      intro a w' hi hd ho hf
      have f4 : a.eval (.tmp 4) = _ := eval_of ((ho 4 (by decide)).trans (show _ = some (.pointer (some ⟨gm, 0, none⟩)) from rfl))
      obtain ⟨vg, eg, hg⟩ := hf 12 (by rfl)
      change vg = _ at hg; subst hg
      refine ⟨wanted_of (by rfl) (by rfl) (by rfl) eg, ?_⟩
      refine fin_val (run_move a.eval w' _ _ rfl) ?_ hi (Below.refl _ _)
      exact f4
    refine Steps.cons ?_ ?_
    · -- operation 14
      intro a w' hi hd ho hf
      have f0 : a.eval (.tmp 0) = _ := eval_of ((ho 0 (by decide)).trans (show _ = some v from rfl))
      obtain ⟨vg, eg, hg⟩ := hf 12 (by rfl)
      change vg = _ at hg; subst hg
      refine ⟨wanted_of (by rfl) (by rfl) (by rfl) eg, ?_⟩
      refine fin_val (run_move a.eval w' _ _ rfl) ?_ hi (Below.refl _ _)
      exact f0
    refine Steps.cons ?_ ?_
    · -- operation 15
      intro a w' hi hd ho hf
      obtain ⟨v14, e14, h14⟩ := hf 14 (by rfl)
      change v14 = _ at h14; subst h14
      have f25 : a.eval (.tmp 25) = _ := eval_of e14
      obtain ⟨vg, eg, hg⟩ := hf 12 (by rfl)
      change vg = _ at hg; subst hg
      refine ⟨wanted_of (by rfl) (by rfl) (by rfl) eg, ?_⟩
      exact fin_call (run_call a.eval w' _ 11 #[.tmp 25] _ _ rfl rfl (by simp only [List.map_toArray, List.map_cons, List.map_nil, f25]) (enters_of Try.func11 (by kernel_rfl) rfl)) (L11.out w' hi) (fun W hW => hi.trans (hW.mono hi.size))
    refine Steps.cons ?_ ?_
    · -- operation 16
      intro a w' hi hd ho hf
      obtain ⟨v13, e13, h13⟩ := hf 13 (by rfl)
      change v13 = _ at h13; subst h13
      have f24 : a.eval (.tmp 24) = _ := eval_of e13
      obtain ⟨v15, e15, h15⟩ := hf 15 (by rfl)
      have f26 : a.eval (.tmp 26) = _ := eval_of e15
      obtain ⟨vg, eg, hg⟩ := hf 12 (by rfl)
      change vg = _ at hg; subst hg
      refine ⟨wanted_of (by rfl) (by rfl) (by rfl) eg, ?_⟩
      exact fin_call (run_call a.eval w' _ 19 #[.tmp 24, .tmp 26] _ _ rfl rfl (by simp only [List.map_toArray, List.map_cons, List.map_nil, f24, f26]) (enters_of Try.func19 (by kernel_rfl) rfl)) (L19b.out v15 w' hi) (fun W hW => hi.trans (hW.mono hi.size))
    refine Steps.cons ?_ ?_
    · -- operation 17
      intro a w' hi hd ho hf
      have f4 : a.eval (.tmp 4) = _ := eval_of ((ho 4 (by decide)).trans (show _ = some (.pointer (some ⟨gm, 0, none⟩)) from rfl))
      obtain ⟨vg, eg, hg⟩ := hf 12 (by rfl)
      change vg = _ at hg; subst hg
      refine ⟨wanted_of (by rfl) (by rfl) (by rfl) eg, ?_⟩
      refine fin_val (run_move a.eval w' _ _ rfl) ?_ hi (Below.refl _ _)
      exact f4
    refine Steps.cons ?_ ?_
    · -- operation 18
      intro a w' hi hd ho hf
      obtain ⟨v16, e16, h16⟩ := hf 16 (by rfl)
      change v16 = _ at h16; subst h16
      have f27 : a.eval (.tmp 27) = _ := eval_of e16
      obtain ⟨v17, e17, h17⟩ := hf 17 (by rfl)
      change v17 = _ at h17; subst h17
      have f28 : a.eval (.tmp 28) = _ := eval_of e17
      obtain ⟨vg, eg, hg⟩ := hf 12 (by rfl)
      change vg = _ at hg; subst hg
      refine ⟨wanted_of (by rfl) (by rfl) (by rfl) eg, ?_⟩
      exact fin_val (run_eqp a.eval w' _ _ _ _ rfl f27 f28) rfl hi (Below.refl _ _)
    refine Steps.cons ?_ ?_
    · -- operation 19
      intro a w' hi hd ho hf
      obtain ⟨v12, e12, h12⟩ := hf 12 (by rfl)
      change v12 = _ at h12; subst h12
      have f23 : a.eval (.tmp 23) = _ := eval_of e12
      obtain ⟨v18, e18, h18⟩ := hf 18 (by rfl)
      change v18 = _ at h18; subst h18
      have f29 : a.eval (.tmp 29) = _ := eval_of e18
      refine ⟨wanted_none rfl, ?_⟩
      refine fin_val (run_pick a.eval w' _ _ _ _ rfl f23) ?_ hi (Below.refl _ _)
      exact f29
    refine Steps.cons ?_ ?_
    · -- operation 20
      intro a w' hi hd ho hf
      obtain ⟨v19, e19, h19⟩ := hf 19 (by rfl)
      change v19 = _ at h19; subst h19
      have f30 : a.eval (.tmp 30) = _ := eval_of e19
      refine ⟨wanted_none rfl, ?_⟩
      refine fin_val (run_move a.eval w' _ _ rfl) ?_ hi (Below.refl _ _)
      exact f30
    refine Steps.cons ?_ ?_
    · -- operation 21
      intro a w' hi hd ho hf
      have f4 : a.eval (.tmp 4) = _ := eval_of ((ho 4 (by decide)).trans (show _ = some (.pointer (some ⟨gm, 0, none⟩)) from rfl))
      obtain ⟨vg, eg, hg⟩ := hf 20 (by rfl)
      change vg = _ at hg; subst hg
      refine ⟨wanted_of (by rfl) (by rfl) (by rfl) eg, ?_⟩
      refine fin_val (run_move a.eval w' _ _ rfl) ?_ hi (Below.refl _ _)
      exact f4
    refine Steps.cons ?_ ?_
    · -- operation 22
      intro a w' hi hd ho hf
      obtain ⟨v21, e21, h21⟩ := hf 21 (by rfl)
      change v21 = _ at h21; subst h21
      have f32 : a.eval (.tmp 32) = _ := eval_of e21
      obtain ⟨vg, eg, hg⟩ := hf 20 (by rfl)
      change vg = _ at hg; subst hg
      refine ⟨wanted_of (by rfl) (by rfl) (by rfl) eg, ?_⟩
      exact fin_call (run_call a.eval w' _ 20 #[.tmp 32] _ _ rfl rfl (by simp only [List.map_toArray, List.map_cons, List.map_nil, f32]) (enters_of Try.func20 (by kernel_rfl) rfl)) (L20b.out w' hi) (fun W hW => hi.trans (hW.mono hi.size))
    refine Steps.cons ?_ ?_
    · -- operation 23
      intro a w' hi hd ho hf
      have f5 : a.eval (.tmp 5) = _ := eval_of ((ho 5 (by decide)).trans (show _ = some (.pointer (some ⟨gk, 0, none⟩)) from rfl))
      obtain ⟨vg, eg, hg⟩ := hf 20 (by rfl)
      change vg = _ at hg; subst hg
      refine ⟨wanted_of (by rfl) (by rfl) (by rfl) eg, ?_⟩
      exact fin_val (run_load25 a.eval w' _ _ gk _ rfl f5 (HGK.out w' hi) HI25.out) rfl hi (Below.refl _ _)
    refine Steps.cons ?_ ?_
    · -- operation 24
      intro a w' hi hd ho hf
      obtain ⟨v22, e22, h22⟩ := hf 22 (by rfl)
      change v22 = _ at h22; subst h22
      have f33 : a.eval (.tmp 33) = _ := eval_of e22
      obtain ⟨v23, e23, h23⟩ := hf 23 (by rfl)
      change v23 = _ at h23; subst h23
      have f34 : a.eval (.tmp 34) = _ := eval_of e23
      obtain ⟨vg, eg, hg⟩ := hf 20 (by rfl)
      change vg = _ at hg; subst hg
      refine ⟨wanted_of (by rfl) (by rfl) (by rfl) eg, ?_⟩
      exact fin_val (run_eqa a.eval w' _ _ _ kf HLK.out rfl f33 f34) rfl hi (Below.refl _ _)
    refine Steps.cons ?_ ?_
    · -- operation 25
      intro a w' hi hd ho hf
      obtain ⟨v20, e20, h20⟩ := hf 20 (by rfl)
      change v20 = _ at h20; subst h20
      have f31 : a.eval (.tmp 31) = _ := eval_of e20
      obtain ⟨v24, e24, h24⟩ := hf 24 (by rfl)
      change v24 = _ at h24; subst h24
      have f35 : a.eval (.tmp 35) = _ := eval_of e24
      refine ⟨wanted_none rfl, ?_⟩
      refine fin_val (run_pick a.eval w' _ _ _ _ rfl f31) ?_ hi (Below.refl _ _)
      exact f35
    refine Steps.cons ?_ ?_
    · -- operation 26
      intro a w' hi hd ho hf
      obtain ⟨v25, e25, h25⟩ := hf 25 (by rfl)
      change v25 = _ at h25; subst h25
      have f36 : a.eval (.tmp 36) = _ := eval_of e25
      refine ⟨wanted_none rfl, ?_⟩
      refine fin_val (run_assign a.eval w' _ _ rfl) ?_ hi (Below.refl _ _)
      exact f36
    exact Steps.nil
end Go.Proofs.Ytnlcndlfdnogaaa.N1
