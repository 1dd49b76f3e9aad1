/- DigestPermutes, walked. (printed by gen_pz.py) -/
import Derived.Test.YtnlcndlfdnogaaaPw
import Derived.Test.YtnlcndlfdnogaaaN1
import Derived.Test.YtnlcndlfdnogaaaRv
set_option linter.unusedVariables false
set_option linter.unusedSimpArgs false
namespace Go.Proofs.Ytnlcndlfdnogaaa.Pz
open Go.RowKit
open D0 M D2 D3 P D5 Pj Pw Aw N1 Rs
section
variable (ρ : Operand → Value) (w : World)
theorem run_not (o : Oper) (x : Operand) (b : Bool) (ho : o.op = .unOp .not 4 x) (h : ρ x = .bool b) : (execOp ρ o).run Try.prog w = .ok (.value (.bool (!b))) w := by
  unfold execOp; rw [ho]; simp [go_sem, h]
theorem run_pickf (o : Oper) (c x y : Operand) (ho : o.op = .pick c x y) (h : ρ c = .bool false) : (execOp ρ o).run Try.prog w = .ok (.value (ρ y)) w := by
  unfold execOp; rw [ho]; simp [go_sem, h]
theorem run_eq4 (o : Oper) (x y : Operand) (b c : Bool) (ho : o.op = .binOp .eql 4 x y 4) (h1 : ρ x = .bool b) (h2 : ρ y = .bool c) : (execOp ρ o).run Try.prog w = .ok (.value (.bool (b == c))) w := by
  unfold execOp; rw [ho]; simp [go_sem, h1, h2]
theorem run_eq33 (o : Oper) (x y : Operand) (l r : L) (hl : l.length = 25) (hr : r.length = 25) (ho : o.op = .binOp .eql 33 x y 33) (h1 : ρ x = .agg (m64 l).toArray) (h2 : ρ y = .agg (m64 r).toArray) : (execOp ρ o).run Try.prog w = .ok (.value (.bool (decide (l = r)))) w := by
  have hm : Try.prog.eqGuardType Try.prog.depth 33 = false := by kernel_rfl
  unfold execOp; rw [ho]; simp [go_sem, h1, h2, hm, Eq.in33 w l r hl hr]
theorem run_neq33 (o : Oper) (x y : Operand) (l r : L) (hl : l.length = 25) (hr : r.length = 25) (ho : o.op = .binOp .neq 33 x y 33) (h1 : ρ x = .agg (m64 l).toArray) (h2 : ρ y = .agg (m64 r).toArray) : (execOp ρ o).run Try.prog w = .ok (.value (.bool (!decide (l = r)))) w := by
  have hm : Try.prog.eqGuardType Try.prog.depth 33 = false := by kernel_rfl
  unfold execOp; rw [ho]; simp [go_sem, h1, h2, hm, Eq.in33 w l r hl hr]
theorem run_load_arr {o : Oper} {a : Act} {w : World} (ty : TypeId) (x : Operand) (ho : o.op = .load ty x) (g : Nat) (hx : a.eval x = .pointer (some ⟨g, 0, none⟩)) (t : TypeId) (vs : List Value) {n : Nat} {e : TypeId} (hg : Arr w g t vs)
    (hu : Try.prog.underlying ty = some (.array n e)) (hi : (Try.prog.info? ty).map (·.size) = some vs.length) :
    (execOp a.eval o).run Try.prog w = .ok (.value (.agg vs.toArray)) w := by
  unfold execOp
  simp only [ho, hx, Instr.loadAt, Instr.sureAddr, Sem.run_bind, Sem.run_pure, Result.andThen_ok, run_loadVar_row w g t ty vs.toArray (0, 0) _ hg hu rfl (by simpa using hi)]
end
theorem neq_self (l : L) : Value.bool (!decide (l = l)) = .bool false := by simp
theorem act_each {a a0 : Act} (sl : Nat → Nat) (n : Nat) (SL : List Nat) (hz : a.tmps.size = a0.tmps.size) (hd : a.defers = a0.defers) (ho : ∀ t, (∀ j, j < n → sl j ≠ t) → a.tmps[t]? = a0.tmps[t]?) (hSL : ∀ j, j < n → sl j ∈ SL) :
    a = { a0 with tmps := SL.foldl (fun b t => b.setIfInBounds t (Rv.look a t)) a0.tmps } :=
  Rv.act_of SL hz hd fun t ht => by
    have := ho t (fun j hj e => ht (e ▸ hSL j hj))
    unfold Rv.look
    rw [Array.getD_eq_getD_getElem?, this, ← Array.getD_eq_getD_getElem?]
def sl1 (j : Nat) : Nat := 5 + j
def sl3 (j : Nat) : Nat := if j < 9 then 14 + j else 4
def kd1 (a : L) : List Kd := [.eq (.bool true), .eq (.bool false), .eq (.bool false), .eq (.agg (m64 a).toArray), .eq (.agg (m64 (permF a)).toArray), .eq (.agg (m64 a).toArray), .eq (.agg (m64 (permF a)).toArray), .eq (.bool false), .eq (.bool false)]
def kd3 (a b : L) : List Kd := [.eq (.agg (m64 a).toArray), .eq (.agg (m64 (permF a)).toArray), .eq (.agg (m64 b).toArray), .eq (.agg (m64 (permF b)).toArray), .eq (.bool (decide (permF a = permF b))), .eq (.agg (m64 a).toArray), .eq (.agg (m64 b).toArray), .eq (.bool (decide (a = b))), .eq (.bool true), .eq (.bool true)]
theorem same_eq {a b : L} (ha : a.length = 25) (hb : b.length = 25) : (decide (permF a = permF b) == decide (a = b)) = true := by
  by_cases h : a = b
  · subst h; simp
  · have : ¬ permF a = permF b := fun e => h (perm_inj ha hb e)
    simp [h, this]
set_option maxRecDepth 100000 in
set_option maxHeartbeats 4000000 in
theorem permutes4 (w : World) (a b : L) (ha : a.length = 25) (hb : b.length = 25) : Calls Try.prog 4 #[.agg (m64 a).toArray, .agg (m64 b).toArray] w fun e w' => e = .returned (.bool true) ∧ Below w.heap.size w w' := by
  have L9 : Hid (∀ W, Calls Try.prog 9 #[] W fun e w' => ∃ x, e = .returned x ∧ VK (.eq (.bool true)) x w' ∧ Below W.heap.size W w') := fun W => by
    refine (awake9 W).mono ?_
    rintro e w' ⟨rfl, hb⟩
    exact ⟨_, rfl, rfl, hb⟩
  have L17A : Hid (∀ W, Calls Try.prog 17 #[.agg (m64 a).toArray] W fun e w' => ∃ x, e = .returned x ∧ VK (.eq (.agg (m64 (permF a)).toArray)) x w' ∧ Below W.heap.size W w') := fun W => by
    refine (permute17 W a ha).mono ?_
    rintro e w' ⟨rfl, hb⟩
    exact ⟨_, rfl, rfl, hb⟩
  have L17B : Hid (∀ W, Calls Try.prog 17 #[.agg (m64 b).toArray] W fun e w' => ∃ x, e = .returned x ∧ VK (.eq (.agg (m64 (permF b)).toArray)) x w' ∧ Below W.heap.size W w') := fun W => by
    refine (permute17 W b hb).mono ?_
    rintro e w' ⟨rfl, hb⟩
    exact ⟨_, rfl, rfl, hb⟩
  have L18 : Hid (∀ W, Calls Try.prog 18 #[.agg (m64 a).toArray] W fun e w' => ∃ x, e = .returned x ∧ VK (.eq (.agg (m64 (permF a)).toArray)) x w' ∧ Below W.heap.size W w') := fun W => by
    refine (permute18 W a ha).mono ?_
    rintro e w' ⟨rfl, hb⟩
    exact ⟨_, rfl, rfl, hb⟩
  have HEQ := Lib.hid (same_eq ha hb)
  have HPA := Lib.hid (perm_len ha)
  have HPB := Lib.hid (perm_len hb)
  have HLA := Lib.hid ha
  have HLB := Lib.hid hb
  have HIA : Hid ((Try.prog.info? 33).map (·.size) = some (m64 a).length) := by rw [m64_len, ha]; exact info33
  have HIB : Hid ((Try.prog.info? 33).map (·.size) = some (m64 b).length) := by rw [m64_len, hb]; exact info33
  have s1 := size_alloc w (.cells (m64 a).toArray 33)
  have a1 : Arr ((w.alloc (.cells (m64 a).toArray 33)).alloc (.cells (m64 b).toArray 33)) w.heap.size 33 (m64 a) := (Arr.new w (m64 a) 33).alloc _
  have a2 : Arr ((w.alloc (.cells (m64 a).toArray 33)).alloc (.cells (m64 b).toArray 33)) (w.heap.size + 1) 33 (m64 b) := by
    have := Arr.new (w.alloc (.cells (m64 a).toArray 33)) (m64 b) 33
    rw [s1] at this
    exact this
  have hB0 : Below w.heap.size w ((w.alloc (.cells (m64 a).toArray 33)).alloc (.cells (m64 b).toArray 33)) := ((Below.refl _ w).alloc (Nat.le_refl _) _).alloc (by omega) _
  have HB0 := Lib.hid hB0
  have HA1 := Lib.hid a1
  have HA2 := Lib.hid a2
  clear s1 a1 a2 hB0 ha hb
  go_enter Try.func4, Try.ntmps4
  go_wp2_with fail
  generalize ((w.alloc (.cells (m64 a).toArray 33)).alloc (.cells (m64 b).toArray 33)) = wx at *
  have HGA : Hid (∀ W, Below wx.heap.size wx W → Arr W w.heap.size 33 (m64 a)) := fun W hW => HA1.out.later hW HA1.out.lt
  have HGB : Hid (∀ W, Below wx.heap.size wx W → Arr W (w.heap.size + 1) 33 (m64 b)) := fun W hW => HA2.out.later hW HA2.out.lt
  obtain ⟨n0, hn0⟩ : ∃ n, n = w.heap.size := ⟨_, rfl⟩
  have HN0 := Lib.hid hn0
  rw [← hn0] at HGA HGB ⊢
  clear hn0 HA1 HA2
  refine wp_region_each sl1 (fun j => VK ((kd1 a).getD j (.eq undef))) (fun W => Below wx.heap.size wx W) (by kernel_rfl) ?slots (Below.refl _ _).drew (fun j v w w' h hb => VK.keep hb h) ?steps ?fin
  case slots => exact (show slotsB _ sl1 23 = true from by decide +kernel)
  case steps =>
    refine Steps.cons ?_ ?_
    · -- operation 0
      intro a w' hi hd ho hf
      refine ⟨wanted_none rfl, ?_⟩
      exact fin_call (run_call a.eval w' _ 9 #[] _ _ rfl rfl (by simp only [List.map_toArray, List.map_cons, List.map_nil]) (enters_of Try.func9 (by kernel_rfl) rfl)) (L9.out w') (fun W hW => hi.trans (hW.mono hi.size))
    refine Steps.cons ?_ ?_
    · -- operation 1
      intro a w' hi hd ho hf
      obtain ⟨v0, e0, h0⟩ := hf 0 (by rfl)
      change v0 = _ at h0; subst h0
      have f5 : a.eval (.tmp 5) = _ := eval_of e0
      refine ⟨wanted_none rfl, ?_⟩
      exact fin_val (run_not a.eval w' _ _ _ rfl f5) rfl hi (Below.refl _ _)
    refine Steps.cons ?_ ?_
    · -- operation 2
      intro a w' hi hd ho hf
      obtain ⟨v1, e1, h1⟩ := hf 1 (by rfl)
      change v1 = _ at h1; subst h1
      have f6 : a.eval (.tmp 6) = _ := eval_of e1
      refine ⟨wanted_none rfl, ?_⟩
      refine fin_val (run_move a.eval w' _ _ rfl) ?_ hi (Below.refl _ _)
      exact f6
    refine Steps.cons ?_ ?_
    · -- operation 3
      intro a w' hi hd ho hf
      have f2 : a.eval (.tmp 2) = _ := eval_of ((ho 2 (by decide)).trans (show _ = some (.pointer (some ⟨n0, 0, none⟩)) from rfl))
      obtain ⟨vg, eg, hg⟩ := hf 2 (by rfl)
      change vg = _ at hg; subst hg
      refine ⟨wanted_of (b := false) (by rfl) (by rfl) (by rfl) eg, ?_⟩
      exact fin_val (run_load_arr 33 _ rfl _ f2 33 _ (HGA.out w' hi) Try.underlying33 HIA.out) rfl hi (Below.refl _ _)
    refine Steps.cons ?_ ?_
    · -- operation 4
      intro a w' hi hd ho hf
      obtain ⟨v3, e3, h3⟩ := hf 3 (by rfl)
      change v3 = _ at h3; subst h3
      have f8 : a.eval (.tmp 8) = _ := eval_of e3
      obtain ⟨vg, eg, hg⟩ := hf 2 (by rfl)
      change vg = _ at hg; subst hg
      refine ⟨wanted_of (b := false) (by rfl) (by rfl) (by rfl) eg, ?_⟩
      exact fin_call (run_call a.eval w' _ 17 #[.tmp 8] _ _ rfl rfl (by simp only [List.map_toArray, List.map_cons, List.map_nil, f8]) (enters_of Try.func17 (by kernel_rfl) rfl)) (L17A.out w') (fun W hW => hi.trans (hW.mono hi.size))
    refine Steps.cons ?_ ?_
    · -- operation 5
      intro a w' hi hd ho hf
      have f2 : a.eval (.tmp 2) = _ := eval_of ((ho 2 (by decide)).trans (show _ = some (.pointer (some ⟨n0, 0, none⟩)) from rfl))
      obtain ⟨vg, eg, hg⟩ := hf 2 (by rfl)
      change vg = _ at hg; subst hg
      refine ⟨wanted_of (b := false) (by rfl) (by rfl) (by rfl) eg, ?_⟩
      exact fin_val (run_load_arr 33 _ rfl _ f2 33 _ (HGA.out w' hi) Try.underlying33 HIA.out) rfl hi (Below.refl _ _)
    refine Steps.cons ?_ ?_
    · -- operation 6
      intro a w' hi hd ho hf
      obtain ⟨v5, e5, h5⟩ := hf 5 (by rfl)
      change v5 = _ at h5; subst h5
      have f10 : a.eval (.tmp 10) = _ := eval_of e5
      obtain ⟨vg, eg, hg⟩ := hf 2 (by rfl)
      change vg = _ at hg; subst hg
      refine ⟨wanted_of (b := false) (by rfl) (by rfl) (by rfl) eg, ?_⟩
      exact fin_call (run_call a.eval w' _ 18 #[.tmp 10] _ _ rfl rfl (by simp only [List.map_toArray, List.map_cons, List.map_nil, f10]) (enters_of Try.func18 (by kernel_rfl) rfl)) (L18.out w') (fun W hW => hi.trans (hW.mono hi.size))
    refine Steps.cons ?_ ?_
    · -- operation 7
      intro a w' hi hd ho hf
      obtain ⟨v4, e4, h4⟩ := hf 4 (by rfl)
      change v4 = _ at h4; subst h4
      have f9 : a.eval (.tmp 9) = _ := eval_of e4
      obtain ⟨v6, e6, h6⟩ := hf 6 (by rfl)
      change v6 = _ at h6; subst h6
      have f11 : a.eval (.tmp 11) = _ := eval_of e6
      obtain ⟨vg, eg, hg⟩ := hf 2 (by rfl)
      change vg = _ at hg; subst hg
      refine ⟨wanted_of (b := false) (by rfl) (by rfl) (by rfl) eg, ?_⟩
      exact fin_val (run_neq33 a.eval w' _ _ _ _ _ HPA.out HPA.out rfl f9 f11) (neq_self _) hi (Below.refl _ _)
    refine Steps.cons ?_ ?_
    · -- operation 8
      intro a w' hi hd ho hf
      obtain ⟨v2, e2, h2⟩ := hf 2 (by rfl)
      change v2 = _ at h2; subst h2
      have f7 : a.eval (.tmp 7) = _ := eval_of e2
      obtain ⟨v7, e7, h7⟩ := hf 7 (by rfl)
      change v7 = _ at h7; subst h7
      have f12 : a.eval (.tmp 12) = _ := eval_of e7
      refine ⟨wanted_none rfl, ?_⟩
      refine fin_val (run_pickf a.eval w' _ _ _ _ rfl f7) ?_ hi (Below.refl _ _)
      exact f12
    exact Steps.nil
  case fin =>
    intro a' W' hi hsz hdf ho hall
    obtain ⟨v8, e8, h8⟩ := hall 8 (by decide)
    change v8 = _ at h8
    subst h8
    have e := act_each sl1 9 [5, 6, 7, 8, 9, 10, 11, 12, 13] hsz hdf ho (by decide)
    have h13 : Rv.look a' 13 = .bool false := by
      unfold Rv.look
      rw [Array.getD_eq_getD_getElem?, show a'.tmps[13]? = _ from e8]
      rfl
    have HI := Lib.hid hi
    rw [e]
    simp only [List.foldl_cons, List.foldl_nil, List.setIfInBounds_toArray, List.set_cons_zero, List.set_cons_succ, h13]
    generalize Rv.look a' 5 = u5 at *
    generalize Rv.look a' 6 = u6 at *
    generalize Rv.look a' 7 = u7 at *
    generalize Rv.look a' 8 = u8 at *
    generalize Rv.look a' 9 = u9 at *
    generalize Rv.look a' 10 = u10 at *
    generalize Rv.look a' 11 = u11 at *
    generalize Rv.look a' 12 = u12 at *
    clear e ho hall hsz hdf hi h13 e8
    go_wp2_with fail
    have HB2 : Hid (∀ W, Below W'.heap.size W' W → Below wx.heap.size wx W) := fun W hW => HI.out.trans (hW.mono HI.out.size)
    refine wp_region_each sl3 (fun j => VK ((kd3 a b).getD j (.eq undef))) (fun W => Below wx.heap.size wx W) (by kernel_rfl) ?slots (HB2.out _ (Below.refl _ _).drew) (fun j v w w' h hb => VK.keep hb h) ?steps ?fin
    case slots => exact (show slotsB _ sl3 23 = true from by decide +kernel)
    case fin =>
      intro a'' W'' hi hsz hdf ho hall
      obtain ⟨v9, e9, h9⟩ := hall 9 (by decide)
      change v9 = _ at h9
      subst h9
      go_wp2
      have e2 : a''.tmps[4]? = some (.bool true) := e9
      exact bodyPost_ret (v := .bool true) (by simp [results, Try.results4, go_sem, e2]) hdf ⟨rfl, HB0.out.trans (hi.mono HB0.out.size)⟩
    case steps =>
      refine Steps.cons ?_ ?_
      · -- operation 0
        intro a w' hi hd ho hf
        have f2 : a.eval (.tmp 2) = _ := eval_of ((ho 2 (by decide)).trans (show _ = some (.pointer (some ⟨n0, 0, none⟩)) from rfl))
        refine ⟨wanted_none rfl, ?_⟩
        exact fin_val (run_load_arr 33 _ rfl _ f2 33 _ (HGA.out w' hi) Try.underlying33 HIA.out) rfl hi (Below.refl _ _)
      refine Steps.cons ?_ ?_
      · -- operation 1
        intro a w' hi hd ho hf
        obtain ⟨v0, e0, h0⟩ := hf 0 (by rfl)
        change v0 = _ at h0; subst h0
        have f14 : a.eval (.tmp 14) = _ := eval_of e0
        refine ⟨wanted_none rfl, ?_⟩
        exact fin_call (run_call a.eval w' _ 17 #[.tmp 14] _ _ rfl rfl (by simp only [List.map_toArray, List.map_cons, List.map_nil, f14]) (enters_of Try.func17 (by kernel_rfl) rfl)) (L17A.out w') (fun W hW => hi.trans (hW.mono hi.size))
      refine Steps.cons ?_ ?_
      · -- operation 2
        intro a w' hi hd ho hf
        have f3 : a.eval (.tmp 3) = _ := eval_of ((ho 3 (by decide)).trans (show _ = some (.pointer (some ⟨n0 + 1, 0, none⟩)) from rfl))
        refine ⟨wanted_none rfl, ?_⟩
        exact fin_val (run_load_arr 33 _ rfl _ f3 33 _ (HGB.out w' hi) Try.underlying33 HIB.out) rfl hi (Below.refl _ _)
      refine Steps.cons ?_ ?_
      · -- operation 3
        intro a w' hi hd ho hf
        obtain ⟨v2, e2, h2⟩ := hf 2 (by rfl)
        change v2 = _ at h2; subst h2
        have f16 : a.eval (.tmp 16) = _ := eval_of e2
        refine ⟨wanted_none rfl, ?_⟩
        exact fin_call (run_call a.eval w' _ 17 #[.tmp 16] _ _ rfl rfl (by simp only [List.map_toArray, List.map_cons, List.map_nil, f16]) (enters_of Try.func17 (by kernel_rfl) rfl)) (L17B.out w') (fun W hW => hi.trans (hW.mono hi.size))
      refine Steps.cons ?_ ?_
      · -- operation 4
        intro a w' hi hd ho hf
        obtain ⟨v1, e1, h1⟩ := hf 1 (by rfl)
        change v1 = _ at h1; subst h1
        have f15 : a.eval (.tmp 15) = _ := eval_of e1
        obtain ⟨v3, e3, h3⟩ := hf 3 (by rfl)
        change v3 = _ at h3; subst h3
        have f17 : a.eval (.tmp 17) = _ := eval_of e3
        refine ⟨wanted_none rfl, ?_⟩
        exact fin_val (run_eq33 a.eval w' _ _ _ _ _ HPA.out HPB.out rfl f15 f17) rfl hi (Below.refl _ _)
      refine Steps.cons ?_ ?_
      · -- operation 5
        intro a w' hi hd ho hf
        have f2 : a.eval (.tmp 2) = _ := eval_of ((ho 2 (by decide)).trans (show _ = some (.pointer (some ⟨n0, 0, none⟩)) from rfl))
        refine ⟨wanted_none rfl, ?_⟩
        exact fin_val (run_load_arr 33 _ rfl _ f2 33 _ (HGA.out w' hi) Try.underlying33 HIA.out) rfl hi (Below.refl _ _)
      refine Steps.cons ?_ ?_
      · -- operation 6
        intro a w' hi hd ho hf
        have f3 : a.eval (.tmp 3) = _ := eval_of ((ho 3 (by decide)).trans (show _ = some (.pointer (some ⟨n0 + 1, 0, none⟩)) from rfl))
        refine ⟨wanted_none rfl, ?_⟩
        exact fin_val (run_load_arr 33 _ rfl _ f3 33 _ (HGB.out w' hi) Try.underlying33 HIB.out) rfl hi (Below.refl _ _)
      refine Steps.cons ?_ ?_
      · -- operation 7
        intro a w' hi hd ho hf
        obtain ⟨v5, e5, h5⟩ := hf 5 (by rfl)
        change v5 = _ at h5; subst h5
        have f19 : a.eval (.tmp 19) = _ := eval_of e5
        obtain ⟨v6, e6, h6⟩ := hf 6 (by rfl)
        change v6 = _ at h6; subst h6
        have f20 : a.eval (.tmp 20) = _ := eval_of e6
        refine ⟨wanted_none rfl, ?_⟩
        exact fin_val (run_eq33 a.eval w' _ _ _ _ _ HLA.out HLB.out rfl f19 f20) rfl hi (Below.refl _ _)
      refine Steps.cons ?_ ?_
      · -- operation 8
        intro a w' hi hd ho hf
        obtain ⟨v4, e4, h4⟩ := hf 4 (by rfl)
        change v4 = _ at h4; subst h4
        have f18 : a.eval (.tmp 18) = _ := eval_of e4
        obtain ⟨v7, e7, h7⟩ := hf 7 (by rfl)
        change v7 = _ at h7; subst h7
        have f21 : a.eval (.tmp 21) = _ := eval_of e7
        refine ⟨wanted_none rfl, ?_⟩
        exact fin_val (run_eq4 a.eval w' _ _ _ _ _ rfl f18 f21) (show _ = Value.bool true by rw [HEQ.out]) hi (Below.refl _ _)
      refine Steps.cons ?_ ?_
      · -- operation 9
        intro a w' hi hd ho hf
        obtain ⟨v8, e8, h8⟩ := hf 8 (by rfl)
        change v8 = _ at h8; subst h8
        have f22 : a.eval (.tmp 22) = _ := eval_of e8
        refine ⟨wanted_none rfl, ?_⟩
        refine fin_val (run_assign a.eval w' _ _ rfl) ?_ hi (Below.refl _ _)
        exact f22
      exact Steps.nil
end Go.Proofs.Ytnlcndlfdnogaaa.Pz
