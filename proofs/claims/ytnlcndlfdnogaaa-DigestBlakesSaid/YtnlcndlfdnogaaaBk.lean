/- DigestBlakes, walked. (printed by gen_bk.py) -/
import Derived.Test.YtnlcndlfdnogaaaBr
import Derived.Test.YtnlcndlfdnogaaaN1
set_option linter.unusedVariables false
set_option linter.unusedSimpArgs false
namespace Go.Proofs.Ytnlcndlfdnogaaa.Bk
open Go.RowKit
open D0 M D2 D3 P Bs Bp Bw St Br Aw N1 Rs
theorem info48 : (Try.prog.info? 48).map (·.size) = some 2 := by kernel_rfl
theorem run_eq45 (ρ : Operand → Value) (w : World) (o : Oper) (x y : Operand) (l r : L) (hl : l.length = 8) (hr : r.length = 8) (ho : o.op = .binOp .eql 45 x y 45) (h1 : ρ x = .agg (m64 l).toArray) (h2 : ρ y = .agg (m64 r).toArray) : (execOp ρ o).run Try.prog w = .ok (.value (.bool (decide (l = r)))) w := by
  have hm : Try.prog.eqGuardType Try.prog.depth 45 = false := by kernel_rfl
  unfold execOp; rw [ho]; simp [go_sem, h1, h2, hm, Eq.in45 w l r hl hr]
def sl (j : Nat) : Nat := if j < 13 then 15 + j else 10
def kdL (r : Nat) (h m : L) (t0 t1 : BitVec 64) (last : Bool) : List Kd :=
  [.eq (.int .u32 (r : Int)), .eq (.agg (m64 h).toArray), .eq (.agg (m64 m).toArray), .eq (.agg (m64 [t0, t1]).toArray), .eq (.bool last), .eq (.agg (m64 (blakeF r h m t0 t1 last)).toArray), .eq (.int .u32 (r : Int)), .eq (.agg (m64 h).toArray), .eq (.agg (m64 m).toArray), .eq (.agg (m64 [t0, t1]).toArray), .eq (.bool last), .eq (.agg (m64 (blakeF r h m t0 t1 last)).toArray), .eq (.bool true), .eq (.bool true)]
theorem te2000 (x m : Nat) (k : Int) (hk : k = (x : Int)) (h : m = x % 2000) : k.tmod 2000 = (m : Int) := by
  subst hk; subst h
  rw [Int.tmod_eq_emod_of_nonneg (by omega)]; omega
set_option maxRecDepth 100000 in
set_option maxHeartbeats 4000000 in
theorem blakes8 (w : World) (many : Nat) (h m : L) (t0 t1 : BitVec 64) (last : Bool) (hmany : many < 4294967296) (hh : h.length = 8) (hm : m.length = 16) :
    Calls Try.prog 8 #[.int .u32 (many : Int), .agg (m64 h).toArray, .agg (m64 m).toArray, .agg (m64 [t0, t1]).toArray, .bool last] w fun e w' => e = .returned (.bool true) ∧ Below w.heap.size w w' := by
  obtain ⟨r, hr⟩ : ∃ r, r = many % 2000 := ⟨_, rfl⟩
  have er := te2000 many r (many : Int) rfl hr
  have hr2 : r < 4294967296 := by omega
  have L22 : Hid (∀ W, Calls Try.prog 22 #[.int .u32 (r : Int), .agg (m64 h).toArray, .agg (m64 m).toArray, .agg (m64 [t0, t1]).toArray, .bool last] W fun e w' => ∃ x, e = .returned x ∧ VK (.eq (.agg (m64 (blakeF r h m t0 t1 last)).toArray)) x w' ∧ Below W.heap.size W w') := fun W => by
    refine (blake22 W r h m t0 t1 last hr2 hh hm).mono ?_
    rintro e w' ⟨rfl, hb⟩
    exact ⟨_, rfl, rfl, hb⟩
  have L23 : Hid (∀ W, Calls Try.prog 23 #[.int .u32 (r : Int), .agg (m64 h).toArray, .agg (m64 m).toArray, .agg (m64 [t0, t1]).toArray, .bool last] W fun e w' => ∃ x, e = .returned x ∧ VK (.eq (.agg (m64 (blakeF r h m t0 t1 last)).toArray)) x w' ∧ Below W.heap.size W w') := fun W => by
    refine (blake23 W r h m t0 t1 last hr2 hh hm).mono ?_
    rintro e w' ⟨rfl, hb⟩
    exact ⟨_, rfl, rfl, hb⟩
  have HLO := Lib.hid (show (blakeF r h m t0 t1 last).length = 8 by rw [blake_len, hh])
  have HI45 : Hid ((Try.prog.info? 45).map (·.size) = some (m64 h).length) := by rw [m64_len, hh]; exact info45
  have HI44 : Hid ((Try.prog.info? 44).map (·.size) = some (m64 m).length) := by rw [m64_len, hm]; exact info44
  have HI48 : Hid ((Try.prog.info? 48).map (·.size) = some (m64 [t0, t1]).length) := by rw [m64_len]; exact info48
  have s1 := size_alloc w (.cells (m64 h).toArray 45)
  have s2 := size_alloc (w.alloc (.cells (m64 h).toArray 45)) (.cells (m64 m).toArray 44)
  have a1 : Arr (((w.alloc (.cells (m64 h).toArray 45)).alloc (.cells (m64 m).toArray 44)).alloc (.cells (m64 [t0, t1]).toArray 48)) w.heap.size 45 (m64 h) := ((Arr.new w (m64 h) 45).alloc _).alloc _
  have a2 : Arr (((w.alloc (.cells (m64 h).toArray 45)).alloc (.cells (m64 m).toArray 44)).alloc (.cells (m64 [t0, t1]).toArray 48)) (w.heap.size + 1) 44 (m64 m) := by
    have := (Arr.new (w.alloc (.cells (m64 h).toArray 45)) (m64 m) 44).alloc (.cells (m64 [t0, t1]).toArray 48)
    rw [s1] at this
    exact this
  have a3 : Arr (((w.alloc (.cells (m64 h).toArray 45)).alloc (.cells (m64 m).toArray 44)).alloc (.cells (m64 [t0, t1]).toArray 48)) (w.heap.size + 1 + 1) 48 (m64 [t0, t1]) := by
    have := Arr.new ((w.alloc (.cells (m64 h).toArray 45)).alloc (.cells (m64 m).toArray 44)) (m64 [t0, t1]) 48
    rw [s2, s1] at this
    exact this
  have hB0 : Below w.heap.size w (((w.alloc (.cells (m64 h).toArray 45)).alloc (.cells (m64 m).toArray 44)).alloc (.cells (m64 [t0, t1]).toArray 48)) := (((Below.refl _ w).alloc (Nat.le_refl _) _).alloc (by omega) _).alloc (by omega) _
  have HB0 := Lib.hid hB0
  have HA1 := Lib.hid a1
  have HA2 := Lib.hid a2
  have HA3 := Lib.hid a3
  clear hr hr2 hmany hh hm s1 s2 a1 a2 a3 hB0
  go_enter Try.func8, Try.ntmps8
  go_wp2_with (first
    | (go_at_call 9; refine (awake9 _).mono ?_
       rintro e w1 ⟨rfl, hb1⟩
       have HB1 := Lib.hid (HB0.out.trans (hb1.mono HB0.out.size))
       have HC1 := Lib.hid (HA1.out.later hb1 HA1.out.lt)
       have HC2 := Lib.hid (HA2.out.later hb1 HA2.out.lt)
       have HC3 := Lib.hid (HA3.out.later hb1 HA3.out.lt)
       clear hb1))
  have HGH : Hid (∀ W, Below w1.heap.size w1 W → Arr W w.heap.size 45 (m64 h)) := fun W hW => HC1.out.later hW HC1.out.lt
  have HGM : Hid (∀ W, Below w1.heap.size w1 W → Arr W (w.heap.size + 1) 44 (m64 m)) := fun W hW => HC2.out.later hW HC2.out.lt
  have HGT : Hid (∀ W, Below w1.heap.size w1 W → Arr W (w.heap.size + 1 + 1) 48 (m64 [t0, t1])) := fun W hW => HC3.out.later hW HC3.out.lt
  obtain ⟨n0, hn0⟩ : ∃ n, n = w.heap.size := ⟨_, rfl⟩
  have HN0 := Lib.hid hn0
  rw [← hn0] at HGH HGM HGT ⊢
  clear hn0 HC1 HC2 HC3 HA1 HA2 HA3 HB0
  refine wp_region_each sl (fun j => VK ((kdL r h m t0 t1 last).getD j (.eq undef))) (fun W => Below w1.heap.size w1 W) (by kernel_rfl) ?slots (Below.refl _ _).drew (fun j v w w' h hb => VK.keep hb h) ?steps ?fin
  case slots => exact (show slotsB _ sl 28 = true from by decide +kernel)
  case fin =>
    intro a' W' hi hsz hdf ho hall
    obtain ⟨v13, e13, h13⟩ := hall 13 (by decide)
    change v13 = _ at h13
    subst h13
    go_wp2
    have e2 : a'.tmps[10]? = some (.bool true) := e13
    exact bodyPost_ret (v := .bool true) (by simp [results, Try.results8, go_sem, e2]) hdf ⟨rfl, HB1.out.trans (hi.mono HB1.out.size)⟩
  case steps =>
    refine Steps.cons ?_ ?_
    · -- operation 0
      intro a w' hi hd ho hf
      have f0 : a.eval (.tmp 0) = _ := eval_of ((ho 0 (by decide)).trans (show _ = some (.int .u32 (r : Int)) from rfl))
      refine ⟨wanted_none rfl, ?_⟩
      refine fin_val (run_move a.eval w' _ _ rfl) ?_ hi (Below.refl _ _)
      exact f0
    refine Steps.cons ?_ ?_
    · -- operation 1
      intro a w' hi hd ho hf
      have f6 : a.eval (.tmp 6) = _ := eval_of ((ho 6 (by decide)).trans (show _ = some (.pointer (some ⟨n0, 0, none⟩)) from rfl))
      refine ⟨wanted_none rfl, ?_⟩
      exact fin_val (Br.run_load_arr 45 _ rfl _ f6 45 _ (HGH.out w' hi) Try.underlying45 HI45.out) rfl hi (Below.refl _ _)
    refine Steps.cons ?_ ?_
    · -- operation 2
      intro a w' hi hd ho hf
      have f7 : a.eval (.tmp 7) = _ := eval_of ((ho 7 (by decide)).trans (show _ = some (.pointer (some ⟨n0 + 1, 0, none⟩)) from rfl))
      refine ⟨wanted_none rfl, ?_⟩
      exact fin_val (Br.run_load_arr 44 _ rfl _ f7 44 _ (HGM.out w' hi) Try.underlying44 HI44.out) rfl hi (Below.refl _ _)
    refine Steps.cons ?_ ?_
    · -- operation 3
      intro a w' hi hd ho hf
      have f8 : a.eval (.tmp 8) = _ := eval_of ((ho 8 (by decide)).trans (show _ = some (.pointer (some ⟨n0 + 1 + 1, 0, none⟩)) from rfl))
      refine ⟨wanted_none rfl, ?_⟩
      exact fin_val (Br.run_load_arr 48 _ rfl _ f8 48 _ (HGT.out w' hi) Try.underlying48 HI48.out) rfl hi (Below.refl _ _)
    refine Steps.cons ?_ ?_
    · -- operation 4
      intro a w' hi hd ho hf
      have f4 : a.eval (.tmp 4) = _ := eval_of ((ho 4 (by decide)).trans (show _ = some (.bool last) from rfl))
      refine ⟨wanted_none rfl, ?_⟩
      refine fin_val (run_move a.eval w' _ _ rfl) ?_ hi (Below.refl _ _)
      exact f4
    refine Steps.cons ?_ ?_
    · -- operation 5
      intro a w' hi hd ho hf
      obtain ⟨v0, e0, h0⟩ := hf 0 (by rfl)
      change v0 = _ at h0; subst h0
      have f15 : a.eval (.tmp 15) = _ := eval_of e0
      obtain ⟨v1, e1, h1⟩ := hf 1 (by rfl)
      change v1 = _ at h1; subst h1
      have f16 : a.eval (.tmp 16) = _ := eval_of e1
      obtain ⟨v2, e2, h2⟩ := hf 2 (by rfl)
      change v2 = _ at h2; subst h2
      have f17 : a.eval (.tmp 17) = _ := eval_of e2
      obtain ⟨v3, e3, h3⟩ := hf 3 (by rfl)
      change v3 = _ at h3; subst h3
      have f18 : a.eval (.tmp 18) = _ := eval_of e3
      obtain ⟨v4, e4, h4⟩ := hf 4 (by rfl)
      change v4 = _ at h4; subst h4
      have f19 : a.eval (.tmp 19) = _ := eval_of e4
      refine ⟨wanted_none rfl, ?_⟩
      exact fin_call (run_call a.eval w' _ 22 #[.tmp 15, .tmp 16, .tmp 17, .tmp 18, .tmp 19] _ _ rfl rfl (by simp only [List.map_toArray, List.map_cons, List.map_nil, f15, f16, f17, f18, f19]) (enters_of Try.func22 (by kernel_rfl) rfl)) (L22.out w') (fun W hW => hi.trans (hW.mono hi.size))
    refine Steps.cons ?_ ?_
    · -- operation 6
      intro a w' hi hd ho hf
      have f0 : a.eval (.tmp 0) = _ := eval_of ((ho 0 (by decide)).trans (show _ = some (.int .u32 (r : Int)) from rfl))
      refine ⟨wanted_none rfl, ?_⟩
      refine fin_val (run_move a.eval w' _ _ rfl) ?_ hi (Below.refl _ _)
      exact f0
    refine Steps.cons ?_ ?_
    · -- operation 7
      intro a w' hi hd ho hf
      have f6 : a.eval (.tmp 6) = _ := eval_of ((ho 6 (by decide)).trans (show _ = some (.pointer (some ⟨n0, 0, none⟩)) from rfl))
      refine ⟨wanted_none rfl, ?_⟩
      exact fin_val (Br.run_load_arr 45 _ rfl _ f6 45 _ (HGH.out w' hi) Try.underlying45 HI45.out) rfl hi (Below.refl _ _)
    refine Steps.cons ?_ ?_
    · -- operation 8
      intro a w' hi hd ho hf
      have f7 : a.eval (.tmp 7) = _ := eval_of ((ho 7 (by decide)).trans (show _ = some (.pointer (some ⟨n0 + 1, 0, none⟩)) from rfl))
      refine ⟨wanted_none rfl, ?_⟩
      exact fin_val (Br.run_load_arr 44 _ rfl _ f7 44 _ (HGM.out w' hi) Try.underlying44 HI44.out) rfl hi (Below.refl _ _)
    refine Steps.cons ?_ ?_
    · -- operation 9
      intro a w' hi hd ho hf
      have f8 : a.eval (.tmp 8) = _ := eval_of ((ho 8 (by decide)).trans (show _ = some (.pointer (some ⟨n0 + 1 + 1, 0, none⟩)) from rfl))
      refine ⟨wanted_none rfl, ?_⟩
      exact fin_val (Br.run_load_arr 48 _ rfl _ f8 48 _ (HGT.out w' hi) Try.underlying48 HI48.out) rfl hi (Below.refl _ _)
    refine Steps.cons ?_ ?_
    · -- operation 10
      intro a w' hi hd ho hf
      have f4 : a.eval (.tmp 4) = _ := eval_of ((ho 4 (by decide)).trans (show _ = some (.bool last) from rfl))
      refine ⟨wanted_none rfl, ?_⟩
      refine fin_val (run_move a.eval w' _ _ rfl) ?_ hi (Below.refl _ _)
      exact f4
    refine Steps.cons ?_ ?_
    · -- operation 11
      intro a w' hi hd ho hf
      obtain ⟨v6, e6, h6⟩ := hf 6 (by rfl)
      change v6 = _ at h6; subst h6
      have f21 : a.eval (.tmp 21) = _ := eval_of e6
      obtain ⟨v7, e7, h7⟩ := hf 7 (by rfl)
      change v7 = _ at h7; subst h7
      have f22 : a.eval (.tmp 22) = _ := eval_of e7
      obtain ⟨v8, e8, h8⟩ := hf 8 (by rfl)
      change v8 = _ at h8; subst h8
      have f23 : a.eval (.tmp 23) = _ := eval_of e8
      obtain ⟨v9, e9, h9⟩ := hf 9 (by rfl)
      change v9 = _ at h9; subst h9
      have f24 : a.eval (.tmp 24) = _ := eval_of e9
      obtain ⟨v10, e10, h10⟩ := hf 10 (by rfl)
      change v10 = _ at h10; subst h10
      have f25 : a.eval (.tmp 25) = _ := eval_of e10
      refine ⟨wanted_none rfl, ?_⟩
      exact fin_call (run_call a.eval w' _ 23 #[.tmp 21, .tmp 22, .tmp 23, .tmp 24, .tmp 25] _ _ rfl rfl (by simp only [List.map_toArray, List.map_cons, List.map_nil, f21, f22, f23, f24, f25]) (enters_of Try.func23 (by kernel_rfl) rfl)) (L23.out w') (fun W hW => hi.trans (hW.mono hi.size))
    refine Steps.cons ?_ ?_
    · -- operation 12
      intro a w' hi hd ho hf
      obtain ⟨v5, e5, h5⟩ := hf 5 (by rfl)
      change v5 = _ at h5; subst h5
      have f20 : a.eval (.tmp 20) = _ := eval_of e5
      obtain ⟨v11, e11, h11⟩ := hf 11 (by rfl)
      change v11 = _ at h11; subst h11
      have f26 : a.eval (.tmp 26) = _ := eval_of e11
      refine ⟨wanted_none rfl, ?_⟩
      exact fin_val (run_eq45 a.eval w' _ _ _ _ _ HLO.out HLO.out rfl f20 f26) (congrArg Value.bool (decide_eq_true rfl)) hi (Below.refl _ _)
    refine Steps.cons ?_ ?_
    · -- operation 13
      intro a w' hi hd ho hf
      obtain ⟨v12, e12, h12⟩ := hf 12 (by rfl)
      change v12 = _ at h12; subst h12
      have f27 : a.eval (.tmp 27) = _ := eval_of e12
      refine ⟨wanted_none rfl, ?_⟩
      refine fin_val (run_assign a.eval w' _ _ rfl) ?_ hi (Below.refl _ _)
      exact f27
    exact Steps.nil
end Go.Proofs.Ytnlcndlfdnogaaa.Bk
