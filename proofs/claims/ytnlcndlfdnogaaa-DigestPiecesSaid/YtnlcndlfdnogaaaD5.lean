/- Keccak's permutation, walked. (printed by gen_d5.py) -/
import Derived.Test.YtnlcndlfdnogaaaP
set_option linter.unusedVariables false
set_option linter.unusedSimpArgs false
namespace Go.Proofs.Ytnlcndlfdnogaaa.D5
open Go.RowKit
open D0 M D2 D3 D4 Rg P
attribute [local go_sem] xor64 and64 or64 xor32 and32 or32 andNot32 add64 add32 unary64 unary32 not64 not32 shl64 shr64 shl32 shr32
attribute [local irreducible] offF conF it gt
theorem info33 : (Try.prog.info? 33).map (·.size) = some 25 := by kernel_rfl
/-- The frame's blocks. -/
structure Bl (w wr : World) (g n gZ gB gC : Nat) (a b c : L) : Prop where
  en : n = w.heap.size
  eZ : gZ = w.heap.size + 1
  eB : gB = w.heap.size + 2
  eC : gC = w.heap.size + 3
  hg : g < w.heap.size
  la : a.length = 25
  lb : b.length = 25
  lc : c.length = 5
  A : Arr wr n 33 (m64 a)
  Z : Arr wr gZ 33 (m64 (List.replicate 25 0#64))
  B : Arr wr gB 33 (m64 b)
  C : Arr wr gC 82 (m64 c)
  G : Arr wr g 56 (mi offF ++ m64 conF)
  W : Below w.heap.size w wr
section
variable {w wr : World} {g n gZ gB gC : Nat} {a b c : L}
theorem Bl.drew (h : Bl w wr g n gZ gB gC a b c) : Bl w wr.drew g n gZ gB gC a b c := ⟨h.en, h.eZ, h.eB, h.eC, h.hg, h.la, h.lb, h.lc, h.A, h.Z, h.B, h.C, h.G, h.W.drew⟩
theorem Bl.setA (h : Bl w wr g n gZ gB gC a b c) (i : Nat) (x : BitVec 64) : Bl w (wr.setCell ⟨n, i, none⟩ (.int .u64 (n64 x))) g n gZ gB gC (a.set i x) b c := by
  obtain ⟨en, eZ, eB, eC, hg, la, lb, lc, A, Z, B, C, G, W⟩ := h
  exact ⟨en, eZ, eB, eC, hg, by rw [List.length_set]; exact la, lb, lc, by rw [← m64_set]; exact A.set _ _, Z.other (by omega) _ _, B.other (by omega) _ _, C.other (by omega) _ _, G.other (by omega) _ _, W.trans ((Only.set _ _ _ _).below (by omega))⟩
theorem Bl.setB (h : Bl w wr g n gZ gB gC a b c) (i : Nat) (x : BitVec 64) : Bl w (wr.setCell ⟨gB, i, none⟩ (.int .u64 (n64 x))) g n gZ gB gC a (b.set i x) c := by
  obtain ⟨en, eZ, eB, eC, hg, la, lb, lc, A, Z, B, C, G, W⟩ := h
  exact ⟨en, eZ, eB, eC, hg, la, by rw [List.length_set]; exact lb, lc, A.other (by omega) _ _, Z.other (by omega) _ _, by rw [← m64_set]; exact B.set _ _, C.other (by omega) _ _, G.other (by omega) _ _, W.trans ((Only.set _ _ _ _).below (by omega))⟩
theorem Bl.setC (h : Bl w wr g n gZ gB gC a b c) (i : Nat) (x : BitVec 64) : Bl w (wr.setCell ⟨gC, i, none⟩ (.int .u64 (n64 x))) g n gZ gB gC a b (c.set i x) := by
  obtain ⟨en, eZ, eB, eC, hg, la, lb, lc, A, Z, B, C, G, W⟩ := h
  exact ⟨en, eZ, eB, eC, hg, la, lb, by rw [List.length_set]; exact lc, A.other (by omega) _ _, Z.other (by omega) _ _, B.other (by omega) _ _, by rw [← m64_set]; exact C.set _ _, G.other (by omega) _ _, W.trans ((Only.set _ _ _ _).below (by omega))⟩
theorem Bl.cA (h : Bl w wr g n gZ gB gC a b c) (i : Nat) (hi : i < 25) : wr.cell? ⟨n, i, none⟩ = some (.int .u64 (n64 (gt a 0#64 i))) := h.A.cell (m64_get (by rw [h.la]; exact hi))
theorem Bl.cB (h : Bl w wr g n gZ gB gC a b c) (i : Nat) (hi : i < 25) : wr.cell? ⟨gB, i, none⟩ = some (.int .u64 (n64 (gt b 0#64 i))) := h.B.cell (m64_get (by rw [h.lb]; exact hi))
theorem Bl.cC (h : Bl w wr g n gZ gB gC a b c) (i : Nat) (hi : i < 5) : wr.cell? ⟨gC, i, none⟩ = some (.int .u64 (n64 (gt c 0#64 i))) := h.C.cell (m64_get (by rw [h.lc]; exact hi))
theorem Bl.cO (h : Bl w wr g n gZ gB gC a b c) (i : Nat) (hi : i < 25) : wr.cell? ⟨g, i, none⟩ = some (.int .i64 ((gt offF 0 i : Nat) : Int)) :=
  h.G.cell (by rw [List.getElem?_append_left (by rw [mi_len, off_len]; exact hi)]; exact mi_get (by rw [off_len]; exact hi))
theorem Bl.cR (h : Bl w wr g n gZ gB gC a b c) (i : Nat) (hi : i < 24) : wr.cell? ⟨g, 25 + i, none⟩ = some (.int .u64 (n64 (gt conF 0#64 i))) :=
  h.G.cell (by rw [List.getElem?_append_right (by rw [mi_len, off_len]; omega), mi_len, off_len, Nat.add_sub_cancel_left]; exact m64_get (by rw [con_len]; exact hi))
end
theorem te (x m : Nat) (k : Int) (hk : k = (x : Int)) (h : m = x % 5) : k.tmod 5 = (m : Int) := by
  subst hk; subst h
  rw [Int.tmod_eq_emod_of_nonneg (by omega)]; omega
set_option maxRecDepth 100000 in
set_option maxHeartbeats 4000000 in
theorem permute27 (w : World) (g : Nat) (a : L) (ha : a.length = 25) (hg : Arr w g 56 (mi offF ++ m64 conF)) : Calls Try.prog 27 #[.pointer (some ⟨g, 0, none⟩), .agg (m64 a).toArray] w fun e w' => e = .returned (.agg (m64 (permF a)).toArray) ∧ Below w.heap.size w w' := by
  go_enter Try.func27, Try.ntmps27
  go_wp2_with fail
  have H0 : Hid (Bl w ((((w.alloc (.cells (m64 a).toArray 33)).alloc (.cells (m64 (List.replicate 25 0#64)).toArray 33)).alloc (.cells (m64 (List.replicate 25 0#64)).toArray 33)).alloc (.cells (m64 (List.replicate 5 0#64)).toArray 82)) g w.heap.size (w.heap.size + 1) (w.heap.size + 1 + 1) (w.heap.size + 1 + 1 + 1) a (List.replicate 25 0#64) (List.replicate 5 0#64)) := by
    have s1 := size_alloc w (.cells (m64 a).toArray 33)
    have s2 := size_alloc (w.alloc (.cells (m64 a).toArray 33)) (.cells (m64 (List.replicate 25 0#64)).toArray 33)
    have s3 := size_alloc ((w.alloc (.cells (m64 a).toArray 33)).alloc (.cells (m64 (List.replicate 25 0#64)).toArray 33)) (.cells (m64 (List.replicate 25 0#64)).toArray 33)
    rw [s1] at s2; rw [s2] at s3
    have z1 := Arr.new w (m64 a) 33
    have z2 := Arr.new (w.alloc (.cells (m64 a).toArray 33)) (m64 (List.replicate 25 0#64)) 33
    have z3 := Arr.new ((w.alloc (.cells (m64 a).toArray 33)).alloc (.cells (m64 (List.replicate 25 0#64)).toArray 33)) (m64 (List.replicate 25 0#64)) 33
    have z4 := Arr.new (((w.alloc (.cells (m64 a).toArray 33)).alloc (.cells (m64 (List.replicate 25 0#64)).toArray 33)).alloc (.cells (m64 (List.replicate 25 0#64)).toArray 33)) (m64 (List.replicate 5 0#64)) 82
    rw [s1] at z2; rw [s2] at z3; rw [s3] at z4
    exact ⟨rfl, rfl, rfl, rfl, hg.lt, ha, List.length_replicate, List.length_replicate, ((z1.alloc _).alloc _).alloc _, (z2.alloc _).alloc _, z3.alloc _, z4, (((hg.alloc _).alloc _).alloc _).alloc _,
      ((((Below.refl _ w).alloc (Nat.le_refl _) _).alloc (by omega) _).alloc (by omega) _).alloc (by omega) _⟩
  have HW : Hid (((((w.alloc (.cells (m64 a).toArray 33)).alloc (.cells (m64 (List.replicate 25 0#64)).toArray 33)).alloc (.cells (m64 (List.replicate 25 0#64)).toArray 33)).alloc (.cells (m64 (List.replicate 5 0#64)).toArray 82)) = ((((w.alloc (.cells (m64 a).toArray 33)).alloc (.cells #[.int .u64 0, .int .u64 0, .int .u64 0, .int .u64 0, .int .u64 0, .int .u64 0, .int .u64 0, .int .u64 0, .int .u64 0, .int .u64 0, .int .u64 0, .int .u64 0, .int .u64 0, .int .u64 0, .int .u64 0, .int .u64 0, .int .u64 0, .int .u64 0, .int .u64 0, .int .u64 0, .int .u64 0, .int .u64 0, .int .u64 0, .int .u64 0, .int .u64 0] 33)).alloc (.cells #[.int .u64 0, .int .u64 0, .int .u64 0, .int .u64 0, .int .u64 0, .int .u64 0, .int .u64 0, .int .u64 0, .int .u64 0, .int .u64 0, .int .u64 0, .int .u64 0, .int .u64 0, .int .u64 0, .int .u64 0, .int .u64 0, .int .u64 0, .int .u64 0, .int .u64 0, .int .u64 0, .int .u64 0, .int .u64 0, .int .u64 0, .int .u64 0, .int .u64 0] 33)).alloc (.cells #[.int .u64 0, .int .u64 0, .int .u64 0, .int .u64 0, .int .u64 0] 82))) := rfl
  rw [← HW.out]
  clear HW
  generalize ((((w.alloc (.cells (m64 a).toArray 33)).alloc (.cells (m64 (List.replicate 25 0#64)).toArray 33)).alloc (.cells (m64 (List.replicate 25 0#64)).toArray 33)).alloc (.cells (m64 (List.replicate 5 0#64)).toArray 82)) = wr at *
  generalize w.heap.size + 1 + 1 + 1 = gC at *
  generalize w.heap.size + 1 + 1 = gB at *
  generalize w.heap.size + 1 = gZ at *
  generalize w.heap.size = n at *
  have HL := Lib.hid (fun k => per_len ha k)
  clear ha hg
  go_loopw [16] (fun v wr => ∃ k : Nat, k ≤ 24 ∧ v = .int .i64 (k : Int) ∧ Bl w wr g n gZ gB gC (perIt a k).1 (perIt a k).2.1 (perIt a k).2.2) (fun v _ => 24 - (intOf v).toNat)
  case atStart => exact ⟨0, by omega, rfl, by rw [per_zero]; exact H0.out⟩
  obtain ⟨i, hi, rfl, hbl⟩ := hrel
  have HS := Lib.hid (per_succ a i)
  generalize hst : perIt a i = st at *
  obtain ⟨a0, b, c⟩ := st
  have HEQ := Lib.hid hst
  simp only at hbl
  clear hst
  have HBL := Lib.hid hbl
  clear hbl H0
  rcases Nat.lt_or_ge i 24 with hlt | hge
  · skip
    go_wp2_with fail
    have hd : decide ((i : Int) < 24) = true := decide_eq_true (by omega)
    try simp only [hd]
    have HI := Lib.hid hlt
    clear hlt hd
    obtain ⟨wo, rfl⟩ : ∃ wo : World, wo = wr := ⟨_, rfl⟩
    go_loopw [19] (fun v wr => ∃ k : Nat, k ≤ 5 ∧ v = .int .i64 (k : Int) ∧ Bl w wr g n gZ gB gC a0 b (it (colS a0) k c)) (fun v _ => 5 - (intOf v).toNat)
    case atStart => exact ⟨0, by omega, rfl, by rw [it_zero]; exact HBL.out⟩
    obtain ⟨x, hx, rfl, hbl⟩ := hrel
    clear HBL
    rcases Nat.lt_or_ge x 5 with hlt | hge
    · skip
      have HS2 := Lib.hid (show it (colS a0) (x + 1) c = colS a0 x (it (colS a0) x c) from it_succ _ _ _)
      generalize it (colS a0) x c = c1 at *
      obtain ⟨x5, hx5⟩ : ∃ x5 : Nat, x5 = x + 5 := ⟨_, rfl⟩
      have e5 : (x : Int) + 5 = (x5 : Int) := by omega
      have i5 : ¬ (25 : Int) ≤ (x5 : Int) := by omega
      have c5 := hbl.cA x5 (by omega)
      obtain ⟨x10, hx10⟩ : ∃ x10 : Nat, x10 = x + 10 := ⟨_, rfl⟩
      have e10 : (x : Int) + 10 = (x10 : Int) := by omega
      have i10 : ¬ (25 : Int) ≤ (x10 : Int) := by omega
      have c10 := hbl.cA x10 (by omega)
      obtain ⟨x15, hx15⟩ : ∃ x15 : Nat, x15 = x + 15 := ⟨_, rfl⟩
      have e15 : (x : Int) + 15 = (x15 : Int) := by omega
      have i15 : ¬ (25 : Int) ≤ (x15 : Int) := by omega
      have c15 := hbl.cA x15 (by omega)
      obtain ⟨x20, hx20⟩ : ∃ x20 : Nat, x20 = x + 20 := ⟨_, rfl⟩
      have e20 : (x : Int) + 20 = (x20 : Int) := by omega
      have i20 : ¬ (25 : Int) ≤ (x20 : Int) := by omega
      have c20 := hbl.cA x20 (by omega)
      have i0 : ¬ (25 : Int) ≤ (x : Int) := by omega
      have i1 : ¬ (5 : Int) ≤ (x : Int) := by omega
      have c0 := hbl.cA x (by omega)
      have f0 := hbl.C.frozen x
      have c00 := hbl.cC x hlt
      have HBL := Lib.hid hbl
      have HX := Lib.hid (show _ ∧ _ ∧ _ ∧ _ from ⟨hx5, hx10, hx15, hx20⟩)
      clear hbl hx5 hx10 hx15 hx20
      go_wp2_with fail
      refine wp_region_c 25 (by kernel_rfl) (by kernel_rfl) ?_
      simp only [List.take_succ_cons, List.take_zero, List.drop_succ_cons, List.drop_zero]
      iterate 25 (refine wpC_run (by rfl) rfl (fun K hK => ?_); go_wp2)
      refine wpC_nil ?_
      go_wp2
      obtain ⟨hx5, hx10, hx15, hx20⟩ := HX.out
      go_roundw
      case rel =>
        refine ⟨x + 1, by omega, by go_num, ?_⟩
        rw [HS2.out]
        unfold colS
        rw [← hx5, ← hx10, ← hx15, ← hx20]
        exact (HBL.out.setC _ _).drew
      case measure => simp [intOf]; omega
    obtain rfl : x = 5 := by omega
    rw [show ((5 : Nat) : Int) = 5 from rfl]
    have HBL := Lib.hid hbl
    clear hbl hge hx
    go_wp2_with fail
    have HSC := Lib.hid (show it (colS a0) 5 c = cols a0 c from rfl)
    rw [HSC.out] at HBL
    generalize hc1 : cols a0 c = c1 at *
    have HC1 := Lib.hid hc1
    clear hc1 HSC
    obtain ⟨wo, rfl⟩ : ∃ wo : World, wo = wr := ⟨_, rfl⟩
    go_loopw [48] (fun v wr => ∃ k : Nat, k ≤ 5 ∧ v = .int .i64 (k : Int) ∧ Bl w wr g n gZ gB gC (it (thX c1) k a0) b c1) (fun v _ => 5 - (intOf v).toNat)
    case atStart => exact ⟨0, by omega, rfl, by rw [it_zero]; exact HBL.out⟩
    obtain ⟨x, hx, rfl, hbl⟩ := hrel
    clear HBL
    rcases Nat.lt_or_ge x 5 with hlt | hge
    · skip
      have HS3 := Lib.hid (show it (thX c1) (x + 1) a0 = thX c1 x (it (thX c1) x a0) from it_succ _ _ _)
      generalize it (thX c1) x a0 = a1 at *
      obtain ⟨u, hu⟩ : ∃ u : Nat, u = (x + 4) % 5 := ⟨_, rfl⟩
      obtain ⟨v, hv⟩ : ∃ v : Nat, v = (x + 1) % 5 := ⟨_, rfl⟩
      have eu := te (x + 4) u ((x : Int) + 4) (by omega) hu
      have ev := te (x + 1) v ((x : Int) + 1) (by omega) hv
      have iu : ¬ (5 : Int) ≤ (u : Int) := by omega
      have iv : ¬ (5 : Int) ≤ (v : Int) := by omega
      have cu := hbl.cC u (by omega)
      have cv := hbl.cC v (by omega)
      have HBL := Lib.hid hbl
      have HU := Lib.hid (show _ ∧ _ from ⟨hu, hv⟩)
      clear hbl hu hv
      have HR := Lib.hid (fun W => rot47 (gt c1 0#64 v) 1 1 (by decide) W)
      go_wp2_with fail
      refine wp_region_q (by kernel_rfl) (by kernel_rfl) ?_
      iterate 10 (refine wpC_run (by rfl) rfl (fun K hK => ?_); go_wp2)
      refine wpC_call 47 _ _ (by rfl) (by go_simp) (HR.out _) ?_
      simp only [Act.put, List.setIfInBounds_toArray, List.set_cons_zero, List.set_cons_succ]
      iterate 2 (refine wpC_run (by rfl) rfl (fun K hK => ?_); go_wp2)
      refine wpC_nil ?_
      go_wp2_with fail
      have hd : decide ((x : Int) < 5) = true := decide_eq_true (by omega)
      try simp only [hd]
      have Hx := Lib.hid hlt
      clear hlt hd
      have HD := Lib.hid (show thD c1 x = gt c1 0#64 u ^^^ rl (gt c1 0#64 v) 1 from by rw [HU.out.1, HU.out.2]; rfl)
      generalize gt c1 0#64 u ^^^ rl (gt c1 0#64 v) 1 = D at *
      replace HBL := Lib.hid HBL.out.drew
      clear cu cv eu ev iu iv
      obtain ⟨wo, rfl⟩ : ∃ wo : World, wo = wr := ⟨_, rfl⟩
      go_loopw [63] (fun v wr => ∃ k : Nat, k ≤ 5 ∧ v = .int .i64 (k : Int) ∧ Bl w wr g n gZ gB gC (it (thS x D) k a1) b c1) (fun v _ => 5 - (intOf v).toNat)
      case atStart => exact ⟨0, by omega, rfl, by rw [it_zero]; exact HBL.out⟩
      obtain ⟨y, hy, rfl, hbl⟩ := hrel
      clear HBL
      rcases Nat.lt_or_ge y 5 with hlt | hge
      · skip
        have HS4 := Lib.hid (show it (thS x D) (y + 1) a1 = thS x D y (it (thS x D) y a1) from it_succ _ _ _)
        generalize it (thS x D) y a1 = a2 at *
        have hx5 := Hx.out
        obtain ⟨s, hs⟩ : ∃ s : Nat, s = x + 5 * y := ⟨_, rfl⟩
        have es : (x : Int) + 5 * (y : Int) = (s : Int) := by omega
        have is_ : ¬ (25 : Int) ≤ (s : Int) := by omega
        have cs := hbl.cA s (by omega)
        have fs := hbl.A.frozen s
        have HBL := Lib.hid hbl
        have HX := Lib.hid hs
        clear hbl hs
        go_wp2_with fail
        go_roundw
        case rel =>
          refine ⟨y + 1, by omega, by go_num, ?_⟩
          rw [HS4.out]
          unfold thS
          rw [← HX.out]
          exact HBL.out.setA _ _
        case measure => simp [intOf]; omega
      obtain rfl : y = 5 := by omega
      rw [show ((5 : Nat) : Int) = 5 from rfl]
      have HBL := Lib.hid hbl
      clear hbl hge hy
      go_wp2_with fail
      go_roundw
      case rel =>
        refine ⟨x + 1, by omega, by go_num, ?_⟩
        rw [HS3.out]
        unfold thX
        rw [HD.out]
        exact HBL.out
      case measure => simp [intOf]; omega
    obtain rfl : x = 5 := by omega
    rw [show ((5 : Nat) : Int) = 5 from rfl]
    have HBL := Lib.hid hbl
    clear hbl hge hx
    go_wp2_with fail
    have HSA := Lib.hid (show it (thX c1) 5 a0 = theta c1 a0 from rfl)
    rw [HSA.out] at HBL
    generalize ha1 : theta c1 a0 = a1 at *
    have HA1 := Lib.hid ha1
    clear ha1 HSA
    obtain ⟨wo, rfl⟩ : ∃ wo : World, wo = wr := ⟨_, rfl⟩
    go_loopw [77] (fun v wr => ∃ k : Nat, k ≤ 5 ∧ v = .int .i64 (k : Int) ∧ Bl w wr g n gZ gB gC a1 (it (rhoX a1) k b) c1) (fun v _ => 5 - (intOf v).toNat)
    case atStart => exact ⟨0, by omega, rfl, by rw [it_zero]; exact HBL.out⟩
    obtain ⟨x, hx, rfl, hbl⟩ := hrel
    clear HBL
    rcases Nat.lt_or_ge x 5 with hlt | hge
    · skip
      have HS5 := Lib.hid (show it (rhoX a1) (x + 1) b = rhoX a1 x (it (rhoX a1) x b) from it_succ _ _ _)
      generalize it (rhoX a1) x b = b1 at *
      have HBL := Lib.hid hbl
      clear hbl
      go_wp2_with fail
      have hd : decide ((x : Int) < 5) = true := decide_eq_true (by omega)
      try simp only [hd]
      have Hx := Lib.hid hlt
      clear hlt hd
      obtain ⟨wo, rfl⟩ : ∃ wo : World, wo = wr := ⟨_, rfl⟩
      go_loopw [80] (fun v wr => ∃ k : Nat, k ≤ 5 ∧ v = .int .i64 (k : Int) ∧ Bl w wr g n gZ gB gC a1 (it (rhoS a1 x) k b1) c1) (fun v _ => 5 - (intOf v).toNat)
      case atStart => exact ⟨0, by omega, rfl, by rw [it_zero]; exact HBL.out⟩
      obtain ⟨y, hy, rfl, hbl⟩ := hrel
      clear HBL
      rcases Nat.lt_or_ge y 5 with hlt | hge
      · skip
        have HS6 := Lib.hid (show it (rhoS a1 x) (y + 1) b1 = rhoS a1 x y (it (rhoS a1 x) y b1) from it_succ _ _ _)
        generalize it (rhoS a1 x) y b1 = b2 at *
        have hx5 := Hx.out
        obtain ⟨s, hs⟩ : ∃ s : Nat, s = x + 5 * y := ⟨_, rfl⟩
        obtain ⟨m, hm⟩ : ∃ m : Nat, m = (2 * x + 3 * y) % 5 := ⟨_, rfl⟩
        obtain ⟨v, hv⟩ : ∃ v : Nat, v = y + 5 * m := ⟨_, rfl⟩
        have es : (x : Int) + 5 * (y : Int) = (s : Int) := by omega
        have is_ : ¬ (25 : Int) ≤ (s : Int) := by omega
        have cs := hbl.cA s (by omega)
        have em := te (2 * x + 3 * y) m (2 * (x : Int) + 3 * (y : Int)) (by omega) hm
        have ev : (y : Int) + 5 * (m : Int) = (v : Int) := by omega
        have hm5 : m < 5 := by omega
        have iv : ¬ (25 : Int) ≤ (v : Int) := by omega
        have co := hbl.cO s (by omega)
        have HR := Lib.hid (fun W => rot47 (gt a1 0#64 s) ((gt offF 0 s : Nat) : Int) (gt offF 0 s) (by have := off_lt ⟨s, by omega⟩; simp only at this; omega) W)
        have cv := hbl.cB v (by omega)
        have fs := hbl.B.frozen v
        generalize hor : gt offF 0 s = o at *
        have HBL := Lib.hid hbl
        have HX := Lib.hid (show _ ∧ _ ∧ _ ∧ _ from ⟨hs, hm, hv, hor⟩)
        clear hbl hs hm hv hor
        go_wp2_with fail
        refine wp_region_c 26 (by kernel_rfl) (by kernel_rfl) ?_
        simp only [List.take_succ_cons, List.take_zero, List.drop_succ_cons, List.drop_zero]
        iterate 20 (refine wpC_run (by rfl) rfl (fun K hK => ?_); go_wp2)
        refine wpC_val (.pointer (some ⟨g, 0, none⟩)) (by rfl) (by go_simp) ?_
        simp only [Act.put, List.setIfInBounds_toArray, List.set_cons_zero, List.set_cons_succ]
        iterate 3 (refine wpC_run (by rfl) rfl (fun K hK => ?_); go_wp2)
        refine wpC_call 47 _ _ (by rfl) (by go_simp) (HR.out _) ?_
        simp only [Act.put, List.setIfInBounds_toArray, List.set_cons_zero, List.set_cons_succ]
        iterate 1 (refine wpC_run (by rfl) rfl (fun K hK => ?_); go_wp2)
        refine wpC_nil ?_
        go_wp2_with fail
        go_roundw
        case rel =>
          refine ⟨y + 1, by omega, by go_num, ?_⟩
          obtain ⟨hs, hm, hv, hor⟩ := HX.out
          rw [HS6.out]
          unfold rhoS
          rw [← hm, ← hv, ← hs, hor]
          exact (HBL.out.setB _ _).drew
        case measure => simp [intOf]; omega
      obtain rfl : y = 5 := by omega
      rw [show ((5 : Nat) : Int) = 5 from rfl]
      have HBL := Lib.hid hbl
      clear hbl hge hy
      go_wp2_with fail
      go_roundw
      case rel =>
        refine ⟨x + 1, by omega, by go_num, ?_⟩
        rw [HS5.out]
        unfold rhoX
        exact HBL.out
      case measure => simp [intOf]; omega
    obtain rfl : x = 5 := by omega
    rw [show ((5 : Nat) : Int) = 5 from rfl]
    have HBL := Lib.hid hbl
    clear hbl hge hx
    go_wp2_with fail
    have HSB := Lib.hid (show it (rhoX a1) 5 b = rho a1 b from rfl)
    rw [HSB.out] at HBL
    generalize hb1 : rho a1 b = b1 at *
    have HB1 := Lib.hid hb1
    clear hb1 HSB
    obtain ⟨wo, rfl⟩ : ∃ wo : World, wo = wr := ⟨_, rfl⟩
    go_loopw [111] (fun v wr => ∃ k : Nat, k ≤ 5 ∧ v = .int .i64 (k : Int) ∧ Bl w wr g n gZ gB gC (it (chiY b1) k a1) b1 c1) (fun v _ => 5 - (intOf v).toNat)
    case atStart => exact ⟨0, by omega, rfl, by rw [it_zero]; exact HBL.out⟩
    obtain ⟨y, hy, rfl, hbl⟩ := hrel
    clear HBL
    rcases Nat.lt_or_ge y 5 with hlt | hge
    · skip
      have HS7 := Lib.hid (show it (chiY b1) (y + 1) a1 = chiY b1 y (it (chiY b1) y a1) from it_succ _ _ _)
      generalize it (chiY b1) y a1 = a2 at *
      have HBL := Lib.hid hbl
      clear hbl
      go_wp2_with fail
      have hd : decide ((y : Int) < 5) = true := decide_eq_true (by omega)
      try simp only [hd]
      have Hy := Lib.hid hlt
      clear hlt hd
      obtain ⟨wo, rfl⟩ : ∃ wo : World, wo = wr := ⟨_, rfl⟩
      go_loopw [114] (fun v wr => ∃ k : Nat, k ≤ 5 ∧ v = .int .i64 (k : Int) ∧ Bl w wr g n gZ gB gC (it (chiS b1 y) k a2) b1 c1) (fun v _ => 5 - (intOf v).toNat)
      case atStart => exact ⟨0, by omega, rfl, by rw [it_zero]; exact HBL.out⟩
      obtain ⟨x, hx, rfl, hbl⟩ := hrel
      clear HBL
      rcases Nat.lt_or_ge x 5 with hlt | hge
      · skip
        have HS8 := Lib.hid (show it (chiS b1 y) (x + 1) a2 = chiS b1 y x (it (chiS b1 y) x a2) from it_succ _ _ _)
        generalize it (chiS b1 y) x a2 = a3 at *
        have hy5 := Hy.out
        obtain ⟨s, hs⟩ : ∃ s : Nat, s = x + 5 * y := ⟨_, rfl⟩
        obtain ⟨u, hu⟩ : ∃ u : Nat, u = (x + 1) % 5 := ⟨_, rfl⟩
        obtain ⟨v, hv⟩ : ∃ v : Nat, v = (x + 2) % 5 := ⟨_, rfl⟩
        obtain ⟨p, hp⟩ : ∃ p : Nat, p = u + 5 * y := ⟨_, rfl⟩
        obtain ⟨q, hq⟩ : ∃ q : Nat, q = v + 5 * y := ⟨_, rfl⟩
        have es : (x : Int) + 5 * (y : Int) = (s : Int) := by omega
        have ep : (u : Int) + 5 * (y : Int) = (p : Int) := by omega
        have eq : (v : Int) + 5 * (y : Int) = (q : Int) := by omega
        have eu := te (x + 1) u ((x : Int) + 1) (by omega) hu
        have ev := te (x + 2) v ((x : Int) + 2) (by omega) hv
        have is_ : ¬ (25 : Int) ≤ (s : Int) := by omega
        have ip : ¬ (25 : Int) ≤ (p : Int) := by omega
        have iq : ¬ (25 : Int) ≤ (q : Int) := by omega
        have hu5 : u < 5 := by omega
        have hv5 : v < 5 := by omega
        have cs := hbl.cB s (by omega)
        have cp := hbl.cB p (by omega)
        have cq := hbl.cB q (by omega)
        have cc := hbl.cA s (by omega)
        have fs := hbl.A.frozen s
        have HBL := Lib.hid hbl
        have HX := Lib.hid (show _ ∧ _ ∧ _ ∧ _ ∧ _ from ⟨hs, hu, hv, hp, hq⟩)
        clear hbl hs hu hv hp hq
        go_wp2_with fail
        refine wp_region_c 30 (by kernel_rfl) (by kernel_rfl) ?_
        simp only [List.take_succ_cons, List.take_zero, List.drop_succ_cons, List.drop_zero]
        iterate 30 (refine wpC_run (by rfl) rfl (fun K hK => ?_); go_wp2)
        refine wpC_nil ?_
        go_wp2
        go_roundw
        case rel =>
          refine ⟨x + 1, by omega, by go_num, ?_⟩
          obtain ⟨hs, hu, hv, hp, hq⟩ := HX.out
          rw [HS8.out]
          unfold chiS
          rw [← hu, ← hv, ← hs, ← hp, ← hq]
          exact (HBL.out.setA _ _).drew
        case measure => simp [intOf]; omega
      obtain rfl : x = 5 := by omega
      rw [show ((5 : Nat) : Int) = 5 from rfl]
      have HBL := Lib.hid hbl
      clear hbl hge hx
      go_wp2_with fail
      go_roundw
      case rel =>
        refine ⟨y + 1, by omega, by go_num, ?_⟩
        rw [HS7.out]
        unfold chiY
        exact HBL.out
      case measure => simp [intOf]; omega
    obtain rfl : y = 5 := by omega
    rw [show ((5 : Nat) : Int) = 5 from rfl]
    have HSX := Lib.hid (show it (chiY b1) 5 a1 = chi b1 a1 from rfl)
    rw [HSX.out] at hbl
    generalize ha2 : chi b1 a1 = a2 at *
    have HA2 := Lib.hid ha2
    clear ha2 HSX hge hy
    have hi24 := HI.out
    have ci := hbl.cR i hi24
    have c0 := hbl.cA 0 (by omega)
    have f0 := hbl.A.frozen 0
    have ii : ¬ (24 : Int) ≤ (i : Int) := by omega
    have HBL := Lib.hid hbl
    clear hbl
    go_wp2_with fail
    refine wp_region_c 10 (by kernel_rfl) (by kernel_rfl) ?_
    simp only [List.take_succ_cons, List.take_zero, List.drop_succ_cons, List.drop_zero]
    iterate 4 (refine wpC_run (by rfl) rfl (fun K hK => ?_); go_wp2)
    refine wpC_val (.pointer (some ⟨g, 0, none⟩)) (by rfl) (by go_simp) ?_
    simp only [Act.put, List.setIfInBounds_toArray, List.set_cons_zero, List.set_cons_succ]
    iterate 5 (refine wpC_run (by rfl) rfl (fun K hK => ?_); go_wp2)
    refine wpC_nil ?_
    go_wp2
    go_roundw
    case rel =>
      refine ⟨i + 1, by omega, by go_num, ?_⟩
      have hr : roundF i (a0, b, c) = (iota i a2, b1, c1) := by
        simp only [roundF]
        rw [HC1.out, HA1.out, HB1.out, HA2.out]
      rw [HS.out, hr]
      unfold iota
      exact (HBL.out.setA _ _).drew
    case measure => simp [intOf]; omega
  obtain rfl : i = 24 := by omega
  have hs : (m64 a0).toArray.size = 25 := by simp [m64_len, HBL.out.la]
  have hs0 : (m64 (List.replicate 25 0#64)).toArray.size = 25 := by simp [m64_len]
  have hi : (Try.prog.info? 33).map (·.size) = some (m64 a0).toArray.size := by rw [hs]; exact info33
  have h1 : (m64 a0).toArray.all (·.oneCell') = true := by simp [m64, Value.oneCell']
  generalize hv : (m64 a0).toArray = vr at *
  have HV := Lib.hid hv
  have HG : Hid (wr.heap[n]? = some (.cells vr 33 (0, 0))) := (show _ = _ from by rw [← hv]; exact HBL.out.A)
  clear hv
  go_wp2_with (first | (refine wpList_load_row rfl 33 (.tmp 3) rfl n rfl 33 vr (0, 0) _ HG.out Try.underlying33 rfl hi ?_) | (refine wpList_store_row rfl 33 (.tmp 4) (.tmp 160) rfl gZ vr rfl rfl 33 (m64 (List.replicate 25 0#64)).toArray HBL.out.Z hi (hs0.trans hs.symm) h1 ?_))
  refine bodyPost_ret (results_cell_row (P := Try.prog) rfl _ _ gZ 33 vr (0, 0) _ rfl (setRow_heap wr _ _ _ _ _ HBL.out.Z) Try.underlying33 rfl hi) rfl ⟨?_, below_setRow HBL.out.W (by have := HBL.out.eZ; omega) _⟩
  rw [← HV.out]
  show Ending.returned (Value.agg (m64 a0).toArray) = Ending.returned (Value.agg (m64 (perIt a 24).1).toArray)
  rw [HEQ.out]
end Go.Proofs.Ytnlcndlfdnogaaa.D5
