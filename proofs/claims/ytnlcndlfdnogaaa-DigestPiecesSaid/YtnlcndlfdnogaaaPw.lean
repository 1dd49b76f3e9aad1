/- Permute; the reference's Permute, walked. (printed by gen_pw.py) -/
import Derived.Test.YtnlcndlfdnogaaaPt
import Derived.Test.YtnlcndlfdnogaaaPj
import Derived.Test.YtnlcndlfdnogaaaK1
set_option linter.unusedVariables false
set_option linter.unusedSimpArgs false
namespace Go.Proofs.Ytnlcndlfdnogaaa.Pw
open Go.RowKit
open D0 M D2 D3 D4 Rg P D5 Pt Pj K1
attribute [local go_sem] xor64 and64 or64 xor32 and32 or32 andNot32 add64 add32 unary64 unary32 not64 not32 shl64 shr64 shl32 shr32
attribute [local irreducible] offF conF it gt
set_option maxRecDepth 100000 in
set_option maxHeartbeats 4000000 in
theorem permute17 (w : World) (a : L) (ha : a.length = 25) : Calls Try.prog 17 #[.agg (m64 a).toArray] w fun e w' => e = .returned (.agg (m64 (permF a)).toArray) ∧ Below w.heap.size w w' := by
  have s1 := size_alloc w (.cells (m64 a).toArray 33)
  have a1 : Arr ((w.alloc (.cells (m64 a).toArray 33)).alloc (.cells #[.int .u64 0, .int .u64 0, .int .u64 0, .int .u64 0, .int .u64 0, .int .u64 0, .int .u64 0, .int .u64 0, .int .u64 0, .int .u64 0, .int .u64 0, .int .u64 0, .int .u64 0, .int .u64 0, .int .u64 0, .int .u64 0, .int .u64 0, .int .u64 0, .int .u64 0, .int .u64 0, .int .u64 0, .int .u64 0, .int .u64 0, .int .u64 0, .int .u64 0] 33)) w.heap.size 33 (m64 a) := (Arr.new w (m64 a) 33).alloc _
  have a2 : Arr ((w.alloc (.cells (m64 a).toArray 33)).alloc (.cells #[.int .u64 0, .int .u64 0, .int .u64 0, .int .u64 0, .int .u64 0, .int .u64 0, .int .u64 0, .int .u64 0, .int .u64 0, .int .u64 0, .int .u64 0, .int .u64 0, .int .u64 0, .int .u64 0, .int .u64 0, .int .u64 0, .int .u64 0, .int .u64 0, .int .u64 0, .int .u64 0, .int .u64 0, .int .u64 0, .int .u64 0, .int .u64 0, .int .u64 0] 33)) (w.heap.size + 1) 33 (m64 (List.replicate 25 0#64)) := by
    have := Arr.new (w.alloc (.cells (m64 a).toArray 33)) (m64 (List.replicate 25 0#64)) 33
    rw [s1] at this
    exact this
  have b0 : Below w.heap.size w ((w.alloc (.cells (m64 a).toArray 33)).alloc (.cells #[.int .u64 0, .int .u64 0, .int .u64 0, .int .u64 0, .int .u64 0, .int .u64 0, .int .u64 0, .int .u64 0, .int .u64 0, .int .u64 0, .int .u64 0, .int .u64 0, .int .u64 0, .int .u64 0, .int .u64 0, .int .u64 0, .int .u64 0, .int .u64 0, .int .u64 0, .int .u64 0, .int .u64 0, .int .u64 0, .int .u64 0, .int .u64 0, .int .u64 0] 33)) := ((Below.refl _ w).alloc (Nat.le_refl _) _).alloc (by omega) _
  have HA1 := Lib.hid a1
  have HA2 := Lib.hid a2
  have HB0 := Lib.hid b0
  have lp := perm_len ha
  generalize hpf : permF a = pf at *
  have HPF := Lib.hid hpf
  have hi : (Try.prog.info? 33).map (·.size) = some (m64 a).toArray.size := by rw [List.size_toArray, m64_len, ha]; exact info33
  have HI := Lib.hid hi
  have HI2 : Hid ((Try.prog.info? 33).map (·.size) = some (m64 pf).toArray.size) := by rw [List.size_toArray, m64_len, lp]; exact info33
  have HS : Hid ((m64 (List.replicate 25 0#64)).toArray.size = (m64 pf).toArray.size) := show _ = _ by rw [List.size_toArray, List.size_toArray, m64_len, m64_len, lp]; rfl
  have HO : Hid ((m64 pf).toArray.all (·.oneCell') = true) := show _ = _ by simp [m64, Value.oneCell']
  have HL := Lib.hid ha
  clear s1 a1 a2 b0 hpf hi ha lp
  go_enter Try.func17, Try.ntmps17
  go_wp2_with (first
    | (go_at_call 24; refine (offsets24 _).mono ?_
       rintro e w1 ⟨rfl, hb1⟩
       have HB1 := Lib.hid (HB0.out.trans (hb1.mono HB0.out.size))
       have HC1 := Lib.hid (HA1.out.later hb1 HA1.out.lt)
       have HC2 := Lib.hid (HA2.out.later hb1 HA2.out.lt)
       clear hb1)
    | (go_at_call 25; refine (constants25 _).mono ?_
       rintro e w2 ⟨rfl, hb2⟩
       have HB2 := Lib.hid (HB1.out.trans (hb2.mono HB1.out.size))
       have HD1 := Lib.hid (HC1.out.later hb2 HC1.out.lt)
       have HD2 := Lib.hid (HC2.out.later hb2 HC2.out.lt)
       clear hb2)
    | (refine wp_build2 rfl 56 (.tmp 4) (.tmp 5) rfl (.agg (mi offF).toArray) (.agg (m64 conF).toArray) _ rfl rfl build56 ?_)
    | (refine wpList_load_row rfl 33 (.tmp 1) rfl w.heap.size rfl 33 (m64 a).toArray (0, 0) _ (HD1.out.alloc _) Try.underlying33 rfl HI.out ?_)
    | (go_at_call 27; refine (permute27 _ w2.heap.size a HL.out (Arr.new w2 (mi offF ++ m64 conF) 56)).mono ?_
       rintro e w3 ⟨rfl, hb3⟩
       rw [HPF.out]
       have HB3 := Lib.hid ((HB2.out.alloc HB2.out.size (.cells (mi offF ++ m64 conF).toArray 56)).trans (hb3.mono (Nat.le_trans HB2.out.size (by rw [size_alloc]; omega))))
       have HE2 := Lib.hid ((HD2.out.alloc (.cells (mi offF ++ m64 conF).toArray 56)).later hb3 (HD2.out.alloc (.cells (mi offF ++ m64 conF).toArray 56)).lt)
       clear hb3)
    | (refine wpList_store_row rfl 33 (.tmp 2) (.tmp 10) rfl (w.heap.size + 1) (m64 pf).toArray rfl rfl 33 (m64 (List.replicate 25 0#64)).toArray HE2.out HI2.out HS.out HO.out ?_))
  refine bodyPost_ret (results_cell_row (P := Try.prog) rfl _ _ (w.heap.size + 1) 33 (m64 pf).toArray (0, 0) _ rfl (setRow_heap w3 _ _ _ _ _ HE2.out) Try.underlying33 rfl HI2.out) rfl ⟨rfl, below_setRow HB3.out (by omega) _⟩
/-- The frame of the reference's walk. -/
structure Br (w W : World) (n0 n1 n2 n3 : Nat) (a : L) : Prop where
  e0 : n0 = w.heap.size
  e1 : n1 = n0 + 1
  e2 : n1 < n2
  e3 : n2 < n3
  la : a.length = 25
  A : Arr W n0 33 (m64 a)
  Z : Arr W n1 33 (m64 (List.replicate 25 0#64))
  K : Arr W n2 53 (m64 conF)
  T : Arr W n3 51 (mi offF)
  W : Below w.heap.size w W
section
variable {w W W' : World} {n0 n1 n2 n3 : Nat} {a b c : L}
theorem Br.drew (h : Br w W n0 n1 n2 n3 a) : Br w W.drew n0 n1 n2 n3 a := ⟨h.e0, h.e1, h.e2, h.e3, h.la, h.A, h.Z, h.K, h.T, h.W.drew⟩
theorem Br.later (h : Br w W n0 n1 n2 n3 a) (hb : Below W.heap.size W W') : Br w W' n0 n1 n2 n3 a := by
  obtain ⟨e0, e1, e2, e3, la, A, Z, K, T, B⟩ := h
  exact ⟨e0, e1, e2, e3, la, A.later hb A.lt, Z.later hb Z.lt, K.later hb K.lt, T.later hb T.lt, B.trans (hb.mono B.size)⟩
theorem Br.setA (h : Br w W n0 n1 n2 n3 a) (i : Nat) (x : BitVec 64) : Br w (W.setCell ⟨n0, i, none⟩ (.int .u64 (n64 x))) n0 n1 n2 n3 (a.set i x) := by
  obtain ⟨e0, e1, e2, e3, la, A, Z, K, T, B⟩ := h
  exact ⟨e0, e1, e2, e3, by rw [List.length_set]; exact la, by rw [← m64_set]; exact A.set _ _, Z.other (by omega) _ _, K.other (by omega) _ _, T.other (by omega) _ _, B.trans ((Only.set _ _ _ _).below (by omega))⟩
theorem Br.other (h : Br w W n0 n1 n2 n3 a) {g : Nat} (hg : n3 < g) (i : Nat) (v : Value) : Br w (W.setCell ⟨g, i, none⟩ v) n0 n1 n2 n3 a := by
  obtain ⟨e0, e1, e2, e3, la, A, Z, K, T, B⟩ := h
  exact ⟨e0, e1, e2, e3, la, A.other (by omega) _ _, Z.other (by omega) _ _, K.other (by omega) _ _, T.other (by omega) _ _, B.trans ((Only.set _ _ _ _).below (by omega))⟩
theorem Br.cA (h : Br w W n0 n1 n2 n3 a) (i : Nat) (hi : i < 25) : W.cell? ⟨n0, i, none⟩ = some (.int .u64 (n64 (gt a 0#64 i))) := h.A.cell (m64_get (by rw [h.la]; exact hi))
theorem Br.cK (h : Br w W n0 n1 n2 n3 a) (i : Nat) (hi : i < 24) : W.cell? ⟨n2, i, none⟩ = some (.int .u64 (n64 (gt conF 0#64 i))) := h.K.cell (m64_get (by rw [con_len]; exact hi))
theorem Br.cT (h : Br w W n0 n1 n2 n3 a) (i : Nat) (hi : i < 25) : W.cell? ⟨n3, i, none⟩ = some (.int .i64 ((gt offF 0 i : Nat) : Int)) := h.T.cell (mi_get (by rw [off_len]; exact hi))
/-- An array of words made in the round. -/
structure Nw (W : World) (n3 g t : Nat) (n : Nat) (c : L) : Prop where
  h : n3 < g
  l : c.length = n
  A : Arr W g t (m64 c)
theorem Nw.drew {n3 g t n : Nat} (f : Nw W n3 g t n c) : Nw W.drew n3 g t n c := ⟨f.h, f.l, f.A⟩
theorem Nw.set {n3 g t n : Nat} (f : Nw W n3 g t n c) (i : Nat) (x : BitVec 64) : Nw (W.setCell ⟨g, i, none⟩ (.int .u64 (n64 x))) n3 g t n (c.set i x) := ⟨f.h, by rw [List.length_set]; exact f.l, by rw [← m64_set]; exact f.A.set _ _⟩
theorem Nw.other {n3 g t n g' : Nat} (f : Nw W n3 g t n c) (hg : g' ≠ g) (i : Nat) (v : Value) : Nw (W.setCell ⟨g', i, none⟩ v) n3 g t n c := ⟨f.h, f.l, f.A.other hg _ _⟩
theorem Nw.later {n3 g t n : Nat} (f : Nw W n3 g t n c) (hb : Below W.heap.size W W') : Nw W' n3 g t n c := ⟨f.h, f.l, f.A.later hb f.A.lt⟩
theorem Nw.cl {n3 g t n : Nat} (f : Nw W n3 g t n c) (i : Nat) (hi : i < n) : W.cell? ⟨g, i, none⟩ = some (.int .u64 (n64 (gt c 0#64 i))) := f.A.cell (m64_get (by rw [f.l]; exact hi))
end
theorem left (x : BitVec 64) (k : Nat) (ki : Int) (e : ki = (k : Int)) (hk : k < 64) (w : World) : Calls Try.prog 42 #[.int .u64 (n64 x), .int .i64 ki] w fun e w' => e = .returned (.int .u64 (n64 (rl x k))) ∧ w' = w := by
  subst e
  exact left42 x k hk w
theorem info53 : (Try.prog.info? 53).map (·.size) = some 24 := by kernel_rfl
theorem info51 : (Try.prog.info? 51).map (·.size) = some 25 := by kernel_rfl
theorem it_z {σ : Type} (f : Nat → σ → σ) (s : σ) : it f 0 s = s := by unfold it; rfl
theorem rndR_def (i : Nat) (a : L) : rndR i a = iota i (chiR (rhoR a (cols a z5)) a) := rfl
set_option maxRecDepth 100000 in
set_option maxHeartbeats 40000000 in
theorem permute18 (w : World) (a : L) (ha : a.length = 25) : Calls Try.prog 18 #[.agg (m64 a).toArray] w fun e w' => e = .returned (.agg (m64 (permF a)).toArray) ∧ Below w.heap.size w w' := by
  have s1 := size_alloc w (.cells (m64 a).toArray 33)
  have a1 : Arr ((w.alloc (.cells (m64 a).toArray 33)).alloc (.cells #[.int .u64 0, .int .u64 0, .int .u64 0, .int .u64 0, .int .u64 0, .int .u64 0, .int .u64 0, .int .u64 0, .int .u64 0, .int .u64 0, .int .u64 0, .int .u64 0, .int .u64 0, .int .u64 0, .int .u64 0, .int .u64 0, .int .u64 0, .int .u64 0, .int .u64 0, .int .u64 0, .int .u64 0, .int .u64 0, .int .u64 0, .int .u64 0, .int .u64 0] 33)) w.heap.size 33 (m64 a) := (Arr.new w (m64 a) 33).alloc _
  have a2 : Arr ((w.alloc (.cells (m64 a).toArray 33)).alloc (.cells #[.int .u64 0, .int .u64 0, .int .u64 0, .int .u64 0, .int .u64 0, .int .u64 0, .int .u64 0, .int .u64 0, .int .u64 0, .int .u64 0, .int .u64 0, .int .u64 0, .int .u64 0, .int .u64 0, .int .u64 0, .int .u64 0, .int .u64 0, .int .u64 0, .int .u64 0, .int .u64 0, .int .u64 0, .int .u64 0, .int .u64 0, .int .u64 0, .int .u64 0] 33)) (w.heap.size + 1) 33 (m64 (List.replicate 25 0#64)) := by
    have := Arr.new (w.alloc (.cells (m64 a).toArray 33)) (m64 (List.replicate 25 0#64)) 33
    rw [s1] at this
    exact this
  have b0 : Below w.heap.size w ((w.alloc (.cells (m64 a).toArray 33)).alloc (.cells #[.int .u64 0, .int .u64 0, .int .u64 0, .int .u64 0, .int .u64 0, .int .u64 0, .int .u64 0, .int .u64 0, .int .u64 0, .int .u64 0, .int .u64 0, .int .u64 0, .int .u64 0, .int .u64 0, .int .u64 0, .int .u64 0, .int .u64 0, .int .u64 0, .int .u64 0, .int .u64 0, .int .u64 0, .int .u64 0, .int .u64 0, .int .u64 0, .int .u64 0] 33)) := ((Below.refl _ w).alloc (Nat.le_refl _) _).alloc (by omega) _
  have s2 : ((w.alloc (.cells (m64 a).toArray 33)).alloc (.cells #[.int .u64 0, .int .u64 0, .int .u64 0, .int .u64 0, .int .u64 0, .int .u64 0, .int .u64 0, .int .u64 0, .int .u64 0, .int .u64 0, .int .u64 0, .int .u64 0, .int .u64 0, .int .u64 0, .int .u64 0, .int .u64 0, .int .u64 0, .int .u64 0, .int .u64 0, .int .u64 0, .int .u64 0, .int .u64 0, .int .u64 0, .int .u64 0, .int .u64 0] 33)).heap.size = w.heap.size + 2 := by rw [size_alloc, s1]
  have HA1 := Lib.hid a1
  have HA2 := Lib.hid a2
  have HB0 := Lib.hid b0
  have HS2 := Lib.hid s2
  have HPR := Lib.hid (perm_ref a ha)
  have HLN := Lib.hid (fun n => (perR_eq a ha n))
  have HI53 : Hid ((Try.prog.info? 53).map (·.size) = some (m64 conF).toArray.size) := by rw [List.size_toArray, m64_len, con_len]; exact info53
  have HI51 : Hid ((Try.prog.info? 51).map (·.size) = some (mi offF).toArray.size) := by rw [List.size_toArray, mi_len, off_len]; exact info51
  have HS53 : Hid ((m64 (List.replicate 24 0#64)).toArray.size = (m64 conF).toArray.size) := show _ = _ by rw [List.size_toArray, List.size_toArray, m64_len, m64_len, con_len]; rfl
  have HS51 : Hid ((mi (List.replicate 25 0)).toArray.size = (mi offF).toArray.size) := show _ = _ by rw [List.size_toArray, List.size_toArray, mi_len, mi_len, off_len]; rfl
  have HO53 : Hid ((m64 conF).toArray.all (·.oneCell') = true) := show _ = _ by simp [m64, Value.oneCell']
  have HO51 : Hid ((mi offF).toArray.all (·.oneCell') = true) := show _ = _ by simp [mi, Value.oneCell']
  have HL := Lib.hid ha
  clear s1 a1 a2 b0 s2 ha
  go_enter Try.func18, Try.ntmps18
  go_wp2_with (first
    | (go_at_call 40; refine (constants40 _).mono ?_
       rintro e w1 ⟨rfl, hb1⟩
       have HB1 := Lib.hid (HB0.out.trans (hb1.mono HB0.out.size))
       have HC1 := Lib.hid (HA1.out.later hb1 HA1.out.lt)
       have HC2 := Lib.hid (HA2.out.later hb1 HA2.out.lt)
       have HN1 : Hid (w.heap.size + 1 < w1.heap.size) := show _ < _ by have := hb1.size; have := HS2.out; omega
       clear hb1)
    | (refine wpList_store_row rfl 53 (.tmp 3) (.tmp 14) rfl w1.heap.size (m64 conF).toArray rfl rfl 53 (m64 (List.replicate 24 0#64)).toArray (block_new _ _) HI53.out HS53.out HO53.out ?_
       have hL : Below w1.heap.size w1 ((w1.alloc (.cells #[.int .u64 0, .int .u64 0, .int .u64 0, .int .u64 0, .int .u64 0, .int .u64 0, .int .u64 0, .int .u64 0, .int .u64 0, .int .u64 0, .int .u64 0, .int .u64 0, .int .u64 0, .int .u64 0, .int .u64 0, .int .u64 0, .int .u64 0, .int .u64 0, .int .u64 0, .int .u64 0, .int .u64 0, .int .u64 0, .int .u64 0, .int .u64 0] 53)).setRow w1.heap.size (m64 conF).toArray) := below_setRow (below_new _ _) (Nat.le_refl _) _
       have HB2 : Hid (Below w.heap.size w ((w1.alloc (.cells #[.int .u64 0, .int .u64 0, .int .u64 0, .int .u64 0, .int .u64 0, .int .u64 0, .int .u64 0, .int .u64 0, .int .u64 0, .int .u64 0, .int .u64 0, .int .u64 0, .int .u64 0, .int .u64 0, .int .u64 0, .int .u64 0, .int .u64 0, .int .u64 0, .int .u64 0, .int .u64 0, .int .u64 0, .int .u64 0, .int .u64 0, .int .u64 0] 53)).setRow w1.heap.size (m64 conF).toArray)) := HB1.out.trans (hL.mono HB1.out.size)
       have HD1 : Hid (Arr ((w1.alloc (.cells #[.int .u64 0, .int .u64 0, .int .u64 0, .int .u64 0, .int .u64 0, .int .u64 0, .int .u64 0, .int .u64 0, .int .u64 0, .int .u64 0, .int .u64 0, .int .u64 0, .int .u64 0, .int .u64 0, .int .u64 0, .int .u64 0, .int .u64 0, .int .u64 0, .int .u64 0, .int .u64 0, .int .u64 0, .int .u64 0, .int .u64 0, .int .u64 0] 53)).setRow w1.heap.size (m64 conF).toArray) w.heap.size 33 (m64 a)) := HC1.out.later hL HC1.out.lt
       have HD2 : Hid (Arr ((w1.alloc (.cells #[.int .u64 0, .int .u64 0, .int .u64 0, .int .u64 0, .int .u64 0, .int .u64 0, .int .u64 0, .int .u64 0, .int .u64 0, .int .u64 0, .int .u64 0, .int .u64 0, .int .u64 0, .int .u64 0, .int .u64 0, .int .u64 0, .int .u64 0, .int .u64 0, .int .u64 0, .int .u64 0, .int .u64 0, .int .u64 0, .int .u64 0, .int .u64 0] 53)).setRow w1.heap.size (m64 conF).toArray) (w.heap.size + 1) 33 (m64 (List.replicate 25 0#64))) := HC2.out.later hL HC2.out.lt
       have HD3 : Hid (Arr ((w1.alloc (.cells #[.int .u64 0, .int .u64 0, .int .u64 0, .int .u64 0, .int .u64 0, .int .u64 0, .int .u64 0, .int .u64 0, .int .u64 0, .int .u64 0, .int .u64 0, .int .u64 0, .int .u64 0, .int .u64 0, .int .u64 0, .int .u64 0, .int .u64 0, .int .u64 0, .int .u64 0, .int .u64 0, .int .u64 0, .int .u64 0, .int .u64 0, .int .u64 0] 53)).setRow w1.heap.size (m64 conF).toArray) w1.heap.size 53 (m64 conF)) := setRow_heap _ _ _ _ _ _ (block_new w1 (.cells (m64 (List.replicate 24 0#64)).toArray 53))
       clear hL
       generalize ((w1.alloc (.cells #[.int .u64 0, .int .u64 0, .int .u64 0, .int .u64 0, .int .u64 0, .int .u64 0, .int .u64 0, .int .u64 0, .int .u64 0, .int .u64 0, .int .u64 0, .int .u64 0, .int .u64 0, .int .u64 0, .int .u64 0, .int .u64 0, .int .u64 0, .int .u64 0, .int .u64 0, .int .u64 0, .int .u64 0, .int .u64 0, .int .u64 0, .int .u64 0] 53)).setRow w1.heap.size (m64 conF).toArray) = w2 at *
       generalize w1.heap.size = n2 at *)
    | (go_at_call 41; refine (turns41 _).mono ?_
       rintro e w3 ⟨rfl, hb3⟩
       have HB3 := Lib.hid (HB2.out.trans (hb3.mono HB2.out.size))
       have HE1 := Lib.hid (HD1.out.later hb3 HD1.out.lt)
       have HE2 := Lib.hid (HD2.out.later hb3 HD2.out.lt)
       have HE3 := Lib.hid (HD3.out.later hb3 HD3.out.lt)
       clear hb3)
    | (refine wpList_store_row rfl 51 (.tmp 4) (.tmp 15) rfl w3.heap.size (mi offF).toArray rfl rfl 51 (mi (List.replicate 25 0)).toArray (block_new _ _) HI51.out HS51.out HO51.out ?_))
  have HF : Hid (Br w ((w3.alloc (.cells #[.int .i64 0, .int .i64 0, .int .i64 0, .int .i64 0, .int .i64 0, .int .i64 0, .int .i64 0, .int .i64 0, .int .i64 0, .int .i64 0, .int .i64 0, .int .i64 0, .int .i64 0, .int .i64 0, .int .i64 0, .int .i64 0, .int .i64 0, .int .i64 0, .int .i64 0, .int .i64 0, .int .i64 0, .int .i64 0, .int .i64 0, .int .i64 0, .int .i64 0] 51)).setRow w3.heap.size (mi offF).toArray) w.heap.size (w.heap.size + 1) n2 w3.heap.size a) := by
    have hL : Below w3.heap.size w3 ((w3.alloc (.cells #[.int .i64 0, .int .i64 0, .int .i64 0, .int .i64 0, .int .i64 0, .int .i64 0, .int .i64 0, .int .i64 0, .int .i64 0, .int .i64 0, .int .i64 0, .int .i64 0, .int .i64 0, .int .i64 0, .int .i64 0, .int .i64 0, .int .i64 0, .int .i64 0, .int .i64 0, .int .i64 0, .int .i64 0, .int .i64 0, .int .i64 0, .int .i64 0, .int .i64 0] 51)).setRow w3.heap.size (mi offF).toArray) := below_setRow (below_new _ _) (Nat.le_refl _) _
    exact ⟨rfl, rfl, HN1.out, HE3.out.lt, HL.out, HE1.out.later hL HE1.out.lt, HE2.out.later hL HE2.out.lt, HE3.out.later hL HE3.out.lt, setRow_heap _ _ _ _ _ _ (block_new w3 (.cells (mi (List.replicate 25 0)).toArray 51)), HB3.out.trans (hL.mono HB3.out.size)⟩
  generalize ((w3.alloc (.cells #[.int .i64 0, .int .i64 0, .int .i64 0, .int .i64 0, .int .i64 0, .int .i64 0, .int .i64 0, .int .i64 0, .int .i64 0, .int .i64 0, .int .i64 0, .int .i64 0, .int .i64 0, .int .i64 0, .int .i64 0, .int .i64 0, .int .i64 0, .int .i64 0, .int .i64 0, .int .i64 0, .int .i64 0, .int .i64 0, .int .i64 0, .int .i64 0, .int .i64 0] 51)).setRow w3.heap.size (mi offF).toArray) = wx at *
  generalize w3.heap.size = n3 at *
  clear HA1 HA2 HB0 HS2 HB1 HC1 HC2 HN1 HB2 HD1 HD2 HD3 HB3 HE1 HE2 HE3 HI53 HI51 HS53 HS51 HO53 HO51 w1 w2 w3
  obtain ⟨n1, hn1⟩ : ∃ n, n = w.heap.size + 1 := ⟨_, rfl⟩
  rw [← hn1] at HF ⊢
  clear hn1
  generalize hn0 : w.heap.size = n0 at HF ⊢
  clear hn0
  go_loopw [5] (fun v wr => ∃ k : Nat, k ≤ 24 ∧ v = .int .i64 (k : Int) ∧ Br w wr n0 n1 n2 n3 (it rndR k a)) (fun v _ => 24 - (intOf v).toNat)
  case atStart => exact ⟨0, by omega, rfl, by rw [it_z]; exact HF.out⟩
  obtain ⟨i, hi, rfl, hbl⟩ := hrel
  clear HF
  have HS := Lib.hid (show it rndR (i + 1) a = rndR i (it rndR i a) from it_succ _ _ _)
  generalize hst : it rndR i a = a0 at *
  have HEQ := Lib.hid hst
  clear hst
  have HBL := Lib.hid hbl
  clear hbl
  rcases Nat.lt_or_ge i 24 with hlt | hge
  · skip
    go_wp2_with fail
    have hd : decide ((i : Int) < 24) = true := decide_eq_true (by omega)
    try simp only [hd]
    have HI := Lib.hid hlt
    clear hlt hd
    have HB1 : Hid (Br w (wr.alloc (.cells #[.int .u64 0, .int .u64 0, .int .u64 0, .int .u64 0, .int .u64 0] 82)) n0 n1 n2 n3 a0) := HBL.out.later (below_new _ _)
    have HC : Hid (Nw (wr.alloc (.cells #[.int .u64 0, .int .u64 0, .int .u64 0, .int .u64 0, .int .u64 0] 82)) n3 wr.heap.size 82 5 z5) := ⟨HBL.out.T.lt, rfl, Arr.new wr (m64 z5) 82⟩
    clear HBL
    generalize (wr.alloc (.cells #[.int .u64 0, .int .u64 0, .int .u64 0, .int .u64 0, .int .u64 0] 82)) = wc at *
    generalize wr.heap.size = gC at *
    clear wr
    go_loopw [7] (fun v wr => ∃ k : Nat, k ≤ 5 ∧ v = .int .i64 (k : Int) ∧ Br w wr n0 n1 n2 n3 a0 ∧ Nw wr n3 gC 82 5 (it (colS a0) k z5)) (fun v _ => 5 - (intOf v).toNat)
    case atStart => exact ⟨0, by omega, rfl, HB1.out, by rw [it_z]; exact HC.out⟩
    obtain ⟨x, hx, rfl, hbl, hc⟩ := hrel
    clear HB1 HC
    rcases Nat.lt_or_ge x 5 with hlt | hge
    · skip
      have HS2 := Lib.hid (show it (colS a0) (x + 1) z5 = colS a0 x (it (colS a0) x z5) from it_succ _ _ _)
      generalize it (colS a0) x z5 = c1 at *
      obtain ⟨x5, hx5⟩ : ∃ x5 : Nat, x5 = x + 5 := ⟨_, rfl⟩
      have e5 : (x : Int) + 5 = (x5 : Int) := by omega
      have i5 : ¬ (25 : Int) ≤ (x5 : Int) := by omega
      have c5 := hbl.cA x5 (by omega)
      obtain ⟨x10, hx10⟩ : ∃ x10 : Nat, x10 = x + 10 := ⟨_, rfl⟩
      have e10 : (x : Int) + 10 = (x10 : Int) := by omega
      have i10 : ¬ (25 : Int) ≤ (x10 : Int) := by omega
      have c10 := hbl.cA x10 (by omega)
      obtain ⟨x15, hx15⟩ : ∃ x15 : Nat, x15 = x + 15 := ⟨_, rfl⟩
      have e15 : (x : Int) + 15 = (x15 : Int) := by omega
      have i15 : ¬ (25 : Int) ≤ (x15 : Int) := by omega
      have c15 := hbl.cA x15 (by omega)
      obtain ⟨x20, hx20⟩ : ∃ x20 : Nat, x20 = x + 20 := ⟨_, rfl⟩
      have e20 : (x : Int) + 20 = (x20 : Int) := by omega
      have i20 : ¬ (25 : Int) ≤ (x20 : Int) := by omega
      have c20 := hbl.cA x20 (by omega)
      have i0 : ¬ (25 : Int) ≤ (x : Int) := by omega
      have i1 : ¬ (5 : Int) ≤ (x : Int) := by omega
      have c0 := hbl.cA x (by omega)
      have f0 := hc.A.frozen x
      have c00 := hc.cl x hlt
      have HBL := Lib.hid hbl
      have HCC := Lib.hid hc
      have HX := Lib.hid (show _ ∧ _ ∧ _ ∧ _ from ⟨hx5, hx10, hx15, hx20⟩)
      clear hbl hc hx5 hx10 hx15 hx20
      go_wp2_with fail
      refine wp_region_c 25 (by kernel_rfl) (by kernel_rfl) ?_
      simp only [List.take_succ_cons, List.take_zero, List.drop_succ_cons, List.drop_zero]
      iterate 25 (refine wpC_run (by rfl) rfl (fun K hK => ?_); go_wp2)
      refine wpC_nil ?_
      go_wp2
      obtain ⟨hx5, hx10, hx15, hx20⟩ := HX.out
      go_roundw
      case rel =>
        refine ⟨x + 1, by omega, by go_num, (HBL.out.drew.other HCC.out.h _ _), ?_⟩
        rw [HS2.out]
        unfold colS
        rw [← hx5, ← hx10, ← hx15, ← hx20]
        exact HCC.out.drew.set _ _
      case measure => simp [intOf]; omega
    obtain rfl : x = 5 := by omega
    rw [show ((5 : Nat) : Int) = 5 from rfl]
    have HSC := Lib.hid (show it (colS a0) 5 z5 = cols a0 z5 from rfl)
    have HBL := Lib.hid hbl
    have HC := Lib.hid hc
    rw [HSC.out] at HC
    clear hbl hc hge hx
    go_wp2_with fail
    generalize hc1 : cols a0 z5 = c1 at *
    have HC1 := Lib.hid hc1
    clear hc1 HSC
    have HB1 : Hid (Br w (wr.alloc (.cells #[.int .u64 0, .int .u64 0, .int .u64 0, .int .u64 0, .int .u64 0, .int .u64 0, .int .u64 0, .int .u64 0, .int .u64 0, .int .u64 0, .int .u64 0, .int .u64 0, .int .u64 0, .int .u64 0, .int .u64 0, .int .u64 0, .int .u64 0, .int .u64 0, .int .u64 0, .int .u64 0, .int .u64 0, .int .u64 0, .int .u64 0, .int .u64 0, .int .u64 0] 33)) n0 n1 n2 n3 a0) := HBL.out.later (below_new _ _)
    have HC0 : Hid (Nw (wr.alloc (.cells #[.int .u64 0, .int .u64 0, .int .u64 0, .int .u64 0, .int .u64 0, .int .u64 0, .int .u64 0, .int .u64 0, .int .u64 0, .int .u64 0, .int .u64 0, .int .u64 0, .int .u64 0, .int .u64 0, .int .u64 0, .int .u64 0, .int .u64 0, .int .u64 0, .int .u64 0, .int .u64 0, .int .u64 0, .int .u64 0, .int .u64 0, .int .u64 0, .int .u64 0] 33)) n3 gC 82 5 c1) := HC.out.later (below_new _ _)
    have HBB : Hid (Nw (wr.alloc (.cells #[.int .u64 0, .int .u64 0, .int .u64 0, .int .u64 0, .int .u64 0, .int .u64 0, .int .u64 0, .int .u64 0, .int .u64 0, .int .u64 0, .int .u64 0, .int .u64 0, .int .u64 0, .int .u64 0, .int .u64 0, .int .u64 0, .int .u64 0, .int .u64 0, .int .u64 0, .int .u64 0, .int .u64 0, .int .u64 0, .int .u64 0, .int .u64 0, .int .u64 0] 33)) n3 wr.heap.size 33 25 z25) := ⟨HBL.out.T.lt, rfl, Arr.new wr (m64 z25) 33⟩
    have HNE : Hid (gC ≠ wr.heap.size) := show _ ≠ _ by have := HC.out.A.lt; omega
    clear HBL HC
    generalize (wr.alloc (.cells #[.int .u64 0, .int .u64 0, .int .u64 0, .int .u64 0, .int .u64 0, .int .u64 0, .int .u64 0, .int .u64 0, .int .u64 0, .int .u64 0, .int .u64 0, .int .u64 0, .int .u64 0, .int .u64 0, .int .u64 0, .int .u64 0, .int .u64 0, .int .u64 0, .int .u64 0, .int .u64 0, .int .u64 0, .int .u64 0, .int .u64 0, .int .u64 0, .int .u64 0] 33)) = wc at *
    generalize wr.heap.size = gB at *
    clear wr
    go_loopw [9] (fun v wr => ∃ k : Nat, k ≤ 5 ∧ v = .int .i64 (k : Int) ∧ Br w wr n0 n1 n2 n3 a0 ∧ Nw wr n3 gC 82 5 c1 ∧ Nw wr n3 gB 33 25 (it (rhoXR a0 c1) k z25)) (fun v _ => 5 - (intOf v).toNat)
    case atStart => exact ⟨0, by omega, rfl, HB1.out, HC0.out, by rw [it_z]; exact HBB.out⟩
    obtain ⟨x, hx, rfl, hbl, hc, hb⟩ := hrel
    clear HB1 HC0 HBB
    have HBL := Lib.hid hbl
    have HCC := Lib.hid hc
    have HBB := Lib.hid hb
    clear hbl hc hb
    rcases Nat.lt_or_ge x 5 with hlt | hge
    · skip
      have HS5 := Lib.hid (show it (rhoXR a0 c1) (x + 1) z25 = rhoXR a0 c1 x (it (rhoXR a0 c1) x z25) from it_succ _ _ _)
      generalize it (rhoXR a0 c1) x z25 = b1 at *
      go_wp2_with fail
      have hd : decide ((x : Int) < 5) = true := decide_eq_true (by omega)
      try simp only [hd]
      have Hx := Lib.hid hlt
      clear hlt hd
      obtain ⟨wo, rfl⟩ : ∃ wo : World, wo = wr := ⟨_, rfl⟩
      go_loopw [10] (fun v wr => ∃ k : Nat, k ≤ 5 ∧ v = .int .i64 (k : Int) ∧ Br w wr n0 n1 n2 n3 a0 ∧ Nw wr n3 gC 82 5 c1 ∧ Nw wr n3 gB 33 25 (it (rhoSR a0 c1 x) k b1)) (fun v _ => 5 - (intOf v).toNat)
      case atStart => exact ⟨0, by omega, rfl, HBL.out, HCC.out, by rw [it_z]; exact HBB.out⟩
      obtain ⟨y, hy, rfl, hbl, hc, hb⟩ := hrel
      clear HBL HCC HBB
      rcases Nat.lt_or_ge y 5 with hlt | hge
      · skip
        have HS6 := Lib.hid (show it (rhoSR a0 c1 x) (y + 1) b1 = rhoSR a0 c1 x y (it (rhoSR a0 c1 x) y b1) from it_succ _ _ _)
        generalize it (rhoSR a0 c1 x) y b1 = b2 at *
        have hx5 := Hx.out
        obtain ⟨s, hs⟩ : ∃ s : Nat, s = x + 5 * y := ⟨_, rfl⟩
        obtain ⟨m, hm⟩ : ∃ m : Nat, m = (2 * x + 3 * y) % 5 := ⟨_, rfl⟩
        obtain ⟨v, hv⟩ : ∃ v : Nat, v = y + 5 * m := ⟨_, rfl⟩
        obtain ⟨p, hp⟩ : ∃ p : Nat, p = (x + 4) % 5 := ⟨_, rfl⟩
        obtain ⟨q, hq⟩ : ∃ q : Nat, q = (x + 1) % 5 := ⟨_, rfl⟩
        have es : (x : Int) + 5 * (y : Int) = (s : Int) := by omega
        have is_ : ¬ (25 : Int) ≤ (s : Int) := by omega
        have ep := te (x + 4) p ((x : Int) + 4) (by omega) hp
        have eq := te (x + 1) q ((x : Int) + 1) (by omega) hq
        have ip : ¬ (5 : Int) ≤ (p : Int) := by omega
        have iq : ¬ (5 : Int) ≤ (q : Int) := by omega
        have cs := hbl.cA s (by omega)
        have cp := hc.cl p (by omega)
        have cq := hc.cl q (by omega)
        have em := te (2 * x + 3 * y) m (2 * (x : Int) + 3 * (y : Int)) (by omega) hm
        have ev : (y : Int) + 5 * (m : Int) = (v : Int) := by omega
        have hm5 : m < 5 := by omega
        have iv : ¬ (25 : Int) ≤ (v : Int) := by omega
        have co := hbl.cT s (by omega)
        have hol := off_lt ⟨s, by omega⟩
        simp only at hol
        have cv := hb.cl v (by omega)
        have fs := hb.A.frozen v
        generalize hor : gt offF 0 s = o at *
        have HX := Lib.hid (show _ ∧ _ ∧ _ ∧ _ ∧ _ ∧ _ from ⟨hs, hm, hv, hor, hp, hq⟩)
        have HSS := Lib.hid (show rhoSR a0 c1 x y b2 = b2.set v (rl (gt a0 0#64 s ^^^ gt c1 0#64 p ^^^ rl (gt c1 0#64 q) 1) o) by unfold rhoSR; rw [← hs, ← hm, ← hv, ← hp, ← hq, hor])
        generalize gt a0 0#64 s = u1 at *
        generalize gt c1 0#64 p = u2 at *
        generalize gt c1 0#64 q = u3 at *
        have HR1 := Lib.hid (left u3 1 1 rfl (by decide))
        have HR2 := Lib.hid (fun W => left42 (u1 ^^^ u2 ^^^ rl u3 1) o hol W)
        have HBL := Lib.hid hbl
        have HCC := Lib.hid hc
        have HBB := Lib.hid hb
        have HYL := Lib.hid hlt
        clear hbl hc hb hs hm hv hor hp hq hol
        go_wp2_with fail
        refine wp_region_q (by kernel_rfl) (by kernel_rfl) ?_
        iterate 17 (refine wpC_run (by rfl) rfl (fun K hK => ?_); go_wp2)
        refine wpC_call 42 _ _ (by rfl) (by go_simp) (HR1.out _) ?_
        simp only [Act.put, List.setIfInBounds_toArray, List.set_cons_zero, List.set_cons_succ]
        iterate 2 (refine wpC_run (by rfl) rfl (fun K hK => ?_); go_wp2)
        refine wpC_nil ?_
        go_wp2_with (first
          | (go_at_call 42; refine (HR2.out _).mono ?_; rintro e w1 ⟨rfl, rfl⟩))
        have hlt : y < 5 := HYL.out
        go_roundw
        case rel =>
          refine ⟨y + 1, by omega, by go_num, (HBL.out.other HBB.out.h _ _).drew, (HCC.out.other HNE.out.symm _ _).drew, ?_⟩
          rw [HS6.out, HSS.out]
          exact (HBB.out.set _ _).drew
        case measure => simp [intOf]; omega
      obtain rfl : y = 5 := by omega
      rw [show ((5 : Nat) : Int) = 5 from rfl]
      have HBL := Lib.hid hbl
      have HCC := Lib.hid hc
      have HBB := Lib.hid hb
      have hlt := Hx.out
      clear hbl hc hb hge hy
      go_wp2_with fail
      go_roundw
      case rel =>
        refine ⟨x + 1, by omega, by go_num, HBL.out, HCC.out, ?_⟩
        rw [HS5.out]
        unfold rhoXR
        exact HBB.out
      case measure => simp [intOf]; omega
    obtain rfl : x = 5 := by omega
    rw [show ((5 : Nat) : Int) = 5 from rfl]
    have HSB := Lib.hid (show it (rhoXR a0 c1) 5 z25 = rhoR a0 c1 from rfl)
    rw [HSB.out] at HBB
    generalize hb1 : rhoR a0 c1 = b1 at *
    have HB1 := Lib.hid hb1
    clear hb1 HSB HCC hx hge HNE
    go_wp2_with fail
    obtain ⟨wo, rfl⟩ : ∃ wo : World, wo = wr := ⟨_, rfl⟩
    go_loopw [12] (fun v wr => ∃ k : Nat, k ≤ 5 ∧ v = .int .i64 (k : Int) ∧ Br w wr n0 n1 n2 n3 (it (chiXR b1) k a0) ∧ Nw wr n3 gB 33 25 b1) (fun v _ => 5 - (intOf v).toNat)
    case atStart => exact ⟨0, by omega, rfl, by rw [it_z]; exact HBL.out, HBB.out⟩
    obtain ⟨x, hx, rfl, hbl, hb⟩ := hrel
    clear HBL HBB
    have HBL := Lib.hid hbl
    have HBB := Lib.hid hb
    clear hbl hb
    rcases Nat.lt_or_ge x 5 with hlt | hge
    · skip
      have HS7 := Lib.hid (show it (chiXR b1) (x + 1) a0 = chiXR b1 x (it (chiXR b1) x a0) from it_succ _ _ _)
      generalize it (chiXR b1) x a0 = a2 at *
      go_wp2_with fail
      have hd : decide ((x : Int) < 5) = true := decide_eq_true (by omega)
      try simp only [hd]
      have Hx := Lib.hid hlt
      clear hlt hd
      obtain ⟨wo, rfl⟩ : ∃ wo : World, wo = wr := ⟨_, rfl⟩
      go_loopw [13] (fun v wr => ∃ k : Nat, k ≤ 5 ∧ v = .int .i64 (k : Int) ∧ Br w wr n0 n1 n2 n3 (it (chiSR b1 x) k a2) ∧ Nw wr n3 gB 33 25 b1) (fun v _ => 5 - (intOf v).toNat)
      case atStart => exact ⟨0, by omega, rfl, by rw [it_z]; exact HBL.out, HBB.out⟩
      obtain ⟨y, hy, rfl, hbl, hb⟩ := hrel
      clear HBL HBB
      rcases Nat.lt_or_ge y 5 with hlt | hge
      · skip
        have HS8 := Lib.hid (show it (chiSR b1 x) (y + 1) a2 = chiSR b1 x y (it (chiSR b1 x) y a2) from it_succ _ _ _)
        generalize it (chiSR b1 x) y a2 = a3 at *
        have hx5 := Hx.out
        obtain ⟨s, hs⟩ : ∃ s : Nat, s = x + 5 * y := ⟨_, rfl⟩
        obtain ⟨u, hu⟩ : ∃ u : Nat, u = (x + 1) % 5 := ⟨_, rfl⟩
        obtain ⟨v, hv⟩ : ∃ v : Nat, v = (x + 2) % 5 := ⟨_, rfl⟩
        obtain ⟨p, hp⟩ : ∃ p : Nat, p = u + 5 * y := ⟨_, rfl⟩
        obtain ⟨q, hq⟩ : ∃ q : Nat, q = v + 5 * y := ⟨_, rfl⟩
        have es : (x : Int) + 5 * (y : Int) = (s : Int) := by omega
        have ep : (u : Int) + 5 * (y : Int) = (p : Int) := by omega
        have eq : (v : Int) + 5 * (y : Int) = (q : Int) := by omega
        have eu := te (x + 1) u ((x : Int) + 1) (by omega) hu
        have ev := te (x + 2) v ((x : Int) + 2) (by omega) hv
        have is_ : ¬ (25 : Int) ≤ (s : Int) := by omega
        have ip : ¬ (25 : Int) ≤ (p : Int) := by omega
        have iq : ¬ (25 : Int) ≤ (q : Int) := by omega
        have hu5 : u < 5 := by omega
        have hv5 : v < 5 := by omega
        have cs := hb.cl s (by omega)
        have cp := hb.cl p (by omega)
        have cq := hb.cl q (by omega)
        have cc := hbl.cA s (by omega)
        have fs := hbl.A.frozen s
        have HBL := Lib.hid hbl
        have HBB := Lib.hid hb
        have HX := Lib.hid (show _ ∧ _ ∧ _ ∧ _ ∧ _ from ⟨hs, hu, hv, hp, hq⟩)
        have HYL := Lib.hid hlt
        have HGN : Hid (n0 ≠ gB) := show _ ≠ _ by have := hb.h; have := hbl.e1; have := hbl.e2; have := hbl.e3; omega
        clear hbl hb hs hu hv hp hq
        go_wp2_with fail
        refine wp_region_c 30 (by kernel_rfl) (by kernel_rfl) ?_
        simp only [List.take_succ_cons, List.take_zero, List.drop_succ_cons, List.drop_zero]
        iterate 30 (refine wpC_run (by rfl) rfl (fun K hK => ?_); go_wp2)
        refine wpC_nil ?_
        go_wp2
        have hlt := HYL.out
        go_roundw
        case rel =>
          refine ⟨y + 1, by omega, by go_num, ?_, (HBB.out.other HGN.out _ _).drew⟩
          obtain ⟨hs, hu, hv, hp, hq⟩ := HX.out
          rw [HS8.out]
          unfold chiSR chiS
          rw [← hu, ← hv, ← hs, ← hp, ← hq]
          exact (HBL.out.setA _ _).drew
        case measure => simp [intOf]; omega
      obtain rfl : y = 5 := by omega
      rw [show ((5 : Nat) : Int) = 5 from rfl]
      have HBL := Lib.hid hbl
      have HBB := Lib.hid hb
      have hlt := Hx.out
      clear hbl hb hge hy
      go_wp2_with fail
      go_roundw
      case rel =>
        refine ⟨x + 1, by omega, by go_num, ?_, HBB.out⟩
        rw [HS7.out]
        unfold chiXR
        exact HBL.out
      case measure => simp [intOf]; omega
    obtain rfl : x = 5 := by omega
    rw [show ((5 : Nat) : Int) = 5 from rfl]
    have HSX := Lib.hid (show it (chiXR b1) 5 a0 = chiR b1 a0 from rfl)
    rw [HSX.out] at HBL
    generalize ha2 : chiR b1 a0 = a2 at *
    have HA2 := Lib.hid ha2
    clear ha2 HSX hge hx HBB
    have hi24 := HI.out
    have ci := HBL.out.cK i hi24
    have c0 := HBL.out.cA 0 (by omega)
    have f0 := HBL.out.A.frozen 0
    have ii : ¬ (24 : Int) ≤ (i : Int) := by omega
    go_wp2_with fail
    refine wp_region_c 7 (by kernel_rfl) (by kernel_rfl) ?_
    simp only [List.take_succ_cons, List.take_zero, List.drop_succ_cons, List.drop_zero]
    iterate 7 (refine wpC_run (by rfl) rfl (fun K hK => ?_); go_wp2)
    refine wpC_nil ?_
    go_wp2
    go_roundw
    case rel =>
      refine ⟨i + 1, by omega, by go_num, ?_⟩
      have hr : rndR i a0 = iota i a2 := by rw [rndR_def, HC1.out, HB1.out, HA2.out]
      rw [HS.out, hr]
      unfold iota
      exact (HBL.out.setA _ _).drew
    case measure => simp [intOf]; omega
  obtain rfl : i = 24 := by omega
  have hs : (m64 a0).toArray.size = 25 := by simp [m64_len, HBL.out.la]
  have hs0 : (m64 (List.replicate 25 0#64)).toArray.size = 25 := by simp [m64_len]
  have hi : (Try.prog.info? 33).map (·.size) = some (m64 a0).toArray.size := by rw [hs]; exact info33
  have h1 : (m64 a0).toArray.all (·.oneCell') = true := by simp [m64, Value.oneCell']
  generalize hv : (m64 a0).toArray = vr at *
  have HV := Lib.hid hv
  have HG : Hid (wr.heap[n0]? = some (.cells vr 33 (0, 0))) := (show _ = _ from by rw [← hv]; exact HBL.out.A)
  clear hv
  go_wp2_with (first | (refine wpList_load_row rfl 33 (.tmp 1) rfl n0 rfl 33 vr (0, 0) _ HG.out Try.underlying33 rfl hi ?_) | (refine wpList_store_row rfl 33 (.tmp 2) (.tmp 139) rfl n1 vr rfl rfl 33 (m64 (List.replicate 25 0#64)).toArray HBL.out.Z hi (hs0.trans hs.symm) h1 ?_))
  refine bodyPost_ret (results_cell_row (P := Try.prog) rfl _ _ n1 33 vr (0, 0) _ rfl (setRow_heap wr _ _ _ _ _ HBL.out.Z) Try.underlying33 rfl hi) rfl ⟨?_, below_setRow HBL.out.W (by have := HBL.out.e0; have := HBL.out.e1; omega) _⟩
  rw [← HV.out, ← HPR.out, HEQ.out]
end Go.Proofs.Ytnlcndlfdnogaaa.Pw
