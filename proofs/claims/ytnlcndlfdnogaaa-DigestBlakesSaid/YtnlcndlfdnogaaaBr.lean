/- ref.Blake, walked. (printed by gen_br.py) -/
import Derived.Test.YtnlcndlfdnogaaaSt
import Derived.Deep.RegionHeld3
import Derived.IntWalk
set_option linter.unusedVariables false
set_option linter.unusedSimpArgs false
namespace Go.Proofs.Ytnlcndlfdnogaaa.Br
open Go.RowKit
open D0 M D2 D3 Rg K1 P Bl Bs Bp St
attribute [local go_sem] addw64 xor64 and64 or64 xor32 and32 or32 andNot32 add64 add32 unary64 unary32 not64 not32
attribute [local go_sem high] shiftl64 shiftr64 shiftl32 shiftr32
def si0 : List Nat := [0, 1, 2, 3, 4, 5, 6, 7, 8, 9, 10, 11, 12, 13, 14, 15]
def si1 : List Nat := [14, 10, 4, 8, 9, 15, 13, 6, 1, 12, 0, 2, 11, 7, 5, 3]
def si2 : List Nat := [11, 8, 12, 0, 5, 2, 15, 13, 10, 14, 3, 6, 7, 1, 9, 4]
def si3 : List Nat := [7, 9, 3, 1, 13, 12, 11, 14, 2, 6, 5, 10, 4, 0, 15, 8]
def si4 : List Nat := [9, 0, 5, 7, 2, 4, 10, 15, 14, 1, 11, 12, 6, 8, 3, 13]
def si5 : List Nat := [2, 12, 6, 10, 0, 11, 8, 3, 4, 13, 7, 5, 15, 14, 1, 9]
def si6 : List Nat := [12, 5, 1, 15, 14, 13, 4, 10, 0, 7, 6, 3, 9, 2, 8, 11]
def si7 : List Nat := [13, 11, 7, 14, 12, 1, 3, 9, 5, 0, 15, 4, 8, 6, 2, 10]
def si8 : List Nat := [6, 15, 14, 9, 11, 3, 0, 8, 12, 2, 13, 7, 1, 4, 10, 5]
def si9 : List Nat := [10, 2, 8, 4, 7, 6, 1, 5, 15, 11, 9, 14, 3, 12, 13, 0]
def pi0 : List Nat := [0, 4, 8, 12]
def pi1 : List Nat := [1, 5, 9, 13]
def pi2 : List Nat := [2, 6, 10, 14]
def pi3 : List Nat := [3, 7, 11, 15]
def pi4 : List Nat := [0, 5, 10, 15]
def pi5 : List Nat := [1, 6, 11, 12]
def pi6 : List Nat := [2, 7, 8, 13]
def pi7 : List Nat := [3, 4, 9, 14]
/-- The rows, one behind the other. -/
def SI : List Nat := si0 ++ si1 ++ si2 ++ si3 ++ si4 ++ si5 ++ si6 ++ si7 ++ si8 ++ si9
def PI : List Nat := pi0 ++ pi1 ++ pi2 ++ pi3 ++ pi4 ++ pi5 ++ pi6 ++ pi7
theorem wp_sig {w : World} {ops : Array Oper} {rest : List Oper} {o : Oper} {a : Act} {Q : Exit → Act → World → Prop} (hd : o.dst = some 31) (hg : o.guard = none) (hop : o.op = .build 92 #[(0, .tmp 21), (1, .tmp 22), (2, .tmp 23), (3, .tmp 24), (4, .tmp 25), (5, .tmp 26), (6, .tmp 27), (7, .tmp 28), (8, .tmp 29), (9, .tmp 30)]) (h0 : a.eval (.tmp 21) = .agg (mi si0).toArray) (h1 : a.eval (.tmp 22) = .agg (mi si1).toArray) (h2 : a.eval (.tmp 23) = .agg (mi si2).toArray) (h3 : a.eval (.tmp 24) = .agg (mi si3).toArray) (h4 : a.eval (.tmp 25) = .agg (mi si4).toArray) (h5 : a.eval (.tmp 26) = .agg (mi si5).toArray) (h6 : a.eval (.tmp 27) = .agg (mi si6).toArray) (h7 : a.eval (.tmp 28) = .agg (mi si7).toArray) (h8 : a.eval (.tmp 29) = .agg (mi si8).toArray) (h9 : a.eval (.tmp 30) = .agg (mi si9).toArray)
    (h : wpList Try.prog ops Q rest (a.put o.dst (.agg (mi SI).toArray)) w) : wpList Try.prog ops Q (o :: rest) a w := by
  refine wpList_plain hg fun K hK' => ?_
  unfold Oper.wp
  have hx' : execOp a.eval o = (do pure (.value (← Instr.build 92 #[(0, .agg (mi si0).toArray), (1, .agg (mi si1).toArray), (2, .agg (mi si2).toArray), (3, .agg (mi si3).toArray), (4, .agg (mi si4).toArray), (5, .agg (mi si5).toArray), (6, .agg (mi si6).toArray), (7, .agg (mi si7).toArray), (8, .agg (mi si8).toArray), (9, .agg (mi si9).toArray)]))) := by
    unfold execOp
    simp only [hop, List.map_toArray, List.map_cons, List.map_nil, h0, h1, h2, h3, h4, h5, h6, h7, h8, h9]
  have hb : ∀ W : World, (Instr.build 92 #[(0, .agg (mi si0).toArray), (1, .agg (mi si1).toArray), (2, .agg (mi si2).toArray), (3, .agg (mi si3).toArray), (4, .agg (mi si4).toArray), (5, .agg (mi si5).toArray), (6, .agg (mi si6).toArray), (7, .agg (mi si7).toArray), (8, .agg (mi si8).toArray), (9, .agg (mi si9).toArray)]).run Try.prog W = .ok (.agg (mi SI).toArray) W := fun W => by kernel_rfl
  rw [hx', Sem.run_bind, hb]
  exact hK' _ _ h
theorem wp_pls {w : World} {ops : Array Oper} {rest : List Oper} {o : Oper} {a : Act} {Q : Exit → Act → World → Prop} (hd : o.dst = some 73) (hg : o.guard = none) (hop : o.op = .build 94 #[(0, .tmp 65), (1, .tmp 66), (2, .tmp 67), (3, .tmp 68), (4, .tmp 69), (5, .tmp 70), (6, .tmp 71), (7, .tmp 72)]) (h0 : a.eval (.tmp 65) = .agg (mi pi0).toArray) (h1 : a.eval (.tmp 66) = .agg (mi pi1).toArray) (h2 : a.eval (.tmp 67) = .agg (mi pi2).toArray) (h3 : a.eval (.tmp 68) = .agg (mi pi3).toArray) (h4 : a.eval (.tmp 69) = .agg (mi pi4).toArray) (h5 : a.eval (.tmp 70) = .agg (mi pi5).toArray) (h6 : a.eval (.tmp 71) = .agg (mi pi6).toArray) (h7 : a.eval (.tmp 72) = .agg (mi pi7).toArray)
    (h : wpList Try.prog ops Q rest (a.put o.dst (.agg (mi PI).toArray)) w) : wpList Try.prog ops Q (o :: rest) a w := by
  refine wpList_plain hg fun K hK' => ?_
  unfold Oper.wp
  have hx' : execOp a.eval o = (do pure (.value (← Instr.build 94 #[(0, .agg (mi pi0).toArray), (1, .agg (mi pi1).toArray), (2, .agg (mi pi2).toArray), (3, .agg (mi pi3).toArray), (4, .agg (mi pi4).toArray), (5, .agg (mi pi5).toArray), (6, .agg (mi pi6).toArray), (7, .agg (mi pi7).toArray)]))) := by
    unfold execOp
    simp only [hop, List.map_toArray, List.map_cons, List.map_nil, h0, h1, h2, h3, h4, h5, h6, h7]
  have hb : ∀ W : World, (Instr.build 94 #[(0, .agg (mi pi0).toArray), (1, .agg (mi pi1).toArray), (2, .agg (mi pi2).toArray), (3, .agg (mi pi3).toArray), (4, .agg (mi pi4).toArray), (5, .agg (mi pi5).toArray), (6, .agg (mi pi6).toArray), (7, .agg (mi pi7).toArray)]).run Try.prog W = .ok (.agg (mi PI).toArray) W := fun W => by kernel_rfl
  rw [hx', Sem.run_bind, hb]
  exact hK' _ _ h

theorem zero92 : ∀ W : World, (zeroValue 92).run Try.prog W = .ok (.agg (mi (List.replicate 160 0)).toArray) W := fun W => by kernel_rfl
theorem zero94 : ∀ W : World, (zeroValue 94).run Try.prog W = .ok (.agg (mi (List.replicate 32 0)).toArray) W := fun W => by kernel_rfl
theorem info92 : (Try.prog.info? 92).map (·.size) = some 160 := by kernel_rfl
theorem info94 : (Try.prog.info? 94).map (·.size) = some 32 := by kernel_rfl
theorem info91 : (Try.prog.info? 91).map (·.size) = some 16 := by kernel_rfl
theorem info93 : (Try.prog.info? 93).map (·.size) = some 4 := by kernel_rfl
theorem SI_len : SI.length = 160 := by decide +kernel
theorem PI_len : PI.length = 32 := by decide +kernel
theorem mi_all (l : List Nat) : (mi l).toArray.all (·.oneCell') = true := by simp [mi, Value.oneCell']
theorem it_zero {σ : Type} (f : Nat → σ → σ) (s : σ) : it f 0 s = s := rfl
/-- A part of a block, loaded. -/
theorem wp_load_part {o : Oper} {a : Act} {w : World} {K : Act → World → Prop} {Q : Exit → Act → World → Prop} (ty : TypeId) (x : Operand) (ho : o.op = .load ty x)
    (g off : Nat) (hx : a.eval x = .pointer (some ⟨g, off, none⟩)) (cs : List Value) (d : TypeDesc) (hc : ∀ j v, cs[j]? = some v → w.cell? ⟨g, off + j, none⟩ = some v)
    (hu : Try.prog.underlying ty = some d) (hd : (match d with | .struct _ | .array _ _ => true | _ => false) = true) (hi : (Try.prog.info? ty).map (·.size) = some cs.length)
    (h : K (a.put o.dst (.agg cs.toArray)) w) : o.wp Try.prog a w K Q := by
  have hl : (loadCells ⟨g, off, none⟩ cs.length).run Try.prog w = .ok cs.toArray w :=
    run_loadCells_list (P := Try.prog) w ⟨g, off, none⟩ cs (fun j v hv => by rw [Addr.add_lit]; exact hc j v hv)
  have hv : (loadVar ty ⟨g, off, none⟩).run Try.prog w = .ok (.agg cs.toArray) w := by
    cases hq : Try.prog.info? ty with
    | none => simp [hq] at hi
    | some i =>
      have hs : i.size = cs.length := by simpa [hq] using hi
      have hagg : (isAgg ty).run Try.prog w = .ok true w := by
        unfold isAgg
        rw [Sem.run_bind, run_underlying hu w]
        cases d <;> simp_all
      simp [loadVar, Sem.run_bind, hagg, sizeOf, typeInfo, hq, hs, hl]
  unfold Oper.wp execOp
  simp only [ho, hx, Instr.loadAt, Instr.sureAddr, Sem.run_bind, Sem.run_pure, Result.andThen_ok, hv]
  exact h
theorem wpList_load_part {ops : Array Oper} {rest : List Oper} {o : Oper} {a : Act} {w : World} {Q : Exit → Act → World → Prop} (hgd : o.guard = none) (ty : TypeId) (x : Operand) (ho : o.op = .load ty x)
    (g off : Nat) (hx : a.eval x = .pointer (some ⟨g, off, none⟩)) (cs : List Value) (d : TypeDesc) (hc : ∀ j v, cs[j]? = some v → w.cell? ⟨g, off + j, none⟩ = some v)
    (hu : Try.prog.underlying ty = some d) (hd : (match d with | .struct _ | .array _ _ => true | _ => false) = true) (hi : (Try.prog.info? ty).map (·.size) = some cs.length)
    (h : wpList Try.prog ops Q rest (a.put o.dst (.agg cs.toArray)) w) : wpList Try.prog ops Q (o :: rest) a w :=
  wpList_plain hgd fun _ hK => wp_load_part ty x ho g off hx cs d hc hu hd hi (hK _ _ h)
theorem iv_new (x : World) : Arr (x.alloc (.cells #[.int .u64 7640891576956012808, .int .u64 13503953896175478587, .int .u64 4354685564936845355, .int .u64 11912009170470909681, .int .u64 5840696475078001361, .int .u64 11170449401992604703, .int .u64 2270897969802886507, .int .u64 6620516959819538809] 45)) x.heap.size 45 (m64 ivF) := Arr.new x (m64 ivF) 45
theorem si_sg : SI = SG.map BitVec.toNat := by decide +kernel
theorem gt_si (i : Nat) (h : i < 160) : gt SI 0 i = (gt SG 0#8 i).toNat := by
  have hl : i < SG.length := by rw [SG_len]; exact h
  rw [si_sg]
  simp [gt, List.getD, List.getElem?_eq_getElem hl]
theorem pi_small : (PI.all fun x => decide (x < 16)) = true := by decide +kernel
theorem pi_lt (j : Nat) (h : j < 32) : gt PI 0 j < 16 := by
  have hl : j < PI.length := by rw [PI_len]; exact h
  have := List.all_eq_true.1 pi_small _ (List.getElem_mem hl)
  have e : gt PI 0 j = PI[j] := by simp [gt, List.getD, List.getElem?_eq_getElem hl]
  rw [e]
  simpa using this
def copyV (h : L) (i : Nat) (v : L) : L := (v.set i (gt h 0#64 i)).set (8 + i) (gt ivF 0#64 i)
theorem copy_all (h : L) (hh : h.length = 8) : it (copyV h) 8 (List.replicate 16 0#64) = h ++ ivF := by
  match h, hh with
  | [a0, a1, a2, a3, a4, a5, a6, a7], _ => rfl
def stS (m : L) (r k : Nat) (v : L) : L := mixG v (gt PI 0 (4 * k)) (gt PI 0 (4 * k + 1)) (gt PI 0 (4 * k + 2)) (gt PI 0 (4 * k + 3)) (gt m 0#64 (sgm r (2 * k))) (gt m 0#64 (sgm r (2 * k + 1)))
def rndR (m : L) (i : Nat) (v : L) : L := it (stS m (i % 10)) 8 v
theorem st_0 (m : L) (r : Nat) (v : L) : stS m r 0 v = mixA m r 0 v := rfl
theorem st_1 (m : L) (r : Nat) (v : L) : stS m r 1 v = mixA m r 1 v := rfl
theorem st_2 (m : L) (r : Nat) (v : L) : stS m r 2 v = mixA m r 2 v := rfl
theorem st_3 (m : L) (r : Nat) (v : L) : stS m r 3 v = mixA m r 3 v := rfl
theorem st_4 (m : L) (r : Nat) (v : L) : stS m r 4 v = mixB m r 0 v := rfl
theorem st_5 (m : L) (r : Nat) (v : L) : stS m r 5 v = mixB m r 1 v := rfl
theorem st_6 (m : L) (r : Nat) (v : L) : stS m r 6 v = mixB m r 2 v := rfl
theorem st_7 (m : L) (r : Nat) (v : L) : stS m r 7 v = mixB m r 3 v := rfl
theorem rnd_eq (m : L) : rndR m = rndB m := by
  funext i v
  unfold rndR rndB
  simp only [it, st_0, st_1, st_2, st_3, st_4, st_5, st_6, st_7]
def rowF (r : Nat) : List Nat := (List.range 16).map (sgm r)
def qF (k : Nat) : List Nat := (List.range 4).map fun j => gt PI 0 (4 * k + j)
theorem row_len (r : Nat) : (rowF r).length = 16 := by simp [rowF]
theorem q_len (k : Nat) : (qF k).length = 4 := by simp [qF]
theorem row_get (r j : Nat) (h : j < 16) : (mi (rowF r))[j]? = some (.int .i64 ((sgm r j : Nat) : Int)) := by simp [mi, rowF, h]
theorem q_get (k j : Nat) (h : j < 4) : (mi (qF k))[j]? = some (.int .i64 ((gt PI 0 (4 * k + j) : Nat) : Int)) := by simp [mi, qF, h]
theorem st_len (m : L) (r k : Nat) (v : L) : (stS m r k v).length = v.length := mixG_len _ _ _ _ _ _ _
attribute [local irreducible] it gt ivF SI PI si0 si1 si2 si3 si4 si5 si6 si7 si8 si9 pi0 pi1 pi2 pi3 pi4 pi5 pi6 pi7
/-- The frame while the first state is laid. -/
structure Qi (w W : World) (n0 n1 n2 n3 n4 n5 n6 : Nat) (h m v : L) (t0 t1 : BitVec 64) : Prop where
  e0 : n0 = w.heap.size
  e1 : n1 = n0 + 1
  e2 : n2 = n0 + 2
  e3 : n3 = n0 + 3
  e4 : n4 = n0 + 4
  e5 : n5 = n0 + 5
  e6 : n6 = n0 + 6
  hW : W.heap.size = n0 + 7
  lh : h.length = 8
  lm : m.length = 16
  lv : v.length = 16
  H : Arr W n0 45 (m64 h)
  Mm : Arr W n1 44 (m64 m)
  T : Arr W n2 48 (m64 [t0, t1])
  Z : Arr W n3 45 (m64 (List.replicate 8 0#64))
  S : Arr W n4 92 (mi SI)
  I : Arr W n5 45 (m64 ivF)
  Vv : Arr W n6 44 (m64 v)
  W : Below w.heap.size w W
section
variable {w W W' : World} {n0 n1 n2 n3 n4 n5 n6 : Nat} {h m v u : L} {t0 t1 : BitVec 64}
theorem Qi.drew (f : Qi w W n0 n1 n2 n3 n4 n5 n6 h m v t0 t1) : Qi w W.drew n0 n1 n2 n3 n4 n5 n6 h m v t0 t1 := ⟨f.e0, f.e1, f.e2, f.e3, f.e4, f.e5, f.e6, f.hW, f.lh, f.lm, f.lv, f.H, f.Mm, f.T, f.Z, f.S, f.I, f.Vv, f.W.drew⟩
theorem Qi.set (f : Qi w W n0 n1 n2 n3 n4 n5 n6 h m v t0 t1) (i : Nat) (x : BitVec 64) : Qi w (W.setCell ⟨n6, i, none⟩ (.int .u64 (n64 x))) n0 n1 n2 n3 n4 n5 n6 h m (v.set i x) t0 t1 := by
  obtain ⟨e0, e1, e2, e3, e4, e5, e6, hW, lh, lm, lv, H, Mm, T, Z, S, I, Vv, B⟩ := f
  exact ⟨e0, e1, e2, e3, e4, e5, e6, by simpa [World.setCell] using hW, lh, lm, by rw [List.length_set]; exact lv, H.other (by omega) _ _, Mm.other (by omega) _ _, T.other (by omega) _ _, Z.other (by omega) _ _, S.other (by omega) _ _, I.other (by omega) _ _, by rw [← m64_set]; exact Vv.set _ _, B.trans ((Only.set _ _ _ _).below (by omega))⟩
theorem Qi.cV (f : Qi w W n0 n1 n2 n3 n4 n5 n6 h m v t0 t1) (i : Nat) (hi : i < 16) : W.cell? ⟨n6, i, none⟩ = some (.int .u64 (n64 (gt v 0#64 i))) := f.Vv.cell (m64_get (by rw [f.lv]; exact hi))
theorem Qi.cH (f : Qi w W n0 n1 n2 n3 n4 n5 n6 h m v t0 t1) (i : Nat) (hi : i < 8) : W.cell? ⟨n0, i, none⟩ = some (.int .u64 (n64 (gt h 0#64 i))) := f.H.cell (m64_get (by rw [f.lh]; exact hi))
theorem Qi.cI (f : Qi w W n0 n1 n2 n3 n4 n5 n6 h m v t0 t1) (i : Nat) (hi : i < 8) : W.cell? ⟨n5, i, none⟩ = some (.int .u64 (n64 (gt ivF 0#64 i))) := f.I.cell (m64_get (by rw [iv_len]; exact hi))
end
theorem qi_start (w : World) (h m : L) (t0 t1 : BitVec 64) (zs : Array Value) (lh : h.length = 8) (lm : m.length = 16) : Qi w ((((((((w.alloc (.cells (m64 h).toArray 45)).alloc (.cells (m64 m).toArray 44)).alloc (.cells (m64 [t0, t1]).toArray 48)).alloc (.cells #[.int .u64 0, .int .u64 0, .int .u64 0, .int .u64 0, .int .u64 0, .int .u64 0, .int .u64 0, .int .u64 0] 45)).alloc (.cells zs 92)).setRow (w.heap.size + 1 + 1 + 1 + 1) (mi SI).toArray).alloc (.cells #[.int .u64 7640891576956012808, .int .u64 13503953896175478587, .int .u64 4354685564936845355, .int .u64 11912009170470909681, .int .u64 5840696475078001361, .int .u64 11170449401992604703, .int .u64 2270897969802886507, .int .u64 6620516959819538809] 45)).alloc (.cells #[.int .u64 0, .int .u64 0, .int .u64 0, .int .u64 0, .int .u64 0, .int .u64 0, .int .u64 0, .int .u64 0, .int .u64 0, .int .u64 0, .int .u64 0, .int .u64 0, .int .u64 0, .int .u64 0, .int .u64 0, .int .u64 0] 44)) w.heap.size (w.heap.size + 1) (w.heap.size + 1 + 1) (w.heap.size + 1 + 1 + 1) (w.heap.size + 1 + 1 + 1 + 1) (w.heap.size + 1 + 1 + 1 + 1 + 1) (w.heap.size + 1 + 1 + 1 + 1 + 1 + 1) h m (List.replicate 16 0#64) t0 t1 := by
  have s1 := size_alloc w (.cells (m64 h).toArray 45)
  have a1 := Arr.new w (m64 h) 45
  have b1 := below_new w (.cells (m64 h).toArray 45)
  generalize w.alloc (.cells (m64 h).toArray 45) = x1 at *
  have s2 := size_alloc x1 (.cells (m64 m).toArray 44)
  have a2 := Arr.new x1 (m64 m) 44
  have b2 := b1.alloc (by omega) (.cells (m64 m).toArray 44)
  have k2 := fun g t vs (a : Arr x1 g t vs) => a.alloc (.cells (m64 m).toArray 44)
  generalize x1.alloc (.cells (m64 m).toArray 44) = x2 at *
  have s3 := size_alloc x2 (.cells (m64 [t0, t1]).toArray 48)
  have a3 := Arr.new x2 (m64 [t0, t1]) 48
  have b3 := b2.alloc (by omega) (.cells (m64 [t0, t1]).toArray 48)
  have k3 := fun g t vs (a : Arr x2 g t vs) => a.alloc (.cells (m64 [t0, t1]).toArray 48)
  generalize x2.alloc (.cells (m64 [t0, t1]).toArray 48) = x3 at *
  have s4 := size_alloc x3 (.cells #[.int .u64 0, .int .u64 0, .int .u64 0, .int .u64 0, .int .u64 0, .int .u64 0, .int .u64 0, .int .u64 0] 45)
  have a4 : Arr (x3.alloc (.cells #[.int .u64 0, .int .u64 0, .int .u64 0, .int .u64 0, .int .u64 0, .int .u64 0, .int .u64 0, .int .u64 0] 45)) x3.heap.size 45 (m64 (List.replicate 8 0#64)) := Arr.new x3 (m64 (List.replicate 8 0#64)) 45
  have b4 := b3.alloc (by omega) (.cells #[.int .u64 0, .int .u64 0, .int .u64 0, .int .u64 0, .int .u64 0, .int .u64 0, .int .u64 0, .int .u64 0] 45)
  have k4 := fun g t vs (a : Arr x3 g t vs) => a.alloc (.cells #[.int .u64 0, .int .u64 0, .int .u64 0, .int .u64 0, .int .u64 0, .int .u64 0, .int .u64 0, .int .u64 0] 45)
  generalize x3.alloc (.cells #[.int .u64 0, .int .u64 0, .int .u64 0, .int .u64 0, .int .u64 0, .int .u64 0, .int .u64 0, .int .u64 0] 45) = x4 at *
  have s5 : ((x4.alloc (.cells zs 92)).setRow x4.heap.size (mi SI).toArray).heap.size = x4.heap.size + 1 := by rw [setRow_size, size_alloc]
  have a5 : Arr ((x4.alloc (.cells zs 92)).setRow x4.heap.size (mi SI).toArray) x4.heap.size 92 (mi SI) := setRow_heap _ _ _ _ _ _ (block_new x4 (.cells zs 92))
  have b5 : Below w.heap.size w ((x4.alloc (.cells zs 92)).setRow x4.heap.size (mi SI).toArray) := below_setRow (b4.alloc (by omega) _) (by omega) _
  have k5 := fun g t vs (a : Arr x4 g t vs) => (a.alloc (.cells zs 92)).keep (setRow_other (x4.alloc (.cells zs 92)) x4.heap.size g (mi SI).toArray (by have := a.lt; omega))
  have e5 : x4.heap.size = w.heap.size + 1 + 1 + 1 + 1 := by omega
  rw [e5] at s5 a5 b5 k5
  generalize (x4.alloc (.cells zs 92)).setRow (w.heap.size + 1 + 1 + 1 + 1) (mi SI).toArray = x5 at *
  have s6 := size_alloc x5 (.cells #[.int .u64 7640891576956012808, .int .u64 13503953896175478587, .int .u64 4354685564936845355, .int .u64 11912009170470909681, .int .u64 5840696475078001361, .int .u64 11170449401992604703, .int .u64 2270897969802886507, .int .u64 6620516959819538809] 45)
  have a6 : Arr (x5.alloc (.cells #[.int .u64 7640891576956012808, .int .u64 13503953896175478587, .int .u64 4354685564936845355, .int .u64 11912009170470909681, .int .u64 5840696475078001361, .int .u64 11170449401992604703, .int .u64 2270897969802886507, .int .u64 6620516959819538809] 45)) x5.heap.size 45 (m64 ivF) := iv_new x5
  have b6 := b5.alloc (by omega) (.cells #[.int .u64 7640891576956012808, .int .u64 13503953896175478587, .int .u64 4354685564936845355, .int .u64 11912009170470909681, .int .u64 5840696475078001361, .int .u64 11170449401992604703, .int .u64 2270897969802886507, .int .u64 6620516959819538809] 45)
  have k6 := fun g t vs (a : Arr x5 g t vs) => a.alloc (.cells #[.int .u64 7640891576956012808, .int .u64 13503953896175478587, .int .u64 4354685564936845355, .int .u64 11912009170470909681, .int .u64 5840696475078001361, .int .u64 11170449401992604703, .int .u64 2270897969802886507, .int .u64 6620516959819538809] 45)
  generalize x5.alloc (.cells #[.int .u64 7640891576956012808, .int .u64 13503953896175478587, .int .u64 4354685564936845355, .int .u64 11912009170470909681, .int .u64 5840696475078001361, .int .u64 11170449401992604703, .int .u64 2270897969802886507, .int .u64 6620516959819538809] 45) = x6 at *
  have s7 := size_alloc x6 (.cells #[.int .u64 0, .int .u64 0, .int .u64 0, .int .u64 0, .int .u64 0, .int .u64 0, .int .u64 0, .int .u64 0, .int .u64 0, .int .u64 0, .int .u64 0, .int .u64 0, .int .u64 0, .int .u64 0, .int .u64 0, .int .u64 0] 44)
  have a7 : Arr (x6.alloc (.cells #[.int .u64 0, .int .u64 0, .int .u64 0, .int .u64 0, .int .u64 0, .int .u64 0, .int .u64 0, .int .u64 0, .int .u64 0, .int .u64 0, .int .u64 0, .int .u64 0, .int .u64 0, .int .u64 0, .int .u64 0, .int .u64 0] 44)) x6.heap.size 44 (m64 (List.replicate 16 0#64)) := Arr.new x6 (m64 (List.replicate 16 0#64)) 44
  have b7 := b6.alloc (by omega) (.cells #[.int .u64 0, .int .u64 0, .int .u64 0, .int .u64 0, .int .u64 0, .int .u64 0, .int .u64 0, .int .u64 0, .int .u64 0, .int .u64 0, .int .u64 0, .int .u64 0, .int .u64 0, .int .u64 0, .int .u64 0, .int .u64 0] 44)
  have k7 := fun g t vs (a : Arr x6 g t vs) => a.alloc (.cells #[.int .u64 0, .int .u64 0, .int .u64 0, .int .u64 0, .int .u64 0, .int .u64 0, .int .u64 0, .int .u64 0, .int .u64 0, .int .u64 0, .int .u64 0, .int .u64 0, .int .u64 0, .int .u64 0, .int .u64 0, .int .u64 0] 44)
  generalize x6.alloc (.cells #[.int .u64 0, .int .u64 0, .int .u64 0, .int .u64 0, .int .u64 0, .int .u64 0, .int .u64 0, .int .u64 0, .int .u64 0, .int .u64 0, .int .u64 0, .int .u64 0, .int .u64 0, .int .u64 0, .int .u64 0, .int .u64 0] 44) = x7 at *
  have f1 := k7 _ _ _ (k6 _ _ _ (k5 _ _ _ (k4 _ _ _ (k3 _ _ _ (k2 _ _ _ a1)))))
  have f2 := k7 _ _ _ (k6 _ _ _ (k5 _ _ _ (k4 _ _ _ (k3 _ _ _ a2))))
  have f3 := k7 _ _ _ (k6 _ _ _ (k5 _ _ _ (k4 _ _ _ a3)))
  have f4 := k7 _ _ _ (k6 _ _ _ (k5 _ _ _ a4))
  have f5 := k7 _ _ _ (k6 _ _ _ a5)
  have f6 := k7 _ _ _ a6
  rw [s1] at f2
  rw [s2, s1] at f3
  rw [s3, s2, s1] at f4
  rw [s5] at f6
  rw [s6, s5] at a7
  exact ⟨rfl, rfl, rfl, rfl, rfl, rfl, rfl, by omega, lh, lm, List.length_replicate, f1, f2, f3, f4, f5, f6, a7, b7⟩
/-- The frame of the rounds. -/
structure Qf (w W : World) (n0 n1 n3 n4 n6 n7 : Nat) (h m v : L) : Prop where
  e0 : n0 = w.heap.size
  e1 : n1 = n0 + 1
  e3 : n3 = n0 + 3
  e4 : n4 = n0 + 4
  e6 : n6 = n0 + 6
  e7 : n7 = n0 + 7
  hW : n7 < W.heap.size
  lh : h.length = 8
  lm : m.length = 16
  lv : v.length = 16
  H : Arr W n0 45 (m64 h)
  Mm : Arr W n1 44 (m64 m)
  Z : Arr W n3 45 (m64 (List.replicate 8 0#64))
  S : Arr W n4 92 (mi SI)
  Vv : Arr W n6 44 (m64 v)
  Pp : Arr W n7 94 (mi PI)
  W : Below w.heap.size w W
section
variable {w W W' : World} {n0 n1 n3 n4 n6 n7 : Nat} {h m v u : L}
theorem Qf.drew (f : Qf w W n0 n1 n3 n4 n6 n7 h m v) : Qf w W.drew n0 n1 n3 n4 n6 n7 h m v := ⟨f.e0, f.e1, f.e3, f.e4, f.e6, f.e7, f.hW, f.lh, f.lm, f.lv, f.H, f.Mm, f.Z, f.S, f.Vv, f.Pp, f.W.drew⟩
theorem Qf.later (f : Qf w W n0 n1 n3 n4 n6 n7 h m v) (hb : Below W.heap.size W W') : Qf w W' n0 n1 n3 n4 n6 n7 h m v := by
  obtain ⟨e0, e1, e3, e4, e6, e7, hW, lh, lm, lv, H, Mm, Z, S, Vv, Pp, B⟩ := f
  have := hb.size
  exact ⟨e0, e1, e3, e4, e6, e7, by omega, lh, lm, lv, H.later hb H.lt, Mm.later hb Mm.lt, Z.later hb Z.lt, S.later hb S.lt, Vv.later hb Vv.lt, Pp.later hb Pp.lt, B.trans (hb.mono B.size)⟩
theorem Qf.row (f : Qf w W n0 n1 n3 n4 n6 n7 h m v) (hu : u.length = 16) : Qf w (W.setRow n6 (m64 u).toArray) n0 n1 n3 n4 n6 n7 h m u := by
  obtain ⟨e0, e1, e3, e4, e6, e7, hW, lh, lm, lv, H, Mm, Z, S, Vv, Pp, B⟩ := f
  exact ⟨e0, e1, e3, e4, e6, e7, by rw [setRow_size]; exact hW, lh, lm, hu, H.keep (setRow_other _ _ _ _ (by omega)), Mm.keep (setRow_other _ _ _ _ (by omega)), Z.keep (setRow_other _ _ _ _ (by omega)), S.keep (setRow_other _ _ _ _ (by omega)), setRow_heap _ _ _ _ _ _ Vv, Pp.keep (setRow_other _ _ _ _ (by omega)), below_setRow B (by omega) _⟩
theorem Qf.setH (f : Qf w W n0 n1 n3 n4 n6 n7 h m v) (i : Nat) (x : BitVec 64) : Qf w (W.setCell ⟨n0, i, none⟩ (.int .u64 (n64 x))) n0 n1 n3 n4 n6 n7 (h.set i x) m v := by
  obtain ⟨e0, e1, e3, e4, e6, e7, hW, lh, lm, lv, H, Mm, Z, S, Vv, Pp, B⟩ := f
  exact ⟨e0, e1, e3, e4, e6, e7, by simpa [World.setCell] using hW, by rw [List.length_set]; exact lh, lm, lv, by rw [← m64_set]; exact H.set _ _, Mm.other (by omega) _ _, Z.other (by omega) _ _, S.other (by omega) _ _, Vv.other (by omega) _ _, Pp.other (by omega) _ _, B.trans ((Only.set _ _ _ _).below (by omega))⟩
theorem Qf.cH (f : Qf w W n0 n1 n3 n4 n6 n7 h m v) (i : Nat) (hi : i < 8) : W.cell? ⟨n0, i, none⟩ = some (.int .u64 (n64 (gt h 0#64 i))) := f.H.cell (m64_get (by rw [f.lh]; exact hi))
theorem Qf.cM (f : Qf w W n0 n1 n3 n4 n6 n7 h m v) (i : Nat) (hi : i < 16) : W.cell? ⟨n1, i, none⟩ = some (.int .u64 (n64 (gt m 0#64 i))) := f.Mm.cell (m64_get (by rw [f.lm]; exact hi))
theorem Qf.cV (f : Qf w W n0 n1 n3 n4 n6 n7 h m v) (i : Nat) (hi : i < 16) : W.cell? ⟨n6, i, none⟩ = some (.int .u64 (n64 (gt v 0#64 i))) := f.Vv.cell (m64_get (by rw [f.lv]; exact hi))
theorem Qf.cS (f : Qf w W n0 n1 n3 n4 n6 n7 h m v) (q : Nat) (hq : q < 10) : ∀ j u, (mi (rowF q))[j]? = some u → W.cell? ⟨n4, q * 16 + j, none⟩ = some u := by
  intro j u hu
  have hj : j < 16 := by
    have := (List.getElem?_eq_some_iff.1 hu).1
    rwa [mi_len, row_len] at this
  rw [row_get q j hj] at hu
  have := f.S.cell (mi_get (i := 16 * q + j) (by rw [SI_len]; omega))
  rw [gt_si _ (by omega)] at this
  rw [Nat.mul_comm, this, ← hu]
  rfl
theorem Qf.cP (f : Qf w W n0 n1 n3 n4 n6 n7 h m v) (k : Nat) (hk : k < 8) : ∀ j u, (mi (qF k))[j]? = some u → W.cell? ⟨n7, k * 4 + j, none⟩ = some u := by
  intro j u hu
  have hj : j < 4 := by
    have := (List.getElem?_eq_some_iff.1 hu).1
    rwa [mi_len, q_len] at this
  rw [q_get k j hj] at hu
  have := f.Pp.cell (mi_get (i := 4 * k + j) (by rw [PI_len]; omega))
  rw [Nat.mul_comm, this, ← hu]
end
theorem qf_start {w W : World} {n0 n1 n2 n3 n4 n5 n6 : Nat} {h m v : L} {t0 t1 : BitVec 64} (zs : Array Value) (f : Qi w W n0 n1 n2 n3 n4 n5 n6 h m v t0 t1) : Qf w ((W.alloc (.cells zs 94)).setRow W.heap.size (mi PI).toArray) n0 n1 n3 n4 n6 W.heap.size h m v := by
  obtain ⟨e0, e1, e2, e3, e4, e5, e6, hW, lh, lm, lv, H, Mm, T, Z, S, I, Vv, B⟩ := f
  have k : ∀ {g t vs}, Arr W g t vs → Arr ((W.alloc (.cells zs 94)).setRow W.heap.size (mi PI).toArray) g t vs := fun a => (a.alloc _).keep (setRow_other _ _ _ _ (by have := a.lt; omega))
  exact ⟨e0, e1, e3, e4, e6, by omega, by rw [setRow_size, size_alloc]; omega, lh, lm, lv, k H, k Mm, k Z, k S, k Vv, setRow_heap _ _ _ _ _ _ (block_new _ _), below_setRow (B.alloc (by omega) _) (by omega) _⟩
/-- A whole array, loaded. -/
theorem run_load_arr {o : Oper} {a : Act} {w : World} (ty : TypeId) (x : Operand) (ho : o.op = .load ty x) (g : Nat) (hx : a.eval x = .pointer (some ⟨g, 0, none⟩)) (t : TypeId) (vs : List Value) {n : Nat} {e : TypeId} (hg : Arr w g t vs)
    (hu : Try.prog.underlying ty = some (.array n e)) (hi : (Try.prog.info? ty).map (·.size) = some vs.length) :
    (execOp a.eval o).run Try.prog w = .ok (.value (.agg vs.toArray)) w := by
  unfold execOp
  simp only [ho, hx, Instr.loadAt, Instr.sureAddr, Sem.run_bind, Sem.run_pure, Result.andThen_ok, run_loadVar_row w g t ty vs.toArray (0, 0) _ hg hu rfl (by simpa using hi)]
set_option maxRecDepth 100000 in
set_option maxHeartbeats 40000000 in
theorem blake23 (w : World) (many : Nat) (h m : L) (t0 t1 : BitVec 64) (last : Bool) (hmany : many < 4294967296) (hh : h.length = 8) (hm : m.length = 16) :
    Calls Try.prog 23 #[.int .u32 (many : Int), .agg (m64 h).toArray, .agg (m64 m).toArray, .agg (m64 [t0, t1]).toArray, .bool last] w fun e w' => e = .returned (.agg (m64 (blakeF many h m t0 t1 last)).toArray) ∧ Below w.heap.size w w' := by
  have HH := Lib.hid hh
  have HM := Lib.hid hm
  have HMN := Lib.hid hmany
  clear hh hm hmany
  have HZ := zero92
  have HZ2 := zero94
  have HI92 : Hid ((Try.prog.info? 92).map (·.size) = some (mi SI).toArray.size) := by rw [List.size_toArray, mi_len, SI_len]; exact info92
  have HS92 : Hid ((mi (List.replicate 160 0)).toArray.size = (mi SI).toArray.size) := show _ = _ by rw [List.size_toArray, List.size_toArray, mi_len, mi_len, SI_len, List.length_replicate]
  generalize hz : (mi (List.replicate 160 0)).toArray = zs at HZ HS92
  have HZE := Lib.hid hz
  clear hz
  generalize hz : (mi (List.replicate 32 0)).toArray = zs2 at HZ2
  have HZE2 := Lib.hid hz
  clear hz
  have HB92 : Hid ((((((w.alloc (.cells (m64 h).toArray 45)).alloc (.cells (m64 m).toArray 44)).alloc (.cells (m64 [t0, t1]).toArray 48)).alloc (.cells #[.int .u64 0, .int .u64 0, .int .u64 0, .int .u64 0, .int .u64 0, .int .u64 0, .int .u64 0, .int .u64 0] 45)).alloc (.cells zs 92)).heap[w.heap.size + 1 + 1 + 1 + 1]? = some (.cells zs 92 (0, 0))) := by
    have := block_new ((((w.alloc (.cells (m64 h).toArray 45)).alloc (.cells (m64 m).toArray 44)).alloc (.cells (m64 [t0, t1]).toArray 48)).alloc (.cells #[.int .u64 0, .int .u64 0, .int .u64 0, .int .u64 0, .int .u64 0, .int .u64 0, .int .u64 0, .int .u64 0] 45)) (.cells zs 92)
    rw [size_alloc, size_alloc, size_alloc, size_alloc] at this
    exact this
  go_enter Try.func23, Try.ntmps23
  go_wp2_with (first
    | (refine wp_known rfl 21 rfl (.agg (mi si0).toArray) (fun _ _ => by kernel_rfl) ?_; simp only [Act.put, List.setIfInBounds_toArray, List.set_cons_zero, List.set_cons_succ])
    | (refine wp_known rfl 22 rfl (.agg (mi si1).toArray) (fun _ _ => by kernel_rfl) ?_; simp only [Act.put, List.setIfInBounds_toArray, List.set_cons_zero, List.set_cons_succ])
    | (refine wp_known rfl 23 rfl (.agg (mi si2).toArray) (fun _ _ => by kernel_rfl) ?_; simp only [Act.put, List.setIfInBounds_toArray, List.set_cons_zero, List.set_cons_succ])
    | (refine wp_known rfl 24 rfl (.agg (mi si3).toArray) (fun _ _ => by kernel_rfl) ?_; simp only [Act.put, List.setIfInBounds_toArray, List.set_cons_zero, List.set_cons_succ])
    | (refine wp_known rfl 25 rfl (.agg (mi si4).toArray) (fun _ _ => by kernel_rfl) ?_; simp only [Act.put, List.setIfInBounds_toArray, List.set_cons_zero, List.set_cons_succ])
    | (refine wp_known rfl 26 rfl (.agg (mi si5).toArray) (fun _ _ => by kernel_rfl) ?_; simp only [Act.put, List.setIfInBounds_toArray, List.set_cons_zero, List.set_cons_succ])
    | (refine wp_known rfl 27 rfl (.agg (mi si6).toArray) (fun _ _ => by kernel_rfl) ?_; simp only [Act.put, List.setIfInBounds_toArray, List.set_cons_zero, List.set_cons_succ])
    | (refine wp_known rfl 28 rfl (.agg (mi si7).toArray) (fun _ _ => by kernel_rfl) ?_; simp only [Act.put, List.setIfInBounds_toArray, List.set_cons_zero, List.set_cons_succ])
    | (refine wp_known rfl 29 rfl (.agg (mi si8).toArray) (fun _ _ => by kernel_rfl) ?_; simp only [Act.put, List.setIfInBounds_toArray, List.set_cons_zero, List.set_cons_succ])
    | (refine wp_known rfl 30 rfl (.agg (mi si9).toArray) (fun _ _ => by kernel_rfl) ?_; simp only [Act.put, List.setIfInBounds_toArray, List.set_cons_zero, List.set_cons_succ])
    | (refine wp_sig rfl rfl rfl rfl rfl rfl rfl rfl rfl rfl rfl rfl rfl ?_; simp only [Act.put, List.setIfInBounds_toArray, List.set_cons_zero, List.set_cons_succ])
    | (refine wpList_store_row rfl 92 (.tmp 11) (.tmp 31) rfl (w.heap.size + 1 + 1 + 1 + 1) (mi SI).toArray rfl rfl 92 zs HB92.out HI92.out HS92.out (mi_all _) ?_))
  go_wp2_with fail
  have HQ0 : Hid (Qi w ((((((((w.alloc (.cells (m64 h).toArray 45)).alloc (.cells (m64 m).toArray 44)).alloc (.cells (m64 [t0, t1]).toArray 48)).alloc (.cells #[.int .u64 0, .int .u64 0, .int .u64 0, .int .u64 0, .int .u64 0, .int .u64 0, .int .u64 0, .int .u64 0] 45)).alloc (.cells zs 92)).setRow (w.heap.size + 1 + 1 + 1 + 1) (mi SI).toArray).alloc (.cells #[.int .u64 7640891576956012808, .int .u64 13503953896175478587, .int .u64 4354685564936845355, .int .u64 11912009170470909681, .int .u64 5840696475078001361, .int .u64 11170449401992604703, .int .u64 2270897969802886507, .int .u64 6620516959819538809] 45)).alloc (.cells #[.int .u64 0, .int .u64 0, .int .u64 0, .int .u64 0, .int .u64 0, .int .u64 0, .int .u64 0, .int .u64 0, .int .u64 0, .int .u64 0, .int .u64 0, .int .u64 0, .int .u64 0, .int .u64 0, .int .u64 0, .int .u64 0] 44)) w.heap.size (w.heap.size + 1) (w.heap.size + 1 + 1) (w.heap.size + 1 + 1 + 1) (w.heap.size + 1 + 1 + 1 + 1) (w.heap.size + 1 + 1 + 1 + 1 + 1) (w.heap.size + 1 + 1 + 1 + 1 + 1 + 1) h m (List.replicate 16 0#64) t0 t1) := qi_start w h m t0 t1 zs HH.out HM.out
  generalize ((((((((w.alloc (.cells (m64 h).toArray 45)).alloc (.cells (m64 m).toArray 44)).alloc (.cells (m64 [t0, t1]).toArray 48)).alloc (.cells #[.int .u64 0, .int .u64 0, .int .u64 0, .int .u64 0, .int .u64 0, .int .u64 0, .int .u64 0, .int .u64 0] 45)).alloc (.cells zs 92)).setRow (w.heap.size + 1 + 1 + 1 + 1) (mi SI).toArray).alloc (.cells #[.int .u64 7640891576956012808, .int .u64 13503953896175478587, .int .u64 4354685564936845355, .int .u64 11912009170470909681, .int .u64 5840696475078001361, .int .u64 11170449401992604703, .int .u64 2270897969802886507, .int .u64 6620516959819538809] 45)).alloc (.cells #[.int .u64 0, .int .u64 0, .int .u64 0, .int .u64 0, .int .u64 0, .int .u64 0, .int .u64 0, .int .u64 0, .int .u64 0, .int .u64 0, .int .u64 0, .int .u64 0, .int .u64 0, .int .u64 0, .int .u64 0, .int .u64 0] 44)) = wx at *
  obtain ⟨n6, hn6⟩ : ∃ n, n = w.heap.size + 1 + 1 + 1 + 1 + 1 + 1 := ⟨_, rfl⟩
  rw [← hn6] at HQ0 ⊢
  clear hn6
  obtain ⟨n5, hn5⟩ : ∃ n, n = w.heap.size + 1 + 1 + 1 + 1 + 1 := ⟨_, rfl⟩
  rw [← hn5] at HQ0 ⊢
  clear hn5
  clear HB92
  obtain ⟨n4, hn4⟩ : ∃ n, n = w.heap.size + 1 + 1 + 1 + 1 := ⟨_, rfl⟩
  rw [← hn4] at HQ0 ⊢
  clear hn4
  obtain ⟨n3, hn3⟩ : ∃ n, n = w.heap.size + 1 + 1 + 1 := ⟨_, rfl⟩
  rw [← hn3] at HQ0 ⊢
  clear hn3
  obtain ⟨n2, hn2⟩ : ∃ n, n = w.heap.size + 1 + 1 := ⟨_, rfl⟩
  rw [← hn2] at HQ0 ⊢
  clear hn2
  obtain ⟨n1, hn1⟩ : ∃ n, n = w.heap.size + 1 := ⟨_, rfl⟩
  rw [← hn1] at HQ0 ⊢
  clear hn1
  generalize hn0 : w.heap.size = n0 at HQ0 ⊢
  clear hn0
  go_loopw [14] (fun v wr => ∃ i : Nat, i ≤ 8 ∧ v = .int .i64 (i : Int) ∧ Qi w wr n0 n1 n2 n3 n4 n5 n6 h m (it (copyV h) i (List.replicate 16 0#64)) t0 t1) (fun v _ => 8 - (intOf v).toNat)
  case atStart => exact ⟨0, by omega, rfl, by rw [it_zero]; exact HQ0.out⟩
  obtain ⟨i, hi, rfl, hf⟩ := hrel
  clear HQ0
  have hS := it_succ (copyV h) i (List.replicate 16 0#64)
  generalize hv0 : it (copyV h) i (List.replicate 16 0#64) = v0 at *
  have HE := Lib.hid hv0
  clear hv0
  rcases Nat.lt_or_ge i 8 with hlt | hge
  · skip
    obtain ⟨i8, hi8⟩ : ∃ q, q = 8 + i := ⟨_, rfl⟩
    have ei8 : (8 : Int) + (i : Int) = (i8 : Int) := by omega
    have hSS : copyV h i v0 = (v0.set i (gt h 0#64 i)).set i8 (gt ivF 0#64 i) := by unfold copyV; rw [hi8]
    rw [hSS] at hS
    have y8 : ¬ (8 : Int) ≤ (i : Int) := by omega
    have y16 : ¬ (16 : Int) ≤ (i : Int) := by omega
    have y26 : ¬ (16 : Int) ≤ (i8 : Int) := by omega
    have ch := hf.cH i hlt
    have ci := hf.cI i hlt
    have c1 := hf.cV i (by omega)
    have c2 := hf.cV i8 (by omega)
    have f1 := hf.Vv.frozen i
    have f2 := hf.Vv.frozen i8
    have ne0 : ¬ n6 = n0 := by have := hf.e6; omega
    have ne5 : ¬ n6 = n5 := by have := hf.e6; have := hf.e5; omega
    have nei : ¬ i = i8 := by omega
    have HS := Lib.hid hS
    have HF := Lib.hid hf
    have HI8 := Lib.hid hi8
    have HLT := Lib.hid hlt
    clear hS hSS hf hi8
    generalize hx : gt h 0#64 i = x at *
    generalize hy : gt ivF 0#64 i = y at *
    have HX := Lib.hid hx
    have HY := Lib.hid hy
    clear hx hy
    generalize gt v0 0#64 i = z1 at *
    generalize gt v0 0#64 i8 = z2 at *
    have HK : Hid (∀ W, (∃ v', Qi w W n0 n1 n2 n3 n4 n5 n6 h m v' t0 t1) → W.cell? ⟨n0, i, none⟩ = some (.int .u64 (n64 x)) ∧ W.cell? ⟨n5, i, none⟩ = some (.int .u64 (n64 y)) ∧ W.frozen? ⟨n6, i, none⟩ = false ∧ W.frozen? ⟨n6, i8, none⟩ = false ∧ (∃ u, W.cell? ⟨n6, i, none⟩ = some u) ∧ (∃ u, W.cell? ⟨n6, i8, none⟩ = some u)) := by
      rintro W ⟨v', f⟩
      have a := f.cH i (by have := HLT.out; omega)
      have b := f.cI i (by have := HLT.out; omega)
      rw [HX.out] at a
      rw [HY.out] at b
      exact ⟨a, b, f.Vv.frozen _, f.Vv.frozen _, ⟨_, f.cV i (by have := HLT.out; omega)⟩, ⟨_, f.cV i8 (by have := HI8.out; have := HLT.out; omega)⟩⟩
    go_wp2_with fail
    have ei8w : IntKind.i64.wrap ((8 : Int) + (i : Int)) = (i8 : Int) := by rw [ei8]; exact IntWalk.i64_in _ (by omega)
    have ei8v : wrap64 ((8 : Int) + (i : Int)) = (i8 : Int) := by rw [ei8]; unfold wrap64; omega
    have hb1 : (0 : Int) ≤ (i8 : Int) := by omega
    have hb2 : (i8 : Int) < 16 := by omega
    have hb4 : (0 : Int) ≤ (i : Int) := by omega
    have hb5 : (i : Int) < 16 := by omega
    have hb6 : (i : Int) < 8 := by omega
    clear ei8 ei8v
    have ei8w' : IntKind.i64.wrap ((8 : Int) + (i : Int)) = (i8 : Int) := ei8w
    clear ei8w
    go_region_held3 (fun W => W.cell? ⟨n0, i, none⟩ = some (.int .u64 (n64 x)) ∧ W.cell? ⟨n5, i, none⟩ = some (.int .u64 (n64 y)) ∧ W.frozen? ⟨n6, i, none⟩ = false ∧ W.frozen? ⟨n6, i8, none⟩ = false ∧ (∃ u, W.cell? ⟨n6, i, none⟩ = some u) ∧ (∃ u, W.cell? ⟨n6, i8, none⟩ = some u)) ((refine HK.out _ ?_; first | exact ⟨_, HF.out.drew⟩ | exact ⟨_, HF.out.drew.set _ _⟩ | exact ⟨_, (HF.out.drew.set _ _).set _ _⟩)) (fail)
    go_wp2
    have hlt := HLT.out
    go_roundw
    case rel =>
      refine ⟨i + 1, by omega, by go_num, ?_⟩
      rw [HS.out]
      exact (HF.out.drew.set _ _).set _ _
    case measure => simp [intOf]; omega
  obtain rfl : i = 8 := by omega
  rw [show ((8 : Nat) : Int) = 8 from rfl]
  have HVV : Hid (v0 = h ++ ivF) := HE.out.symm.trans (copy_all h HH.out)
  have HF := Lib.hid hf
  clear hf hS HE hge hi
  have HI94 : Hid ((Try.prog.info? 94).map (·.size) = some (mi PI).toArray.size) := by rw [List.size_toArray, mi_len, PI_len]; exact info94
  have HS94 : Hid (zs2.size = (mi PI).toArray.size) := show _ = _ by rw [← HZE2.out, List.size_toArray, List.size_toArray, mi_len, mi_len, PI_len, List.length_replicate]
  have c12 := HF.out.cV 12 (by omega)
  have c13 := HF.out.cV 13 (by omega)
  have c14 := HF.out.cV 14 (by omega)
  have d0 := HF.out.T.cell (m64_get (i := 0) (by simp))
  have d1 := HF.out.T.cell (m64_get (i := 1) (by simp))
  rw [Bw.two0] at d0
  rw [Bw.two1] at d1
  have f12 := HF.out.Vv.frozen 12
  have f13 := HF.out.Vv.frozen 13
  have f14 := HF.out.Vv.frozen 14
  cases last
  · skip
    go_wp2_with (first
      | (refine wp_known rfl 65 rfl (.agg (mi pi0).toArray) (fun _ _ => by kernel_rfl) ?_; simp only [Act.put, List.setIfInBounds_toArray, List.set_cons_zero, List.set_cons_succ]
         have HQ2 : Hid (Qi w ((wr.setCell ⟨n6, 12, none⟩ (.int .u64 (n64 (gt v0 0#64 12 ^^^ t0)))).setCell ⟨n6, 13, none⟩ (.int .u64 (n64 (gt v0 0#64 13 ^^^ t1)))) n0 n1 n2 n3 n4 n5 n6 h m ((v0.set 12 (gt v0 0#64 12 ^^^ t0)).set 13 (gt v0 0#64 13 ^^^ t1)) t0 t1) := (HF.out.set 12 (gt v0 0#64 12 ^^^ t0)).set 13 (gt v0 0#64 13 ^^^ t1)
         generalize ((wr.setCell ⟨n6, 12, none⟩ (.int .u64 (n64 (gt v0 0#64 12 ^^^ t0)))).setCell ⟨n6, 13, none⟩ (.int .u64 (n64 (gt v0 0#64 13 ^^^ t1)))) = wv at *)
      | (refine wp_known rfl 66 rfl (.agg (mi pi1).toArray) (fun _ _ => by kernel_rfl) ?_; simp only [Act.put, List.setIfInBounds_toArray, List.set_cons_zero, List.set_cons_succ])
      | (refine wp_known rfl 67 rfl (.agg (mi pi2).toArray) (fun _ _ => by kernel_rfl) ?_; simp only [Act.put, List.setIfInBounds_toArray, List.set_cons_zero, List.set_cons_succ])
      | (refine wp_known rfl 68 rfl (.agg (mi pi3).toArray) (fun _ _ => by kernel_rfl) ?_; simp only [Act.put, List.setIfInBounds_toArray, List.set_cons_zero, List.set_cons_succ])
      | (refine wp_known rfl 69 rfl (.agg (mi pi4).toArray) (fun _ _ => by kernel_rfl) ?_; simp only [Act.put, List.setIfInBounds_toArray, List.set_cons_zero, List.set_cons_succ])
      | (refine wp_known rfl 70 rfl (.agg (mi pi5).toArray) (fun _ _ => by kernel_rfl) ?_; simp only [Act.put, List.setIfInBounds_toArray, List.set_cons_zero, List.set_cons_succ])
      | (refine wp_known rfl 71 rfl (.agg (mi pi6).toArray) (fun _ _ => by kernel_rfl) ?_; simp only [Act.put, List.setIfInBounds_toArray, List.set_cons_zero, List.set_cons_succ])
      | (refine wp_known rfl 72 rfl (.agg (mi pi7).toArray) (fun _ _ => by kernel_rfl) ?_; simp only [Act.put, List.setIfInBounds_toArray, List.set_cons_zero, List.set_cons_succ])
      | (refine wp_pls rfl rfl rfl rfl rfl rfl rfl rfl rfl rfl rfl ?_; simp only [Act.put, List.setIfInBounds_toArray, List.set_cons_zero, List.set_cons_succ])
      | (refine wpList_store_row rfl 94 (.tmp 15) (.tmp 73) rfl wv.heap.size (mi PI).toArray rfl rfl 94 zs2 (block_new _ _) HI94.out HS94.out (mi_all _) ?_))
    go_wp2_with fail
    have HQF : Hid (Qf w ((wv.alloc (.cells zs2 94)).setRow wv.heap.size (mi PI).toArray) n0 n1 n3 n4 n6 wv.heap.size h m ((v0.set 12 (gt v0 0#64 12 ^^^ t0)).set 13 (gt v0 0#64 13 ^^^ t1))) := qf_start zs2 HQ2.out
    generalize ((wv.alloc (.cells zs2 94)).setRow wv.heap.size (mi PI).toArray) = wq at *
    generalize wv.heap.size = n7 at *
    obtain ⟨V0, hV0⟩ : ∃ V0, V0 = begB h t0 t1 false := ⟨_, rfl⟩
    have HV0 := Lib.hid hV0
    have HB0 : Hid (V0 = (v0.set 12 (gt v0 0#64 12 ^^^ t0)).set 13 (gt v0 0#64 13 ^^^ t1)) := hV0.trans ((Bw.beg_def h v0 t0 t1 false HVV.out).trans rfl)
    rw [← HB0.out] at HQF
    clear hV0 HB0 HVV HQ2 HF c12 c13 c14 d0 d1 f12 f13 f14 HZ HZ2 HI92 HS92 HI94 HS94 HZE HZE2
    go_loopw [16] (fun v wr => ∃ i : Nat, i ≤ many ∧ v = .int .u32 (i : Int) ∧ Qf w wr n0 n1 n3 n4 n6 n7 h m (it (rndR m) i V0)) (fun v _ => many - (intOf v).toNat)
    case atStart => exact ⟨0, by omega, rfl, by rw [it_zero]; exact HQF.out⟩
    obtain ⟨i, hi, rfl, hf⟩ := hrel
    clear HQF
    have HS := Lib.hid (show it (rndR m) (i + 1) V0 = rndR m i (it (rndR m) i V0) from it_succ _ _ _)
    generalize hv1 : it (rndR m) i V0 = v1 at *
    have HE := Lib.hid hv1
    clear hv1
    have HF := Lib.hid hf
    clear hf
    rcases Nat.lt_or_ge i many with hlt | hge
    · skip
      obtain ⟨q, hq⟩ : ∃ q, q = i % 10 := ⟨_, rfl⟩
      have eq := Bw.te10 i q (i : Int) rfl hq
      have hq10 : q < 10 := by omega
      have HIQ := Lib.hid hq10
      have iq : ¬ (10 : Int) ≤ (q : Int) := by omega
      have HQQ := Lib.hid hq
      have HLT := Lib.hid hlt
      clear hlt hq hq10
      have HC := Lib.hid (HF.out.cS q HIQ.out)
      have HI91 : Hid ((Try.prog.info? 91).map (·.size) = some (mi (rowF q)).length) := by rw [mi_len, row_len]; exact info91
      have HI91' : Hid ((Try.prog.info? 91).map (·.size) = some (mi (rowF q)).toArray.size) := by rw [List.size_toArray, mi_len, row_len]; exact info91
      have HS91 : Hid ((mi (List.replicate 16 0)).toArray.size = (mi (rowF q)).toArray.size) := show _ = _ by rw [List.size_toArray, List.size_toArray, mi_len, mi_len, row_len, List.length_replicate]
      go_wp2_with (first
        | (refine wpList_load_part rfl 91 (.tmp 81) rfl n4 (q * 16) rfl (mi (rowF q)) _ HC.out Try.underlying91 rfl HI91.out ?_; simp only [Act.put, List.setIfInBounds_toArray, List.set_cons_zero, List.set_cons_succ])
        | (refine wpList_store_row rfl 91 (.tmp 17) (.tmp 82) rfl wr.heap.size (mi (rowF q)).toArray rfl rfl 91 (mi (List.replicate 16 0)).toArray (block_new _ _) HI91'.out HS91.out (mi_all _) ?_))
      have HP : Hid (Arr ((wr.alloc (.cells #[.int .i64 0, .int .i64 0, .int .i64 0, .int .i64 0, .int .i64 0, .int .i64 0, .int .i64 0, .int .i64 0, .int .i64 0, .int .i64 0, .int .i64 0, .int .i64 0, .int .i64 0, .int .i64 0, .int .i64 0, .int .i64 0] 91)).setRow wr.heap.size (mi (rowF q)).toArray) wr.heap.size 91 (mi (rowF q))) := setRow_heap _ _ _ _ _ _ (block_new wr (.cells (mi (List.replicate 16 0)).toArray 91))
      have HN : Hid (n7 < wr.heap.size) := HF.out.hW
      have HF1 : Hid (Qf w ((wr.alloc (.cells #[.int .i64 0, .int .i64 0, .int .i64 0, .int .i64 0, .int .i64 0, .int .i64 0, .int .i64 0, .int .i64 0, .int .i64 0, .int .i64 0, .int .i64 0, .int .i64 0, .int .i64 0, .int .i64 0, .int .i64 0, .int .i64 0] 91)).setRow wr.heap.size (mi (rowF q)).toArray) n0 n1 n3 n4 n6 n7 h m v1) := HF.out.later (below_setRow (below_new _ _) (Nat.le_refl _) _)
      clear HI91 HI91' HS91 HC HF
      generalize ((wr.alloc (.cells #[.int .i64 0, .int .i64 0, .int .i64 0, .int .i64 0, .int .i64 0, .int .i64 0, .int .i64 0, .int .i64 0, .int .i64 0, .int .i64 0, .int .i64 0, .int .i64 0, .int .i64 0, .int .i64 0, .int .i64 0, .int .i64 0] 91)).setRow wr.heap.size (mi (rowF q)).toArray) = wp at *
      generalize wr.heap.size = gp at *
      clear wr
      go_loopw [18] (fun v wr => ∃ k : Nat, k ≤ 8 ∧ v = .int .i64 (k : Int) ∧ Qf w wr n0 n1 n3 n4 n6 n7 h m (it (stS m q) k v1) ∧ Arr wr gp 91 (mi (rowF q))) (fun v _ => 8 - (intOf v).toNat)
      case atStart => exact ⟨0, by omega, rfl, by rw [it_zero]; exact HF1.out, HP.out⟩
      obtain ⟨k, hk, rfl, hf, hp⟩ := hrel
      clear HF1 HP
      rcases Nat.lt_or_ge k 8 with hlt | hge
      · skip
        have HS2 := Lib.hid (show it (stS m q) (k + 1) v1 = stS m q k (it (stS m q) k v1) from it_succ _ _ _)
        generalize it (stS m q) k v1 = v2 at *
        have HKL := Lib.hid hlt
        have y8 : ¬ (8 : Int) ≤ (k : Int) := by omega
        have HF := Lib.hid hf
        have HP := Lib.hid hp
        clear hf hp hlt
        have HC := Lib.hid (HF.out.cP k HKL.out)
        have HI93 : Hid ((Try.prog.info? 93).map (·.size) = some (mi (qF k)).length) := by rw [mi_len, q_len]; exact info93
        have HI93' : Hid ((Try.prog.info? 93).map (·.size) = some (mi (qF k)).toArray.size) := by rw [List.size_toArray, mi_len, q_len]; exact info93
        have HS93 : Hid ((mi (List.replicate 4 0)).toArray.size = (mi (qF k)).toArray.size) := show _ = _ by rw [List.size_toArray, List.size_toArray, mi_len, mi_len, q_len, List.length_replicate]
        go_wp2_with (first
          | (refine wpList_load_part rfl 93 (.tmp 88) rfl n7 (k * 4) rfl (mi (qF k)) _ HC.out Try.underlying93 rfl HI93.out ?_; simp only [Act.put, List.setIfInBounds_toArray, List.set_cons_zero, List.set_cons_succ])
          | (refine wpList_store_row rfl 93 (.tmp 19) (.tmp 89) rfl wr.heap.size (mi (qF k)).toArray rfl rfl 93 (mi (List.replicate 4 0)).toArray (block_new _ _) HI93'.out HS93.out (mi_all _) ?_))
        have hq : Arr ((wr.alloc (.cells #[.int .i64 0, .int .i64 0, .int .i64 0, .int .i64 0] 93)).setRow wr.heap.size (mi (qF k)).toArray) wr.heap.size 93 (mi (qF k)) := setRow_heap _ _ _ _ _ _ (block_new wr (.cells (mi (List.replicate 4 0)).toArray 93))
        have hb3 : Below wr.heap.size wr ((wr.alloc (.cells #[.int .i64 0, .int .i64 0, .int .i64 0, .int .i64 0] 93)).setRow wr.heap.size (mi (qF k)).toArray) := below_setRow (below_new _ _) (Nat.le_refl _) _
        have hf : Qf w ((wr.alloc (.cells #[.int .i64 0, .int .i64 0, .int .i64 0, .int .i64 0] 93)).setRow wr.heap.size (mi (qF k)).toArray) n0 n1 n3 n4 n6 n7 h m v2 := HF.out.later hb3
        have hp : Arr ((wr.alloc (.cells #[.int .i64 0, .int .i64 0, .int .i64 0, .int .i64 0] 93)).setRow wr.heap.size (mi (qF k)).toArray) gp 91 (mi (rowF q)) := HP.out.later hb3 HP.out.lt
        clear HI93 HI93' HS93 HC HF HP hb3
        generalize ((wr.alloc (.cells #[.int .i64 0, .int .i64 0, .int .i64 0, .int .i64 0] 93)).setRow wr.heap.size (mi (qF k)).toArray) = wx at *
        generalize wr.heap.size = gq at *
        clear wr
        have hlt := HKL.out
        have ca := hq.cell (q_get k 0 (by omega))
        have cb := hq.cell (q_get k 1 (by omega))
        have cc := hq.cell (q_get k 2 (by omega))
        have cd := hq.cell (q_get k 3 (by omega))
        have la := pi_lt (4 * k + 0) (by omega)
        have lb := pi_lt (4 * k + 1) (by omega)
        have lc := pi_lt (4 * k + 2) (by omega)
        have ld := pi_lt (4 * k + 3) (by omega)
        obtain ⟨j1, hj1⟩ : ∃ q : Nat, q = 2 * k := ⟨_, rfl⟩
        have ej1 : (2 : Int) * (k : Int) = (j1 : Int) := by omega
        obtain ⟨j2, hj2⟩ : ∃ q : Nat, q = 2 * k + 1 := ⟨_, rfl⟩
        have ej2 : (j1 : Int) + 1 = (j2 : Int) := by omega
        have cs1 : wx.cell? ⟨gp, j1, none⟩ = some (.int .i64 ((sgm q j1 : Nat) : Int)) := hp.cell (row_get q j1 (by omega))
        have cs2 : wx.cell? ⟨gp, j2, none⟩ = some (.int .i64 ((sgm q j2 : Nat) : Int)) := hp.cell (row_get q j2 (by omega))
        have l1 := sgm_lt q j1 (by have := HIQ.out; omega)
        have l2 := sgm_lt q j2 (by have := HIQ.out; omega)
        have hst : stS m q k v2 = mixG v2 (gt PI 0 (4 * k + 0)) (gt PI 0 (4 * k + 1)) (gt PI 0 (4 * k + 2)) (gt PI 0 (4 * k + 3)) (gt m 0#64 (sgm q j1)) (gt m 0#64 (sgm q j2)) := by unfold stS; rw [hj2, hj1]; rfl
        generalize hs1 : sgm q j1 = s1 at *
        generalize hs2 : sgm q j2 = s2 at *
        generalize gt PI 0 (4 * k + 0) = a at *
        generalize gt PI 0 (4 * k + 1) = b at *
        generalize gt PI 0 (4 * k + 2) = c at *
        generalize gt PI 0 (4 * k + 3) = d at *
        have cm1 := hf.cM s1 l1
        have cm2 := hf.cM s2 l2
        have z1 : ¬ (16 : Int) ≤ (s1 : Int) := by omega
        have z2 : ¬ (16 : Int) ≤ (s2 : Int) := by omega
        have y1 : ¬ (16 : Int) ≤ (j1 : Int) := by omega
        have y2 : ¬ (16 : Int) ≤ (j2 : Int) := by omega
        have HF := Lib.hid hf
        have HP := Lib.hid hp
        have HG := Lib.hid hst
        have LA := Lib.hid la
        have LB := Lib.hid lb
        have LC := Lib.hid lc
        have LD := Lib.hid ld
        clear hf hp hst la lb lc ld l1 l2 hs1 hs2 hj1 hj2 hlt hq
        generalize gt m 0#64 s1 = x at *
        generalize gt m 0#64 s2 = y at *
        have HI44 : Hid ((Try.prog.info? 44).map (·.size) = some (m64 v2).length) := by rw [m64_len, HF.out.lv]; exact info44
        refine wp_region_c 22 (by kernel_rfl) (by kernel_rfl) ?_
        simp only [List.take_succ_cons, List.take_zero, List.drop_succ_cons, List.drop_zero]
        refine wpC_val (.agg (m64 v2).toArray) (by rfl) (run_load_arr 44 (.tmp 13) rfl n6 rfl 44 (m64 v2) HF.out.drew.Vv Try.underlying44 HI44.out) ?_
        simp only [Act.put, List.setIfInBounds_toArray, List.set_cons_zero, List.set_cons_succ]
        iterate 21 (refine wpC_run (by rfl) rfl (fun K hK => ?_); go_wp2)
        refine wpC_nil ?_
        have lm : (mixG v2 a b c d x y).length = 16 := by rw [mixG_len]; exact HF.out.lv
        have HI44' : Hid ((Try.prog.info? 44).map (·.size) = some (m64 (mixG v2 a b c d x y)).toArray.size) := by rw [List.size_toArray, m64_len, lm]; exact info44
        have HS44 : Hid ((m64 v2).toArray.size = (m64 (mixG v2 a b c d x y)).toArray.size) := show _ = _ by rw [List.size_toArray, List.size_toArray, m64_len, m64_len, lm, HF.out.lv]
        have HO44 : Hid ((m64 (mixG v2 a b c d x y)).toArray.all (·.oneCell') = true) := show _ = _ by simp [m64, Value.oneCell']
        have HLM := Lib.hid lm
        clear lm
        go_wp2_with (first
          | (go_at_call 46; refine (stir46 _ v2 a b c d x y LA.out LB.out LC.out LD.out HF.out.lv).mono ?_
             rintro e w1 ⟨rfl, hb⟩
             have HF2 := Lib.hid (HF.out.drew.later hb)
             have HP2 := Lib.hid (HP.out.drew.later hb HP.out.drew.lt)
             clear hb)
          | (refine wpList_store_row rfl 44 (.tmp 13) (.tmp 112) rfl n6 (m64 (mixG v2 a b c d x y)).toArray rfl rfl 44 (m64 v2).toArray HF2.out.Vv HI44'.out HS44.out HO44.out ?_))
        have HF3 := Lib.hid (HF2.out.row HLM.out)
        have HP3 := Lib.hid (HP2.out.keep (setRow_other w1 n6 gp (m64 (mixG v2 a b c d x y)).toArray (by have := HF2.out.e6; have := HF2.out.e7; have := HN.out; omega)))
        have hlt := HKL.out
        go_roundw
        case rel =>
          refine ⟨k + 1, by omega, by go_num, ?_, HP3.out⟩
          rw [HS2.out, HG.out]
          exact HF3.out
        case measure => simp [intOf]; omega
      obtain rfl : k = 8 := by omega
      rw [show ((8 : Nat) : Int) = 8 from rfl]
      have HF := Lib.hid hf
      clear hf hk hge hp
      have HRB := Lib.hid (show rndR m i v1 = it (stS m q) 8 v1 by unfold rndR; rw [← HQQ.out])
      have hmn := HMN.out
      have hlt := HLT.out
      have ewr : IntKind.u32.wrap ((i : Int) + 1) = ((i + 1 : Nat) : Int) := by rw [wrap_u32]; omega
      clear hmn
      go_wp2_with fail
      go_roundw
      case rel =>
        refine ⟨i + 1, by omega, by go_num, ?_⟩
        rw [HS.out, HRB.out]
        exact HF.out
      case measure => simp [intOf]; omega
    obtain rfl : i = many := by omega
    go_wp2_with fail
    have HPF := Lib.hid (show blakeF i h m t0 t1 false = it (outB v1) 8 h by unfold blakeF; rw [← HV0.out, ← rnd_eq, HE.out])
    clear HE HS HV0
    obtain ⟨wo, rfl⟩ : ∃ wo : World, wo = wr := ⟨_, rfl⟩
    go_loopw [113] (fun v wr => ∃ j : Nat, j ≤ 8 ∧ v = .int .i64 (j : Int) ∧ Qf w wr n0 n1 n3 n4 n6 n7 (it (outB v1) j h) m v1) (fun v _ => 8 - (intOf v).toNat)
    case atStart => exact ⟨0, by omega, rfl, by rw [it_zero]; exact HF.out⟩
    obtain ⟨j, hj, rfl, hf⟩ := hrel
    clear HF
    have hS := it_succ (outB v1) j h
    generalize hus : it (outB v1) j h = us at *
    have HUS := Lib.hid hus
    rcases Nat.lt_or_ge j 8 with hlt | hge
    · skip
      obtain ⟨j8, hj8⟩ : ∃ q, q = j + 8 := ⟨_, rfl⟩
      have ej8 : (8 : Int) + (j : Int) = (j8 : Int) := by omega
      have hSS : outB v1 j us = us.set j (gt us 0#64 j ^^^ (gt v1 0#64 j ^^^ gt v1 0#64 j8)) := by unfold outB; rw [hj8]
      rw [hSS] at hS
      have y8 : ¬ (8 : Int) ≤ (j : Int) := by omega
      have y16 : ¬ (16 : Int) ≤ (j : Int) := by omega
      have y26 : ¬ (16 : Int) ≤ (j8 : Int) := by omega
      have ch := hf.cH j hlt
      have cv := hf.cV j (by omega)
      have cw := hf.cV j8 (by omega)
      have fh := hf.H.frozen j
      have HS := Lib.hid hS
      have HF := Lib.hid hf
      have HJ := Lib.hid hj8
      clear hS hSS hf hus hj8
      generalize gt us 0#64 j = x at *
      generalize gt v1 0#64 j = y at *
      generalize gt v1 0#64 j8 = z at *
      go_wp2_with fail
      refine wp_region_c 13 (by kernel_rfl) (by kernel_rfl) ?_
      simp only [List.take_succ_cons, List.take_zero, List.drop_succ_cons, List.drop_zero]
      iterate 13 (refine wpC_run (by rfl) rfl (fun K hK => ?_); go_wp2)
      refine wpC_nil ?_
      go_wp2
      go_roundw
      case rel =>
        refine ⟨j + 1, by omega, by go_num, ?_⟩
        rw [HS.out]
        exact (HF.out.drew.setH _ _)
      case measure => simp [intOf]; omega
    obtain rfl : j = 8 := by omega
    rw [show ((8 : Nat) : Int) = 8 from rfl]
    have HV : Hid (blakeF i h m t0 t1 false = us) := HPF.out.trans HUS.out
    have hs : (m64 us).toArray.size = 8 := by rw [List.size_toArray, m64_len, hf.lh]
    have hi0 : (Try.prog.info? 45).map (·.size) = some (m64 us).toArray.size := by rw [hs]; exact info45
    have hz0 : (m64 (List.replicate 8 0#64)).toArray.size = (m64 us).toArray.size := by rw [hs]; rfl
    have h1 : (m64 us).toArray.all (·.oneCell') = true := by simp [m64, Value.oneCell']
    have HF := Lib.hid hf
    clear hf hS hus HUS
    go_wp2_with (first
      | (refine wpList_load_row rfl 45 (.tmp 6) rfl n0 rfl 45 (m64 us).toArray (0, 0) _ HF.out.H Try.underlying45 rfl hi0 ?_)
      | (refine wpList_store_row rfl 45 (.tmp 10) (.tmp 130) rfl n3 (m64 us).toArray rfl rfl 45 (m64 (List.replicate 8 0#64)).toArray HF.out.Z hi0 hz0 h1 ?_))
    refine bodyPost_ret (results_cell_row (P := Try.prog) rfl _ _ n3 45 (m64 us).toArray (0, 0) _ rfl (setRow_heap wr _ _ _ _ _ HF.out.Z) Try.underlying45 rfl hi0) rfl ⟨?_, below_setRow HF.out.W (by have := HF.out.e0; have := HF.out.e3; omega) _⟩
    rw [HV.out]
  · skip
    go_wp2_with (first
      | (refine wp_known rfl 65 rfl (.agg (mi pi0).toArray) (fun _ _ => by kernel_rfl) ?_; simp only [Act.put, List.setIfInBounds_toArray, List.set_cons_zero, List.set_cons_succ]
         rw [if_neg (show ¬ IntKind.u64.signed = true by decide), not64 (gt v0 0#64 14)]
         have HQ2 : Hid (Qi w (((wr.setCell ⟨n6, 12, none⟩ (.int .u64 (n64 (gt v0 0#64 12 ^^^ t0)))).setCell ⟨n6, 13, none⟩ (.int .u64 (n64 (gt v0 0#64 13 ^^^ t1)))).setCell ⟨n6, 14, none⟩ (.int .u64 (n64 (~~~ gt v0 0#64 14)))) n0 n1 n2 n3 n4 n5 n6 h m (((v0.set 12 (gt v0 0#64 12 ^^^ t0)).set 13 (gt v0 0#64 13 ^^^ t1)).set 14 (~~~ gt v0 0#64 14)) t0 t1) := ((HF.out.set 12 (gt v0 0#64 12 ^^^ t0)).set 13 (gt v0 0#64 13 ^^^ t1)).set 14 (~~~ gt v0 0#64 14)
         generalize (((wr.setCell ⟨n6, 12, none⟩ (.int .u64 (n64 (gt v0 0#64 12 ^^^ t0)))).setCell ⟨n6, 13, none⟩ (.int .u64 (n64 (gt v0 0#64 13 ^^^ t1)))).setCell ⟨n6, 14, none⟩ (.int .u64 (n64 (~~~ gt v0 0#64 14)))) = wv at *)
      | (refine wp_known rfl 66 rfl (.agg (mi pi1).toArray) (fun _ _ => by kernel_rfl) ?_; simp only [Act.put, List.setIfInBounds_toArray, List.set_cons_zero, List.set_cons_succ])
      | (refine wp_known rfl 67 rfl (.agg (mi pi2).toArray) (fun _ _ => by kernel_rfl) ?_; simp only [Act.put, List.setIfInBounds_toArray, List.set_cons_zero, List.set_cons_succ])
      | (refine wp_known rfl 68 rfl (.agg (mi pi3).toArray) (fun _ _ => by kernel_rfl) ?_; simp only [Act.put, List.setIfInBounds_toArray, List.set_cons_zero, List.set_cons_succ])
      | (refine wp_known rfl 69 rfl (.agg (mi pi4).toArray) (fun _ _ => by kernel_rfl) ?_; simp only [Act.put, List.setIfInBounds_toArray, List.set_cons_zero, List.set_cons_succ])
      | (refine wp_known rfl 70 rfl (.agg (mi pi5).toArray) (fun _ _ => by kernel_rfl) ?_; simp only [Act.put, List.setIfInBounds_toArray, List.set_cons_zero, List.set_cons_succ])
      | (refine wp_known rfl 71 rfl (.agg (mi pi6).toArray) (fun _ _ => by kernel_rfl) ?_; simp only [Act.put, List.setIfInBounds_toArray, List.set_cons_zero, List.set_cons_succ])
      | (refine wp_known rfl 72 rfl (.agg (mi pi7).toArray) (fun _ _ => by kernel_rfl) ?_; simp only [Act.put, List.setIfInBounds_toArray, List.set_cons_zero, List.set_cons_succ])
      | (refine wp_pls rfl rfl rfl rfl rfl rfl rfl rfl rfl rfl rfl ?_; simp only [Act.put, List.setIfInBounds_toArray, List.set_cons_zero, List.set_cons_succ])
      | (refine wpList_store_row rfl 94 (.tmp 15) (.tmp 73) rfl wv.heap.size (mi PI).toArray rfl rfl 94 zs2 (block_new _ _) HI94.out HS94.out (mi_all _) ?_))
    go_wp2_with fail
    have HQF : Hid (Qf w ((wv.alloc (.cells zs2 94)).setRow wv.heap.size (mi PI).toArray) n0 n1 n3 n4 n6 wv.heap.size h m (((v0.set 12 (gt v0 0#64 12 ^^^ t0)).set 13 (gt v0 0#64 13 ^^^ t1)).set 14 (~~~ gt v0 0#64 14))) := qf_start zs2 HQ2.out
    generalize ((wv.alloc (.cells zs2 94)).setRow wv.heap.size (mi PI).toArray) = wq at *
    generalize wv.heap.size = n7 at *
    obtain ⟨V0, hV0⟩ : ∃ V0, V0 = begB h t0 t1 true := ⟨_, rfl⟩
    have HV0 := Lib.hid hV0
    have HB0 : Hid (V0 = ((v0.set 12 (gt v0 0#64 12 ^^^ t0)).set 13 (gt v0 0#64 13 ^^^ t1)).set 14 (~~~ gt v0 0#64 14)) := hV0.trans ((Bw.beg_def h v0 t0 t1 true HVV.out).trans rfl)
    rw [← HB0.out] at HQF
    clear hV0 HB0 HVV HQ2 HF c12 c13 c14 d0 d1 f12 f13 f14 HZ HZ2 HI92 HS92 HI94 HS94 HZE HZE2
    go_loopw [16] (fun v wr => ∃ i : Nat, i ≤ many ∧ v = .int .u32 (i : Int) ∧ Qf w wr n0 n1 n3 n4 n6 n7 h m (it (rndR m) i V0)) (fun v _ => many - (intOf v).toNat)
    case atStart => exact ⟨0, by omega, rfl, by rw [it_zero]; exact HQF.out⟩
    obtain ⟨i, hi, rfl, hf⟩ := hrel
    clear HQF
    have HS := Lib.hid (show it (rndR m) (i + 1) V0 = rndR m i (it (rndR m) i V0) from it_succ _ _ _)
    generalize hv1 : it (rndR m) i V0 = v1 at *
    have HE := Lib.hid hv1
    clear hv1
    have HF := Lib.hid hf
    clear hf
    rcases Nat.lt_or_ge i many with hlt | hge
    · skip
      obtain ⟨q, hq⟩ : ∃ q, q = i % 10 := ⟨_, rfl⟩
      have eq := Bw.te10 i q (i : Int) rfl hq
      have hq10 : q < 10 := by omega
      have HIQ := Lib.hid hq10
      have iq : ¬ (10 : Int) ≤ (q : Int) := by omega
      have HQQ := Lib.hid hq
      have HLT := Lib.hid hlt
      clear hlt hq hq10
      have HC := Lib.hid (HF.out.cS q HIQ.out)
      have HI91 : Hid ((Try.prog.info? 91).map (·.size) = some (mi (rowF q)).length) := by rw [mi_len, row_len]; exact info91
      have HI91' : Hid ((Try.prog.info? 91).map (·.size) = some (mi (rowF q)).toArray.size) := by rw [List.size_toArray, mi_len, row_len]; exact info91
      have HS91 : Hid ((mi (List.replicate 16 0)).toArray.size = (mi (rowF q)).toArray.size) := show _ = _ by rw [List.size_toArray, List.size_toArray, mi_len, mi_len, row_len, List.length_replicate]
      go_wp2_with (first
        | (refine wpList_load_part rfl 91 (.tmp 81) rfl n4 (q * 16) rfl (mi (rowF q)) _ HC.out Try.underlying91 rfl HI91.out ?_; simp only [Act.put, List.setIfInBounds_toArray, List.set_cons_zero, List.set_cons_succ])
        | (refine wpList_store_row rfl 91 (.tmp 17) (.tmp 82) rfl wr.heap.size (mi (rowF q)).toArray rfl rfl 91 (mi (List.replicate 16 0)).toArray (block_new _ _) HI91'.out HS91.out (mi_all _) ?_))
      have HP : Hid (Arr ((wr.alloc (.cells #[.int .i64 0, .int .i64 0, .int .i64 0, .int .i64 0, .int .i64 0, .int .i64 0, .int .i64 0, .int .i64 0, .int .i64 0, .int .i64 0, .int .i64 0, .int .i64 0, .int .i64 0, .int .i64 0, .int .i64 0, .int .i64 0] 91)).setRow wr.heap.size (mi (rowF q)).toArray) wr.heap.size 91 (mi (rowF q))) := setRow_heap _ _ _ _ _ _ (block_new wr (.cells (mi (List.replicate 16 0)).toArray 91))
      have HN : Hid (n7 < wr.heap.size) := HF.out.hW
      have HF1 : Hid (Qf w ((wr.alloc (.cells #[.int .i64 0, .int .i64 0, .int .i64 0, .int .i64 0, .int .i64 0, .int .i64 0, .int .i64 0, .int .i64 0, .int .i64 0, .int .i64 0, .int .i64 0, .int .i64 0, .int .i64 0, .int .i64 0, .int .i64 0, .int .i64 0] 91)).setRow wr.heap.size (mi (rowF q)).toArray) n0 n1 n3 n4 n6 n7 h m v1) := HF.out.later (below_setRow (below_new _ _) (Nat.le_refl _) _)
      clear HI91 HI91' HS91 HC HF
      generalize ((wr.alloc (.cells #[.int .i64 0, .int .i64 0, .int .i64 0, .int .i64 0, .int .i64 0, .int .i64 0, .int .i64 0, .int .i64 0, .int .i64 0, .int .i64 0, .int .i64 0, .int .i64 0, .int .i64 0, .int .i64 0, .int .i64 0, .int .i64 0] 91)).setRow wr.heap.size (mi (rowF q)).toArray) = wp at *
      generalize wr.heap.size = gp at *
      clear wr
      go_loopw [18] (fun v wr => ∃ k : Nat, k ≤ 8 ∧ v = .int .i64 (k : Int) ∧ Qf w wr n0 n1 n3 n4 n6 n7 h m (it (stS m q) k v1) ∧ Arr wr gp 91 (mi (rowF q))) (fun v _ => 8 - (intOf v).toNat)
      case atStart => exact ⟨0, by omega, rfl, by rw [it_zero]; exact HF1.out, HP.out⟩
      obtain ⟨k, hk, rfl, hf, hp⟩ := hrel
      clear HF1 HP
      rcases Nat.lt_or_ge k 8 with hlt | hge
      · skip
        have HS2 := Lib.hid (show it (stS m q) (k + 1) v1 = stS m q k (it (stS m q) k v1) from it_succ _ _ _)
        generalize it (stS m q) k v1 = v2 at *
        have HKL := Lib.hid hlt
        have y8 : ¬ (8 : Int) ≤ (k : Int) := by omega
        have HF := Lib.hid hf
        have HP := Lib.hid hp
        clear hf hp hlt
        have HC := Lib.hid (HF.out.cP k HKL.out)
        have HI93 : Hid ((Try.prog.info? 93).map (·.size) = some (mi (qF k)).length) := by rw [mi_len, q_len]; exact info93
        have HI93' : Hid ((Try.prog.info? 93).map (·.size) = some (mi (qF k)).toArray.size) := by rw [List.size_toArray, mi_len, q_len]; exact info93
        have HS93 : Hid ((mi (List.replicate 4 0)).toArray.size = (mi (qF k)).toArray.size) := show _ = _ by rw [List.size_toArray, List.size_toArray, mi_len, mi_len, q_len, List.length_replicate]
        go_wp2_with (first
          | (refine wpList_load_part rfl 93 (.tmp 88) rfl n7 (k * 4) rfl (mi (qF k)) _ HC.out Try.underlying93 rfl HI93.out ?_; simp only [Act.put, List.setIfInBounds_toArray, List.set_cons_zero, List.set_cons_succ])
          | (refine wpList_store_row rfl 93 (.tmp 19) (.tmp 89) rfl wr.heap.size (mi (qF k)).toArray rfl rfl 93 (mi (List.replicate 4 0)).toArray (block_new _ _) HI93'.out HS93.out (mi_all _) ?_))
        have hq : Arr ((wr.alloc (.cells #[.int .i64 0, .int .i64 0, .int .i64 0, .int .i64 0] 93)).setRow wr.heap.size (mi (qF k)).toArray) wr.heap.size 93 (mi (qF k)) := setRow_heap _ _ _ _ _ _ (block_new wr (.cells (mi (List.replicate 4 0)).toArray 93))
        have hb3 : Below wr.heap.size wr ((wr.alloc (.cells #[.int .i64 0, .int .i64 0, .int .i64 0, .int .i64 0] 93)).setRow wr.heap.size (mi (qF k)).toArray) := below_setRow (below_new _ _) (Nat.le_refl _) _
        have hf : Qf w ((wr.alloc (.cells #[.int .i64 0, .int .i64 0, .int .i64 0, .int .i64 0] 93)).setRow wr.heap.size (mi (qF k)).toArray) n0 n1 n3 n4 n6 n7 h m v2 := HF.out.later hb3
        have hp : Arr ((wr.alloc (.cells #[.int .i64 0, .int .i64 0, .int .i64 0, .int .i64 0] 93)).setRow wr.heap.size (mi (qF k)).toArray) gp 91 (mi (rowF q)) := HP.out.later hb3 HP.out.lt
        clear HI93 HI93' HS93 HC HF HP hb3
        generalize ((wr.alloc (.cells #[.int .i64 0, .int .i64 0, .int .i64 0, .int .i64 0] 93)).setRow wr.heap.size (mi (qF k)).toArray) = wx at *
        generalize wr.heap.size = gq at *
        clear wr
        have hlt := HKL.out
        have ca := hq.cell (q_get k 0 (by omega))
        have cb := hq.cell (q_get k 1 (by omega))
        have cc := hq.cell (q_get k 2 (by omega))
        have cd := hq.cell (q_get k 3 (by omega))
        have la := pi_lt (4 * k + 0) (by omega)
        have lb := pi_lt (4 * k + 1) (by omega)
        have lc := pi_lt (4 * k + 2) (by omega)
        have ld := pi_lt (4 * k + 3) (by omega)
        obtain ⟨j1, hj1⟩ : ∃ q : Nat, q = 2 * k := ⟨_, rfl⟩
        have ej1 : (2 : Int) * (k : Int) = (j1 : Int) := by omega
        obtain ⟨j2, hj2⟩ : ∃ q : Nat, q = 2 * k + 1 := ⟨_, rfl⟩
        have ej2 : (j1 : Int) + 1 = (j2 : Int) := by omega
        have cs1 : wx.cell? ⟨gp, j1, none⟩ = some (.int .i64 ((sgm q j1 : Nat) : Int)) := hp.cell (row_get q j1 (by omega))
        have cs2 : wx.cell? ⟨gp, j2, none⟩ = some (.int .i64 ((sgm q j2 : Nat) : Int)) := hp.cell (row_get q j2 (by omega))
        have l1 := sgm_lt q j1 (by have := HIQ.out; omega)
        have l2 := sgm_lt q j2 (by have := HIQ.out; omega)
        have hst : stS m q k v2 = mixG v2 (gt PI 0 (4 * k + 0)) (gt PI 0 (4 * k + 1)) (gt PI 0 (4 * k + 2)) (gt PI 0 (4 * k + 3)) (gt m 0#64 (sgm q j1)) (gt m 0#64 (sgm q j2)) := by unfold stS; rw [hj2, hj1]; rfl
        generalize hs1 : sgm q j1 = s1 at *
        generalize hs2 : sgm q j2 = s2 at *
        generalize gt PI 0 (4 * k + 0) = a at *
        generalize gt PI 0 (4 * k + 1) = b at *
        generalize gt PI 0 (4 * k + 2) = c at *
        generalize gt PI 0 (4 * k + 3) = d at *
        have cm1 := hf.cM s1 l1
        have cm2 := hf.cM s2 l2
        have z1 : ¬ (16 : Int) ≤ (s1 : Int) := by omega
        have z2 : ¬ (16 : Int) ≤ (s2 : Int) := by omega
        have y1 : ¬ (16 : Int) ≤ (j1 : Int) := by omega
        have y2 : ¬ (16 : Int) ≤ (j2 : Int) := by omega
        have HF := Lib.hid hf
        have HP := Lib.hid hp
        have HG := Lib.hid hst
        have LA := Lib.hid la
        have LB := Lib.hid lb
        have LC := Lib.hid lc
        have LD := Lib.hid ld
        clear hf hp hst la lb lc ld l1 l2 hs1 hs2 hj1 hj2 hlt hq
        generalize gt m 0#64 s1 = x at *
        generalize gt m 0#64 s2 = y at *
        have HI44 : Hid ((Try.prog.info? 44).map (·.size) = some (m64 v2).length) := by rw [m64_len, HF.out.lv]; exact info44
        refine wp_region_c 22 (by kernel_rfl) (by kernel_rfl) ?_
        simp only [List.take_succ_cons, List.take_zero, List.drop_succ_cons, List.drop_zero]
        refine wpC_val (.agg (m64 v2).toArray) (by rfl) (run_load_arr 44 (.tmp 13) rfl n6 rfl 44 (m64 v2) HF.out.drew.Vv Try.underlying44 HI44.out) ?_
        simp only [Act.put, List.setIfInBounds_toArray, List.set_cons_zero, List.set_cons_succ]
        iterate 21 (refine wpC_run (by rfl) rfl (fun K hK => ?_); go_wp2)
        refine wpC_nil ?_
        have lm : (mixG v2 a b c d x y).length = 16 := by rw [mixG_len]; exact HF.out.lv
        have HI44' : Hid ((Try.prog.info? 44).map (·.size) = some (m64 (mixG v2 a b c d x y)).toArray.size) := by rw [List.size_toArray, m64_len, lm]; exact info44
        have HS44 : Hid ((m64 v2).toArray.size = (m64 (mixG v2 a b c d x y)).toArray.size) := show _ = _ by rw [List.size_toArray, List.size_toArray, m64_len, m64_len, lm, HF.out.lv]
        have HO44 : Hid ((m64 (mixG v2 a b c d x y)).toArray.all (·.oneCell') = true) := show _ = _ by simp [m64, Value.oneCell']
        have HLM := Lib.hid lm
        clear lm
        go_wp2_with (first
          | (go_at_call 46; refine (stir46 _ v2 a b c d x y LA.out LB.out LC.out LD.out HF.out.lv).mono ?_
             rintro e w1 ⟨rfl, hb⟩
             have HF2 := Lib.hid (HF.out.drew.later hb)
             have HP2 := Lib.hid (HP.out.drew.later hb HP.out.drew.lt)
             clear hb)
          | (refine wpList_store_row rfl 44 (.tmp 13) (.tmp 112) rfl n6 (m64 (mixG v2 a b c d x y)).toArray rfl rfl 44 (m64 v2).toArray HF2.out.Vv HI44'.out HS44.out HO44.out ?_))
        have HF3 := Lib.hid (HF2.out.row HLM.out)
        have HP3 := Lib.hid (HP2.out.keep (setRow_other w1 n6 gp (m64 (mixG v2 a b c d x y)).toArray (by have := HF2.out.e6; have := HF2.out.e7; have := HN.out; omega)))
        have hlt := HKL.out
        go_roundw
        case rel =>
          refine ⟨k + 1, by omega, by go_num, ?_, HP3.out⟩
          rw [HS2.out, HG.out]
          exact HF3.out
        case measure => simp [intOf]; omega
      obtain rfl : k = 8 := by omega
      rw [show ((8 : Nat) : Int) = 8 from rfl]
      have HF := Lib.hid hf
      clear hf hk hge hp
      have HRB := Lib.hid (show rndR m i v1 = it (stS m q) 8 v1 by unfold rndR; rw [← HQQ.out])
      have hmn := HMN.out
      have hlt := HLT.out
      have ewr : IntKind.u32.wrap ((i : Int) + 1) = ((i + 1 : Nat) : Int) := by rw [wrap_u32]; omega
      clear hmn
      go_wp2_with fail
      go_roundw
      case rel =>
        refine ⟨i + 1, by omega, by go_num, ?_⟩
        rw [HS.out, HRB.out]
        exact HF.out
      case measure => simp [intOf]; omega
    obtain rfl : i = many := by omega
    go_wp2_with fail
    have HPF := Lib.hid (show blakeF i h m t0 t1 true = it (outB v1) 8 h by unfold blakeF; rw [← HV0.out, ← rnd_eq, HE.out])
    clear HE HS HV0
    obtain ⟨wo, rfl⟩ : ∃ wo : World, wo = wr := ⟨_, rfl⟩
    go_loopw [113] (fun v wr => ∃ j : Nat, j ≤ 8 ∧ v = .int .i64 (j : Int) ∧ Qf w wr n0 n1 n3 n4 n6 n7 (it (outB v1) j h) m v1) (fun v _ => 8 - (intOf v).toNat)
    case atStart => exact ⟨0, by omega, rfl, by rw [it_zero]; exact HF.out⟩
    obtain ⟨j, hj, rfl, hf⟩ := hrel
    clear HF
    have hS := it_succ (outB v1) j h
    generalize hus : it (outB v1) j h = us at *
    have HUS := Lib.hid hus
    rcases Nat.lt_or_ge j 8 with hlt | hge
    · skip
      obtain ⟨j8, hj8⟩ : ∃ q, q = j + 8 := ⟨_, rfl⟩
      have ej8 : (8 : Int) + (j : Int) = (j8 : Int) := by omega
      have hSS : outB v1 j us = us.set j (gt us 0#64 j ^^^ (gt v1 0#64 j ^^^ gt v1 0#64 j8)) := by unfold outB; rw [hj8]
      rw [hSS] at hS
      have y8 : ¬ (8 : Int) ≤ (j : Int) := by omega
      have y16 : ¬ (16 : Int) ≤ (j : Int) := by omega
      have y26 : ¬ (16 : Int) ≤ (j8 : Int) := by omega
      have ch := hf.cH j hlt
      have cv := hf.cV j (by omega)
      have cw := hf.cV j8 (by omega)
      have fh := hf.H.frozen j
      have HS := Lib.hid hS
      have HF := Lib.hid hf
      have HJ := Lib.hid hj8
      clear hS hSS hf hus hj8
      generalize gt us 0#64 j = x at *
      generalize gt v1 0#64 j = y at *
      generalize gt v1 0#64 j8 = z at *
      go_wp2_with fail
      refine wp_region_c 13 (by kernel_rfl) (by kernel_rfl) ?_
      simp only [List.take_succ_cons, List.take_zero, List.drop_succ_cons, List.drop_zero]
      iterate 13 (refine wpC_run (by rfl) rfl (fun K hK => ?_); go_wp2)
      refine wpC_nil ?_
      go_wp2
      go_roundw
      case rel =>
        refine ⟨j + 1, by omega, by go_num, ?_⟩
        rw [HS.out]
        exact (HF.out.drew.setH _ _)
      case measure => simp [intOf]; omega
    obtain rfl : j = 8 := by omega
    rw [show ((8 : Nat) : Int) = 8 from rfl]
    have HV : Hid (blakeF i h m t0 t1 true = us) := HPF.out.trans HUS.out
    have hs : (m64 us).toArray.size = 8 := by rw [List.size_toArray, m64_len, hf.lh]
    have hi0 : (Try.prog.info? 45).map (·.size) = some (m64 us).toArray.size := by rw [hs]; exact info45
    have hz0 : (m64 (List.replicate 8 0#64)).toArray.size = (m64 us).toArray.size := by rw [hs]; rfl
    have h1 : (m64 us).toArray.all (·.oneCell') = true := by simp [m64, Value.oneCell']
    have HF := Lib.hid hf
    clear hf hS hus HUS
    go_wp2_with (first
      | (refine wpList_load_row rfl 45 (.tmp 6) rfl n0 rfl 45 (m64 us).toArray (0, 0) _ HF.out.H Try.underlying45 rfl hi0 ?_)
      | (refine wpList_store_row rfl 45 (.tmp 10) (.tmp 130) rfl n3 (m64 us).toArray rfl rfl 45 (m64 (List.replicate 8 0#64)).toArray HF.out.Z hi0 hz0 h1 ?_))
    refine bodyPost_ret (results_cell_row (P := Try.prog) rfl _ _ n3 45 (m64 us).toArray (0, 0) _ rfl (setRow_heap wr _ _ _ _ _ HF.out.Z) Try.underlying45 rfl hi0) rfl ⟨?_, below_setRow HF.out.W (by have := HF.out.e0; have := HF.out.e3; omega) _⟩
    rw [HV.out]
end Go.Proofs.Ytnlcndlfdnogaaa.Br
