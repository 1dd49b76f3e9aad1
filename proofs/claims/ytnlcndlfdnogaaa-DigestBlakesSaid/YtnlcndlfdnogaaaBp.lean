/- BLAKE2b's compression as a function; the frame of its walk. -/
import Derived.Test.YtnlcndlfdnogaaaBs
set_option linter.unusedVariables false
set_option linter.unusedSimpArgs false
namespace Go.Proofs.Ytnlcndlfdnogaaa.Bp
open Go.RowKit
open D0 M D2 D3 Rg K1 P Bl Bs
/-- The first state. -/
def begB (h : L) (t0 t1 : BitVec 64) (last : Bool) : L :=
  let v := h ++ ivF
  let v1 := v.set 12 (gt v 0#64 12 ^^^ t0)
  let v2 := v1.set 13 (gt v1 0#64 13 ^^^ t1)
  if last then v2.set 14 (~~~ gt v2 0#64 14) else v2
/-- The message's place number j of row r. -/
def sgm (r j : Nat) : Nat := (gt SG 0#8 (16 * r + j)).toNat
def mixA (m : L) (r k : Nat) (v : L) : L := mixG v k (4 + k) (8 + k) (12 + k) (gt m 0#64 (sgm r (2 * k))) (gt m 0#64 (sgm r (2 * k + 1)))
def mixB (m : L) (r k : Nat) (v : L) : L := mixG v k (4 + (k + 1) % 4) (8 + (k + 2) % 4) (12 + (k + 3) % 4) (gt m 0#64 (sgm r (8 + 2 * k))) (gt m 0#64 (sgm r (9 + 2 * k)))
def rndB (m : L) (i : Nat) (v : L) : L := it (mixB m (i % 10)) 4 (it (mixA m (i % 10)) 4 v)
def outB (v : L) (i : Nat) (h : L) : L := h.set i (gt h 0#64 i ^^^ (gt v 0#64 i ^^^ gt v 0#64 (i + 8)))
/-- F of BLAKE2b. -/
def blakeF (many : Nat) (h m : L) (t0 t1 : BitVec 64) (last : Bool) : L := it (outB (it (rndB m) many (begB h t0 t1 last))) 8 h
theorem iv_len : ivF.length = 8 := rfl
theorem beg_len {h : L} {t0 t1 : BitVec 64} {last : Bool} (hh : h.length = 8) : (begB h t0 t1 last).length = 16 := by
  unfold begB
  cases last <;> simp [hh, iv_len]
theorem it_len {f : Nat → L → L} (hf : ∀ k v, (f k v).length = v.length) : ∀ n v, (it f n v).length = v.length
  | 0, _ => rfl
  | n + 1, v => by rw [it_succ, hf]; exact it_len hf n v
theorem mixA_len (m : L) (r k : Nat) (v : L) : (mixA m r k v).length = v.length := mixG_len _ _ _ _ _ _ _
theorem mixB_len (m : L) (r k : Nat) (v : L) : (mixB m r k v).length = v.length := mixG_len _ _ _ _ _ _ _
theorem rndB_len (m : L) (i : Nat) (v : L) : (rndB m i v).length = v.length := by unfold rndB; rw [it_len (mixB_len m _), it_len (mixA_len m _)]
theorem outB_len (v : L) (i : Nat) (h : L) : (outB v i h).length = h.length := List.length_set
theorem blake_len {many : Nat} {h m : L} {t0 t1 : BitVec 64} {last : Bool} : (blakeF many h m t0 t1 last).length = h.length := it_len (outB_len _) _ _
theorem sg_small : (SG.all fun x => decide (x.toNat < 16)) = true := by decide +kernel
theorem sgm_lt (r j : Nat) (h : 16 * r + j < 160) : sgm r j < 16 := by
  have hl : 16 * r + j < SG.length := by rw [SG_len]; exact h
  have := List.all_eq_true.1 sg_small _ (List.getElem_mem hl)
  unfold sgm
  have e : gt SG 0#8 (16 * r + j) = SG[16 * r + j] := by simp [gt, List.getD, List.getElem?_eq_getElem hl]
  rw [e]
  simpa using this
/-- The frame. -/
structure Qf (w W : World) (gh gm gv gs : Nat) (h m v : L) : Prop where
  e : gh = w.heap.size
  hm : gm = w.heap.size + 1
  hv : w.heap.size + 3 < gv
  hs : gv < gs
  hW : gs < W.heap.size
  lh : h.length = 8
  lm : m.length = 16
  lv : v.length = 16
  H : Arr W gh 45 (m64 h)
  Mm : Arr W gm 44 (m64 m)
  Z : Arr W (w.heap.size + 3) 45 (m64 (List.replicate 8 0#64))
  Vv : Arr W gv 44 (m64 v)
  S : Arr W gs 86 (nums SG)
  W : Below w.heap.size w W
section
variable {w W W' : World} {gh gm gv gs : Nat} {h m v u : L}
theorem Qf.drew (f : Qf w W gh gm gv gs h m v) : Qf w W.drew gh gm gv gs h m v := ⟨f.e, f.hm, f.hv, f.hs, f.hW, f.lh, f.lm, f.lv, f.H, f.Mm, f.Z, f.Vv, f.S, f.W.drew⟩
theorem Qf.mixed (f : Qf w W gh gm gv gs h m v) (ho : Only gv W W') (ha : Arr W' gv 44 (m64 u)) (hu : u.length = 16) : Qf w W' gh gm gv gs h m u := by
  obtain ⟨e, hm, hv, hs, hW, lh, lm, lv, H, Mm, Z, Vv, S, B⟩ := f
  exact ⟨e, hm, hv, hs, by rw [ho.size]; exact hW, lh, lm, hu, H.keep (ho.block _ (by omega)), Mm.keep (ho.block _ (by omega)), Z.keep (ho.block _ (by omega)), ha, S.keep (ho.block _ (by omega)), B.trans (ho.below (by omega))⟩
theorem Qf.setH (f : Qf w W gh gm gv gs h m v) (i : Nat) (x : BitVec 64) : Qf w (W.setCell ⟨gh, i, none⟩ (.int .u64 (n64 x))) gh gm gv gs (h.set i x) m v := by
  obtain ⟨e, hm, hv, hs, hW, lh, lm, lv, H, Mm, Z, Vv, S, B⟩ := f
  exact ⟨e, hm, hv, hs, by simpa [World.setCell] using hW, by rw [List.length_set]; exact lh, lm, lv, by rw [← m64_set]; exact H.set _ _, Mm.other (by omega) _ _, Z.other (by omega) _ _, Vv.other (by omega) _ _, S.other (by omega) _ _, B.trans ((Only.set _ _ _ _).below (by omega))⟩
theorem Qf.cH (f : Qf w W gh gm gv gs h m v) (i : Nat) (hi : i < 8) : W.cell? ⟨gh, i, none⟩ = some (.int .u64 (n64 (gt h 0#64 i))) := f.H.cell (m64_get (by rw [f.lh]; exact hi))
theorem Qf.cM (f : Qf w W gh gm gv gs h m v) (i : Nat) (hi : i < 16) : W.cell? ⟨gm, i, none⟩ = some (.int .u64 (n64 (gt m 0#64 i))) := f.Mm.cell (m64_get (by rw [f.lm]; exact hi))
theorem Qf.cV (f : Qf w W gh gm gv gs h m v) (i : Nat) (hi : i < 16) : W.cell? ⟨gv, i, none⟩ = some (.int .u64 (n64 (gt v 0#64 i))) := f.Vv.cell (m64_get (by rw [f.lv]; exact hi))
theorem Qf.cS (f : Qf w W gh gm gv gs h m v) (r j : Nat) (hi : 16 * r + j < 160) : W.cell? ⟨gs, 16 * r + j, none⟩ = some (.int .u8 ((sgm r j : Nat) : Int)) := f.S.cell (nums_getD (by rw [SG_len]; exact hi))
end
end Go.Proofs.Ytnlcndlfdnogaaa.Bp
