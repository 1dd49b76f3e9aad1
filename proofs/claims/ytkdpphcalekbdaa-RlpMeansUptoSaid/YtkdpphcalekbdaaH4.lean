/- slices.Values over items: whatever block the round may write, if not the items'. -/
import Derived.Test.YtkdpphcalekbdaaH1
set_option linter.unusedVariables false
set_option linter.unusedSimpArgs false
namespace Go.Proofs.Ytkdpphcalekbdaa.H4
open Go.ChangeShapes Go.WideShapes Go.ChangeAt Go.RowKit Go.Shelf
open M
open H1 (Raw values1_nil_in)
attribute [local go_sem] Oper.semAt_some
/-- The blocks of T are as they were. -/
def KeepT (T : Nat → Prop) (W W' : World) : Prop := W.heap.size ≤ W'.heap.size ∧ ∀ k, T k → W'.heap[k]? = W.heap[k]?
theorem KeepT.refl (T : Nat → Prop) (W : World) : KeepT T W W := ⟨Nat.le_refl _, fun _ _ => rfl⟩
theorem KeepT.trans {T : Nat → Prop} {A B C : World} (h : KeepT T A B) (k : KeepT T B C) : KeepT T A C := ⟨Nat.le_trans h.1 k.1, fun i hi => (k.2 i hi).trans (h.2 i hi)⟩
theorem KeepT.cell {T : Nat → Prop} {W W' : World} (h : KeepT T W W') {b o : Nat} (hb : T b) : W'.cell? ⟨b, o, none⟩ = W.cell? ⟨b, o, none⟩ := World.cell?_of_block (w := W) (a := ⟨b, o, none⟩) (h.2 b hb)
theorem KeepT.alloc {T : Nat → Prop} {W W' : World} (h : KeepT T W W') (hT : ∀ k, T k → k < W.heap.size) (o : Obj) : KeepT T W (W'.alloc o) :=
  ⟨by rw [size_alloc]; have := h.1; omega, fun k hk => (Below.heap_alloc _ _ _ (Nat.lt_of_lt_of_le (hT k hk) h.1)).trans (h.2 k hk)⟩
theorem keepT_b {T : Nat → Prop} {w : World} (hT : ∀ k, T k → k < w.heap.size) (W : World) (l : Nat) (o o' : Obj) (hl : w.heap.size ≤ l) (_ : W.heap[l]? = some o) (_ : o.isCells = false) (_ : o.isWalk = false) : KeepT T W (W.putObj l o') :=
  ⟨by simp [World.putObj], fun k hk => by
    have : l ≠ k := by have := hT k hk; omega
    simp [World.putObj, Array.getElem?_setIfInBounds, this]⟩
set_option maxRecDepth 100000 in
set_option maxHeartbeats 2000000 in
theorem values1_in {α : Type} (raw : α → Raw) (F : Fence) (n : Nat) (h7 : F.fn 75) (hro : F.round = none) (hn : 1 ≤ n) (l Bs b off cap : Nat) (T : Nat → Prop) (zs : List α) (hreach : zs.length ≤ 1073741824) (hb : T b) (J Jx : List α → World → Prop)
    (hJa : ∀ s (W : World) o, J s W → J s (W.alloc o))
    (hY : ∀ pre x W, J pre W → pre.length < zs.length → YieldAt F (n - 1) Try.prog l #[.agg #[.int .i64 (raw x).l, .slice (raw x).A (raw x).n (raw x).c, .slice (raw x).B (raw x).m (raw x).d]] W fun e W' =>
      (e = .returned (.bool true) ∧ J (pre ++ [x]) W' ∧ KeepT T W W') ∨ (e = .returned (.bool false) ∧ Jx (pre ++ [x]) W'))
    (W : World) (hT : ∀ k, T k → k < W.heap.size) (hBs : W.cell? ⟨Bs, 0, none⟩ = some (.slice (some ⟨b, off, none⟩) zs.length cap))
    (hc : ∀ j (hj : j < zs.length), W.cell? ⟨b, off + j * 3, none⟩ = some (.int .i64 (raw (zs[j]'hj)).l) ∧ W.cell? ⟨b, off + j * 3 + 1, none⟩ = some (.slice (raw (zs[j]'hj)).A (raw (zs[j]'hj)).n (raw (zs[j]'hj)).c) ∧ W.cell? ⟨b, off + j * 3 + 2, none⟩ = some (.slice (raw (zs[j]'hj)).B (raw (zs[j]'hj)).m (raw (zs[j]'hj)).d)) (h0 : J [] W) :
    CallsIn F n Try.prog 75 #[.func (.yield l) #[] #[], .pointer (some ⟨Bs, 0, none⟩)] W fun e W' => (∃ v, e = .returned v) ∧
      ((∃ ys, ys = zs ∧ J ys W') ∨ (∃ pre, (∃ k, k ≤ zs.length ∧ pre = zs.take k) ∧ Jx pre W')) := by
  refine callsIn_of_wp Try.func75 rfl h7 ?_ hro
  simp only [Try.ntmps75, List.size_toArray, List.length_cons, List.length_nil, Nat.reduceAdd, Nat.reduceSub, Array.replicate_succ, Array.replicate_zero, List.push_toArray, List.append_toArray, List.nil_append, List.cons_append]
  have Hc := Lib.hid hc
  have HJa := Lib.hid hJa
  have HY := Lib.hid hY
  clear hc hJa hY
  gi_wp2
  gi_loopw [7] (fun i wr => ∃ k : Nat, k ≤ zs.length ∧ i = .int .i64 k ∧ J (zs.take k) wr ∧ KeepT T W wr)
    (fun i _ => zs.length - (intOf i).toNat)
  case atStart => exact ⟨0, Nat.zero_le _, rfl, by simpa using h0, KeepT.refl _ _⟩
  case round =>
    obtain ⟨k, hk, rfl, hJs, hnx⟩ := hrel
    by_cases hlt : k < zs.length
    · obtain ⟨c0, c1, c2⟩ := Hc.out k hlt
      have e0 := (hnx.cell (o := off + k * 3) hb).trans c0
      have e1 := (hnx.cell (o := off + k * 3 + 1) hb).trans c1
      have e2 := (hnx.cell (o := off + k * 3 + 2) hb).trans c2
      obtain ⟨fn, tmps, assign, body, hy, hR⟩ := HY.out _ (zs[k]'hlt) _ (HJa.out _ wr (.cells #[.int .i64 (raw (zs[k]'hlt)).l, .slice (raw (zs[k]'hlt)).A (raw (zs[k]'hlt)).n (raw (zs[k]'hlt)).c, .slice (raw (zs[k]'hlt)).B (raw (zs[k]'hlt)).m (raw (zs[k]'hlt)).d] 27) hJs) (by rw [List.length_take]; omega)
      gi_wp2
      refine hR.mono ?_
      rintro e W3 (⟨rfl, hJ3, hk3⟩ | ⟨rfl, hJx3⟩)
      · gi_wp2
        go_roundw
        case rel => exact ⟨k + 1, by omega, by simp, by rw [← List.take_append_getElem hlt]; exact hJ3, (hnx.alloc hT _).trans hk3⟩
        case measure => simp [intOf]; omega
      · gi_wp2
        refine bodyPost_ret (results_none rfl _ _ _) rfl ?_
        exact ⟨⟨_, rfl⟩, .inr ⟨_, ⟨k + 1, by omega, List.take_append_getElem hlt⟩, hJx3⟩⟩
    · obtain rfl : k = zs.length := by omega
      gi_wp2
      go_end0
      exact ⟨⟨_, rfl⟩, .inl ⟨_, rfl, by rwa [List.take_length] at hJs⟩⟩
/-- The items' cells, in a block of T. -/
def Raws {α : Type} (raw : α → Raw) (T : Nat → Prop) (W : World) (A : Option Addr) (zs : List α) : Prop :=
  0 < zs.length → ∃ b off, A = some ⟨b, off, none⟩ ∧ T b ∧ ∀ j (hj : j < zs.length), W.cell? ⟨b, off + j * 3, none⟩ = some (.int .i64 (raw (zs[j]'hj)).l) ∧ W.cell? ⟨b, off + j * 3 + 1, none⟩ = some (.slice (raw (zs[j]'hj)).A (raw (zs[j]'hj)).n (raw (zs[j]'hj)).c) ∧ W.cell? ⟨b, off + j * 3 + 2, none⟩ = some (.slice (raw (zs[j]'hj)).B (raw (zs[j]'hj)).m (raw (zs[j]'hj)).d)
theorem values_stops {α : Type} (raw : α → Raw) (F : Fence) (n : Nat) (h7 : F.fn 75) (hro : F.round = none) (hn : 1 ≤ n) (Bs cap : Nat) (T : Nat → Prop) (A : Option Addr) (zs : List α) (hreach : zs.length ≤ 1073741824) (w : World) (hBs : Bs < w.heap.size) (hT : ∀ k, T k → k < w.heap.size)
    (hc : w.cell? ⟨Bs, 0, none⟩ = some (.slice A zs.length cap)) (hI : Raws raw T w A zs) :
    SeqStopsK F n Try.prog 75 #[.pointer (some ⟨Bs, 0, none⟩)] (fun x : α => #[Value.agg #[.int .i64 (raw x).l, .slice (raw x).A (raw x).n (raw x).c, .slice (raw x).B (raw x).m (raw x).d]]) (KeepT T) (fun ys => ys = zs) (fun pre => pre <+: zs) zs.length w := fun l J Jx W hW hJ _ hY h0 => by
  have hc' := (hW.cell (p := ⟨Bs, 0, none⟩) hBs).trans hc
  rcases Nat.eq_zero_or_pos zs.length with hz | hz
  · have e : zs = [] := List.eq_nil_of_length_eq_zero hz
    subst e
    exact (values1_nil_in F n h7 hro l Bs cap A J W hc' h0).mono fun e W' ⟨he, hj⟩ => ⟨he, .inl ⟨_, rfl, hj⟩⟩
  · obtain ⟨b, off, rfl, hb, hcs⟩ := hI hz
    have hk : ∀ o, W.cell? ⟨b, o, none⟩ = w.cell? ⟨b, o, none⟩ := fun o => hW.cell (p := ⟨b, o, none⟩) (hT b hb)
    refine (values1_in raw F n h7 hro hn l Bs b off cap T zs hreach hb J Jx ?_ hY W (fun k hk => Nat.lt_of_lt_of_le (hT k hk) hW.size) hc' (fun j hj => by rw [hk, hk, hk]; exact hcs j hj) h0).mono ?_
    · intro s W1 o hs
      exact hJ s W1 (W1.alloc o) none hs ⟨rfl, rfl, rfl, by rw [size_alloc]; omega, fun k hk _ => Below.heap_alloc _ _ _ hk⟩ (fun r e => by cases e)
    · rintro e W' ⟨he, ⟨ys, rfl, hj⟩ | ⟨pre, ⟨k, hk, rfl⟩, hj⟩⟩
      · exact ⟨he, .inl ⟨_, rfl, hj⟩⟩
      · exact ⟨he, .inr ⟨_, List.take_prefix _ _, hj⟩⟩
end Go.Proofs.Ytkdpphcalekbdaa.H4
