/- slices.Values over items. -/
import Derived.RangeFuncNested
import Derived.RangeFuncBound
import Derived.RangeFuncCalls
import Derived.RangeFuncLeaves
import Derived.RangeFuncBox
import Derived.Shelf.Abstract
import Derived.Shelf.RegionOpen
import Derived.WalkKit
import Derived.OwnWalkIn
import Derived.TacticsInMore
import Derived.LoopNIn
import Derived.LoopIn
import Derived.Test.YtkdpphcalekbdaaJ
set_option linter.unusedVariables false
set_option linter.unusedSimpArgs false
namespace Go.Proofs.Ytkdpphcalekbdaa.H1
open Go.ChangeShapes Go.WideShapes Go.ChangeAt Go.RowKit Go.Shelf
open M
attribute [local go_sem] Oper.semAt_some
/-- An item's three cells. -/
structure Raw where
  l : Int
  A : Option Addr
  n : Nat
  c : Nat
  B : Option Addr
  m : Nat
  d : Nat
def Raw.v (x : Raw) : Value := .agg #[.int .i64 x.l, .slice x.A x.n x.c, .slice x.B x.m x.d]
set_option maxRecDepth 100000 in
set_option maxHeartbeats 2000000 in
theorem values1_in {α : Type} (raw : α → Raw) (F : Fence) (n : Nat) (h7 : F.fn 75) (hro : F.round = none) (hn : 1 ≤ n) (l Bs n₀ b off cap : Nat) (zs : List α) (hreach : zs.length ≤ 1073741824) (hb : b < n₀) (J Jx : List α → World → Prop)
    (hJa : ∀ s (W : World) o, J s W → J s (W.alloc o))
    (hY : ∀ pre x W, J pre W → pre.length < zs.length → YieldAt F (n - 1) Try.prog l #[.agg #[.int .i64 (raw x).l, .slice (raw x).A (raw x).n (raw x).c, .slice (raw x).B (raw x).m (raw x).d]] W fun e W' =>
      (e = .returned (.bool true) ∧ J (pre ++ [x]) W' ∧ Below n₀ W W') ∨ (e = .returned (.bool false) ∧ Jx (pre ++ [x]) W'))
    (W : World) (hn0 : n₀ ≤ W.heap.size) (hBs : W.cell? ⟨Bs, 0, none⟩ = some (.slice (some ⟨b, off, none⟩) zs.length cap))
    (hc : ∀ j (hj : j < zs.length), W.cell? ⟨b, off + j * 3, none⟩ = some (.int .i64 (raw (zs[j]'hj)).l) ∧ W.cell? ⟨b, off + j * 3 + 1, none⟩ = some (.slice (raw (zs[j]'hj)).A (raw (zs[j]'hj)).n (raw (zs[j]'hj)).c) ∧ W.cell? ⟨b, off + j * 3 + 2, none⟩ = some (.slice (raw (zs[j]'hj)).B (raw (zs[j]'hj)).m (raw (zs[j]'hj)).d)) (h0 : J [] W) :
    CallsIn F n Try.prog 75 #[.func (.yield l) #[] #[], .pointer (some ⟨Bs, 0, none⟩)] W fun e W' => (∃ v, e = .returned v) ∧
      ((∃ ys, ys = zs ∧ J ys W') ∨ (∃ pre, (∃ k, k ≤ zs.length ∧ pre = zs.take k) ∧ Jx pre W')) := by
  refine callsIn_of_wp Try.func75 rfl h7 ?_ hro
  simp only [Try.ntmps75, List.size_toArray, List.length_cons, List.length_nil, Nat.reduceAdd, Nat.reduceSub, Array.replicate_succ, Array.replicate_zero, List.push_toArray, List.append_toArray, List.nil_append, List.cons_append]
  have Hc := Lib.hid hc
  have HJa := Lib.hid hJa
  have HY := Lib.hid hY
  clear hc hJa hY
  gi_wp2
  gi_loopw [7] (fun i wr => ∃ k : Nat, k ≤ zs.length ∧ i = .int .i64 k ∧ J (zs.take k) wr ∧ Below n₀ W wr)
    (fun i _ => zs.length - (intOf i).toNat)
  case atStart => exact ⟨0, Nat.zero_le _, rfl, by simpa using h0, Below.refl _ _⟩
  case round =>
    obtain ⟨k, hk, rfl, hJs, hnx⟩ := hrel
    by_cases hlt : k < zs.length
    · obtain ⟨c0, c1, c2⟩ := Hc.out k hlt
      have e0 := (hnx.cell (p := ⟨b, off + k * 3, none⟩) hb).trans c0
      have e1 := (hnx.cell (p := ⟨b, off + k * 3 + 1, none⟩) hb).trans c1
      have e2 := (hnx.cell (p := ⟨b, off + k * 3 + 2, none⟩) hb).trans c2
      obtain ⟨fn, tmps, assign, body, hy, hR⟩ := HY.out _ (zs[k]'hlt) _ (HJa.out _ wr (.cells #[.int .i64 (raw (zs[k]'hlt)).l, .slice (raw (zs[k]'hlt)).A (raw (zs[k]'hlt)).n (raw (zs[k]'hlt)).c, .slice (raw (zs[k]'hlt)).B (raw (zs[k]'hlt)).m (raw (zs[k]'hlt)).d] 27) hJs) (by rw [List.length_take]; omega)
      gi_wp2
      refine hR.mono ?_
      rintro e W3 (⟨rfl, hJ3, hk3⟩ | ⟨rfl, hJx3⟩)
      · gi_wp2
        go_roundw
        case rel => exact ⟨k + 1, by omega, by simp, by rw [← List.take_append_getElem hlt]; exact hJ3, (hnx.alloc (Nat.le_trans hn0 hnx.size) _).trans hk3⟩
        case measure => simp [intOf]; omega
      · gi_wp2
        refine bodyPost_ret (results_none rfl _ _ _) rfl ?_
        exact ⟨⟨_, rfl⟩, .inr ⟨_, ⟨k + 1, by omega, List.take_append_getElem hlt⟩, hJx3⟩⟩
    · obtain rfl : k = zs.length := by omega
      gi_wp2
      go_end0
      exact ⟨⟨_, rfl⟩, .inl ⟨_, rfl, by rwa [List.take_length] at hJs⟩⟩
set_option maxRecDepth 100000 in
set_option maxHeartbeats 1000000 in
theorem values1_nil_in {α : Type} (F : Fence) (n : Nat) (h7 : F.fn 75) (hro : F.round = none) (l Bs cap : Nat) (A : Option Addr) (J : List α → World → Prop) (W : World) (hBs : W.cell? ⟨Bs, 0, none⟩ = some (.slice A 0 cap)) (h0 : J [] W) :
    CallsIn F n Try.prog 75 #[.func (.yield l) #[] #[], .pointer (some ⟨Bs, 0, none⟩)] W fun e W' => (∃ v, e = .returned v) ∧ J [] W' := by
  refine callsIn_of_wp Try.func75 rfl h7 ?_ hro
  simp only [Try.ntmps75, List.size_toArray, List.length_cons, List.length_nil, Nat.reduceAdd, Nat.reduceSub, Array.replicate_succ, Array.replicate_zero, List.push_toArray, List.append_toArray, List.nil_append, List.cons_append]
  gi_wp2
  gi_loopw [7] (fun i wr => i = .int .i64 0 ∧ J [] wr) (fun _ _ => 0)
  case atStart => exact ⟨rfl, h0⟩
  case round =>
    obtain ⟨rfl, hJs⟩ := hrel
    gi_wp2
    go_end0
    exact ⟨⟨_, rfl⟩, hJs⟩
/-- The items' cells, in a block below n₀. -/
def Raws {α : Type} (raw : α → Raw) (n₀ : Nat) (W : World) (A : Option Addr) (zs : List α) : Prop :=
  0 < zs.length → ∃ b off, A = some ⟨b, off, none⟩ ∧ b < n₀ ∧ ∀ j (hj : j < zs.length), W.cell? ⟨b, off + j * 3, none⟩ = some (.int .i64 (raw (zs[j]'hj)).l) ∧ W.cell? ⟨b, off + j * 3 + 1, none⟩ = some (.slice (raw (zs[j]'hj)).A (raw (zs[j]'hj)).n (raw (zs[j]'hj)).c) ∧ W.cell? ⟨b, off + j * 3 + 2, none⟩ = some (.slice (raw (zs[j]'hj)).B (raw (zs[j]'hj)).m (raw (zs[j]'hj)).d)
theorem values_stops {α : Type} (raw : α → Raw) (F : Fence) (n : Nat) (h7 : F.fn 75) (hro : F.round = none) (hn : 1 ≤ n) (Bs n₀ cap : Nat) (A : Option Addr) (zs : List α) (hreach : zs.length ≤ 1073741824) (w : World) (hBs : Bs < w.heap.size) (hn₀ : n₀ ≤ w.heap.size)
    (hc : w.cell? ⟨Bs, 0, none⟩ = some (.slice A zs.length cap)) (hI : Raws raw n₀ w A zs) :
    SeqStopsK F n Try.prog 75 #[.pointer (some ⟨Bs, 0, none⟩)] (fun x : α => #[Value.agg #[.int .i64 (raw x).l, .slice (raw x).A (raw x).n (raw x).c, .slice (raw x).B (raw x).m (raw x).d]]) (Below n₀) (fun ys => ys = zs) (fun pre => pre <+: zs) zs.length w := fun l J Jx W hW hJ _ hY h0 => by
  have hc' := (hW.cell (p := ⟨Bs, 0, none⟩) hBs).trans hc
  rcases Nat.eq_zero_or_pos zs.length with hz | hz
  · have e : zs = [] := List.eq_nil_of_length_eq_zero hz
    subst e
    exact (values1_nil_in F n h7 hro l Bs cap A J W hc' h0).mono fun e W' ⟨he, hj⟩ => ⟨he, .inl ⟨_, rfl, hj⟩⟩
  · obtain ⟨b, off, rfl, hb, hcs⟩ := hI hz
    have hk : ∀ o, W.cell? ⟨b, o, none⟩ = w.cell? ⟨b, o, none⟩ := fun o => hW.cell (p := ⟨b, o, none⟩) (Nat.lt_of_lt_of_le hb hn₀)
    refine (values1_in raw F n h7 hro hn l Bs n₀ b off cap zs hreach hb J Jx ?_ hY W (Nat.le_trans hn₀ hW.size) hc' (fun j hj => by rw [hk, hk, hk]; exact hcs j hj) h0).mono ?_
    · intro s W1 o hs
      exact hJ s W1 (W1.alloc o) none hs ⟨rfl, rfl, rfl, by rw [size_alloc]; omega, fun k hk _ => Below.heap_alloc _ _ _ hk⟩ (fun r e => by cases e)
    · rintro e W' ⟨he, ⟨ys, rfl, hj⟩ | ⟨pre, ⟨k, hk, rfl⟩, hj⟩⟩
      · exact ⟨he, .inl ⟨_, rfl, hj⟩⟩
      · exact ⟨he, .inr ⟨_, List.take_prefix _ _, hj⟩⟩
set_option maxRecDepth 100000 in
set_option maxHeartbeats 1000000 in
/-- kids: the iterator, its slice boxed. -/
theorem kids65 (l : Int) (v : Value) (A : Option Addr) (n c : Nat) (hv : ∃ A0 n0 c0, v = .slice A0 n0 c0) (w : World) :
    Calls Try.prog 65 #[.agg #[.int .i64 l, v, .slice A n c]] w fun e w' => e = .returned (.func (.func 75) #[] #[.pointer (some ⟨w.heap.size + 1, 0, none⟩)]) ∧ w' = (w.alloc (.cells #[.int .i64 l, v, .slice A n c] 27)).alloc (.cells #[.slice A n c] 25) := by
  obtain ⟨A0, n0, c0, rfl⟩ := hv
  go_enter Try.func65, Try.ntmps65
  go_wp2
  go_ret
  exact ⟨rfl, rfl⟩
end Go.Proofs.Ytkdpphcalekbdaa.H1
