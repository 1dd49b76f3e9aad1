/- rlp.Each: its pieces, and its iterator's contract. -/
import Derived.Test.YtkdpphcalekbdaaH4
import Derived.Test.YtkdpphcalekbdaaL1
set_option linter.unusedVariables false
set_option linter.unusedSimpArgs false
namespace Go.Proofs.Ytkdpphcalekbdaa.J1
open Go.ChangeShapes Go.WideShapes Go.ChangeAt Go.RowKit Go.Shelf
open M W1 L1 H4
attribute [local go_sem] Oper.semAt_some
/-- A piece: its number, list, from, to. -/
abbrev Pc := Nat × Nat × Nat × Nat
/-- The pieces of bytes from a place on. -/
def eachF (bs : List UInt8) : Nat → Nat → Nat → List Pc
  | 0, _, _ => []
  | g + 1, p, i => if p < bs.length then
      match hd (bs.drop p) with
      | .error _ => []
      | .ok (l, f, t) => (i, l, f + p, t + p) :: eachF bs g (t + p) (i + 1)
    else []
theorem eachF_stop (bs : List UInt8) (g p i : Nat) (h : ¬ p < bs.length) : eachF bs g p i = [] := by cases g <;> simp [eachF, h]
theorem eachF_err (bs : List UInt8) (g p i e : Nat) (h : hd (bs.drop p) = .error e) : eachF bs g p i = [] := by
  cases g with
  | zero => rfl
  | succ g =>
    rw [eachF]
    split
    · rw [h]
    · rfl
theorem eachF_ok (bs : List UInt8) (g p i l f t : Nat) (hp : p < bs.length) (h : hd (bs.drop p) = .ok (l, f, t)) : eachF bs (g + 1) p i = (i, l, f + p, t + p) :: eachF bs g (t + p) (i + 1) := by
  rw [eachF, if_pos hp, h]
def pcV (x : Pc) : Array Value := #[.int .i64 (x.1 : Nat), .agg #[.int .i64 (x.2.1 : Nat), .int .i64 (x.2.2.1 : Nat), .int .i64 (x.2.2.2 : Nat)]]
set_option maxRecDepth 100000 in
set_option maxHeartbeats 2000000 in
theorem each52_in (n : Nat) (hn : 1 ≤ n) (l Bq : Nat) (A : Option Addr) (cap : Nat) (T : Nat → Prop) (bs : List UInt8) (hl : bs.length ≤ 1073741824) (hc1 : bs.length ≤ cap) (hc2 : cap ≤ 9223372036854775807) (J Jx : List Pc → World → Prop)
    (hJa : ∀ s (W W' : World), J s W → Below W.heap.size W W' → J s W')
    (hY : ∀ pre x W, J pre W → pre ++ [x] <+: eachF bs bs.length 0 0 → YieldAt Fence.wide (n - 1) Try.prog l (pcV x) W fun e W' =>
      (e = .returned (.bool true) ∧ J (pre ++ [x]) W' ∧ KeepT T W W') ∨ (e = .returned (.bool false) ∧ Jx (pre ++ [x]) W'))
    (W : World) (hT : ∀ k, T k → k < W.heap.size) (hTq : T Bq) (hBs : W.cell? ⟨Bq, 0, none⟩ = some (.slice A bs.length cap)) (hR : RdS W T 1 A bs.length (nums bs)) (h0 : J [] W) :
    CallsIn Fence.wide n Try.prog 52 #[.func (.yield l) #[] #[], .pointer (some ⟨Bq, 0, none⟩)] W fun e W' => (∃ v, e = .returned v) ∧
      ((∃ ys, ys = eachF bs bs.length 0 0 ∧ J ys W') ∨ (∃ pre, pre <+: eachF bs bs.length 0 0 ∧ Jx pre W')) := by
  have HJa := Lib.hid hJa
  have HY := Lib.hid hY
  have HR := Lib.hid hR
  have HT := Lib.hid hT
  have HTq := Lib.hid hTq
  clear hJa hY hR hT hTq
  generalize hzs : eachF bs bs.length 0 0 = zs at *
  have HZS := Lib.hid hzs
  clear hzs
  refine callsIn_of_wp Try.func52 rfl trivial ?_ rfl
  simp only [Try.ntmps52, List.size_toArray, List.length_cons, List.length_nil, Nat.reduceAdd, Nat.reduceSub, Array.replicate_succ, Array.replicate_zero, List.push_toArray, List.append_toArray, List.nil_append, List.cons_append]
  gi_wp2
  gi_loopw [3, 4] (fun a i wr => ∃ (p g : Nat) (pre : List Pc), a = .int .i64 (p : Int) ∧ i = .int .i64 (pre.length : Int) ∧ p ≤ bs.length ∧ bs.length ≤ p + g ∧ pre.length ≤ p ∧ Hid (pre ++ eachF bs g p pre.length = zs) ∧ J pre wr ∧ KeepT T W wr)
    (fun a _ _ => bs.length - (intOf a).toNat)
  case atStart => exact ⟨0, bs.length, [], rfl, rfl, by omega, by omega, by simp, by have := HZS.out; rw [← this]; rfl, h0, KeepT.refl _ _⟩
  case round =>
    obtain ⟨p, g, pre, rfl, rfl, hp, hg, hpl, HE, hJs, hnx⟩ := hrel
    have e0 := (hnx.cell (o := 0) HTq.out).trans hBs
    by_cases hlt : p < bs.length
    · obtain ⟨A1, hcut, hrd⟩ := cut_slice (P := Try.prog) 23 5 1 Try.underlying23 (by kernel_rfl) A bs.length cap p (p : Int) rfl (by omega)
      have hB1 : Bs wr 0 wr.heap.size (.slice A1 (bs.length - p) (cap - p)) (bs.drop p) := by
        have hl' : (bs.drop p).length = bs.length - p := by rw [List.length_drop]
        have hz := hnx.1
        have h := hrd wr 0 wr.heap.size (nums bs) hc1 ((HR.out.keep (fun b hb => hnx.2 b hb)).toRd fun b hb => ⟨Nat.zero_le _, Nat.lt_of_lt_of_le (HT.out b hb) hz⟩)
        refine ⟨A1, cap - p, by rw [hl'], by omega, by omega, ?_⟩
        rw [hl']
        simpa [nums] using h
      have hdl : (bs.drop p).length < 1099511627776 := by rw [List.length_drop]; omega
      have HC := Lib.hid (head23_any 0 wr.heap.size _ (bs.drop p) wr hB1 (Nat.le_refl _) hdl)
      have HJs := Lib.hid hJs
      have HNX := Lib.hid hnx
      have hkz := HNX.out.1
      clear hrd hB1 hdl hJs hnx
      cases hh : hd (bs.drop p) with
      | error er =>
        have HC1 : Hid (Calls Try.prog 23 #[.slice A1 (bs.length - p) (cap - p)] wr fun e w' => e = .returned (.tuple #[.agg #[.int .i64 0, .int .i64 0, .int .i64 0], .int .i64 (er : Int)]) ∧ Below wr.heap.size wr w') := by
          have h := HC.out
          rw [hh] at h
          exact h
        have her : ¬ (er : Int) = 0 := by rcases G5.hd_err hh with h | h <;> omega
        have HFin : Hid (pre = zs) := by
          have h := HE.out
          rw [eachF_err bs g p _ er hh, List.append_nil] at h
          exact h
        clear hh HC
        gi_wp2_with (first | (refine ⟨trivial, ?_⟩; gi_at_call 23; refine (callsIn_wide.2 HC1.out).mono ?_; rintro e w1 ⟨rfl, hbl⟩))
        refine bodyPost_ret (results_none rfl _ _ _) rfl ?_
        exact ⟨⟨_, rfl⟩, .inl ⟨_, HFin.out, HJa.out _ _ _ HJs.out (hbl.alloc hbl.size _)⟩⟩
      | ok q =>
        obtain ⟨li, f, t⟩ := q
        have HC1 : Hid (Calls Try.prog 23 #[.slice A1 (bs.length - p) (cap - p)] wr fun e w' => e = .returned (.tuple #[.agg #[.int .i64 (li : Int), .int .i64 (f : Int), .int .i64 (t : Int)], .int .i64 0]) ∧ Below wr.heap.size wr w') := by
          have h := HC.out
          rw [hh] at h
          exact h
        have hok := hd_ok hh
        rw [List.length_drop] at hok
        have ht1 : 1 ≤ t := hok.2.2.2.1
        have ht2 : t ≤ bs.length - p := hok.2.2.1
        have hf2 : f ≤ t := hok.2.1
        obtain ⟨g', rfl⟩ : ∃ g', g = g' + 1 := ⟨g - 1, by omega⟩
        have HE2 : Hid (pre ++ [(pre.length, li, f + p, t + p)] ++ eachF bs g' (t + p) (pre ++ [(pre.length, li, f + p, t + p)]).length = zs) := by
          have h := HE.out
          rw [eachF_ok bs g' p _ li f t hlt hh] at h
          rw [List.length_append, List.length_singleton, List.append_assoc]
          exact h
        have HLT : Hid (pre ++ [(pre.length, li, f + p, t + p)] <+: zs) := ⟨_, HE2.out⟩
        have HPC : Hid (pcV (pre.length, li, f + p, t + p) = #[.int .i64 (pre.length : Int), .agg #[.int .i64 (li : Int), .int .i64 ((f : Int) + (p : Int)), .int .i64 ((t : Int) + (p : Int))]]) := by
          have h : pcV (pre.length, li, f + p, t + p) = #[.int .i64 (pre.length : Int), .agg #[.int .i64 (li : Int), .int .i64 ((f : Int) + (p : Int)), .int .i64 ((t : Int) + (p : Int))]] := by simp only [pcV, Int.natCast_add]
          exact h
        have HY1 : Hid (∀ W1, J pre W1 → YieldAt Fence.wide (n - 1) Try.prog l #[.int .i64 (pre.length : Int), .agg #[.int .i64 (li : Int), .int .i64 ((f : Int) + (p : Int)), .int .i64 ((t : Int) + (p : Int))]] W1 fun e W' =>
            (e = .returned (.bool true) ∧ J (pre ++ [(pre.length, li, f + p, t + p)]) W' ∧ KeepT T W1 W') ∨ (e = .returned (.bool false) ∧ Jx (pre ++ [(pre.length, li, f + p, t + p)]) W')) := fun W1 h1 => by
          have h := HY.out pre (pre.length, li, f + p, t + p) W1 h1 HLT.out
          rw [HPC.out] at h
          exact h
        clear hh HC hok
        gi_wp2_with (first | (refine ⟨trivial, ?_⟩; gi_at_call 23; refine (callsIn_wide.2 HC1.out).mono ?_; rintro e w1 ⟨rfl, hbl⟩; have HBL : Hid (Below wr.heap.size wr (w1.alloc (.cells #[.int .i64 (li : Int), .int .i64 ((f : Int) + (p : Int)), .int .i64 ((t : Int) + (p : Int))] 51))) := hbl.alloc hbl.size _; clear hbl; obtain ⟨fn, tmps, assign, body, hy, hRy⟩ := HY1.out _ (HJa.out _ _ _ HJs.out HBL.out)))
        refine hRy.mono ?_
        rintro e W3 (⟨rfl, hJ3, hk3⟩ | ⟨rfl, hJx3⟩)
        · gi_wp2
          go_roundw
          case rel =>
            refine ⟨t + p, g', pre ++ [(pre.length, li, f + p, t + p)], by simp, by simp, by omega, by omega, by rw [List.length_append, List.length_singleton]; omega, HE2, hJ3, HNX.out.trans (KeepT.trans ⟨HBL.out.size, fun k hk => HBL.out.block k (Nat.lt_of_lt_of_le (HT.out k hk) hkz)⟩ hk3)⟩
          case measure => simp [intOf]; omega
        · gi_wp2
          refine bodyPost_ret (results_none rfl _ _ _) rfl ?_
          exact ⟨⟨_, rfl⟩, .inr ⟨_, ⟨_, HE2.out⟩, hJx3⟩⟩
    · obtain rfl : p = bs.length := by omega
      have HFin : Hid (pre = zs) := by
        have h := HE.out
        rw [eachF_stop bs g _ _ (Nat.lt_irrefl _), List.append_nil] at h
        exact h
      gi_wp2
      go_end0
      exact ⟨⟨_, rfl⟩, .inl ⟨_, HFin.out, hJs⟩⟩
/-- The pieces of bytes. -/
def pieces (bs : List UInt8) : List Pc := eachF bs bs.length 0 0
theorem each_stops (n : Nat) (hn : 1 ≤ n) (Bq : Nat) (A : Option Addr) (cap : Nat) (T : Nat → Prop) (bs : List UInt8) (hl : bs.length ≤ 1073741824) (hc1 : bs.length ≤ cap) (hc2 : cap ≤ 9223372036854775807) (w : World) (hT : ∀ k, T k → k < w.heap.size) (hTq : T Bq)
    (hBs : w.cell? ⟨Bq, 0, none⟩ = some (.slice A bs.length cap)) (hR : RdS w T 1 A bs.length (nums bs)) :
    SeqStopsK Fence.wide n Try.prog 52 #[.pointer (some ⟨Bq, 0, none⟩)] pcV (KeepT T) (fun ys => ys = pieces bs) (fun pre => pre <+: pieces bs) (pieces bs).length w := fun l J Jx W hW hJ _ hY h0 => by
  refine each52_in n hn l Bq A cap T bs hl hc1 hc2 J Jx ?_ (fun pre x W hj hp => hY pre x W hj (by have := hp.length_le; rw [List.length_append, List.length_singleton] at this; exact this)) W (fun k hk => Nat.lt_of_lt_of_le (hT k hk) hW.size) hTq ((hW.cell (p := ⟨Bq, 0, none⟩) (hT _ hTq)).trans hBs) (hR.keep fun b hb => hW.block b (hT b hb)) h0
  intro s W1 W2 hs hb
  exact hJ s W1 W2 none hs ⟨hb.os, hb.tape, hb.output, hb.size, fun k hk _ => hb.block k hk⟩ (fun r e => by cases e)
/-- The same, by the pieces' numbers. -/
theorem each_stopsF (n : Nat) (hn : 1 ≤ n) (Bq : Nat) (A : Option Addr) (cap : Nat) (T : Nat → Prop) (bs : List UInt8) (hl : bs.length ≤ 1073741824) (hc1 : bs.length ≤ cap) (hc2 : cap ≤ 9223372036854775807) (w : World) (hT : ∀ k, T k → k < w.heap.size) (hTq : T Bq)
    (hBs : w.cell? ⟨Bq, 0, none⟩ = some (.slice A bs.length cap)) (hR : RdS w T 1 A bs.length (nums bs)) :
    SeqStopsK Fence.wide n Try.prog 52 #[.pointer (some ⟨Bq, 0, none⟩)] (fun j : Fin (pieces bs).length => pcV ((pieces bs)[j.1]'j.2)) (KeepT T) (fun ys => ys = List.finRange (pieces bs).length) (fun pre => pre <+: List.finRange (pieces bs).length) (pieces bs).length w := fun l J Jx W hW hJ _ hY h0 => by
  have hft : ∀ m (hm : m < (pieces bs).length), (List.finRange (pieces bs).length).take m ++ [⟨m, hm⟩] = (List.finRange (pieces bs).length).take (m + 1) := fun m hm => by
    rw [List.take_add_one]
    congr 1
    simp [List.getElem?_eq_getElem, hm]
  refine (each52_in n hn l Bq A cap T bs hl hc1 hc2 (fun pre W => J ((List.finRange (pieces bs).length).take pre.length) W) (fun pre W => Jx ((List.finRange (pieces bs).length).take pre.length) W) ?_ ?_ W (fun k hk => Nat.lt_of_lt_of_le (hT k hk) hW.size) hTq ((hW.cell (p := ⟨Bq, 0, none⟩) (hT _ hTq)).trans hBs) (hR.keep fun b hb => hW.block b (hT b hb)) h0).mono ?_
  · intro s W1 W2 hs hb
    exact hJ _ W1 W2 none hs ⟨hb.os, hb.tape, hb.output, hb.size, fun k hk _ => hb.block k hk⟩ (fun r e => by cases e)
  · intro pre x W1 hj hp
    have hlt : pre.length < (pieces bs).length := by have := hp.length_le; rw [List.length_append, List.length_singleton] at this; exact this
    have hx : x = (pieces bs)[pre.length]'hlt := by
      have e := List.IsPrefix.getElem hp (i := pre.length) (by simp)
      simpa [pieces] using e
    have h := hY _ ⟨pre.length, hlt⟩ W1 hj (by rw [List.length_take, List.length_finRange]; omega)
    rw [hft] at h
    subst hx
    simpa using h
  · rintro e W' ⟨hv, ⟨ys, rfl, hj⟩ | ⟨pre, hp, hj⟩⟩
    · refine ⟨hv, .inl ⟨_, rfl, ?_⟩⟩
      have e : (List.finRange (pieces bs).length).take (eachF bs bs.length 0 0).length = List.finRange (pieces bs).length := List.take_of_length_le (by rw [List.length_finRange]; exact Nat.le_refl _)
      rw [e] at hj
      exact hj
    · exact ⟨hv, .inr ⟨_, List.take_prefix _ _, hj⟩⟩
/-- The pieces of forms laid one behind the other. -/
theorem eachF_forms (d : Nat) : ∀ (ks : List It), (∀ k ∈ ks, checkF d k = 0 ∧ (formF k).length ≤ 1099511627776) → ∀ (pre : List UInt8) (g i : Nat), (formsF ks).length ≤ g →
    (eachF (pre ++ formsF ks) g pre.length i).length = ks.length ∧ ∀ j x, (eachF (pre ++ formsF ks) g pre.length i)[j]? = some x → x.1 = i + j ∧ x.2.2.2 = pre.length + (formsF (ks.take (j + 1))).length
  | [], _, pre, g, i, _ => by
    rw [eachF_stop _ _ _ _ (by simp [formsF])]
    exact ⟨rfl, fun j x h => by simp at h⟩
  | k :: ks, h, pre, g, i, hg => by
    obtain ⟨hc, h40⟩ := h k (List.mem_cons_self ..)
    have hp := formF_pos k
    have e0 : pre ++ formsF (k :: ks) = (pre ++ formF k) ++ formsF ks := by simp [formsF]
    have hl : (formsF (k :: ks)).length = (formF k).length + (formsF ks).length := by simp [formsF]
    obtain ⟨g', rfl⟩ : ∃ g', g = g' + 1 := ⟨g - 1, by omega⟩
    obtain ⟨l, f, hh, _, _, _⟩ := hd_of_form hc h40 (formsF ks)
    have hh' : hd ((pre ++ formsF (k :: ks)).drop pre.length) = .ok (l, f, (formF k).length) := by
      rw [List.drop_left' rfl]
      simpa [formsF] using hh
    rw [eachF_ok _ g' _ i l f (formF k).length (by rw [List.length_append, hl]; omega) hh']
    obtain ⟨h1, h2⟩ := eachF_forms d ks (fun q hq => h q (List.mem_cons_of_mem _ hq)) (pre ++ formF k) g' (i + 1) (by omega)
    rw [List.length_append, Nat.add_comm pre.length, ← e0] at h1 h2
    refine ⟨by rw [List.length_cons, h1, List.length_cons], fun j x hx => ?_⟩
    cases j with
    | zero =>
      simp only [List.getElem?_cons_zero, Option.some.injEq] at hx
      subst hx
      simp [formsF, Nat.add_comm]
    | succ j =>
      rw [List.getElem?_cons_succ] at hx
      obtain ⟨a, b⟩ := h2 j x hx
      refine ⟨by omega, ?_⟩
      rw [b, List.take_succ_cons, formsF, List.length_append]
      omega
theorem pieces_forms (d : Nat) (ks : List It) (h : ∀ k ∈ ks, checkF d k = 0 ∧ (formF k).length ≤ 1099511627776) :
    (pieces (formsF ks)).length = ks.length ∧ ∀ j x, (pieces (formsF ks))[j]? = some x → x.1 = j ∧ x.2.2.2 = (formsF (ks.take (j + 1))).length := by
  have := eachF_forms d ks h [] (formsF ks).length 0 (Nat.le_refl _)
  simp only [List.nil_append, List.length_nil, Nat.zero_add] at this
  exact this
set_option maxRecDepth 100000 in
set_option maxHeartbeats 1000000 in
/-- Each: the iterator, its bytes boxed. -/
theorem each21 (A : Option Addr) (n c : Nat) (w : World) :
    Calls Try.prog 21 #[.slice A n c] w fun e w' => e = .returned (.func (.func 52) #[] #[.pointer (some ⟨w.heap.size, 0, none⟩)]) ∧ w' = w.alloc (.cells #[.slice A n c] 23) := by
  go_enter Try.func21, Try.ntmps21
  go_wp2
  go_ret
  exact ⟨rfl, rfl⟩
end Go.Proofs.Ytkdpphcalekbdaa.J1
