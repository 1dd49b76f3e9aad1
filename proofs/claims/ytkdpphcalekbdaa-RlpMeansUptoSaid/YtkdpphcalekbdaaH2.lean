/- rlp.check. -/
import Derived.Test.YtkdpphcalekbdaaH1
import Derived.Test.YtkdpphcalekbdaaC
set_option linter.unusedVariables false
set_option linter.unusedSimpArgs false
namespace Go.Proofs.Ytkdpphcalekbdaa.H2
open Go.ChangeShapes Go.WideShapes Go.ChangeAt Go.RowKit Go.Shelf
open M H1
attribute [local go_sem] Oper.semAt_some
theorem cell_lt {W : World} {b i : Nat} {v : Value} (h : W.cell? ⟨b, i, none⟩ = some v) : b < W.heap.size := by
  rcases Nat.lt_or_ge b W.heap.size with h1 | h1
  · exact h1
  · have e : W.heap[b]? = none := Array.getElem?_eq_none h1
    simp [World.cell?, e] at h
theorem cellA {W : World} {b i : Nat} {v : Value} (o : Obj) (h : W.cell? ⟨b, i, none⟩ = some v) : (W.alloc o).cell? ⟨b, i, none⟩ = some v :=
  (World.cell?_of_block (w := W) (a := ⟨b, i, none⟩) (Below.heap_alloc _ _ _ (cell_lt h))).trans h
theorem frozenA {W : World} {b i : Nat} {v : Value} {x : Bool} (o : Obj) (h : W.cell? ⟨b, i, none⟩ = some v) (hf : W.frozen? ⟨b, i, none⟩ = x) : (W.alloc o).frozen? ⟨b, i, none⟩ = x :=
  (World.frozen?_of_block (w := W) (a := ⟨b, i, none⟩) (Below.heap_alloc _ _ _ (cell_lt h))).trans hf
theorem kids_raws {w : World} {S : Nat → Prop} {ks : List It} {inner : List Value} (hk : KidsR w S ks inner) : ∃ raw : Fin ks.length → Raw, ∀ j : Fin ks.length,
    inner[3 * j.1]? = some (.int .i64 (raw j).l) ∧ inner[3 * j.1 + 1]? = some (.slice (raw j).A (raw j).n (raw j).c) ∧ inner[3 * j.1 + 2]? = some (.slice (raw j).B (raw j).m (raw j).d) ∧
    ItemR w S (ks[j.1]'j.2) [.int .i64 (raw j).l, .slice (raw j).A (raw j).n (raw j).c, .slice (raw j).B (raw j).m (raw j).d] := by
  have h : ∀ j : Fin ks.length, ∃ r : Raw, inner[3 * j.1]? = some (.int .i64 r.l) ∧ inner[3 * j.1 + 1]? = some (.slice r.A r.n r.c) ∧ inner[3 * j.1 + 2]? = some (.slice r.B r.m r.d) ∧
      ItemR w S (ks[j.1]'j.2) [.int .i64 r.l, .slice r.A r.n r.c, .slice r.B r.m r.d] := fun j => by
    obtain ⟨c0, c1, c2, h0, h1, h2, hit⟩ := hk.at_ j.1 j.2
    obtain ⟨⟨fl, rfl⟩, ⟨fA, fn, fc, rfl⟩, ⟨fB, fm, fd, rfl⟩⟩ := item_shape hit
    exact ⟨⟨fl, fA, fn, fc, fB, fm, fd⟩, h0, h1, h2, hit⟩
  exact ⟨fun j => Classical.choose (h j), fun j => Classical.choose_spec (h j)⟩
theorem raws_of {w : World} {S : Nat → Prop} {A : Option Addr} {ks : List It} {inner : List Value} {n₀ : Nat} (hr : RdS w S 3 A ks.length inner) (hS : ∀ b, S b → b < n₀) (raw : Fin ks.length → Raw)
    (h : ∀ j : Fin ks.length, inner[3 * j.1]? = some (.int .i64 (raw j).l) ∧ inner[3 * j.1 + 1]? = some (.slice (raw j).A (raw j).n (raw j).c) ∧ inner[3 * j.1 + 2]? = some (.slice (raw j).B (raw j).m (raw j).d)) :
    ∀ W, (∀ b, S b → W.heap[b]? = w.heap[b]?) → Raws raw n₀ W A (List.finRange ks.length) := fun W hW hp => by
  rw [List.length_finRange] at hp
  obtain ⟨g, off, rfl, hSg, hc⟩ := hr.2 hp
  refine ⟨g, off, rfl, hS g hSg, fun j hj => ?_⟩
  have hj' : j < ks.length := by simpa using hj
  have e : (List.finRange ks.length)[j]'hj = ⟨j, hj'⟩ := by simp
  obtain ⟨h0, h1, h2⟩ := h ⟨j, hj'⟩
  have hw : ∀ o, W.cell? ⟨g, o, none⟩ = w.cell? ⟨g, o, none⟩ := fun o => World.cell?_of_block (w := w) (a := ⟨g, o, none⟩) (hW g hSg)
  rw [e, hw, hw, hw]
  refine ⟨?_, ?_, ?_⟩
  · rw [← hc _ _ h0, Nat.mul_comm]
  · rw [← hc _ _ h1, Nat.mul_comm, Nat.add_assoc]
  · rw [← hc _ _ h2, Nat.mul_comm, Nat.add_assoc]
def CheckSpec (x : It) : Prop := ∀ (S : Nat → Prop) (c0 c1 c2 : Value) (d : Nat) (w : World), ItemR w S x [c0, c1, c2] → (∀ b, S b → b < w.heap.size) → d ≤ 64 → bulk x ≤ 1073741824 →
  Calls Try.prog 46 #[.agg #[c0, c1, c2], .int .i64 (d : Int)] w fun e w' => e = .returned (.int .i64 (checkF d x : Int)) ∧ Below w.heap.size w w'
set_option maxRecDepth 100000 in
set_option maxHeartbeats 2000000 in
theorem check_loop (l : Int) (bs : List UInt8) (ks : List It) (hl : l = 0 ∧ ks = [] ∨ l = 1 ∧ bs = []) (ih : ∀ k ∈ ks, CheckSpec k) (S : Nat → Prop) (Ab A : Option Addr) (cb c : Nat) (d : Nat) (w : World)
    (inner : List Value) (hr : RdS w S 3 A ks.length inner) (hk : KidsR w S ks inner) (hS : ∀ b, S b → b < w.heap.size) (hd : d ≤ 64) (hd2 : ¬(l = 1 ∧ 64 ≤ d)) (hbulk : bulks ks ≤ 1073741824) :
    Calls Try.prog 46 #[.agg #[.int .i64 l, .slice Ab bs.length cb, .slice A ks.length c], .int .i64 (d : Int)] w fun e w' => e = .returned (.int .i64 (checksF (d + 1) ks : Int)) ∧ Below w.heap.size w w' := by
  have Hl := Lib.hid hl
  have Hih := Lib.hid ih
  have Hr := Lib.hid hr
  have Hk := Lib.hid hk
  have HS := Lib.hid hS
  have Hb := Lib.hid hbulk
  have Hd2 := Lib.hid hd2
  clear hl ih hr hk hS hbulk hd2
  have HK := fun w => Lib.hid (kids65 l (.slice Ab bs.length cb) A ks.length c ⟨_, _, _, rfl⟩ w)
  rcases Hl.out with ⟨rfl, rfl⟩ | ⟨rfl, hbs⟩
  · refine (callsIn_wide (n := 6)).1 ?_
    refine callsIn_of_wp_marks Try.func46 rfl trivial ?_ rfl
    simp only [Try.ntmps46, List.size_toArray, List.length_cons, List.length_nil, Nat.reduceAdd, Nat.reduceSub, Array.replicate_succ, Array.replicate_zero, List.push_toArray, List.append_toArray, List.nil_append, List.cons_append]
    gi_wp2_with (first | (refine ⟨trivial, ?_⟩; gi_at_call 65; refine (callsIn_wide.2 (HK _).out).mono ?_; rintro e w' ⟨rfl, rfl⟩))
    have c3 : (((((w.alloc (.cells #[.int .i64 0, .slice Ab bs.length cb, .slice A 0 c] 27)).alloc (.cells #[.int .i64 (d : Int)] 3)).alloc (.cells #[.int .i64 0] 29)).alloc (.cells #[.int .i64 0, .slice Ab bs.length cb, .slice A 0 c] 27)).alloc (.cells #[.slice A 0 c] 25)).cell? ⟨w.heap.size + 1 + 1 + 1 + 1, 0, none⟩ = some (.slice A 0 c) := by simp [go_sem]
    have hB0 : Below w.heap.size w (((((w.alloc (.cells #[.int .i64 0, .slice Ab bs.length cb, .slice A 0 c] 27)).alloc (.cells #[.int .i64 (d : Int)] 3)).alloc (.cells #[.int .i64 0] 29)).alloc (.cells #[.int .i64 0, .slice Ab bs.length cb, .slice A 0 c] 27)).alloc (.cells #[.slice A 0 c] 25)) := by go_grown
    refine wpIn_rangeFunc_ownH rfl (by omega) (gf := 75) (lb := #[.pointer (some ⟨w.heap.size + 1 + 1 + 1 + 1, 0, none⟩)]) rfl trivial (enters_of Try.func75 (by kernel_rfl) rfl)
      (values_stops (fun x : Raw => x) Fence.wide 5 trivial rfl (by omega) (w.heap.size + 1 + 1 + 1 + 1) w.heap.size c A [] (by simp) _ (by simp) (by simp; omega) c3 (fun h => absurd h (by simp))) belowK_t (belowK_b (by simp; omega)) (Below.refl _ _) (fun _ => rfl)
      (fun pre W => (W.cell? ⟨w.heap.size + 1 + 1, 0, none⟩ = some (.int .i64 0) ∧ W.frozen? ⟨w.heap.size + 1 + 1, 0, none⟩ = false) ∧ Below w.heap.size w W)
      (fun _ _ _ => False)
      (OwnFrom.and (Own.from (fun s A B row hs hg hr => ⟨cell_kept hs.1 hg hr, (frozen_kept hs.1 hg hr).trans hs.2⟩) _) (ownFrom_below (Nat.le_refl _) (by simp; omega)))
      (fun c s A B row hs hg hr => hs)
      ⟨⟨by simp [go_sem], by simp [go_sem]⟩, hB0⟩
      (fun _ _ _ => True) (fun _ _ _ _ _ _ _ _ _ => trivial) ?assign ?body ?done ?stop
    case assign =>
      rintro l pre x W K ⟨⟨hcr, hfr⟩, hB⟩ hK
      gi_wp2
      exact hK _ _ ((KeepsOthers.alloc _ _).from _) ((Below.refl _ W).alloc hB.size _) ⟨⟨cellA _ hcr, frozenA _ hcr hfr⟩, hB.alloc hB.size _⟩ trivial
    case body =>
      rintro l pre x a' W hl hr hI hA hlt
      exact absurd hlt (by simp)
    case done =>
      rintro D ys W hD rfl ⟨⟨hcr, hfr⟩, hB⟩ hK
      gi_wp2
      have hK' := (KeepsOthers.setCell W ⟨w.heap.size + 1 + 1, 0, none⟩ (.int .i64 0)).same D _ hK rfl
      refine ⟨by simp, .inl ⟨_, _, rfl, run_takeDeferred hK', ?_⟩⟩
      have hc5 := cell_kept (World.cell?_setCell_same' W ⟨w.heap.size + 1 + 1, 0, none⟩ (.int .i64 0) (by rw [hcr]; rfl)) (grownBy_putObj' _ D (.deferred none)) (fun r e => by cases e; exact ⟨_, hK', rfl⟩)
      refine ⟨.int .i64 0, ?_, by simp [checksF], (hB.setCell (p := ⟨w.heap.size + 1 + 1, 0, none⟩) (by simp; omega) _).trans (belowK_b (w := w) (Nat.le_refl _) _ D _ _ (by simp at hD; omega) hK' rfl rfl)⟩
      simp [results, Try.results46, go_sem, hc5]
    case stop =>
      rintro D c pre W hD hpre h hK
      exact h.elim
  · subst hbs
    obtain ⟨raw, hraw⟩ := kids_raws Hk.out
    have HRaw := Lib.hid hraw
    clear hraw
    have hdi : ¬ (64 : Int) ≤ (d : Int) := by have := Hd2.out; omega
    refine (callsIn_wide (n := 6)).1 ?_
    refine callsIn_of_wp_marks Try.func46 rfl trivial ?_ rfl
    simp only [Try.ntmps46, List.size_toArray, List.length_cons, List.length_nil, Nat.reduceAdd, Nat.reduceSub, Array.replicate_succ, Array.replicate_zero, List.push_toArray, List.append_toArray, List.nil_append, List.cons_append]
    gi_wp2_with (first | (refine ⟨trivial, ?_⟩; gi_at_call 65; refine (callsIn_wide.2 (HK _).out).mono ?_; rintro e w' ⟨rfl, rfl⟩))
    have c3 : (((((w.alloc (.cells #[.int .i64 1, .slice Ab 0 cb, .slice A ks.length c] 27)).alloc (.cells #[.int .i64 (d : Int)] 3)).alloc (.cells #[.int .i64 0] 29)).alloc (.cells #[.int .i64 1, .slice Ab 0 cb, .slice A ks.length c] 27)).alloc (.cells #[.slice A ks.length c] 25)).cell? ⟨w.heap.size + 1 + 1 + 1 + 1, 0, none⟩ = some (.slice A (List.finRange ks.length).length c) := by rw [List.length_finRange]; simp [go_sem]
    have hB0 : Below w.heap.size w (((((w.alloc (.cells #[.int .i64 1, .slice Ab 0 cb, .slice A ks.length c] 27)).alloc (.cells #[.int .i64 (d : Int)] 3)).alloc (.cells #[.int .i64 0] 29)).alloc (.cells #[.int .i64 1, .slice Ab 0 cb, .slice A ks.length c] 27)).alloc (.cells #[.slice A ks.length c] 25)) := by go_grown
    have hRR : Raws raw w.heap.size (((((w.alloc (.cells #[.int .i64 1, .slice Ab 0 cb, .slice A ks.length c] 27)).alloc (.cells #[.int .i64 (d : Int)] 3)).alloc (.cells #[.int .i64 0] 29)).alloc (.cells #[.int .i64 1, .slice Ab 0 cb, .slice A ks.length c] 27)).alloc (.cells #[.slice A ks.length c] 25)) A (List.finRange ks.length) := raws_of Hr.out HS.out raw (fun j => ⟨(HRaw.out j).1, (HRaw.out j).2.1, (HRaw.out j).2.2.1⟩) _ (fun b hb => hB0.block b (HS.out b hb))
    refine wpIn_rangeFunc_ownH rfl (by omega) (gf := 75) (lb := #[.pointer (some ⟨w.heap.size + 1 + 1 + 1 + 1, 0, none⟩)]) rfl trivial (enters_of Try.func75 (by kernel_rfl) rfl)
      (values_stops raw Fence.wide 5 trivial rfl (by omega) (w.heap.size + 1 + 1 + 1 + 1) w.heap.size c A (List.finRange ks.length) (by rw [List.length_finRange]; have := bulks_length ks; have := Hb.out; omega) _ (by simp) (by simp; omega) c3 hRR) belowK_t (belowK_b (by simp; omega)) (Below.refl _ _) (fun _ => rfl)
      (fun pre W => ((∀ y ∈ pre, checkF (d + 1) (ks[y.1]'y.2) = 0) ∧ W.cell? ⟨w.heap.size + 1, 0, none⟩ = some (.int .i64 (d : Int)) ∧ W.cell? ⟨w.heap.size + 1 + 1, 0, none⟩ = some (.int .i64 0) ∧ W.frozen? ⟨w.heap.size + 1 + 1, 0, none⟩ = false) ∧ Below w.heap.size w W)
      (fun c pre W => (c = .ret ∧ ∃ pre' x, pre = pre' ++ [x] ∧ (∀ y ∈ pre', checkF (d + 1) (ks[y.1]'y.2) = 0) ∧ checkF (d + 1) (ks[x.1]'x.2) ≠ 0 ∧ W.cell? ⟨w.heap.size + 1 + 1, 0, none⟩ = some (.int .i64 (checkF (d + 1) (ks[x.1]'x.2) : Int))) ∧ Below w.heap.size w W)
      (OwnFrom.and (Own.from (fun s A B row hs hg hr => ⟨hs.1, cell_kept hs.2.1 hg hr, cell_kept hs.2.2.1 hg hr, (frozen_kept hs.2.2.1 hg hr).trans hs.2.2.2⟩) _) (ownFrom_below (Nat.le_refl _) (by simp; omega)))
      (fun c => OwnFrom.and (Own.from (fun s A B row hs hg hr => ⟨hs.1, by obtain ⟨pre', x, e1, e2, e3, e4⟩ := hs.2; exact ⟨pre', x, e1, e2, e3, cell_kept e4 hg hr⟩⟩) _) (ownFrom_below (Nat.le_refl _) (by simp; omega)))
      ⟨⟨by simp, by simp [go_sem], by simp [go_sem], by simp [go_sem]⟩, hB0⟩
      (fun x a' W => ∃ Bx, w.heap.size ≤ Bx ∧ W.cell? ⟨Bx, 0, none⟩ = some (.int .i64 (raw x).l) ∧ W.cell? ⟨Bx, 1, none⟩ = some (.slice (raw x).A (raw x).n (raw x).c) ∧ W.cell? ⟨Bx, 2, none⟩ = some (.slice (raw x).B (raw x).m (raw x).d) ∧
        a' = { tmps := #[.agg #[.int .i64 1, .slice Ab 0 cb, .slice A ks.length c], .int .i64 (d : Int), .pointer (some ⟨w.heap.size, 0, none⟩), .pointer (some ⟨w.heap.size + 1, 0, none⟩), .pointer (some ⟨w.heap.size + 1 + 1, 0, none⟩), .pointer (some ⟨Bx, 0, none⟩), undef, .pointer (some ⟨w.heap.size, 0, none⟩), .int .i64 1, .bool true, .bool true, .int .i64 (d : Int), .bool false, .bool false, .pointer (some ⟨w.heap.size, 0, none⟩), .int .i64 1, .bool true, .bool true, .pointer (some ⟨w.heap.size, 0, none⟩), .int .i64 1, .bool false, .bool false, .bool false, .pointer (some ⟨w.heap.size, 0, none⟩), .int .i64 1, .bool false, .bool false, undef, undef, undef, undef, .bool false, .bool false, .bool false, .pointer (some ⟨w.heap.size, 0, none⟩), .int .i64 1, .bool true, .bool true, .pointer (some ⟨w.heap.size, 1, none⟩), .slice Ab 0 cb, .int .i64 0, .bool false, .bool false, .bool false, .agg #[.int .i64 1, .slice Ab 0 cb, .slice A ks.length c], .func (.func 75) #[] #[.pointer (some ⟨w.heap.size + 1 + 1 + 1 + 1, 0, none⟩)], .agg #[.int .i64 (raw x).l, .slice (raw x).A (raw x).n (raw x).c, .slice (raw x).B (raw x).m (raw x).d], undef, undef, undef, undef, undef, undef, undef], defers := [] })
      (fun x a' => Own.from (fun s A B row hs hg hr => by obtain ⟨Bx, h0, h1, h2, h3, h4⟩ := hs; exact ⟨Bx, h0, cell_kept h1 hg hr, cell_kept h2 hg hr, cell_kept h3 hg hr, h4⟩) _) ?assign ?body ?done ?stop
    case assign =>
      rintro l pre x W K ⟨⟨hp, hcd, hcr, hfr⟩, hB⟩ hK
      gi_wp2
      exact hK _ _ ((KeepsOthers.alloc _ _).from _) ((Below.refl _ W).alloc hB.size _) ⟨⟨hp, cellA _ hcd, cellA _ hcr, frozenA _ hcr hfr⟩, hB.alloc hB.size _⟩ ⟨W.heap.size, hB.size, by simp [go_sem], by simp [go_sem], by simp [go_sem], rfl⟩
    case body =>
      rintro l pre x a' W hl ⟨r, hr⟩ ⟨⟨hp, hcd, hcr, hfr⟩, hB⟩ ⟨Bx, hBx, b0, b1, b2, rfl⟩ hlt
      have HC : Hid (∀ dd : Int, dd = ((d + 1 : Nat) : Int) → Calls Try.prog 46 #[.agg #[.int .i64 (raw x).l, .slice (raw x).A (raw x).n (raw x).c, .slice (raw x).B (raw x).m (raw x).d], .int .i64 dd] W fun e w' => e = .returned (.int .i64 (checkF (d + 1) (ks[x.1]'x.2) : Int)) ∧ Below W.heap.size W w') := fun dd hdd => by
        subst hdd
        exact Hih.out _ (List.getElem_mem _) S _ _ _ (d + 1) W (ItemR.keep (fun b hb => hB.block b (HS.out b hb)) _ _ (HRaw.out x).2.2.2) (fun b hb => Nat.lt_of_lt_of_le (HS.out b hb) hB.size) (by have := Hd2.out; omega) (Nat.le_trans (bulks_mem (List.getElem_mem _)) Hb.out)
      have Hp := Lib.hid hp
      have HB := Lib.hid hB
      clear hp hB
      by_cases hz : checkF (d + 1) (ks[x.1]'x.2) = 0
      · have HC0 : Hid (∀ dd : Int, dd = ((d + 1 : Nat) : Int) → Calls Try.prog 46 #[.agg #[.int .i64 (raw x).l, .slice (raw x).A (raw x).n (raw x).c, .slice (raw x).B (raw x).m (raw x).d], .int .i64 dd] W fun e w' => e = .returned (.int .i64 0) ∧ Below W.heap.size W w') := fun dd hdd => by
          have := HC.out dd hdd
          rw [hz] at this
          exact this
        have Hz := Lib.hid hz
        clear hz HC
        gi_wp2_with (first | (refine ⟨trivial, ?_⟩; gi_at_call 46; refine (CallsIn.inRound l (callsIn_wide.2 (HC0.out _ (by omega)))).mono ?_; rintro e w1 ⟨rfl, hbl⟩))
        refine ⟨⟨hbl.size, fun k o hk ho hc => (hbl.block k (Array.getElem?_eq_some_iff.1 ho).1).trans ho⟩, hbl.mono HB.out.size, ⟨fun y hy => ?_, (hbl.cell (p := ⟨w.heap.size + 1, 0, none⟩) (cell_lt hcd)).trans hcd, (hbl.cell (p := ⟨w.heap.size + 1 + 1, 0, none⟩) (cell_lt hcr)).trans hcr, (hbl.frozen (p := ⟨w.heap.size + 1 + 1, 0, none⟩) (cell_lt hcr)).trans hfr⟩, HB.out.trans (hbl.mono HB.out.size)⟩
        rcases List.mem_append.1 hy with h | h
        · exact Hp.out y h
        · have : y = x := by simpa using h
          subst this; exact Hz.out
      · have hzi : ¬ ((checkF (d + 1) (ks[x.1]'x.2) : Nat) : Int) = 0 := by omega
        have Hz := Lib.hid hz
        clear hz
        gi_wp2_with (first | (refine ⟨trivial, ?_⟩; gi_at_call 46; refine (CallsIn.inRound l (callsIn_wide.2 (HC.out _ (by omega)))).mono ?_; rintro e w1 ⟨rfl, hbl⟩; have q1 := (hbl.cell (p := ⟨w.heap.size + 1 + 1, 0, none⟩) (cell_lt hcr)).trans hcr; have q2 := (hbl.frozen (p := ⟨w.heap.size + 1 + 1, 0, none⟩) (cell_lt hcr)).trans hfr))
        refine ⟨⟨by simpa [World.setCell] using hbl.size, fun k o hk ho hc => ?_⟩, ⟨rfl, pre, x, rfl, Hp.out, Hz.out, World.cell?_setCell_same' _ _ _ (by rw [q1]; rfl)⟩, (HB.out.trans (hbl.mono HB.out.size)).setCell (p := ⟨w.heap.size + 1 + 1, 0, none⟩) (by simp; omega) _⟩
        exact (KeepsOthers.setCell w1 ⟨w.heap.size + 1 + 1, 0, none⟩ _).same k o ((hbl.block k (Array.getElem?_eq_some_iff.1 ho).1).trans ho) hc
    case done =>
      rintro D ys W hD rfl ⟨⟨hp, hcd, hcr, hfr⟩, hB⟩ hK
      gi_wp2
      have hK' := (KeepsOthers.setCell W ⟨w.heap.size + 1 + 1, 0, none⟩ (.int .i64 0)).same D _ hK rfl
      refine ⟨by simp, .inl ⟨_, _, rfl, run_takeDeferred hK', ?_⟩⟩
      have hc5 := cell_kept (World.cell?_setCell_same' W ⟨w.heap.size + 1 + 1, 0, none⟩ (.int .i64 0) (by rw [hcr]; rfl)) (grownBy_putObj' _ D (.deferred none)) (fun r e => by cases e; exact ⟨_, hK', rfl⟩)
      refine ⟨.int .i64 0, ?_, ?_, (hB.setCell (p := ⟨w.heap.size + 1 + 1, 0, none⟩) (by simp; omega) _).trans (belowK_b (w := w) (Nat.le_refl _) _ D _ _ (by simp at hD; omega) hK' rfl rfl)⟩
      · simp [results, Try.results46, go_sem, hc5]
      · rw [checksF_zero ks (d + 1) (fun k hk => by
          obtain ⟨j, hj, rfl⟩ := List.getElem_of_mem hk
          exact hp ⟨j, hj⟩ (by simp))]
        rfl
    case stop =>
      rintro D c pre W hD hpre ⟨⟨rfl, pre', x, rfl, h0, h1, hcr⟩, hB⟩ hK
      gi_wp2
      refine ⟨by simp, .inl ⟨_, _, rfl, run_takeDeferred hK, ?_⟩⟩
      have hc5 := cell_kept hcr (grownBy_putObj' _ D (.deferred none)) (fun r e => by cases e; exact ⟨_, hK, rfl⟩)
      refine ⟨.int .i64 (checkF (d + 1) (ks[x.1]'x.2) : Int), ?_, ?_, hB.trans (belowK_b (w := w) (Nat.le_refl _) W D _ _ (by simp at hD; omega) hK rfl rfl)⟩
      · simp [results, Try.results46, go_sem, hc5]
      · have hlen : pre'.length < ks.length := by have := hpre.length_le; simp at this; omega
        have hat : ∀ j (hj : j < (pre' ++ [x]).length), (((pre' ++ [x])[j]'hj).1 = j) := fun j hj => by
          have e := List.IsPrefix.getElem hpre hj
          rw [e]; simp
        have hx : x.1 = pre'.length := by
          have := hat pre'.length (by simp)
          simpa using this
        obtain ⟨xi, hxi⟩ := x
        simp only at hx
        subst hx
        have := checksF_first ks (d + 1) pre'.length hlen (fun j hj hji => by
          have e := hat j (by simp; omega)
          rw [List.getElem_append_left hji] at e
          have h9 := h0 (pre'[j]'hji) (List.getElem_mem _)
          simp only [e] at h9
          exact h9) h1
        rw [this]
end Go.Proofs.Ytkdpphcalekbdaa.H2
