/- The law's item, by its nodes. -/
import Derived.Test.YtkdpphcalekbdaaQ
import Derived.Test.YtkdpphcalekbdaaF1
set_option linter.unusedVariables false
set_option linter.unusedSimpArgs false
namespace Go.Proofs.Ytkdpphcalekbdaa.F2
open Go.ChangeShapes Go.WideShapes Go.ChangeAt Go.RowKit
open M
theorem info108 : (Try.prog.info? 108).map (·.size) = some 3 := by kernel_rfl
theorem grown_cell {W w2 : World} {r : Option Nat} (h : W.grownBy w2 r) {b i : Nat} (hb : b < W.heap.size) (hr : r ≠ some b) : w2.cell? ⟨b, i, none⟩ = W.cell? ⟨b, i, none⟩ :=
  World.cell?_of_block (w := W) (a := ⟨b, i, none⟩) (h.block b hb (fun e => hr e.symm))
theorem own_emptyD (W : World) (base b : Nat) (hb : base ≤ b) (h : b = W.heap.size) : ((W.alloc (.cells #[] 5)).drew).ownsRow base 5 1 (.slice (some ⟨b, 0, none⟩) 0 0) 0 [] := by
  subst h; exact own_keep (own_empty W base hb) (fun k hk => rfl)
theorem own_emptyDA (W : World) (o : Obj) (base b : Nat) (hb : base ≤ b) (h : b = W.heap.size) : (((W.alloc (.cells #[] 5)).alloc o).drew).ownsRow base 5 1 (.slice (some ⟨b, 0, none⟩) 0 0) 0 [] := by
  subst h; exact own_keep (own_empty W base hb) (fun k hk => by cases hk; exact Below.heap_alloc _ _ _ (by show W.heap.size < _; rw [size_alloc]; omega))
def slen : Value → Nat
  | .slice _ n _ => n
  | _ => 0
theorem own_shape {w : World} {base : Nat} {e : TypeId} {size n : Nat} {v : Value} {xs : List Value} (h : w.ownsRow base e size v n xs) : ∃ A c, v = .slice A n c := by
  rcases h.2 with ⟨hv, h0⟩ | ⟨b, cap, cur, hv, _⟩
  · exact ⟨none, 0, by rw [hv, h0]⟩
  · exact ⟨_, _, hv⟩
theorem new3R (w1 : World) (a b c : Value) (t : TypeId) (q : Nat) (hq : q = w1.heap.size) : Rd (w1.alloc (.cells #[a, b, c] t)) 0 (q + 1) 3 (some ⟨q, 0, none⟩) 1 [a, b, c] := by
  subst hq
  refine ⟨rfl, fun _ => ⟨w1.heap.size, 0, rfl, by omega, by omega, fun j u hu => ?_⟩⟩
  match j, hu with
  | 0, hu => simp at hu; subst hu; simp [go_sem]
  | 1, hu => simp at hu; subst hu; simp [go_sem]
  | 2, hu => simp at hu; subst hu; simp [go_sem]
  | j + 3, hu => simp at hu
abbrev X27 : Obj := .cells #[.int .i64 0, .slice none 0 0, .slice none 0 0] 27 (0, 0)
theorem x_after {w w2 : World} (h : ((((w.alloc X27).alloc (.cells #[] 5)).alloc X27).drew).grownBy w2 (Value.slice (some ⟨w.heap.size + 1, 0, none⟩) 0 0).ownBlock) : w2.heap[w.heap.size + 2]? = some (.cells #[.int .i64 0, .slice none 0 0, .slice none 0 0] 27 (0, 0)) := by
  refine (h.block (w.heap.size + 2) (by simp only [size_alloc, heap_drew]; omega) (fun hk => by have hk' : w.heap.size + 2 = w.heap.size + 1 := Option.some.inj hk; omega)).trans ?_
  rw [heap_drew, heap_alloc, if_pos (by simp only [size_alloc])]
theorem x_before {w w2 : World} (h : ((((w.alloc X27).alloc X27).alloc (.cells #[] 5)).drew).grownBy w2 (Value.slice (some ⟨w.heap.size + 2, 0, none⟩) 0 0).ownBlock) : w2.heap[w.heap.size + 1]? = some (.cells #[.int .i64 0, .slice none 0 0, .slice none 0 0] 27 (0, 0)) := by
  refine (h.block (w.heap.size + 1) (by simp only [size_alloc, heap_drew]; omega) (fun hk => by have hk' : w.heap.size + 1 = w.heap.size + 2 := Option.some.inj hk; omega)).trans ?_
  rw [heap_drew, heap_alloc, if_neg (by simp only [size_alloc]; omega), heap_alloc, if_pos (by simp only [size_alloc])]
/-- What item makes of nodes. -/
def ItemSpec (rec : List Nd → It × List Nd) (dp : Int) : Prop := ∀ (S : Nat → Prop) (v : Value) (l : List Nd) (w : World), Nds w S v l → (∀ b, S b → b < w.heap.size) → nbulk l ≤ 1073741824 →
  Calls Try.prog 45 #[v, .int .i64 dp] w fun e w' => ∃ d0 d1 d2 v', e = .returned (.tuple #[.agg #[d0, d1, d2], v']) ∧ ItemR w' (Btw w.heap.size w'.heap.size) (rec l).1 [d0, d1, d2] ∧ Nds w S v' (rec l).2 ∧ Below w.heap.size w w'
set_option maxRecDepth 100000 in
set_option maxHeartbeats 1000000 in
theorem item_nil (A : Option Addr) (c : Nat) (dp : Int) (w : World) : Calls Try.prog 45 #[.slice A 0 c, .int .i64 dp] w fun e w' => e = .returned (.tuple #[.agg #[.int .i64 0, .slice none 0 0, .slice none 0 0], .slice none 0 0]) ∧ Below w.heap.size w w' := by
  go_enter Try.func45, Try.ntmps45
  go_wp2
  go_returns
  exact ⟨rfl, by go_grown⟩
theorem nds_cons {w : World} {S : Nat → Prop} {v : Value} {n : Nd} {l : List Nd} (h : Nds w S v (n :: l)) :
    ∃ g off c v1, v = .slice (some ⟨g, off, none⟩) (l.length + 1) c ∧ l.length + 1 ≤ c ∧ c ≤ 9223372036854775807 ∧ S g ∧ w.cell? ⟨g, off, none⟩ = some (.int .i64 n.1) ∧ w.cell? ⟨g, off + 1, none⟩ = some v1 ∧ w.cell? ⟨g, off + 2, none⟩ = some (.int .i64 n.2.2) ∧ BsS w S v1 n.2.1 := by
  obtain ⟨A, c, inner, rfl, h1, h2, hr, v1, rest, rfl, hb, hn⟩ := h
  obtain ⟨g, off, rfl, hS, hc⟩ := hr.2 (by simp)
  exact ⟨g, off, c, v1, rfl, h1, h2, hS, hc 0 _ rfl, hc 1 _ rfl, hc 2 _ rfl, hb⟩
/-- 's[1:]' of nodes. -/
theorem nds_tail {w : World} {S : Nat → Prop} {A : Option Addr} {c : Nat} {n : Nd} {l : List Nd} (h : Nds w S (.slice A (l.length + 1) c) (n :: l)) :
    ∃ A' : Option Addr, (∀ W : World, (Instr.slice 22 (.slice A (l.length + 1) c) (some (.int .i64 1)) none none).run Try.prog W = .ok (.slice A' l.length (c - 1)) W) ∧ Nds w S (.slice A' l.length (c - 1)) l := by
  obtain ⟨A0, c0, inner, e, h1, h2, hr, v1, rest, rfl, hb, hn⟩ := h
  injection e with e1 e2 e3
  subst e1; subst e3
  obtain ⟨g, off, rfl, hS, hc⟩ := hr.2 (by simp)
  have hrl := hn.length
  refine ⟨if c = 1 then some ⟨g, off, none⟩ else some ⟨g, off + 3, none⟩, fun W => ?_, _, _, rest, rfl, by simp at h1; omega, by omega, ⟨hrl, fun hp => ?_⟩, hn⟩
  · obtain ⟨A', hA', _⟩ := cut_slice (P := Try.prog) 22 108 3 Try.underlying22 info108 (some ⟨g, off, none⟩) (l.length + 1) c 1 1 rfl (by omega)
    have hel : Try.prog.elem 22 = 108 := by simp [Program.elem, Try.underlying22]
    have hu : Try.prog.underlying 22 = some (.slice (Try.prog.elem 22)) := by rw [hel]; exact Try.underlying22
    obtain ⟨i, hi1, hi2⟩ := Option.map_eq_some_iff.1 info108
    rw [run_slice_l W 22 (some ⟨g, off, none⟩) (l.length + 1) c hu .i64 1 (by omega) (by omega), hel]
    simp [sizeOf, typeInfo, hi1, hi2, sliced, Result.andThen, Addr.add]
  · refine ⟨g, off + 3, by rw [if_neg (by simp at h1; omega)], hS, fun j u hu => ?_⟩
    rw [show off + 3 + j = off + (3 + j) from by omega]
    refine hc _ _ ?_
    rw [show (3 + j) = j + 3 from by omega]
    simpa using hu
set_option maxRecDepth 100000 in
set_option maxHeartbeats 8000000 in
theorem item_cons (rec : List Nd → It × List Nd) (dp : Int) (h0 : 0 ≤ dp) (h200 : dp ≤ 200) (hrec : dp < 200 → ItemSpec rec (dp + 1)) (hleft : dp < 200 → ∀ l, 0 < l.length → (∃ j, 1 ≤ j ∧ (rec l).2 = l.drop j) ∧ bulk (rec l).1 + nbulk (rec l).2 ≤ nbulk l)
    (S : Nat → Prop) (v : Value) (n : Nd) (l : List Nd) (w : World) (hv : Nds w S v (n :: l)) (hS : ∀ b, S b → b < w.heap.size) (hbulk : nbulk (n :: l) ≤ 1073741824) (kr : List It × List Nd) (hkr : kr = if dp < 200 then kidsF rec l.length n.2.2 l else ([], l)) :
    Calls Try.prog 45 #[v, .int .i64 dp] w fun e w' => ∃ d0 d1 d2 v', e = .returned (.tuple #[.agg #[d0, d1, d2], v']) ∧ ItemR w' (Btw w.heap.size w'.heap.size) (.mk n.1 n.2.1 kr.1) [d0, d1, d2] ∧ Nds w S v' kr.2 ∧ Below w.heap.size w w' := by
  obtain ⟨g0, off, c, v1, rfl, hc1, hc2, hSg, c0, c1, c2, hb1⟩ := nds_cons hv
  obtain ⟨A', hcut, htail⟩ := nds_tail hv
  have hg0 := hS g0 hSg
  obtain ⟨Ab, cb, rfl, hb1a, hb1b, hb1R⟩ := hb1
  have HBS : Hid (∀ W' : World, Below w.heap.size w W' → Rd W' 0 w.heap.size 1 Ab n.2.1.length (nums n.2.1)) := fun W' hB => (hb1R.toRd fun b hb => ⟨Nat.zero_le _, hS b hb⟩).keep (Same.of_below hB (Nat.le_refl _))
  have Hrec := Lib.hid hrec
  have Hleft := Lib.hid hleft
  have HSS := Lib.hid hS
  have Hbulk := Lib.hid hbulk
  have Hkr := Lib.hid hkr
  have Htail := Lib.hid htail
  have hnl : Hid (n.2.1.length ≤ 1073741824) := (show _ ≤ _ from by simp only [nbulk] at hbulk; omega)
  clear hrec hleft hS hbulk hkr htail hv hb1R
  go_enter Try.func45, Try.ntmps45
  go_wp2_with fail
  have hga1 : g0 < w.heap.size + 1 := by omega
  have hga2 : g0 < w.heap.size + 1 + 1 := by omega
  have hga3 : g0 < w.heap.size + 1 + 1 + 1 := by omega
  have HK : Hid (∀ W, Below w.heap.size w W → W.cell? ⟨g0, off, none⟩ = some (.int .i64 n.1) ∧ W.cell? ⟨g0, off + 1, none⟩ = some (.slice Ab n.2.1.length cb)) := fun W hB => ⟨(hB.cell (p := ⟨g0, off, none⟩) hg0).trans c0, (hB.cell (p := ⟨g0, off + 1, none⟩) hg0).trans c1⟩
  have hw1 : w.heap.size ≤ w.heap.size + 1 := by omega
  have hw2 : w.heap.size ≤ w.heap.size + 1 + 1 := by omega
  go_cut [6] (fun s6 wx => ∃ (g : Nat) (bv : Value), s6 = .pointer (some ⟨g, 0, none⟩) ∧ Below w.heap.size w wx ∧ wx.heap[w.heap.size]? = some (.cells #[.int .i64 0, .slice none 0 0, .slice none 0 0] 27 (0, 0)) ∧ Kb (w.heap.size + 1) wx g n.1 bv (.slice none 0 0) n.2.1 [])
  case first =>
    go_region_held3 (fun w' => w'.cell? ⟨g0, off, none⟩ = some (.int .i64 n.1) ∧ w'.cell? ⟨g0, off + 1, none⟩ = some (.slice Ab n.2.1.length cb)) ((refine HK.out _ ?_; repeat' (first | (with_reducible exact HB2.out) | (with_reducible exact Below.refl _ _) | (with_reducible refine Below.drew ?_) | (with_reducible refine Below.alloc ?_ ?_ _) | (with_reducible refine Below.setCell ?_ ?_ _) | (with_reducible exact HB2.out.size) | (simp only [size_alloc, heap_drew]; omega) | omega | (show w.heap.size ≤ _; omega))))
      (first
        | (refine step_append_any _ rfl (.tmp 19) (.tmp 23) 23 5 (.int .u8 0) 1 1 rfl Try.underlying23 info5 rfl (Nat.succ_pos _) (w.heap.size + 1) 0 w.heap.size _ 0 [] Ab n.2.1.length cb (nums n.2.1) rfl rfl (by first | exact own_emptyD _ _ _ (by omega) (by simp only [size_alloc]) | exact own_emptyDA _ _ _ _ (by omega) (by simp only [size_alloc])) (HBS.out _ (by go_grown)) (nums_one _) (by have := hnl.out; simp only [maxLen]; omega) (by have := hnl.out; omega) (by simp only [size_alloc, heap_drew]; omega) ?_
           intro v' w2 hown hgrow hat
           have hown' : Own w2 (w.heap.size + 1) v' n.2.1 := by simpa [Own] using hown
           obtain ⟨Av, cv, rfl, _, _, _⟩ := hown'.bs
           have HB3 : Hid (Below (w.heap.size + 1) (w.alloc X27) w2) := Below.grown (by (repeat' (first | (with_reducible exact Below.refl _ _) | (with_reducible refine Below.drew ?_) | (with_reducible refine Below.alloc ?_ ?_ _) | (simp only [size_alloc, heap_drew]; omega) | omega))) hgrow (by simp only [size_alloc, heap_drew]; omega) (by intro k hk; cases hk; simp only [size_alloc]; omega)
           have HB2 : Hid (Below w.heap.size w w2) := ((Below.refl _ w).alloc (Nat.le_refl _) _).trans (HB3.out.mono (by omega))
           first | (have hxg := x_after hgrow; obtain ⟨y0, y1, y2, y3⟩ := block_cells hxg; have HXG := Lib.hid hxg; clear hxg) | (have hxg := x_before hgrow; obtain ⟨y0, y1, y2, y3⟩ := block_cells hxg; have HXG := Lib.hid hxg; clear hxg) | skip
           have HGROW := Lib.hid hgrow
           have HAT := Lib.hid hat
           have HOWN := Lib.hid hown'
           clear hown hown' hgrow hat))
    all_goals go_wp2_with fail
    all_goals go_meet
    · have hs3 := HB3.out.size
      rw [size_alloc] at hs3
      refine ⟨_, _, rfl, HB2.out.alloc HB2.out.size _, ?_, kb_after w2 _ n.1 _ n.2.1 HOWN.out.bs hs3⟩
      rw [heap_alloc, if_neg (by omega)]
      exact (HB3.out.block w.heap.size (by omega)).trans (by rw [heap_alloc, if_pos rfl])
    · refine ⟨_, _, rfl, ((HB2.out.setCell hw2 _).setCell hw2 _).setCell hw2 _, ?_, kb_set w2 _ _ n.1 _ n.2.1 (own_bsS HOWN.out ?_) (by omega) HXG.out⟩
      · simp (disch := omega) only [heap_set]
        exact (HB3.out.block w.heap.size (by omega)).trans (by rw [heap_alloc, if_pos rfl])
      · intro e'
        rcases HAT.out with e | e
        · have h9 : w.heap.size + 1 = w.heap.size + 1 + 1 := Option.some.inj (e.symm.trans e')
          omega
        · have h9 := Option.some.inj (e.symm.trans e')
          simp only [size_alloc, heap_drew] at h9
          omega
    · refine ⟨_, _, rfl, ((HB2.out.setCell hw1 _).setCell hw1 _).setCell hw1 _, ?_, kb_set w2 _ _ n.1 _ n.2.1 (own_bsS HOWN.out ?_) (by omega) HXG.out⟩
      · simp (disch := omega) only [heap_set]
        exact (HB3.out.block w.heap.size (by omega)).trans (by rw [heap_alloc, if_pos rfl])
      · intro e'
        rcases HAT.out with e | e
        · have h9 : w.heap.size + 1 + 1 = w.heap.size + 1 := Option.some.inj (e.symm.trans e')
          omega
        · have h9 := Option.some.inj (e.symm.trans e')
          simp only [size_alloc, heap_drew] at h9
          omega
  case rest =>
    obtain ⟨g, bv, rfl, hB0, hx0, hkb0⟩ := hcut
    have q2 := (hB0.cell (p := ⟨g0, off + 2, none⟩) hg0).trans c2
    have HB0 := Lib.hid hB0
    have Hx0 := Lib.hid hx0
    have Hkb0 := Lib.hid hkb0
    clear hB0 hx0 hkb0 HBS HK
    go_wp2_with fail
    go_loopw [0, 8] (fun v0 i wr => ∃ (k : Nat) (lc : List Nd) (ks : List It) (kv : Value), i = .int .i64 k ∧ Nds w S v0 lc ∧ Below w.heap.size w wr ∧ wr.heap[w.heap.size]? = some (.cells #[.int .i64 0, .slice none 0 0, .slice none 0 0] 27 (0, 0)) ∧ Kb (w.heap.size + 1) wr g n.1 bv kv n.2.1 ks ∧
      ks.length = k ∧ nbulk lc + bulks ks ≤ nbulk l ∧ (dp < 200 → ∃ f, lc.length ≤ f ∧ kidsF rec l.length n.2.2 l = (ks ++ (kidsF rec f (n.2.2 - k) lc).1, (kidsF rec f (n.2.2 - k) lc).2)) ∧ (¬ dp < 200 → ks = [] ∧ lc = l)) (fun v0 _ _ => slen v0)
    case atStart => exact ⟨0, l, [], _, rfl, Htail.out, HB0.out, Hx0.out, Hkb0.out, rfl, by simp [bulks], fun _ => ⟨l.length, Nat.le_refl _, by simp⟩, fun _ => ⟨rfl, rfl⟩⟩
    case round =>
      obtain ⟨k, lc, ks, kv, rfl, hnd, hB, hx, hkb, hkl, hbk, hin, hout⟩ := hrel
      have hfin : Hid (¬((k : Int) < n.2.2 ∧ 0 < lc.length ∧ dp < 200) → kr = (ks, lc)) := fun hno => by
        rw [Hkr.out]
        by_cases h3 : dp < 200
        · obtain ⟨f, hf, e⟩ := hin h3
          rw [if_pos h3, e, kidsF_done _ _ _ _ (fun hc => hno ⟨by omega, hc.2, h3⟩)]
          simp
        · obtain ⟨e1, e2⟩ := hout h3
          rw [if_neg h3, e1, e2]
      obtain ⟨Al, cl, inl, rfl, hl1, hl2, hlr, hln⟩ := id hnd
      obtain ⟨y0, y1, y2, y3⟩ := block_cells hx
      obtain ⟨⟨Ab2, cb2, rfl⟩, ⟨Ak, ck, rfl⟩⟩ := kb_shape hkb
      rw [hkl] at hkb
      obtain ⟨g0', g1, g2, g3⟩ := hkb.cells
      have hgw1 : w.heap.size ≠ g := by have := hkb.hb; omega
      have hgw2 : g ≠ w.heap.size := fun e => hgw1 e.symm
      have Hend : Hid (¬((k : Int) < n.2.2 ∧ 0 < lc.length ∧ dp < 200) → ∀ wf, wf = ((wr.setCell ⟨w.heap.size, 0, none⟩ (.int .i64 n.1)).setCell ⟨w.heap.size, 1, none⟩ (.slice Ab2 n.2.1.length cb2)).setCell ⟨w.heap.size, 2, none⟩ (.slice Ak k ck) →
          ∃ d0 d1 d2 v', Ending.returned (.tuple #[.agg #[.int .i64 n.1, .slice Ab2 n.2.1.length cb2, .slice Ak k ck], .slice Al lc.length cl]) = .returned (.tuple #[.agg #[d0, d1, d2], v']) ∧ ItemR wf (Btw w.heap.size wf.heap.size) (.mk n.1 n.2.1 kr.1) [d0, d1, d2] ∧ Nds w S v' kr.2 ∧ Below w.heap.size w wf) := fun hno wf ew => by
        subst ew
        rw [hfin.out hno]
        refine ⟨_, _, _, _, rfl, ItemR.wide (fun b hb => ⟨by have := hb.1; omega, by simpa [World.setCell] using hb.2⟩) _ _ (ItemR.keep (fun b hb => ?_) _ _ hkb.item), hnd, ?_⟩
        · have hb1 : w.heap.size ≠ b := by have := hb.1; omega
          simp (disch := exact hb1) only [heap_set]
        · exact ((hB.setCell (Nat.le_refl _) _).setCell (Nat.le_refl _) _).setCell (Nat.le_refl _) _
      have Hnd := Lib.hid hnd
      have HB := Lib.hid hB
      have Hx := Lib.hid hx
      have Hkb := Lib.hid hkb
      have Hin := Lib.hid hin
      have Hbk := Lib.hid hbk
      have Hlr := Lib.hid hlr
      have Hln := Lib.hid hln
      clear hnd hB hx hkb hin hbk hout hlr hln
      by_cases h1 : (k : Int) < n.2.2
      · by_cases h2 : (0 : Int) < (lc.length : Int)
        · by_cases h3 : dp < 200
          · clear Hend hfin
            go_wp2_with fail
            have Hrr := HB.out.size
            have Hgl := Hkb.out.lt
            have Hgb := Hkb.out.hb
            have K1 : Hid (∀ W : World, W.heap = wr.heap → Nds W S (.slice Al lc.length cl) lc) := fun W hW => Hnd.out.keep (fun b hb => by rw [hW]; exact HB.out.block b (HSS.out b hb))
            have K2 : Hid (∀ W : World, W.heap = wr.heap → ∀ b, S b → b < W.heap.size) := fun W hW b hb => by rw [hW]; exact Nat.lt_of_lt_of_le (HSS.out b hb) Hrr
            have hnb : nbulk lc ≤ 1073741824 := by have := Hbk.out; have := Hbulk.out; simp only [nbulk] at this; omega
            have hkk : k ≤ 1073741824 := by have := Hbk.out; have := bulks_length ks; have := Hbulk.out; simp only [nbulk] at this; omega
            have HNB := Lib.hid hnb
            have HKK := Lib.hid hkk
            have HR := Lib.hid (Hrec.out h3)
            clear hnb hkk
            obtain ⟨inr, Ho, Hkk⟩ := Hkb.out.row hkl
            have HO := Lib.hid Ho
            have HKD := Lib.hid Hkk
            have N3 : Hid ((Value.slice Ak k ck).ownBlock ≠ some g) := Hkb.out.ne
            have N0 : Hid ((Value.slice Ak k ck).ownBlock ≠ some w.heap.size) := fun h => by have := (Ho.lt _ h).1; omega
            clear Ho Hkk
            go_wp2_with (first
              | (go_at_call 45; refine (HR.out S _ lc _ (K1.out _ (by rfl)) (K2.out _ (by rfl)) HNB.out).mono ?_
                 rintro e w1 ⟨d0, d1, d2, v', rfl, hit, hnd1, hbl⟩
                 obtain ⟨⟨fl, rfl⟩, ⟨fA, fn, fc, rfl⟩, ⟨fB, fm, fd, rfl⟩⟩ := item_shape hit
                 obtain ⟨Ar, cr, inlr, rfl, hr1, hr2, hrr, hrn⟩ := id hnd1
                 have q4 := (hbl.cell (p := ⟨g, 2, none⟩) Hgl).trans g2
                 have q5 := (hbl.frozen (p := ⟨g, 2, none⟩) Hgl).trans g3
                 have hbz := hbl.size
                 have hltg : g < w1.heap.size := Nat.lt_of_lt_of_le Hgl hbz
                 have hltg1 : g < w1.heap.size + 1 := by omega
                 have hne1 : g ≠ w1.heap.size := Nat.ne_of_lt hltg
                 have hne2 : w1.heap.size ≠ g := fun e => hne1 e.symm
                 have q6 : (w1.alloc (.cells #[.int .i64 fl, .slice fA fn fc, .slice fB fm fd] 27)).cell? ⟨g, 2, none⟩ = some (.slice Ak k ck) := by simp [go_sem, hltg, q4]
                 have HIT := Lib.hid hit
                 have HBL := Lib.hid hbl
                 have HN1 := Lib.hid hnd1
                 clear hit hbl hnd1 hrr hrn)
              | (at_builtin
                 refine wp_append rfl (.tmp 54) (.tmp 56) 25 27 (.agg #[.int .i64 0, .slice none 0 0, .slice none 0 0]) 3 56 rfl Try.underlying25 info27 rfl (by omega) (w.heap.size + 1) 0 (w1.heap.size + 1 + 1) _ k inr (some ⟨w1.heap.size + 1, 0, none⟩) 1 1 [.int .i64 fl, .slice fA fn fc, .slice fB fm fd] rfl rfl (own_keep HO.out fun b hb => ?_) (new3R _ _ _ _ _ _ (by rw [size_alloc])) (by intro u hu; simp at hu; rcases hu with rfl | rfl | rfl <;> rfl) (by have := HKK.out; simp only [maxLen]; omega) (by have := HKK.out; omega) (by simp only [size_alloc]; omega) ?_
                 · exact (Below.heap_alloc _ _ _ (by have := (HO.out.lt b hb).2; rw [size_alloc]; omega)).trans ((Below.heap_alloc _ _ _ (by have := (HO.out.lt b hb).2; omega)).trans (HBL.out.block b (HO.out.lt b hb).2))
                 intro kv' w2 hown2 hgrow2 hat2
                 obtain ⟨Akn, ckn, rfl⟩ := own_shape hown2
                 have p4 := grown_cells hgrow2 (show g < _ by rw [size_alloc]; omega) N3.out (show _ = some (Value.slice Ak k ck) from q6)
                 have p5 := grown_frozen hgrow2 (show g < _ by rw [size_alloc]; omega) N3.out (show World.frozen? (w1.alloc (.cells #[.int .i64 fl, .slice fA fn fc, .slice fB fm fd] 27)) ⟨g, 2, none⟩ = false by simp [go_sem, hltg, q5])
                 have HOWN := Lib.hid hown2
                 have HGROW := Lib.hid hgrow2
                 have HAT := Lib.hid hat2
                 clear hown2 hgrow2 hat2))
            have hlcl : 0 < lc.length := by omega
            obtain ⟨⟨jj, hj1, hj2⟩, hjb⟩ := Hleft.out h3 lc hlcl
            have hBk : Below wr.heap.size wr (w1.alloc (.cells #[.int .i64 fl, .slice fA fn fc, .slice fB fm fd] 27)) := HBL.out.alloc HBL.out.size _
            have hz1 := HBL.out.size
            have hkk := HKK.out
            have Hgg := Hkb.out.hb
            have hB1 : Below w.heap.size w w1 := HB.out.trans (HBL.out.mono Hrr)
            refine ⟨⟨k + 1, (rec lc).2, ks ++ [(rec lc).1], .slice Akn (k + 1) ckn, congrArg (Value.int .i64) (by unfold wrap64; omega), ?_, ?_, ?_, ?_, by simp [hkl], ?_, fun _ => ?_, fun h => absurd h3 h⟩, ?_⟩
            · exact HN1.out.keep (fun b hb => (HB.out.block b (HSS.out b hb)).symm)
            · exact (((hB1.alloc (by omega) _).alloc (by rw [size_alloc]; omega) _).grown HGROW.out (by simp only [size_alloc]; omega) (fun b hb => Nat.le_trans (by omega) (HO.out.lt b hb).1)).setCell (by show w.heap.size ≤ g; omega) _
            · refine (heap_set _ _ _ _ _ hgw2).trans (grown_block HGROW.out (by rw [size_alloc]; omega) N0.out ((Below.heap_alloc _ _ _ (by omega)).trans ((HBL.out.block _ (by omega)).trans Hx.out)))
            · have hK := Hkb.out
              subst hkl
              refine hK.append hBk (ItemR.wide (fun b hb => ⟨hb.1, by rw [size_alloc]; have := hb.2; omega⟩) _ _ (ItemR.keep (fun b hb => Below.heap_alloc _ _ _ hb.2) _ _ HIT.out)) (own_keep HO.out fun b hb => hBk.block b (HO.out.lt b hb).2) HOWN.out _ HGROW.out HAT.out ?_
              have hf : ∀ b, Free (w.heap.size + 1) wr g (.slice Ak ks.length ck) b → Free (w.heap.size + 1) (w1.alloc (.cells #[.int .i64 fl, .slice fA fn fc, .slice fB fm fd] 27)) g (.slice Ak ks.length ck) b := fun b ⟨h1, h2, h3, h4⟩ => ⟨h1, Nat.lt_of_lt_of_le h2 hBk.size, h3, h4⟩
              exact KidsR.wide hf _ _ (KidsR.keep (fun b hb' => hBk.block b hb'.2.1) _ _ HKD.out)
            · rw [bulks_append]
              have := Hbk.out
              simp only [bulks]
              omega
            · obtain ⟨f, hf, e⟩ := Hin.out h3
              obtain ⟨f', rfl⟩ : ∃ f', f = f' + 1 := ⟨f - 1, by omega⟩
              refine ⟨f', by rw [hj2, List.length_drop]; omega, ?_⟩
              rw [e, kidsF, if_pos ⟨by omega, hlcl⟩]
              have : n.2.2 - (k : Int) - 1 = n.2.2 - ((k + 1 : Nat) : Int) := by omega
              rw [this]
              simp
            · simp only [slen]
              rw [hj2, List.length_drop]; omega
          · have Hend' := Lib.hid (Hend.out (fun h => h3 h.2.2))
            clear Hend
            go_wp2_with fail
            refine bodyPost_ret (v := .tuple #[.agg #[.int .i64 n.1, .slice Ab2 n.2.1.length cb2, .slice Ak k ck], .slice Al lc.length cl]) (by simp [results, Try.results45, go_sem, y0, y1, y2]) rfl ?_
            exact Hend'.out _ rfl
        · have Hend' := Lib.hid (Hend.out (fun h => h2 (by omega)))
          clear Hend
          go_wp2_with fail
          refine bodyPost_ret (v := .tuple #[.agg #[.int .i64 n.1, .slice Ab2 n.2.1.length cb2, .slice Ak k ck], .slice Al lc.length cl]) (by simp [results, Try.results45, go_sem, y0, y1, y2]) rfl ?_
          exact Hend'.out _ rfl
      · have Hend' := Lib.hid (Hend.out (fun h => h1 h.1))
        clear Hend
        go_wp2_with fail
        refine bodyPost_ret (v := .tuple #[.agg #[.int .i64 n.1, .slice Ab2 n.2.1.length cb2, .slice Ak k ck], .slice Al lc.length cl]) (by simp [results, Try.results45, go_sem, y0, y1, y2]) rfl ?_
        exact Hend'.out _ rfl
theorem nds_nil (w : World) (S : Nat → Prop) : Nds w S (.slice none 0 0) [] := ⟨none, 0, [], rfl, by simp, by omega, ⟨rfl, fun h => absurd h (by simp)⟩, rfl⟩
theorem zero_item (w : World) (S : Nat → Prop) : ItemR w S (.mk 0 [] []) [.int .i64 0, .slice none 0 0, .slice none 0 0] := by
  simp only [ItemR]
  exact ⟨_, none, 0, [], rfl, ⟨none, 0, rfl, by simp, by omega, rfl, fun h => absurd h (by simp)⟩, by simp, by omega, ⟨rfl, fun h => absurd h (by simp)⟩, rfl⟩
/-- item is itemF. -/
theorem item45 : ∀ (d : Nat), d ≤ 200 → ItemSpec (itemF d) ((200 : Int) - d) := by
  intro d
  induction d with
  | zero =>
    intro _ S v l w hv hS hb
    cases l with
    | nil =>
      obtain ⟨A, c, inner, rfl, h1, h2, hr, hn⟩ := hv
      exact (item_nil A c _ w).mono fun e w' ⟨he, hB⟩ => ⟨_, _, _, _, he, by simp only [itemF]; exact zero_item _ _, by simp only [itemF]; exact nds_nil _ _, hB⟩
    | cons n l =>
      exact (item_cons (itemF 0) _ (by omega) (by omega) (fun h => absurd h (by omega)) (fun h => absurd h (by omega)) S v n l w hv hS hb ([], l) (by rw [if_neg (by omega)]))
  | succ d ih =>
    intro hd S v l w hv hS hb
    cases l with
    | nil =>
      obtain ⟨A, c, inner, rfl, h1, h2, hr, hn⟩ := hv
      exact (item_nil A c _ w).mono fun e w' ⟨he, hB⟩ => ⟨_, _, _, _, he, by simp only [itemF]; exact zero_item _ _, by simp only [itemF]; exact nds_nil _ _, hB⟩
    | cons n l =>
      have e : (200 : Int) - ((d + 1 : Nat) : Int) + 1 = 200 - (d : Int) := by omega
      exact (item_cons (itemF d) _ (by omega) (by omega) (fun _ => by rw [e]; exact ih (by omega)) (fun _ => itemF_left d) S v n l w hv hS hb _ (by rw [if_pos (by omega)]))
end Go.Proofs.Ytkdpphcalekbdaa.F2
